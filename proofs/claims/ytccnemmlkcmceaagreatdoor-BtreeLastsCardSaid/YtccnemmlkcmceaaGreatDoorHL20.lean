/- Proofs about the given program, joined out of the texts GE, GF, C4, LA, LB, C7. -/
import Derived.Test.YtccnemmlkcmceaaGreatDoorHL19
import Derived.WalkSmall
set_option linter.unusedVariables false
set_option linter.unusedSimpArgs false
set_option maxRecDepth 100000
set_option maxHeartbeats 6400000
namespace Go.Proofs.YtccnemmlkcmceaaGreatDoor
open Go.RowKit
theorem NJ (s:bH) (hs:s.Ok) (w yD oC w16:World) (ks:List Bs) (is:List Nat) (v12:V) (KB:Option Addr) (kd:Nat) (IB:Option Addr) (id n1 n2:Nat) (e1:ks.length=n1) (e2:is.length=n2) (b1:n1<65536) (b2:n2<65536) (gV:Hid (∀b,s.F b->b<w.heap.size)) (HDB:Hid (∀w',ah s.F w w'->s.db w'))
  (XB:Hid (∀b,(s.F b\/b=w.heap.size)->b<oC.heap.size)) (nU:Hid (ah No yD oC)) (XZ:Hid (ah s.F w oC)) (Ei:Hid (ah No oC w16)) (sw:Hid (aD yD s v12)) (n14:Nat)
  (TD:Hid (Rd w16 (fun b=>b<oC.heap.size\/n14<=b) 1 KB n1 (aG ks))) (HRI:Hid (Rd w16 (fun b=>b<oC.heap.size) 1 IB n2 (aK is)))
  (PQ:Hid (n1<=kd)) (PO:Hid (n2<=id)) (PI:Hid (KB=none->kd=0)) (PH:Hid (IB=none->id=0)) :
  Hid (aU ((((w16.setCell ⟨w.heap.size,0,none⟩ (.bool false)).setCell ⟨w.heap.size,1,none⟩ (.slice none 0 0)).setCell ⟨w.heap.size,2,none⟩ (.slice KB n1 kd)).setCell ⟨w.heap.size,3,none⟩ (.slice IB n2 id)) (fun b=>s.F b\/b=w.heap.size) ⟨none,0,KB,kd,IB,id⟩ ⟨false,[],ks,is⟩) /\
  Hid (aD ((((w16.setCell ⟨w.heap.size,0,none⟩ (.bool false)).setCell ⟨w.heap.size,1,none⟩ (.slice none 0 0)).setCell ⟨w.heap.size,2,none⟩ (.slice KB n1 kd)).setCell ⟨w.heap.size,3,none⟩ (.slice IB n2 id)) s v12) /\
  Hid (ah s.F w ((((w16.setCell ⟨w.heap.size,0,none⟩ (.bool false)).setCell ⟨w.heap.size,1,none⟩ (.slice none 0 0)).setCell ⟨w.heap.size,2,none⟩ (.slice KB n1 kd)).setCell ⟨w.heap.size,3,none⟩ (.slice IB n2 id))):=by
 have hEw:ah s.F w ((((w16.setCell ⟨w.heap.size,0,none⟩ (.bool false)).setCell ⟨w.heap.size,1,none⟩ (.slice none 0 0)).setCell ⟨w.heap.size,2,none⟩ (.slice KB n1 kd)).setCell ⟨w.heap.size,3,none⟩ (.slice IB n2 id)) :=
  ((((XZ.out.ag Ei.out.of_no).ai (Nat.le_refl _) 0 (.bool false)).ai (Nat.le_refl _) 1 (.slice none 0 0)).ai (Nat.le_refl _) 2 (.slice KB n1 kd)).ai (Nat.le_refl _) 3 (.slice IB n2 id)
 have AX:∀(F:Nat->Prop),F w.heap.size->ah F w16 ((((w16.setCell ⟨w.heap.size,0,none⟩ (.bool false)).setCell ⟨w.heap.size,1,none⟩ (.slice none 0 0)).setCell ⟨w.heap.size,2,none⟩ (.slice KB n1 kd)).setCell ⟨w.heap.size,3,none⟩ (.slice IB n2 id)) :=
  fun F hF=>((((ah.refl F w16).ay hF 0 (.bool false)).ay hF 1 (.slice none 0 0)).ay hF 2 (.slice KB n1 kd)).ay hF 3 (.slice IB n2 id)
 have Vw:=XB.out w.heap.size (.inr rfl);generalize ((((w16.setCell ⟨w.heap.size,0,none⟩ (.bool false)).setCell ⟨w.heap.size,1,none⟩ (.slice none 0 0)).setCell ⟨w.heap.size,2,none⟩ (.slice KB n1 kd)).setCell ⟨w.heap.size,3,none⟩ (.slice IB n2 id))=wx at *;refine⟨aa ⟨Rd.lV _,?_,?_,Nat.le_refl _,by rw[e1];exact PQ.out,by rw[e2];exact PO.out,by simp,by rw[e1];omega,by rw[e2];omega,fun _=>rfl,PI.out,PH.out⟩,aa ?_,aa hEw⟩
 ·show Rd wx _ 1 KB ks.length (aG ks)
  rw[e1];exact(TD.out.ext (AX _ (.inl Vw))).mono (by omega) (fun b _ hb=>.inl (XB.out b hb))
 ·show Rd wx _ 1 IB is.length (aK is)
  rw[e2];exact(HRI.out.ext (AX _ Vw)).mono (by omega) (fun b _ hb=>XB.out b hb)
 ·have hg:ah (On w.heap.size) yD wx:=(nU.out.ag Ei.out).of_no.ag (AX (On w.heap.size) rfl)
  exact sw.out.tN hg (fun h=>by have h1:=gV.out s.t (.inl rfl);have h2:s.t=w.heap.size:=h;omega) (fun h=>by have h1:=gV.out s.m (.inr rfl);have h2:s.m=w.heap.size:=h;omega) (HDB.out _ hEw)
theorem NM (s:bH) (hs:s.Ok) (root:Nat) (xG:root<4) (v:V) (ws:List dN) (n:Nd) (bQ:ws ≠ []) (Qm:∀st∈ws.dropLast,Fv st) (hN:NOk n):ym s root v ws n:=by
 intro w gx F A cap l a h hg hx hF jB Fa hn hf;have gX:∃m,ws.length=m+1:=by cases hz:ws.length <;> simp_all
 obtain⟨m,gX⟩:=gX;have tZ:l.length=m+1:=by rw[<-gX,<-Fa,List.length_map]
 obtain⟨b,o,hA,JK,_⟩:=jB.rd.2 (by omega);subst hA;have hcap:m+1<=cap:=by have:=jB.cap;omega
 have LB:m<65536:=by have:=jB.len;omega
 have Ex:=aa (jB.mono (G:=s.F) (fun b _=>hF b));have HX:=aa (fun(w':World) (e:ah s.F w w')=>dS h hx e);have gV:=aa (fun b (hb:s.F b)=>h.old hb);have HDB:=aa (fun(w':World) (e:ah s.F w w')=>hs.keep _ _ e h.db);have mQ:=aa (fun i (hi:i<m+1)=>(⟨_,List.getElem?_eq_getElem (by omega)⟩:∃p,l[i]?=some p));have YF:=aa Fa;have lL:=aa tZ;have HUP:=aa Qm;have o7:=aa gX;have Yx:=aa (h.no hs ((ah.refl No w).alloc (.cells #[.bool n.leaf,.slice a.A1 n.cells.length a.c1,.slice a.A2 n.keys.length a.c2,.slice a.A3 n.kids.length a.c3] 40)));have HN0:Hid (aU (w.alloc (.cells #[.bool n.leaf,.slice a.A1 n.cells.length a.c1,.slice a.A2 n.keys.length a.c2,.slice a.A3 n.kids.length a.c3] 40)) (fun b=>s.F b\/b=w.heap.size) a n):=aa ((hn.mono (G:=fun b=>s.F b\/b=w.heap.size) (fun b hb h=>h.elim (hF b) (fun e=>absurd e (by omega)))).box _);have afx:=aa hN;have HG0:=aa hg;obtain⟨D,hD⟩:∃D,D=V.shrink s.cap root ws.reverse n v:=⟨_,rfl⟩;rw[<-hD,gX];have HD:Hid (V.shrink s.cap root (ws.take (m+1)).reverse n v=D):=aa (by rw[hD,<-gX,List.take_length]);have wH:=aa (ax.new w 40 #[.bool n.leaf,.slice a.A1 n.cells.length a.c1,.slice a.A2 n.keys.length a.c2,.slice a.A3 n.kids.length a.c3]);have uB:=aa ((ah.refl s.F w).alloc (.cells #[.bool n.leaf,.slice a.A1 n.cells.length a.c1,.slice a.A2 n.keys.length a.c2,.slice a.A3 n.kids.length a.c3] 40));simp only[Nd.value];clear hD Fa Qm gX tZ JK hF hn hf hx hg h bQ jB hN;go_enter Tryz.func102,Tryz.ntmps102;go_wp2_with fail;obtain⟨W0,LY⟩:∃W0,W0=(w.alloc (.cells #[.bool n.leaf,.slice a.A1 n.cells.length a.c1,.slice a.A2 n.keys.length a.c2,.slice a.A3 n.kids.length a.c3] 40)):=⟨_,rfl⟩;rw[<-LY]at Yx HN0 wH uB ⊢;clear LY
 go_step3
 go_wp2_with fail
 go_step3
 go_wp2_with fail
 go_loopg [1,7] (m+1) (fun gk ww k wr=>∃(kk:Nat) (n':Nd) (v':V) (a':jT),ww=.slice (some ⟨b,o,none⟩) (kk+1) cap/\k=.int .i64 (kk:Int)/\Hid (gk=kk+1)/\Hid (kk<m+1)/\ax wr w.heap.size 40 #[.bool n'.leaf,.slice a'.A1 n'.cells.length a'.c1,.slice a'.A2 n'.keys.length a'.c2,.slice a'.A3 n'.kids.length a'.c3] /\
  Hid (aU wr (fun b=>s.F b\/b=w.heap.size) a' n')/\Hid (NOk n')/\Hid (aD wr s v')/\Hid v'.Good/\Hid (ah s.F w wr)/\Hid (V.shrink s.cap root (ws.take (kk+1)).reverse n' v'=D))
 case atStart=>exact⟨m,n,v,a,rfl,by go_num,aa rfl,aa (by omega),wH.out,HN0,afx,Yx,HG0,uB,HD⟩
 case round =>
  clear wH HN0 afx Yx HG0 uB HD;obtain⟨kk,n',v',a',rfl,rfl,hgk,qg,Wm,HN,HNK,HT,HG,HE,HD⟩:=hrel;obtain⟨⟨st,ad⟩,hp⟩:=mQ.out kk qg.out;obtain⟨_,_,su,_,q0,_⟩:=(Ex.out.ext HE.out).at hp;injection su with su;injection su with e1 e2;subst e1;subst e2;simp only at q0;have lq:=World.block_lt_of_cell? _ _ q0;simp only at lq;have Zx:ws[kk]?=some st:=by rw[<-YF.out,List.getElem?_map,hp];rfl
  have HP:=aa hp;have Nk:kk+1<=cap:=by have:=qg.out;omega
  have Yd:kk<65536:=by have:=qg.out;omega
  have gF:=HD.out;rw[sQ Zx]at gF;have HD':=aa gF;have ru:=aa (fun fst=>Cu s hs wr.drew v' (HT.out.no hs (ah.refl No wr).drew) HG.out gx root (HX.out _ HE.out.drew) xG st.id n' a' ((HN.out.mono (G:=s.F) (fun b _ hb=>Or.inl hb)).ext (ah.refl s.F wr).drew) HNK.out fst);have G6:=aa (ML n' wr _ _ _ _ _ _ _ HN.out HNK.out.f);obtain⟨p0,p1,p2,p3,g0,g1,g2,g3,ln⟩:=Wm.p4;have wH:=aa Wm;simp only[Nd.value]at ru G6;rw[show n'.Size=n'.Sz from rfl]at G6;clear gF HD Zx Wm mQ;obtain⟨A1,c1,A2,c2,A3,c3⟩:=a';simp only at ru G6 p0 p1 p2 p3
  by_cases jK:kk=0
  ·subst jK
   have hd:=HD'.out;simp only[List.take_zero,List.reverse_nil]at hd;have hd2:v'.settle root st.id n' true=D:=hd;have XG:=aa (ru.out true);rw[hd2]at XG;simp only[Nat.zero_mul,Nat.add_zero]at q0;have hw0:IntKind.i64.wrap 0=0:=rfl;clear hd hd2 ru;go_wp2_with fail
   go_region_law ((go_simp;go_at_call 153;refine XG.out.mono ?_;rintro e w2 ⟨rfl,hT,hG,aH⟩;have rq:=aa hT;have Jy:=aa hG;have dx:=aa aH;clear hT hG aH))
   all_goals (
    go_wp2_with fail
    try rw[Exit.noGoto_ret]
    go_ret
    exact⟨rfl,rq.out,Jy.out,HE.out.drew.ag dx.out⟩)
  ·obtain⟨j,hj⟩:∃j,kk=j+1:=⟨kk-1,by omega⟩
   have HJ:=aa hj;have hkp:(0:Int)<(kk:Int):=by omega
   obtain⟨⟨sp,ap⟩,OE⟩:∃q,l[j]?=some q:=⟨_,List.getElem?_eq_getElem (by have:=(List.getElem?_eq_some_iff.1 hp).1;omega)⟩;have YA:=aa OE;have Ir:ws[j]?=some sp:=by rw[<-YF.out,List.getElem?_map,OE];rfl
   have ahD:=aa Ir
   have EY:Fv sp:=HUP.out sp (by
    have l_:=qg.out;have hwm:=o7.out;refine List.mem_iff_getElem?.2 ⟨j,?_⟩;rw[List.getElem?_dropLast,if_pos (by omega)]
    exact Ir)
   have iQ:=aa EY;have dL:=HD'.out;have TY:(ws.take kk).reverse=sp::(ws.take j).reverse:=by rw[hj];exact sQ Ir
   have HTK:=aa TY;rw[TY,V.shrink]at dL;have HDJ:=aa dL;clear dL TY Ir EY OE hp hj jK HD';go_wp2_with fail;refine G6.out.mono ?_;rintro e w2 ⟨rfl,aH⟩;have dx:=aa aH;have fQ:=aa (HE.out.ag aH.of_no);have rq:=aa (HT.out.no hs aH);have TK:=aa (HN.out.ext aH.of_no);have dO:=wH.out.ext aH (fun h=>h);have Em:=aa dO;clear p0 p1 p2 p3 g0 g1 g2 g3 ln q0 lq aH;obtain⟨p0,p1,p2,p3,g0,g1,g2,g3,ln⟩:=dO.p4;clear dO
   by_cases r_:166<=n'.Sz
   ·have hd:=HDJ.out
    rw[if_pos r_]at hd;obtain⟨_,_,su,_,q0,_⟩:=(Ex.out.ext fQ.out).at HP.out;injection su with su;injection su with e1 e2;subst e1;subst e2;simp only at q0;have lq:=World.block_lt_of_cell? _ _ q0;simp only at lq;have ada:=aa (Cu s hs w2.drew v' (rq.out.no hs (ah.refl No w2).drew) HG.out gx root (HX.out _ fQ.out.drew) xG st.id n' _ ((TK.out.mono (G:=s.F) (fun b _ hb=>Or.inl hb)).ext (ah.refl s.F w2).drew) HNK.out false);rw[hd]at ada;simp only[Nd.value]at ada;have hbi:(166:Int)<=(n'.Sz:Int):=by omega
    have lY:(((kk:Int)+1)==1)=false:=beq_eq_false_iff_ne.2 (by omega);have ajg:(kk:Int)<(kk:Int)+1:=by omega
    have hwk:IntKind.i64.wrap (kk:Int)=(kk:Int):=IntWalk.i64_in _ (by omega);have vo:¬((kk:Int)=0):=by omega
    clear hd r_ ru;go_wp2_with fail
    go_region_law ((go_simp;go_at_call 153;refine ada.out.mono ?_;rintro e w3 ⟨rfl,hT,hG,aH⟩;have HT3:=aa hT;have HG3:=aa hG;have iF:=aa aH;clear hT hG aH))
    all_goals (
     go_wp2_with fail
     try rw[Exit.noGoto_ret]
     go_ret
     exact⟨rfl,HT3.out,HG3.out,fQ.out.drew.ag iF.out⟩)
   ·have hd:=HDJ.out
    rw[if_neg r_]at hd;have rA:=aa hd;have hbi:¬((166:Int)<=(n'.Sz:Int)):=by omega
    clear hd r_ ru G6 HDJ;obtain⟨_,_,su,_,q0,q1,q2,q3,q4,q5⟩:=(Ex.out.ext fQ.out).at YA.out;injection su with su;injection su with e1 e2;subst e1;subst e2;simp only at q0 q1 q2 q3 q4 q5;have lq:=World.block_lt_of_cell? _ _ q0;simp only at lq;have hjm:IntKind.i64.wrap ((kk:Int)-1)=(j:Int):=by have:=HJ.out;rw[IntWalk.i64_in _ (by omega)];omega
    have hj1:(j:Int)<(kk:Int)+1:=by have:=HJ.out;omega
    go_wp2_with fail;obtain⟨W5,hW5⟩:∃W5,W5=(w2.alloc (.cells #[.bool sp.n.leaf,.slice ap.A1 sp.n.cells.length ap.c1,.slice ap.A2 sp.n.keys.length ap.c2,.slice ap.A3 sp.n.kids.length ap.c3] 40)):=⟨_,rfl⟩;have L8:ah No w2 W5:=by rw[hW5];exact(ah.refl No w2).alloc _
    have hBP:ax W5 w2.heap.size 40 #[.bool sp.n.leaf,.slice ap.A1 sp.n.cells.length ap.c1,.slice ap.A2 sp.n.keys.length ap.c2,.slice ap.A3 sp.n.kids.length ap.c3]:=by rw[hW5];exact ax.new w2 40 _
    have aeU:W5.heap.size=w2.heap.size+1:=by rw[hW5];simp
    have ajL:=aa aeU;rw[<-hW5];have Bo:=aa (fQ.out.ag L8.of_no);have HT5:=aa (rq.out.no hs L8);have HN5:=aa (TK.out.ext L8.of_no);have vK:=Em.out.ext L8 (fun h=>h);have adz:=aa vK;have HBP:=aa hBP;have hk5:=aj L8 q5 (fun h=>h);have lq5:b<W5.heap.size:=World.block_lt_of_cell? _ _ hk5;have Df:=Nd.Ok.of iQ.out.2.1;have F9:=(Df.br iQ.out.1).2;have XH:=aa ((Ex.out.ext Bo.out).nodes _ (List.mem_of_getElem? YA.out));have yI:=aa (fun w' (e:ah No W5 w')=>Po s hs v' sp.n n' sp.i gx root w' No ap ⟨A1,c1,A2,c2,A3,c3⟩ (HT5.out.no hs e) HG.out (HX.out _ (Bo.out.ag e.of_no)) ((XH.out.mono (fun _ _ h=>h.elim)).ext e) ((HN5.out.mono (fun _ _ h=>h.elim)).ext e) (Nd.Ok.fits Df) HNK.out.f F9 (by have:=iQ.out.2.2;omega));obtain⟨r,hr⟩:∃r,r=v'.beside sp.n sp.i n':=⟨_,rfl⟩;have Lr:r.1=0->r.2.2.ok=true/\r.2.1<sp.n.keys.length:=fun h0=>by rw[hr]at h0 ⊢;exact Tt h0 iQ.out.2.2
    have HRO:=aa Lr;have hd:=rA.out;rw[<-hr]at yI hd;have HD5:=aa hd;simp only[Nd.value]at yI;clear Lr hr hd hW5 L8 p0 p1 p2 p3 g0 g1 g2 g3 ln q0 q1 q2 q3 q4 q5 lq rA Df F9;obtain⟨p0,p1,p2,p3,g0,g1,g2,g3,ln⟩:=vK.p4;obtain⟨z0,z1,z2,z3,y0,y1,y2,y3,lz⟩:=hBP.p4;have HK5:=aa hk5;have hww:w.heap.size<W5.heap.size:=ln;have ne1:¬(w2.heap.size=W5.heap.size):=by omega
    have ne2:¬(W5.heap.size=w2.heap.size):=by omega
    have ne3:¬(w.heap.size=W5.heap.size):=by omega
    have ne4:¬(W5.heap.size=w.heap.size):=by omega
    have ne5:¬(b=W5.heap.size):=by omega
    have ne6:¬(W5.heap.size=b):=by omega
    clear vK hBP aeU
    go_cut [9,10,11] (fun x9 x10 x11 wx=>∃(bb:Nat) (c:jT),x9=.int .i64 (r.2.1:Int)/\x10=.pointer (some ⟨bb,0,none⟩)/\x11=.int .i64 (r.1:Int)/\Hid (W5.heap.size<=bb)/\Hid (ax wx bb 40 #[.bool r.2.2.leaf,.slice c.A1 r.2.2.cells.length c.c1,.slice c.A2 r.2.2.keys.length c.c2,.slice c.A3 r.2.2.kids.length c.c3]) /\
     Hid (ah No W5 wx)/\Hid (r.1=0->aU wx (fun b=>b<W5.heap.size) c r.2.2))
    case first =>
     go_region_held3 (fun w'=>w'.cell? ⟨w2.heap.size,0,none⟩=some (.bool sp.n.leaf)/\w'.cell? ⟨w2.heap.size,1,none⟩=some (.slice ap.A1 sp.n.cells.length ap.c1)/\w'.cell? ⟨w2.heap.size,2,none⟩=some (.slice ap.A2 sp.n.keys.length ap.c2)/\w'.cell? ⟨w2.heap.size,3,none⟩=some (.slice ap.A3 sp.n.kids.length ap.c3)/\w'.cell? ⟨w.heap.size,0,none⟩=some (.bool n'.leaf)/\w'.cell? ⟨w.heap.size,1,none⟩=some (.slice A1 n'.cells.length c1)/\w'.cell? ⟨w.heap.size,2,none⟩=some (.slice A2 n'.keys.length c2)/\w'.cell? ⟨w.heap.size,3,none⟩=some (.slice A3 n'.kids.length c3)/\w'.cell? ⟨b,o+j*6+5,none⟩=some (.int .i64 (sp.i:Int))) (go_keep)
      ((
       go_at_call 149;refine(yI.out _ ?_).mono ?_;(with_reducible (repeat' (first|exact ah.refl _ _|apply ah.drew|apply ah.alloc)));rintro e w7 ⟨eX,c,rfl,A_⟩;simp only[Nd.value];have Be:ah No W5 w7:=(by refine ah.ag ?_ eX;(with_reducible (repeat' (first|exact ah.refl _ _|apply ah.drew|apply ah.alloc))));have afP:=aa Be;have hN7:r.1=0->aU w7 (fun b=>b<W5.heap.size) c r.2.2:=(fun h0=>(A_ h0).mono (fun b _ hb=>by show b<_;first|exact hb|(simp;exact hb)|(simp;omega)));have PG:=aa hN7;
       (first|((with_reducible have hy:=(eX:ah No (W5.alloc (.cells #[.bool false,.slice none 0 0,.slice none 0 0,.slice none 0 0] 40)).drew w7));have Yg:=ax.aY hy ((ax.new W5 40 #[.bool false,.slice none 0 0,.slice none 0 0,.slice none 0 0]).cO) (fun h=>h);have HBX:=aa Yg;have HNY:Hid (r.1=0->aU w7 (fun b=>b<W5.heap.size+1) c r.2.2):=aa (fun h0=>(A_ h0).mono (fun b _ hb=>by show b<_;simp;omega));obtain⟨x0,x1,x2,x3,v0,v1,v2,v3,lx⟩:=Yg.p4;clear hy Yg)|skip);
       have P0:=aj Be p0 (fun h=>h);have P1:=aj Be p1 (fun h=>h);have P2:=aj Be p2 (fun h=>h);have P3:=aj Be p3 (fun h=>h);have Z0:=aj Be z0 (fun h=>h);have Z1:=aj Be z1 (fun h=>h);have Z2:=aj Be z2 (fun h=>h);have Z3:=aj Be z3 (fun h=>h);have K5:=aj Be hk5 (fun h=>h);have L7:=Be.size;have m1:¬(w2.heap.size=w7.heap.size):=(by omega);have m2:¬(w7.heap.size=w2.heap.size):=(by omega);have m3:¬(w.heap.size=w7.heap.size):=(by omega);have m4:¬(w7.heap.size=w.heap.size):=(by omega);have m5:¬(b=w7.heap.size):=(by omega);have m6:¬(w7.heap.size=b):=(by omega);clear eX Be A_ hN7))
     all_goals (
      go_wp2_with fail;go_meet
      first
       | (
         refine⟨W5.heap.size,c,rfl,rfl,rfl,aa (Nat.le_refl _),aa (HBX.out.eu (.bool r.2.2.leaf) (.slice c.A1 r.2.2.cells.length c.c1) (.slice c.A2 r.2.2.keys.length c.c2) (.slice c.A3 r.2.2.kids.length c.c3)),aa ((((afP.out.ai (Nat.le_refl W5.heap.size) 0 (.bool r.2.2.leaf)).ai (Nat.le_refl W5.heap.size) 1 (.slice c.A1 r.2.2.cells.length c.c1)).ai (Nat.le_refl W5.heap.size) 2 (.slice c.A2 r.2.2.keys.length c.c2)).ai (Nat.le_refl W5.heap.size) 3 (.slice c.A3 r.2.2.kids.length c.c3)),aa (fun h0=>?_)⟩;have sH:(fun b=>b<W5.heap.size+1) W5.heap.size:=Nat.lt_succ_self _
         exact((HNY.out h0).ext (((((ah.refl (fun b=>b<W5.heap.size+1) w7).ay sH 0 (.bool r.2.2.leaf)).ay sH 1 (.slice c.A1 r.2.2.cells.length c.c1)).ay sH 2 (.slice c.A2 r.2.2.keys.length c.c2)).ay sH 3 (.slice c.A3 r.2.2.kids.length c.c3))).mono (fun b _ hb=>Nat.lt_succ_of_lt hb))
       | exact⟨w7.heap.size,c,rfl,rfl,rfl,aa L7,aa (ax.new w7 40 #[.bool r.2.2.leaf,.slice c.A1 r.2.2.cells.length c.c1,.slice c.A2 r.2.2.keys.length c.c2,.slice c.A3 r.2.2.kids.length c.c3]),aa (afP.out.alloc _),aa (fun h0=>(PG.out h0).box _)⟩)
    case rest =>
     clear p0 p1 p2 p3 g0 g1 g2 g3 ln z0 z1 z2 z3 y0 y1 y2 y3 lz hk5 lq5;obtain⟨bb,c,rfl,rfl,rfl,HBB,yJ,HXC,TJ⟩:=hcut;have HEC:=aa (Bo.out.ag HXC.out.of_no);have HTC:=aa (HT5.out.no hs HXC.out);have aji:(kk:Int)<=(cap:Int):=by omega
     have ajh:kk<=cap:=by omega
     by_cases hr0:r.1=0
     ·obtain⟨aeM,aeQ⟩:=HRO.out hr0
      have X4:=aa aeM;have aaM:=aa aeQ;have hd:=HD5.out;rw[if_neg (by rw[hr0];simp)]at hd;have HD6:=aa hd;have adk:=aa (TJ.out hr0);obtain⟨at_,qP⟩:∃at_,at_=r.2.1:=⟨_,rfl⟩;obtain⟨both,acF⟩:∃both,both=r.2.2:=⟨_,rfl⟩;rw[<-qP,<-acF]at HD6;rw[<-qP]at aaM ⊢;rw[<-acF]at X4 yJ adk;rw[hr0];have ac9:=aa (ML both wc _ _ _ _ _ _ _ adk.out (Nd.Ok.fits (Nd.Ok.of X4.out)));rw[show both.Size=both.Sz from rfl]at ac9;simp only[Nd.value]at ac9;obtain⟨p0,p1,p2,p3,g0,g1,g2,g3,ln⟩:=yJ.out.p4;clear aeM aeQ hd HD5 HRO TJ yI qP acF hr0;go_wp2_with fail;refine ac9.out.mono ?_;rintro e w8 ⟨rfl,kK⟩;have MU:=aa (HXC.out.ag kK);have zH:=aa (HEC.out.ag kK.of_no);have HT8:=aa (HTC.out.no hs kK);have aiC:=aa (yJ.out.ext kK (fun h=>h));have afy:=aa (adk.out.ext kK.of_no);have af4:=aa (HBP.out.ext (HXC.out.ag kK) (fun h=>h));have afm:=aa (XH.out.ext (HXC.out.ag kK).of_no);have aiB:=aa (adz.out.ext (HXC.out.ag kK) (fun h=>h));clear p0 p1 p2 p3 g0 g1 g2 g3 ln kK;obtain⟨p0,p1,p2,p3,g0,g1,g2,g3,ln⟩:=aiC.out.p4;obtain⟨z0,z1,z2,z3,y0,y1,y2,y3,lz⟩:=af4.out.p4;have hFW:∀b,s.F b->b<W5.heap.size:=fun b hb=>by have h1:=gV.out b hb;omega
      have YJ:=aa hFW;have HJL:=aa (show kk<=l.length by have h1:=qg.out;have h2:=lL.out;omega);clear hFW
      by_cases Bc:500<both.Sz
      ·have hd:=HD6.out
       rw[if_pos Bc,<-HTK.out]at hd;have ahf:(500:Int)<(both.Sz:Int):=by omega
       have ab1:500<both.size:=by unfold Nd.Sz at Bc;rw[if_pos X4.out]at Bc;exact Bc
       have bY:(ws.take kk).length=kk:=by rw[List.length_take];have h1:=qg.out;have h2:=o7.out;omega
       have dI:(ws.take kk).getLast?=some sp:=by
        rw[List.getLast?_eq_getElem?,bY,List.getElem?_take,if_pos (by omega)];rw[show kk-1=j from by have:=HJ.out;omega];exact ahD.out
       have adS:∀st∈ws.take kk,Fv st:=fun st dw=>HUP.out st (by
        have h1:ws.take kk=ws.dropLast.take kk:=by rw[List.dropLast_eq_take,List.take_take,o7.out];congr 1;have:=qg.out;omega
        rw[h1]at dw
        exact List.mem_of_mem_take dw)
       have adb:=aa (Rn s hs root xG v' (ws.take kk) both at_ sp dI adS X4.out ab1 aaM.out w8 gx s.F (some ⟨b,o,none⟩) cap (l.take kk) c HT8.out HG.out (HX.out _ zH.out) (fun b hb=>hb) ((Ex.out.ext zH.out).take kk HJL.out) (by rw[<-YF.out,List.map_take]) (afy.out.mono (fun b _ hb=>YJ.out b hb)));rw[bY,hd]at adb;simp only[Nd.value]at adb;clear hd Bc ab1 bY dI adS;go_wp2_with fail;refine adb.out.mono ?_;rintro e w9 ⟨rfl,LZ,Nr,jO⟩;have hx:=zH.out.ag jO;go_wp2_with fail
       try rw[Exit.noGoto_ret]
       go_ret;exact⟨rfl,LZ,Nr,hx⟩
      ·have hd:=HD6.out
       rw[if_neg Bc]at hd;have ahf:¬((500:Int)<(both.Sz:Int)):=by omega
       have HD7:=aa hd;clear hd Bc;have Df:=Nd.Ok.of iQ.out.2.1;have F9:=(Df.br iQ.out.1).2;have ab3:=Df.a2;have Wq:=aaM.out;obtain⟨k1,j_⟩:∃k,sp.n.kids[at_]?=some k:=⟨_,List.getElem?_eq_getElem (by omega)⟩;obtain⟨k2,lJ⟩:∃k,sp.n.kids[at_+1]?=some k:=⟨_,List.getElem?_eq_getElem (by omega)⟩;obtain⟨kb,ko,BJ,_,JI⟩:=afm.out.kids.pU j_;have lk:=World.block_lt_of_cell? _ _ JI;simp only at lk;have eg1:sp.n.kids.getD at_ 0=k1:=by rw[List.getD_eq_getElem?_getD,j_];rfl
       have eg2:sp.n.kids.getD (at_+1) 0=k2:=by rw[List.getD_eq_getElem?_getD,lJ];rfl
       have dL:=HD7.out;rw[eg1,eg2]at dL;have HA3:=aa BJ;have JO:=aa lJ;rw[BJ]at z3;have aT:(at_:Int)<(sp.n.kids.length:Int):=by omega
       have aH:(at_:Int)+1<(sp.n.kids.length:Int):=by omega
       have bC:IntKind.i64.wrap ((at_:Int)+1)=(at_:Int)+1:=IntWalk.i64_in _ (by omega);have bU:IntKind.i64.wrap ((at_:Int)+2)=(at_:Int)+2:=IntWalk.i64_in _ (by omega);have kH:(0:Int)<=(at_:Int)+1:=by omega
       have Jr:=aa (qw s hs w8.drew v' (HT8.out.no hs (ah.refl No w8).drew) HG.out gx root (HX.out _ zH.out.drew) k1 both s.F _ _ _ _ _ _ ((afy.out.mono (fun b _ hb=>YJ.out b hb)).ext (ah.refl _ w8).drew) (Nd.Ok.fits (Nd.Ok.of X4.out)));obtain⟨H_,Ls⟩:∃H_,H_=v'.wr k1 both:=⟨_,rfl⟩;rw[<-Ls]at Jr dL;have Ej:=aa dL;simp only[Nd.value]at Jr;clear Df F9 ab3 j_ lJ BJ eg1 eg2 dL Ls HD7 HD6;go_wp2_with fail;go_cut [12] (fun k9 wx=>k9=.int .i64 (H_.1:Int)/\Hid (aD wx s H_.2)/\Hid H_.2.Good/\Hid (ah s.F w8 wx))
       case first =>
        go_region_law ((go_simp;go_at_call 141;refine Jr.out.mono ?_;rintro e w2 ⟨rfl,hT,hG,aH⟩;have HTa:=aa hT;have HGa:=aa hG;have HXa:=aa aH;clear hT hG aH))
        all_goals (
         go_wp2_with fail;go_meet
         exact⟨rfl,HTa,HGa,aa ((ah.refl s.F w8).drew.ag HXa.out)⟩)
       case rest =>
        clear p0 p1 p2 p3 g0 g1 g2 g3 ln Jr z0 z1 z2 z3 y0 y1 y2 y3 lz JI lk;obtain⟨rfl,sw,yw,zF⟩:=hcut;obtain⟨c12,v12⟩:=H_;simp only at sw yw Ej ⊢;have rz:=aa (zH.out.ag zF.out)
        by_cases Gm:c12=0
        ·subst Gm
         have dL:=Ej.out;rw[if_neg (by simp)]at dL;have aby:=aa (af4.out.ext zF.out (fun hb=>by have h1:=gV.out _ hb;have h2:=fQ.out.size;omega));have af5:=aa (aiB.out.ext zF.out (fun hb=>absurd (gV.out _ hb) (Nat.lt_irrefl _)));have QW:=aa (afm.out.ext zF.out);obtain⟨z0,z1,z2,z3,y0,y1,y2,y3,lz⟩:=aby.out.p4;obtain⟨_,_,su,_,d2⟩:=QW.out.kids.pU (k:=k2) (i:=at_+1) JO.out;rw[HA3.out]at su z3;injection su with su;injection su with e1 e2;subst e1;subst e2;have ld:=World.block_lt_of_cell? _ _ d2;simp only at ld;have hXt:=HX.out _ rz.out;have t0:=hXt.cell 0;simp[av]at t0;have lt0:=hXt.lt;have Ey:=aa (xQ s hs wc.drew v12 (sw.out.no hs (ah.refl No wc).drew) yw.out k2);have OT:=yw.out.drop k2;obtain⟨r15,ad2⟩:∃r15,r15=v12.drop k2:=⟨_,rfl⟩;rw[<-ad2]at Ey dL OT;have HGD:=aa OT;have adt:=aa dL;clear dL ad2 OT hXt;go_wp2_with fail;go_cut [13] (fun k9 wx=>k9=.int .i64 (r15.1:Int)/\Hid (aD wx s r15.2)/\Hid (ah s.F wc wx))
         case first =>
          go_region_law ((go_simp;go_at_call 142;refine Ey.out.mono ?_;rintro e w2 ⟨rfl,hT,aH⟩;have HTa:=aa hT;have HXa:=aa aH;clear hT aH))
          all_goals (
           go_wp2_with fail;go_meet
           exact⟨rfl,HTa,aa ((ah.refl s.F wc).drew.ag HXa.out)⟩)
         case rest =>
          clear z0 z1 z2 z3 y0 y1 y2 y3 lz d2 ld t0 lt0 Ey;obtain⟨rfl,ac8,Fx⟩:=hcut;obtain⟨c15,v15⟩:=r15;simp only at ac8 HGD adt ⊢;have FC:=aa (rz.out.ag Fx.out)
          by_cases h15:c15=0
          ·subst h15
           have dL:=adt.out;rw[if_neg (by simp)]at dL;have HDN:Hid (V.shrink s.cap root (ws.take (j+1)).reverse ⟨false,[],sp.n.keys.eraseIdx at_,sp.n.kids.eraseIdx (at_+1)⟩ v15=D):=aa (by rw[<-HJ.out,HTK.out];exact dL);have hwz:w.heap.size<=w2.heap.size:=fQ.out.size;have abx:=aby.out.ext Fx.out (fun hb=>by have h1:=gV.out _ hb;omega);have abA:=aa (af5.out.ext Fx.out (fun hb=>absurd (gV.out _ hb) (Nat.lt_irrefl _)));have Dh:=QW.out.ext Fx.out;obtain⟨z0,z1,z2,z3,y0,y1,y2,y3,lz⟩:=abx.p4;have Df:=Nd.Ok.of iQ.out.2.1;have F9:=(Df.br iQ.out.1).2;have ab3:=Df.a2;have Wq:=aaM.out;have Un:Hid (∀W',ah No wc W'->Calls Tryz.prog 124 #[.slice ap.A2 sp.n.keys.length ap.c2] W' (zu 9 1 W' (aG sp.n.keys) sp.n.keys.length)):=aa (fun W' e=>gY ⟨ap.A2,sp.n.keys.length,ap.c2,aG sp.n.keys⟩ W' ⟨(Dh.keys.mono (G:=No) (by omega) (fun _ _ h=>h.elim)).ext e,Dh.e2,lU _,Dh.l2⟩ (by simp only;omega));have HCI:Hid (∀W',ah No wc W'->Calls Tryz.prog 146 #[.slice ap.A3 sp.n.kids.length ap.c3] W' (zu 3 1 W' (aK sp.n.kids) sp.n.kids.length)):=aa (fun W' e=>wF ⟨ap.A3,sp.n.kids.length,ap.c3,aK sp.n.kids⟩ W' ⟨(Dh.kids.mono (G:=No) (by omega) (fun _ _ h=>h.elim)).ext e,Dh.e3,pK _,Dh.l3⟩ (by simp only;omega));have HDK:Hid (∀base v w,w.ownsRow base 9 1 v sp.n.keys.length (aG sp.n.keys)->Calls Tryz.prog 151 #[v,.int .i64 (at_:Int),.int .i64 ((at_:Int)+1)] w (Ay base v w (aG (sp.n.keys.eraseIdx at_)) (sp.n.keys.length-1))) :=
            aa (fun base v w ho=>by
             have h0:=DY sp.n.keys at_ Wq base v w ho;rw[show(((at_+1:Nat):Int))=(at_:Int)+1 from by omega]at h0
             exact h0)
           have HDI:Hid (∀base v w,w.ownsRow base 3 1 v sp.n.kids.length (aK sp.n.kids)->Calls Tryz.prog 152 #[v,.int .i64 ((at_:Int)+1),.int .i64 ((at_:Int)+2)] w (Ay base v w (aK (sp.n.kids.eraseIdx (at_+1))) (sp.n.kids.length-1))) :=
            aa (fun base v w ho=>by
             have h0:=Mm sp.n.kids (at_+1) (by omega) base v w ho;rw[show(((at_+1:Nat):Int))=(at_:Int)+1 from by omega,show(((at_+1+1:Nat):Int))=(at_:Int)+2 from by omega]at h0
             exact h0)
           have ah2:=aa (SV iQ.out.2.1 iQ.out.1 Wq);have ek:(sp.n.keys.eraseIdx at_).length=sp.n.keys.length-1:=by rw[List.length_eraseIdx,if_pos Wq]
           have ei:(sp.n.kids.eraseIdx (at_+1)).length=sp.n.kids.length-1:=by rw[List.length_eraseIdx,if_pos (by omega)]
           have HEK:=aa ek;have HEI:=aa ei;have TS:=aa (show sp.n.keys.length-1<65536 by omega);have ng:=aa (show sp.n.kids.length-1<65536 by omega);have ai3:w.heap.size<wc.heap.size:=abA.out.lt
           have XB:=aa (show ∀b,(s.F b\/b=w.heap.size)->b<wc.heap.size from fun b hb=>by
            rcases hb with hb|hb
            ·have:=gV.out b hb;omega
            ·omega)
           have nU:=aa (ah.refl No wc);have nn1:¬(w2.heap.size=w.heap.size):=by have h1:=Em.out.lt;omega
           have nn2:¬(w.heap.size=w2.heap.size):=fun h=>nn1 h.symm
           clear dL Dh abx Df F9 ab3 Wq ek ei;go_wp2_with fail;go_region_held3 (fun w'=>w'.cell? ⟨w2.heap.size,2,none⟩=some (.slice ap.A2 sp.n.keys.length ap.c2)/\w'.cell? ⟨w2.heap.size,3,none⟩=some (.slice ap.A3 sp.n.kids.length ap.c3)) (go_keep)
            (first
             | (go_at_call 124;refine(Un.out _ ?_).mono ?_;(with_reducible (repeat' (first|exact ah.refl _ _|apply ah.drew|apply ah.alloc)));rintro e uY ⟨KA,kc,rfl,aP,qM⟩;have Ed:=aa aP;have yu:=aa qM;have IZ:ah No wc uY:=(by refine ah.ag ?_ qM;(with_reducible (repeat' (first|exact ah.refl _ _|apply ah.drew|apply ah.alloc))));have FD:=aa IZ;have k2:=aj IZ z2 (fun h=>h);have k3:=aj IZ z3 (fun h=>h);clear aP qM IZ)
             | (go_at_call 151;refine(HDK.out _ _ _ Ed.out).mono ?_;rintro e yK ⟨KB,kd,rfl,AY,Gg,pW,vg⟩;have adg:=aa AY;have PQ:=aa Gg;have PI:=aa pW;have IY:ah No wc yK:=(by refine ah.trans FD.out vg (fun i hi hb=>?_);exfalso;have h1:=Ed.out.lt _ hb;first|omega|(simp at h1;done)|(simp at h1;omega));have yx:=aa IY;clear k2 k3;have k2:=aj IY z2 (fun h=>h);have k3:=aj IY z3 (fun h=>h);clear AY Gg pW vg IY)
             | (go_at_call 146;refine(HCI.out _ yx.out).mono ?_;rintro e PX ⟨IA,ic,rfl,aP,yU⟩;have MZ:=aa aP;have aaI:=aa yU;have xO:ah No wc PX:=(yx.out.ag yU);have afR:=aa xO;clear k2 k3;have k2:=aj xO z2 (fun h=>h);have k3:=aj xO z3 (fun h=>h);clear aP yU xO)
             | (go_at_call 152;refine(HDI.out _ _ _ MZ.out).mono ?_;rintro e w16 ⟨IB,id,rfl,AY,Gg,pW,EW⟩;have PO:=aa Gg;have PH:=aa pW;have vv:ah No wc w16:=(by refine ah.trans afR.out EW (fun i hi hb=>?_);exfalso;have h1:=MZ.out.lt _ hb;have h2:=yx.out.size;omega);have Ei:=aa vv;have SC:ah (fun b=>b<wc.heap.size\/yK.heap.size<=b) yK w16:=(by refine ah.trans (F:=fun b=>b<wc.heap.size\/yK.heap.size<=b) aaI.out.of_no EW (fun i hi hb=>?_);exact Or.inr (by have h1:=MZ.out.lt _ hb;omega));have Wv:Rd yK (fun b=>b<wc.heap.size\/yK.heap.size<=b) 1 KB (sp.n.keys.length-1) _:=adg.out.mono (by omega) (fun b hb h=>by show b<_;rcases h with h|h;(first|exact h|(simp;exact h));exact absurd h (by omega));have TD:=aa (Wv.ext SC);have hRI:Rd w16 (fun b=>b<wc.heap.size) 1 IB (sp.n.kids.length-1) _:=AY.mono (by omega) (fun b hb h=>by show b<_;have h4:b<wc.heap.size:=h;have h2:=yx.out.size;omega);have HRI:=aa hRI;have O1:=ax.aY vv abA.out (fun h=>h);have TR:=aa O1;obtain⟨s0,s1,s2,s3,f0,f1,f2,f3,lf⟩:=O1.p4;clear k2 k3;have k2:=aj vv z2 (fun h=>h);have k3:=aj vv z3 (fun h=>h);clear AY Gg pW EW vv SC Wv hRI O1))
           all_goals (
            go_wp2_with fail;go_roundg (j+1)
            case rel =>
             have Ff:=NJ s hs w wc wc w16 (sp.n.keys.eraseIdx at_) (sp.n.kids.eraseIdx (at_+1)) v15 KB kd IB id _ _ HEK.out HEI.out TS.out ng.out gV HDB XB nU FC Ei ac8 (yK.heap.size) TD HRI PQ PO PI PH;refine⟨j,⟨false,[],sp.n.keys.eraseIdx at_,sp.n.kids.eraseIdx (at_+1)⟩,v15,⟨none,0,KB,kd,IB,id⟩,by rw[HJ.out],by go_num,aa rfl,aa (by have:=qg.out;have:=HJ.out;omega),?_,Ff.1,ah2,Ff.2.1,HGD,Ff.2.2,HDN⟩;simp only[HEK.out,HEI.out,List.length_nil];exact TR.out.eu (.bool false) (.slice none 0 0) (.slice KB (sp.n.keys.length-1) kd) (.slice IB (sp.n.kids.length-1) id)
            case measure=>have:=hgk.out;have:=HJ.out;omega)
          ·have hD:(c15,v15)=D:=by rw[<-adt.out,if_pos h15]
           subst hD;have ajJ:((c15:Int) != 0)=true:=by simpa using (by omega:¬(c15:Int)=0)
           clear h15;go_wp2_with fail
           try rw[Exit.noGoto_ret]
           go_ret;exact⟨rfl,ac8.out,HGD.out,FC.out⟩
        ·have hD:(c12,v12)=D:=by rw[<-Ej.out,if_pos Gm]
         subst hD;have ae7:((c12:Int) != 0)=true:=by simpa using (by omega:¬(c12:Int)=0)
         clear Gm;go_wp2_with fail
         try rw[Exit.noGoto_ret]
         go_ret;exact⟨rfl,sw.out,yw.out,rz.out⟩
     ·have hd:=HD5.out
      rw[if_pos hr0]at hd;subst hd;have ai8:((r.1:Int) != 0)=true:=by simpa using (by omega:¬(r.1:Int)=0)
      clear hr0;go_wp2_with fail
      try rw[Exit.noGoto_ret]
      go_ret;exact⟨rfl,HTC.out,HG.out,HEC.out⟩
theorem WZ (s:bH) (hs:s.Ok) (w:World) (v:V) (h:aD w s v) (hg:v.Good) (gx i:Nat) (hx:ax w gx 70 (av s i)) (hi:i<4) (key:Bs) :
  Calls Tryz.prog 27 #[.pointer (some ⟨gx,0,none⟩),.string (au key)] w (FI s w (v.vz s.cap i key)):=by
 by_cases hm:iE key []=0
 ·refine X9 s hs w v h gx i hx key hm fun w' e=>?_
  have h':=h.no hs e;have JD:=hx.ext e (fun h=>h);cases hw:v.way i key with
  | none =>
   have hp:v.iD s.cap i key=(false,5,v):=by unfold V.iD;rw[hw]
   rw[hp];exact S_ s hs w' v h' hg gx i JD hi key hw
  | some ws =>
   cases hh:hit ws key with
   | none =>
    have hp:v.iD s.cap i key=(false,0,v):=by
     unfold V.iD;rw[hw];simp only[hh];split
     ·rename_i h1 _ h2;cases h2
     ·rfl
    rw[hp];exact Ta s hs w' v h' hg gx i JD hi key ws hw hh
   | some c =>
    match ws,hw,hh with
    | [],hw,hh=>cases hh
    | a::l,hw,hh =>
     obtain⟨st,dw⟩:∃st,(a::l).getLast?=some st:=⟨_,List.getLast?_eq_some_getLast (by simp)⟩;have Oy:=sO hw;have Qm:=aaS Oy;have aX:=V.bM (Oy.all st (List.mem_of_getLast? dw)).1;have bL:=Oy.last st dw;have hN:NOk (st.n.cut st.i):=by
      refine⟨Nd.Mr (Nd.Ok.fits (Nd.Ok.of aX)),fun _=>((Nd.Ok.of aX).lf bL).1,fun h=>?_⟩;have h2:st.n.leaf=false:=h;rw[bL]at h2;cases h2
     have hp:v.iD s.cap i key=if (v.bG c).1≠0 then (false,v.bG c)else (true,V.shrink s.cap i (a::l).reverse (st.n.cut st.i) (v.bG c).2):=by
      unfold V.iD;rw[hw];simp only[dw,hh];rfl
     rw[hp];exact Mo s hs w' v h' hg gx i JD hi key (a::l) hw st dw c hh (fun _=>NM s hs i hi _ _ _ (by simp) Qm hN)
 ·have hp:v.vz s.cap i key=(false,iE key [],v):=by unfold V.vz;rw[if_pos hm]
  rw[hp];exact aaP s hs w v h hg gx i hx key hm
theorem aaV (l:Bs):(⟨#[107]⟩:ByteArray)++au l=au (107::l):=fM [107] l
theorem Gu {Q:Ending->World->Prop}{a:Act}{w:World}(b:Nat) (cs:Array Value) (hb:ax w b 32 cs) {v:Value}(hs:some 1=some cs.size) (hp:a.tmps.getD 6 undef=.pointer (some ⟨b,0,none⟩)) (h3:a.tmps.getD 7 undef=v) (hd:a.defers = [])
  (h:Q (.returned (.tuple #[.agg cs,v])) w):bodyPost Tryz.prog Tryz.f14 Q Exit.ret a w:=by
 refine bodyPost_ret (v:=.tuple #[.agg cs,v]) (w:=w) ?_ hd h;have hl:=run_loadVar_row w b 32 32 cs (0,0) _ hb Tryz.underlying32 rfl (by rw[<-hs];kernel_rfl);rw[vV rfl,hp,h3];simp[asAddr,Result.andThen,hl]
theorem WM (s:bH) (hs:s.Ok) (w:World) (v:V) (h:aD w s v) (gx i:Nat) (hx:ax w gx 70 (av s i)) (hi:i<4) (X P0:List Nat) (hO:vN s.cap v i X P0 []) (l:List Ac) (A:Option Addr) (c:Nat)
  (hl:Rd w s.F 4 A l.length (oV l)) (tZ:l.length<2^63) (hf:∀a∈l,a.fits) (most:Nat) (hm:6*most+X.length+15<=s.cap) (Al:most<=60) :
  Calls Tryz.prog 14 #[.pointer (some ⟨gx,0,none⟩),.slice A l.length c,.int .i64 (most:Int)] w (PS s w v i X P0 (fE (l.take most))):=by
 have uz:=aa (fun w v h hg hx key val=>Kq s hs w v h hg gx i hx hi key val);have aiq:=aa (fun w v h hg hx key=>WZ s hs w v h hg gx i hx hi key);have HT:=aa h;have HX:=aa hx;have HL:=aa hl;have HF:=aa hf;have HM:=aa hm;have HS:=aa hs;have lL:=aa tZ
 have aew:=aa (show iR s w ((w.alloc (.cells #[.slice none 0 0] 32)).alloc (.cells #[.slice none 0 0] 32)) v v i X P0 P0 [] [] none 0 from
  ⟨h.no hs (((ah.refl _ _).alloc _).alloc _),hO,Tr.refl _ _ _ hO.tree.us,ax.aS (b:=w.heap.size+1) (w.alloc _) 32 _ (by simp),⟨Rd.lV _,by simp,fun _=>rfl,by simp⟩,(ax.new w 32 _).alloc _,((ah.refl _ _).alloc _).alloc _,.refl,rfl⟩)
 have qd:=aa (Ce h hx);obtain⟨D,hD⟩:∃D,D=PS s w v i X P0 (fE (l.take most)):=⟨_,rfl⟩;rw[<-hD];have HD:=aa hD;clear h hx hl hf hm hs tZ hO hD;go_enter Tryz.func14,Tryz.ntmps14;go_wp2_with fail;generalize ((w.alloc (.cells #[.slice none 0 0] 32)).alloc (.cells #[.slice none 0 0] 32))=W0 at *;go_loopg [9] l.length (fun gk iv wr=>∃(k:Nat) (v':V) (P':List Nat) (A':Option Addr) (c':Nat),k+gk=l.length/\k<=most/\iv=.int .i64 (k:Int)/\Hid (iR s w wr v v' i X P0 P' (fE (l.take k)) (fE (l.take k)) A' c'))
 case atStart=>exact⟨0,v,P0,none,0,by omega,by omega,rfl,aew⟩
 case round =>
  obtain⟨k,v',P',A',c',hk,JG,rfl,ry⟩:=hrel;have HK:=aa hk;have HKM:=aa JG;have tZ:=lL.out
  by_cases bu:k<l.length
  ·by_cases iK:k<most
   ·obtain⟨a,ha⟩:∃a,l[k]?=some a:=⟨_,List.getElem?_eq_getElem bu⟩
    obtain⟨b,o,hA,_,k0,k1,k2,k3⟩:=(HL.out.ext ry.out.ex).aff ha;subst hA;have lc:=World.block_lt_of_cell? wr _ k0;simp only at lc;have iY:(k:Int)<(l.length:Int):=by omega
    have aeg:(k:Int)<(most:Int):=by omega
    have Yf:=HF.out a (List.mem_of_getElem? ha);have l_:a.key.length<2^63:=Yf.2.2;have Su:(au a.key).extract 0 (min (a.key.length:Int) 130).toNat=au (a.key.take 130):=by
     rw[pE];congr 1;rw[show(min (a.key.length:Int) 130).toNat=min 130 a.key.length by omega,<-List.take_take,List.take_length]
    have aeJ:(⟨#[107]⟩:ByteArray)++au (a.key.take 130)=au a.fD:=aaV _;have wK:=az a.key;have ahG:=aa (fun w=>B_ a Yf.1 Yf.2.1 w);have dw:fE (l.take (k+1))=a.step (fE (l.take k)):=by
     rw[List.take_add_one,ha];exact O4 _ _
    have hEl:(fE (l.take k)).length<=k:=Nat.le_trans (Gv _) (by rw[List.length_take];omega);obtain⟨E,hE⟩:∃E,E=fE (l.take k):=⟨_,rfl⟩;rw[<-hE]at ry dw hEl;have ru:=aa dw;have XW:=aa hEl;have vO:=aa (ry.out.one.sorted);have ab2:6*E.length+X.length+15<=s.cap:=by have:=HM.out;omega
    have vP:=aa (show E.length<100/\6*E.length+X.length+15<=s.cap from⟨by omega,ab2⟩);have iN:Ac.agg a=.agg #[.int .i64 a.kind,.int .i64 a.n,.string (au a.key),.string (au a.val)]:=rfl;obtain⟨W,hW⟩:∃W,W=wr.alloc (.cells #[.int .i64 a.kind,.int .i64 a.n,.string (au a.key),.string (au a.val)] 53):=⟨_,rfl⟩;have BU:=aa (show ah No wr W from hW▸(ah.refl _ _).alloc _);have HBW:=aa (show ax W wr.heap.size 53 #[.int .i64 a.kind,.int .i64 a.n,.string (au a.key),.string (au a.val)]from hW▸ax.new wr 53 _);have YJ:=aa (ry.out.no HS.out BU.out);have Lj:=ry.out.ex.size;have HWR:=aa Lj
    by_cases lJ:a.kind=2
    ·have yZ:=a.tQ [] (by simp)
     obtain⟨d1,d2,P2,d3,d4⟩:=YJ.out.one.del yZ vP.out.1 vP.out.2;obtain⟨bb,uO⟩:∃bb,bb=decide ((del a.fD E).length<E.length):=⟨_,rfl⟩;have rV:=V.adF d2
     have HDE:Hid (Calls Tryz.prog 27 #[.pointer (some ⟨gx,0,none⟩),.string (au a.fD)] W fun e w2=>e=.returned (.tuple #[.bool bb,.int .i64 0])/\Hid (iR s w w2 v (v'.vz s.cap i a.fD).2.2 i X P0 P2 (del a.fD E) E A' c')):=aa (by
      refine(aiq.out W v' YJ.out.tx YJ.out.one.uZ.1 (HX.out.ext YJ.out.ex qd.out) a.fD).mono ?_;rintro e w2 ⟨h1,h2,_,h3⟩;rw[d1,d2,<-uO]at h1
      exact⟨h1,aa (YJ.out.tree HT.out h2 h3 d3 d4 ((V.aN.refl (sp:=true)).vz _ _) rV)⟩)
     have AB:Hid (∀w2,iR s w w2 v (v'.vz s.cap i a.fD).2.2 i X P0 P2 (del a.fD E) E A' c'->Calls Tryz.prog 37 #[.pointer (some ⟨w.heap.size+1,0,none⟩),.string (au a.fD)] w2 fun e w3=>e=.returned (.tuple #[.bool bb,.int .i64 0])/\Hid (∃A3 c3,iR s w w3 v (v'.vz s.cap i a.fD).2.2 i X P0 P2 (del a.fD E) (del a.fD E) A3 c3)):=aa (by
      intro w2 Fe;refine(NW w2 (w.heap.size+1) A' c' E a.fD Fe.bm (Fe.ra.mono (fun _ _ h=>h.elim)) yZ).mono ?_;intro e w3 hd;rw[<-uO]at hd
      exact⟨hd.e,aa (Fe.map HS.out HT.out hd)⟩)
     have aaC:Hid (fE (l.take (k+1))=del a.fD E):=aa (by rw[ru.out];unfold Ac.step;rw[if_pos lJ]);rw[lJ]at hW;clear hk JG Yf dw hEl yZ d1 d2 d3 d4 uO hE Lj ab2 rV;go_wp2_with fail;rw[<-hW];refine(HDE.out).mono ?_;rintro e w2 ⟨rfl,HFB⟩;go_wp2_with fail;refine(AB.out _ HFB.out).mono ?_;rintro e w3 ⟨rfl,HFC⟩;clear HFB HDE AB k0 k1 k2 k3 lc hW;cases bb
     ·go_wp2_with fail
      go_roundg (gk-1)
      case rel =>
       obtain⟨A3,c3,h3⟩:=HFC.out;exact⟨k+1,_,P2,A3,c3,by have:=HK.out;omega,by omega,by go_num,aa (by rw[aaC.out];exact h3)⟩
      case measure=>have:=HK.out;omega
     ·go_wp2_with fail
      go_roundg (gk-1)
      case rel =>
       obtain⟨A3,c3,h3⟩:=HFC.out;exact⟨k+1,_,P2,A3,c3,by have:=HK.out;omega,by omega,by go_num,aa (by rw[aaC.out];exact h3)⟩
      case measure=>have:=HK.out;omega
    ·have hvl:=a.JY
     have yZ:=a.tQ a.value hvl;obtain⟨d1,P2,d3,d4⟩:=YJ.out.one.put yZ hvl vP.out.1 vP.out.2;have OP:mg a.fD a.value false E=wu a.fD a.value E:=Cy _ _ _ vO.out;have HVW:Hid (∀w1,Calls Tryz.prog 26 #[.agg #[.int .i64 a.kind,.int .i64 a.n,.string (au a.key),.string (au a.val)]] w1 fun e w'=>e=.returned (.string (au a.value))/\ah No w1 w'):=aa (fun w1=>ahG.out w1);have rV:=V.Xt d1
     have HDE:Hid (∀w1,ah No W w1->Calls Tryz.prog 25 #[.pointer (some ⟨gx,0,none⟩),.string (au a.fD),.string (au a.value)] w1 fun e w2=>e=.returned (.int .i64 0)/\Hid (ax w2 wr.heap.size 53 #[.int .i64 a.kind,.int .i64 a.n,.string (au a.key),.string (au a.val)])/\Hid (iR s w w2 v (v'.Put s.cap i a.fD a.value).2 i X P0 P2 (wu a.fD a.value E) E A' c')):=aa (by
      intro w1 e1;have Nl:=YJ.out.no HS.out e1;refine(uz.out w1 v' Nl.tx Nl.one.uZ.1 (HX.out.ext Nl.ex qd.out) a.fD a.value).mono ?_;rintro e w2 ⟨h1,h2,_,h3⟩;rw[d1]at h1
      refine⟨h1,aa ((HBW.out.ext e1 (fun h=>h)).ext h3 (fun hf=>by have:=HT.out.old hf;have:=HWR.out;omega)),aa (Nl.tree HT.out h2 h3 d3 d4 ((V.aN.refl (sp:=true)).Put _ _ _) rV)⟩)
     have AB:Hid (∀w2,iR s w w2 v (v'.Put s.cap i a.fD a.value).2 i X P0 P2 (wu a.fD a.value E) E A' c'->Calls Tryz.prog 38 #[.pointer (some ⟨w.heap.size+1,0,none⟩),.string (au a.fD),.string (au a.value)] w2 fun e w3=>e=.returned (.int .i64 0)/\Hid (∃A3 c3,iR s w w3 v (v'.Put s.cap i a.fD a.value).2 i X P0 P2 (wu a.fD a.value E) (wu a.fD a.value E) A3 c3)):=aa (by
      intro w2 Fe;refine(Cz w2 (w.heap.size+1) A' c' E a.fD a.value Fe.bm (Fe.ra.mono (fun _ _ h=>h.elim)) (by have:=vP.out.1;omega) yZ).mono ?_;intro e w3 hd;rw[OP]at hd
      exact⟨hd.e,aa (Fe.map HS.out HT.out hd)⟩)
     have aaC:Hid (fE (l.take (k+1))=wu a.fD a.value E):=aa (by rw[ru.out];unfold Ac.step;rw[if_neg lJ]);have aep:(a.kind==2)=false:=by simpa using lJ
     clear hk JG Yf dw hEl yZ d1 d3 d4 hE Lj ab2 hvl OP rV;go_wp2_with fail;rw[<-hW];refine(HVW.out _).mono ?_;rintro e w1 ⟨rfl,aT⟩;have gK:=aa aT;clear aT;go_wp2_with fail;refine(HDE.out _ gK.out).mono ?_;rintro e w2 ⟨rfl,ng,HFB⟩;have b0:=ng.out.cell 0;have b1:=ng.out.cell 1;have b2:=ng.out.cell 2;have b3:=ng.out.cell 3;have bl:=ng.out.lt;simp at b0 b1 b2 b3;clear k0 k1 k2 k3 lc hW HDE;go_wp2_with fail;refine(HVW.out _).mono ?_;rintro e w3 ⟨rfl,bC⟩;have aim:=aa (HFB.out.no HS.out bC);clear bC HFB;go_wp2_with fail;refine(AB.out _ aim.out).mono ?_;rintro e w4 ⟨rfl,HFC⟩;go_wp2_with fail;go_roundg (gk-1)
     case rel =>
      obtain⟨A3,c3,h3⟩:=HFC.out;exact⟨k+1,_,P2,A3,c3,by have:=HK.out;omega,by omega,by go_num,aa (by rw[aaC.out];exact h3)⟩
     case measure=>have:=HK.out;omega
   ·have IE:k=most:=by omega
    have iC:¬((k:Int)<(most:Int)):=by omega
    have iY:(k:Int)<(l.length:Int):=by omega
    have hE:l.take k=l.take most:=by rw[IE]
    rw[hE]at ry;have c0:=ry.out.bm.cell 0;have cl:=ry.out.bm.lt;have rl:=ry.out.br.lt;have rf:=ry.out.br.frozen 0;have r0:=ry.out.br.cell 0;simp at c0 r0;have ji:=aa (ry.out.br.aQ 0 (.slice A' (fE (l.take most)).length c'))
    have zG:Hid (D (.returned (.tuple #[.agg #[.slice A' (fE (l.take most)).length c'],.bool true])) (wr.setCell ⟨w.heap.size,0,none⟩ (.slice A' (fE (l.take most)).length c'))):=aa (by
     rw[HD.out];have aH:ah No w (wr.setCell ⟨w.heap.size,0,none⟩ (.slice A' (fE (l.take most)).length c'))->True:=fun _=>trivial
     have IC:ah (On w.heap.size) wr (wr.setCell ⟨w.heap.size,0,none⟩ (.slice A' (fE (l.take most)).length c')):=ah.ay (F:=On w.heap.size) (ah.refl _ _) (b:=w.heap.size) (show On w.heap.size w.heap.size from rfl) _ _;have V9:ah s.F w (wr.setCell ⟨w.heap.size,0,none⟩ (.slice A' (fE (l.take most)).length c')):=ry.out.ex.trans IC (fun b hb he=>by have:b=w.heap.size:=he;omega);refine⟨⟨v',P',A',c',rfl,ry.out.tx.tN IC (fun he=>?_) (fun he=>?_) (HS.out.keep _ _ V9 HT.out.db),ry.out.one,ry.out.tr,?_,ry.out.st⟩,V9,?_⟩
     ·have h1:s.t=w.heap.size:=he
      have:=HT.out.old (b:=s.t) (.inl rfl);omega
     ·have h1:s.m=w.heap.size:=he
      have:=HT.out.old (b:=s.m) (.inr rfl);omega
     ·exact(ry.out.ra.ext (IC.mono fun b _ he=>by have h1:b=w.heap.size:=he;show b<w.heap.size+2;omega)).mono (fun b _ hb=>by have h1:b<w.heap.size:=hb;show b<w.heap.size+2;omega)
     ·rw[<-ry.out.sp]
      exact aj IC ry.out.tx.c10 (fun he=>by have h1:s.t=w.heap.size:=he;have:=HT.out.old (b:=s.t) (.inl rfl);omega))
    clear hk JG IE hE ry;go_wp2_with fail;refine Gu _ _ ji.out rfl (by rfl) (by rfl) (by rfl) ?_;exact zG.out
  ·have IE:l.take k=l.take most:=by rw[List.take_of_length_le (by omega),List.take_of_length_le (by omega)]
   have iC:¬((k:Int)<(l.length:Int)):=by omega
   have hE:=IE;rw[hE]at ry;have c0:=ry.out.bm.cell 0;have cl:=ry.out.bm.lt;have rl:=ry.out.br.lt;have rf:=ry.out.br.frozen 0;have r0:=ry.out.br.cell 0;simp at c0 r0;have ji:=aa (ry.out.br.aQ 0 (.slice A' (fE (l.take most)).length c'))
   have zG:Hid (D (.returned (.tuple #[.agg #[.slice A' (fE (l.take most)).length c'],.bool true])) (wr.setCell ⟨w.heap.size,0,none⟩ (.slice A' (fE (l.take most)).length c'))):=aa (by
    rw[HD.out];have aH:ah No w (wr.setCell ⟨w.heap.size,0,none⟩ (.slice A' (fE (l.take most)).length c'))->True:=fun _=>trivial
    have IC:ah (On w.heap.size) wr (wr.setCell ⟨w.heap.size,0,none⟩ (.slice A' (fE (l.take most)).length c')):=ah.ay (F:=On w.heap.size) (ah.refl _ _) (b:=w.heap.size) (show On w.heap.size w.heap.size from rfl) _ _;have V9:ah s.F w (wr.setCell ⟨w.heap.size,0,none⟩ (.slice A' (fE (l.take most)).length c')):=ry.out.ex.trans IC (fun b hb he=>by have:b=w.heap.size:=he;omega);refine⟨⟨v',P',A',c',rfl,ry.out.tx.tN IC (fun he=>?_) (fun he=>?_) (HS.out.keep _ _ V9 HT.out.db),ry.out.one,ry.out.tr,?_,ry.out.st⟩,V9,?_⟩
    ·have h1:s.t=w.heap.size:=he
     have:=HT.out.old (b:=s.t) (.inl rfl);omega
    ·have h1:s.m=w.heap.size:=he
     have:=HT.out.old (b:=s.m) (.inr rfl);omega
    ·exact(ry.out.ra.ext (IC.mono fun b _ he=>by have h1:b=w.heap.size:=he;show b<w.heap.size+2;omega)).mono (fun b _ hb=>by have h1:b<w.heap.size:=hb;show b<w.heap.size+2;omega)
    ·rw[<-ry.out.sp]
     exact aj IC ry.out.tx.c10 (fun he=>by have h1:s.t=w.heap.size:=he;have:=HT.out.old (b:=s.t) (.inl rfl);omega))
   clear hk JG IE hE ry;go_wp2_with fail;refine Gu _ _ ji.out rfl (by rfl) (by rfl) (by rfl) ?_;exact zG.out
def zn:Option Nat->Int
 | none=>-1
 | some d=>d
def Xy (gs:Nat) (w:World) (r:Option (Nat×Option Nat)) (e:Ending) (w':World):Prop :=
 ah (On gs) w w'/\match r with
  | none=>e=.returned (.int .i64 5)/\∃p d:Int,ax w' gs 118 #[.int .i64 p,.int .i64 d]
  | some (p,d)=>e=.returned (.int .i64 0)/\ax w' gs 118 #[.int .i64 (p:Int),.int .i64 (zn d)]/\p<=80000
def Px (s:bH) (v:V) (wz:World) (gx gs k deep:Nat):Prop :=
 ∀(w:World) (id:Nat) (low high:Bs) (p:Nat) (d:Option Nat),ah No wz w->ax w gs 118 #[.int .i64 (p:Int),.int .i64 (zn d)]->p<=80000 ->
  Calls Tryz.prog 94 #[.pointer (some ⟨gx,0,none⟩),.pointer (some ⟨gs,0,none⟩),.int .i64 (id:Int),.int .i64 (deep:Int),.string (au low),.string (au high)] w (Xy gs w (v.look k id deep low high (p,d)))
theorem CL (v:V) (low high:Bs) (cs:List aA) (K:Nat) (c:aA) (p:Nat) (hc:cs[K]?=some c) :
  v.fZ low high (cs.drop K) p=if qf low high c.key then (match v.value c with
  | none=>none
  | some _=>v.fZ low high (cs.drop (K+1)) (if 0<c.over then p+max 1 ((c.len+495) / 496)else p))else none:=by
 have hl:=(List.getElem?_eq_some_iff.1 hc).1;have e:cs.drop K=c::cs.drop (K+1):=by
  rw[List.drop_eq_getElem_cons hl];congr 1;exact(List.getElem?_eq_some_iff.1 hc).2
 rw[e,V.fZ];split
 ·cases v.value c <;> rfl
 ·rfl
theorem Og (p len:Nat) (hp:p<=80000) (hl:len<=16384):wrap64 ((p:Int)+max 1 (wrap64 ((wrap64 (wrap64 ((len:Int)+496)-1)).tdiv 496)))=((p+max 1 ((len+495) / 496):Nat):Int):=by
 have h1:wrap64 ((len:Int)+496)=(len:Int)+496:=by unfold wrap64;omega
 have h2:wrap64 ((len:Int)+496-1)=(len:Int)+495:=by unfold wrap64;omega
 rw[h1,h2];obtain⟨q,hq⟩:∃q,q=(len+495) / 496:=⟨_,rfl⟩;have ZE:q<=34:=by omega
 have e0:((len:Int)+495).tdiv 496=(q:Int):=by rw[Int.tdiv_eq_ediv_of_nonneg (by omega),hq];omega
 rw[e0,<-hq];clear hq e0 h1 h2;have h3:wrap64 (q:Int)=(q:Int):=by unfold wrap64;omega
 rw[h3];have h4:max 1 (q:Int)=((max 1 q:Nat):Int):=by omega
 rw[h4];obtain⟨m,hm⟩:∃m,m=max 1 q:=⟨_,rfl⟩;have Al:m<=34:=by omega
 rw[<-hm];clear hm h4 h3;unfold wrap64;omega
theorem Zi {p K:Nat}(h:p<=65536+34*K) (hk:K<255):p<=80000:=by omega
theorem Zh {p K len:Nat}(h:p<=65536+34*K) (hl:len<=16384):p+max 1 ((len+495) / 496)<=65536+34*(K+1):=by omega
theorem Zg {K gk cl:Nat}(h:K+gk=cl) (hl:(K:Int)<(cl:Int)):K+1+(gk-1)=cl:=by omega
def xB (f:Nat->Bs->Bs->Nat×Option Nat->Option (Nat×Option Nat)) (low high:Bs) (T:List (Nat×Bs×Bs)) (K:Nat):Option (Nat×Option Nat)->Option (Nat×Option Nat)
 | none=>none
 | some st=>iI f low high (decide (K=0)) (T.drop K) st
theorem EM (f:Nat->Bs->Bs->Nat×Option Nat->Option (Nat×Option Nat)) (low high:Bs) (T:List (Nat×Bs×Bs)) (K:Nat) (kid:Nat) (lo hi:Bs) (st:Nat×Option Nat) (h:T[K]?=some (kid,lo,hi)) :
  iI f low high (decide (K=0)) (T.drop K) st=if K≠0/\qf low high lo=false then none else xB f low high T (K+1) (f kid lo hi st):=by
 have hl:=(List.getElem?_eq_some_iff.1 h).1;have e:T.drop K=(kid,lo,hi)::T.drop (K+1):=by
  rw[List.drop_eq_getElem_cons hl];congr 1;exact(List.getElem?_eq_some_iff.1 h).2
 rw[e,iI]
 by_cases hK:K=0
 ·subst hK
  simp;cases f kid lo hi st <;> simp[xB]
 ·simp[hK]
  split
  ·rfl
  ·cases f kid lo hi st <;> simp[xB]
theorem YR {kids:List Nat}{keys:List Bs}{low high:Bs}(h:kids.length=keys.length+1) {K:Nat}(hK:K<kids.length) :
  ∃kid lo hi,kids[K]?=some kid/\(low::keys ++ [high])[K]?=some lo/\(low::keys ++ [high])[K+1]?=some hi/\(kids.zip ((low::keys).zip (keys ++ [high])))[K]?=some (kid,lo,hi):=by
 have h1:K<(low::keys).length:=by simp;omega
 have h2:K<(keys ++ [high]).length:=by simp;omega
 refine⟨kids[K],(low::keys)[K],(keys ++ [high])[K],List.getElem?_eq_getElem hK,?_,?_,?_⟩
 ·rw[List.getElem?_append_left h1];exact List.getElem?_eq_getElem h1
 ·rw[List.cons_append,List.getElem?_cons_succ];exact List.getElem?_eq_getElem h2
 ·rw[List.getElem?_zip_eq_some]
  refine⟨List.getElem?_eq_getElem hK,?_⟩;rw[List.getElem?_zip_eq_some];exact⟨List.getElem?_eq_getElem h1,List.getElem?_eq_getElem h2⟩
theorem FZ (s:bH) (hs:s.Ok) (wz:World) (v:V) (hz:aD wz s v) (hg:v.Good) (gx i:Nat) (Vt:ax wz gx 70 (av s i)) (gs:Nat) (Qy:wz.heap.size<=gs) (k deep:Nat) (VX:k+deep=42)
  (IH:∀j,k=j+1->Px s v wz gx gs j (deep+1)):Px s v wz gx gs k deep:=by
 intro w id low high p d ZM VD hp;have h:=hz.no hs ZM;have hx:=Vt.ext ZM (fun h=>h);have HN:=aa (fun w' (e:ah No w w')=>tq s hs w' v (h.no hs e) hg gx i (hx.ext e (fun h=>h)) id);have HIN:=aa (fun k w bl bh h1 h2=>Vl k low high w bl bh h1 h2);have HIH:=aa IH;have HKD:=aa VX;have HSV:=aa VD;have HZ:=aa ZM;have HGS:=aa Qy;have HP:=aa hp;have ahs:gs<w.heap.size:=VD.lt;have ag9:deep<=42:=by omega
 obtain⟨D,hD⟩:∃D,D=v.look k id deep low high (p,d):=⟨_,rfl⟩;rw[<-hD];have HD:=aa hD;have XE:Hid (∀wr,ah No wz wr->aD wr s v/\ax wr gx 70 (av s i)):=aa (fun wr e=>⟨hz.no hs e,Vt.ext e (fun h=>h)⟩);have afu:=aa (fun n (hn:v.node id=some n)=>V.bM hn);clear h hx hz Vt ZM VD IH VX Qy hD hp ag9;cases hn:v.node id with
 | none =>
  have hDn:D=none:=by
   rw[HD.out];cases k with
   | zero=>rfl
   | succ k=>rw[V.look,hn]
  subst hDn;rw[hn]at HN;clear HD hn HIH HKD;go_enter Tryz.func94,Tryz.ntmps94;go_wp2_with fail;refine(HN.out _ (by(repeat' (first|exact ah.refl _ _|assumption|apply ah.alloc|apply ah.drewN|apply ah.drew|refine ah.ai ?_ (by first|omega|(simp;omega)|simp) _ _|refine ah.ay ?_ (by first|exact Or.inl rfl|exact Or.inr rfl|rfl) _ _|refine ah.ag ?_ (by assumption)|refine ah.ag ?_ (ah.of_no (by assumption)))))).mono ?_;rintro e w1 ⟨aT,rfl⟩;have mM:ah No w w1:=(((ah.refl No w).alloc _).alloc _).ag aT;have yz:=aa mM;clear aT mM;simp only[Nd.zero];go_wp2_with fail;go_ret;have kG:ah No w (w1.alloc (.cells #[.bool false,.slice none 0 0,.slice none 0 0,.slice none 0 0] 40)):=yz.out.alloc _;exact⟨kG.of_no,rfl,_,_,HSV.out.ext kG (fun h=>h)⟩
 | some n =>
  have aX:=afu.out n hn;have XN:=aa aX;have abe:=(Nd.Ok.of aX).a1;have Jt:=aa hn;rw[hn]at HN;clear aX hn afu
  by_cases Lp:40<deep\/65536<p+1
  ·have hDn:D=none:=by
    rw[HD.out];cases k with
    | zero=>rfl
    | succ k=>rw[V.look,Jt.out];simp only;rw[if_pos Lp]
   subst hDn;have hb:(decide ((40:Int)<(deep:Int))||decide ((65536:Int)<(p:Int)+1))=true:=by
    rcases Lp with h|h
    ·simp;omega
    ·simp;omega
   clear Lp HD HIH;go_enter Tryz.func94,Tryz.ntmps94;go_wp2_with fail;refine(HN.out _ (by(repeat' (first|exact ah.refl _ _|assumption|apply ah.alloc|apply ah.drewN|apply ah.drew|refine ah.ai ?_ (by first|omega|(simp;omega)|simp) _ _|refine ah.ay ?_ (by first|exact Or.inl rfl|exact Or.inr rfl|rfl) _ _|refine ah.ag ?_ (by assumption)|refine ah.ag ?_ (ah.of_no (by assumption)))))).mono ?_;rintro e w1 ⟨aT,A1,c1,A2,c2,A3,c3,rfl,cu⟩;have mM:ah No w w1:=(((ah.refl No w).alloc _).alloc _).ag aT;have rU:=HSV.out.ext mM (fun h=>h);have s0:=rU.cell 0;have sf:=rU.frozen;have sl:=rU.lt;simp at s0;have yz:=aa mM;have aaB:=aa rU;have hpw:IntKind.i64.wrap ((p:Int)+1)=(p:Int)+1:=IntWalk.i64_in _ (by have:=HP.out;omega);clear mM rU aT cu;simp only[Nd.value]
   by_cases h40:40<deep
   ·have yE:(40:Int)<(deep:Int):=by omega
    go_wp2_with fail;go_ret;have kG:=(yz.out.of_no.ay (F:=On gs) (b:=gs) rfl 0 (.int .i64 ((p:Int)+1))).alloc (.cells #[.bool n.leaf,.slice A1 n.cells.length c1,.slice A2 n.keys.length c2,.slice A3 n.kids.length c3] 40);exact⟨kG,rfl,_,_,(aaB.out.aQ 0 _).alloc _⟩
   ·have yE:¬((40:Int)<(deep:Int)):=by omega
    have Dw:(65536:Int)<(p:Int)+1:=by simp at hb;omega
    go_wp2_with fail;go_ret;have kG:=(yz.out.of_no.ay (F:=On gs) (b:=gs) rfl 0 (.int .i64 ((p:Int)+1))).alloc (.cells #[.bool n.leaf,.slice A1 n.cells.length c1,.slice A2 n.keys.length c2,.slice A3 n.kids.length c3] 40);exact⟨kG,rfl,_,_,(aaB.out.aQ 0 _).alloc _⟩
  ·obtain⟨j,hj⟩:∃j,k=j+1:=⟨k-1,by have:=HKD.out;omega⟩
   have aih:=aa (HIH.out j hj);have dL:=HD.out;rw[hj,V.look,Jt.out]at dL;simp only at dL;rw[if_neg Lp]at dL;obtain⟨LC,hLC⟩:∃LC,LC=v.fZ low high n.cells (p+1):=⟨_,rfl⟩;rw[<-hLC]at dL;have HLC:=aa hLC;have JP:=aa dL;have HDN:=aa (show LC=none->D=none from fun h=>by rw[JP.out,h]);have yE:decide ((40:Int)<(deep:Int))=false:=by simp;omega
   have Dw:decide ((65536:Int)<(p:Int)+1)=false:=by simp;omega
   have HPB:=aa (show p+1<=65536 by omega);have HDP:=aa (show deep<=40 by omega);clear dL hLC Lp hj HIH HD;go_enter Tryz.func94,Tryz.ntmps94;go_wp2_with fail;refine(HN.out _ (by(repeat' (first|exact ah.refl _ _|assumption|apply ah.alloc|apply ah.drewN|apply ah.drew|refine ah.ai ?_ (by first|omega|(simp;omega)|simp) _ _|refine ah.ay ?_ (by first|exact Or.inl rfl|exact Or.inr rfl|rfl) _ _|refine ah.ag ?_ (by assumption)|refine ah.ag ?_ (ah.of_no (by assumption)))))).mono ?_;rintro e w1 ⟨aT,A1,c1,A2,c2,A3,c3,rfl,cu⟩;have mM:ah No w w1:=(((ah.refl No w).alloc _).alloc _).ag aT;have rU:=HSV.out.ext mM (fun h=>h);have s0:=rU.cell 0;have sf:=rU.frozen;have sl:=rU.lt;simp at s0;have LD:=((ax.new w 9 #[.string (au low)]).alloc (.cells #[.string (au high)] 9)).ext aT (fun h=>h);have Dx:=(ax.aS (b:=w.heap.size+1) (w.alloc (.cells #[.string (au low)] 9)) 9 #[.string (au high)] (by simp)).ext aT (fun h=>h);have yz:=aa mM;have aaB:=aa rU;have TM:=aa LD;have HH1:=aa Dx;have M3:=aa cu;have hpw:IntKind.i64.wrap ((p:Int)+1)=(p:Int)+1:=IntWalk.i64_in _ (by have:=HP.out;omega);clear mM rU aT cu LD Dx;simp only[Nd.value];go_wp2_with fail;obtain⟨W2,Ao⟩:∃W2,W2=((w1.setCell ⟨gs,0,none⟩ (.int .i64 ((p:Int)+1))).alloc (.cells #[.bool n.leaf,.slice A1 n.cells.length c1,.slice A2 n.keys.length c2,.slice A3 n.kids.length c3] 40)):=⟨_,rfl⟩;have SF:ah (On gs) w1 W2:=by rw[Ao];exact((ah.refl (On gs) w1).ay (b:=gs) rfl _ _).alloc _
   have dO:ax W2 gs 118 #[.int .i64 ((p:Int)+1),.int .i64 (zn d)]:=by rw[Ao];exact(aaB.out.aQ 0 _).alloc _
   have Zx:(w1.setCell ⟨gs,0,none⟩ (.int .i64 ((p:Int)+1))).heap.size=w1.heap.size:=by simp[World.setCell]
   have IK:ax W2 w1.heap.size 40 #[.bool n.leaf,.slice A1 n.cells.length c1,.slice A2 n.keys.length c2,.slice A3 n.kids.length c3]:=by rw[Ao];exact ax.aS (b:=w1.heap.size) _ 40 _ Zx
   have vk:=yz.out.size;have AZ:∀b,w.heap.size<=b->¬On gs b:=fun b hb e=>by have e':b=gs:=e;omega
   have vJ:=TM.out.ext SF (AZ _ (Nat.le_refl _));have hh2:=HH1.out.ext SF (AZ _ (Nat.le_succ _))
   have VO:aW W2 (On gs) A1 c1 A2 c2 A3 c3 n:=(M3.out.mono (G:=On gs) (fun b _ hb=>by
    have e':b=gs:=hb;show b<_;simp
    omega)).ext SF
   have ng:=aa dO;have Em:=aa IK;have vQ:=aa vJ;have HH2:=aa hh2;have TI:=aa VO;have fQ:=aa (yz.out.of_no.ag SF);have HZ2:=aa ((HZ.out.ag yz.out).kR SF HGS.out);have qd:=aa AZ;have adR:w.heap.size+2<=w1.heap.size:=HH1.out.lt;rw[<-Ao];clear Ao SF dO IK vJ hh2 VO Zx s0 sf sl;go_loopg [53] n.cells.length (fun gk kv wr=>∃(K p':Nat),K+gk=n.cells.length/\kv=.int .i64 (K:Int)/\Hid (ah (On gs) W2 wr)/\ax wr gs 118 #[.int .i64 (p':Int),.int .i64 (zn d)]/\Hid (v.fZ low high (n.cells.drop K) p'=LC)/\Hid (p'<=65536+34*K))
   case atStart=>exact⟨0,p+1,by omega,rfl,aa (ah.refl _ _),by rw[show((p+1:Nat):Int)=(p:Int)+1 from by omega];exact ng.out,aa (by rw[HLC.out];rfl),aa (by have:=HPB.out;omega)⟩
   case round =>
    obtain⟨K,p',hK,rfl,HE,Bb,o8,HPK⟩:=hrel;clear ng;have HWZ:=aa (HZ2.out.kR HE.out HGS.out);have Jw:=aa Bb;have lo:=(vQ.out.ext HE.out (qd.out _ (Nat.le_refl _))).cell 0;have hi:=(HH2.out.ext HE.out (qd.out _ (Nat.le_succ _))).cell 0;obtain⟨p0,p1,p2,p3,g0,g1,g2,g3,ln⟩:=(Em.out.ext HE.out (qd.out _ (by omega))).p4;have Ni:=World.block_lt_of_cell? wr _ lo;have hh0:=World.block_lt_of_cell? wr _ hi;simp at lo hi Ni hh0;have wR:=aa hK
    by_cases bu:K<n.cells.length
    ·obtain⟨c,hc⟩:∃c,n.cells[K]?=some c:=⟨_,List.getElem?_eq_getElem bu⟩
     obtain⟨cb,co,mY,hcF,k0,k1,k2,k3⟩:=(TI.out.ext HE.out).cells.cellAt hc;have lc:=World.block_lt_of_cell? wr _ k0;simp only at lc;subst mY;have rZ:=TI.out.l1;have iY:(K:Int)<(n.cells.length:Int):=by omega
     have OW:=(Nd.Ok.of XN.out).c c (List.mem_of_getElem? hc);have Gh:=aA.iW OW;have TA:=aa (fun w' (e:ah No wr w')=>Ca s hs v hg c (Nd.Ok.fits (Nd.Ok.of XN.out) |>.c c (List.mem_of_getElem? hc)) w' gx i (XE.out w' (HWZ.out.ag e)).1 (XE.out w' (HWZ.out.ag e)).2);have og:=CL v low high n.cells K c p' hc;rw[o8.out]at og;have AA:=aa og;have HCB:=aa Gh;clear hK hc og OW Gh hcF Bb;generalize n.cells.length=cl at *;simp only[aA.agg]at TA;have aaG:=aa (HIN.out c.key _ w.heap.size (w.heap.size+1) (((vQ.out.ext HE.out (qd.out _ (Nat.le_refl _))).alloc (.cells #[.string (au c.key),.string (au c.val),.int .i64 (c.over:Int),.int .i64 (c.len:Int)] 45)).cell 0) (((HH2.out.ext HE.out (qd.out _ (Nat.le_succ _))).alloc _).cell 0));go_wp2_with fail;refine aaG.out.mono ?_;rintro e w5 ⟨rfl,rfl⟩;have hEc:ah No wr (wr.alloc (.cells #[.string (au c.key),.string (au c.val),.int .i64 (c.over:Int),.int .i64 (c.len:Int)] 45)):=(ah.refl No wr).alloc _;cases BG:qf low high c.key with
     | false =>
      have hDn:=HDN.out (by rw[AA.out,BG];rfl);subst hDn;clear BG;go_wp2_with fail;go_ret;exact⟨(fQ.out.ag HE.out).ag hEc.of_no,rfl,_,_,Jw.out.ext hEc (fun h=>h)⟩
     | true =>
      have dw:=AA.out;rw[BG,if_pos rfl]at dw;have ru:=aa dw;have HEC:=aa hEc;clear BG dw hEc AA;cases Vx:v.value c with
      | none =>
       rw[Vx]at TA;have hDn:=HDN.out (by rw[ru.out,Vx]);subst hDn;simp only[vR]at TA;clear Vx;go_wp2_with fail;refine(TA.out _ HEC.out).mono ?_;rintro e w6 ⟨rfl,kH⟩;have DK:=HEC.out.ag kH;clear kH;go_wp2_with fail;go_ret;exact⟨(fQ.out.ag HE.out).ag DK.of_no,rfl,_,_,Jw.out.ext DK (fun h=>h)⟩
      | some bv =>
       rw[Vx]at TA;have dw:=ru.out;rw[Vx]at dw;simp only at dw;have XG:=aa dw;simp only[vR]at TA;clear Vx dw ru;go_wp2_with fail;refine(TA.out _ HEC.out).mono ?_;rintro e w6 ⟨rfl,kH⟩;have Yg:=(ax.new wr 45 #[.string (au c.key),.string (au c.val),.int .i64 (c.over:Int),.int .i64 (c.len:Int)]).ext kH (fun h=>h);have Bn:=aa (HEC.out.ag kH);have V8:=Jw.out.ext (HEC.out.ag kH) (fun h=>h);have afM:=aa V8;obtain⟨z0,z1,z2,z3,y0,y1,y2,y3,lz⟩:=Yg.p4;have s0:=V8.cell 0;have sf:=V8.frozen;have sl:=V8.lt;simp at s0;clear Yg kH V8 k0 k1 k2 k3 lo hi p0 p1 p2 p3 g0 g1 g2 g3 ln Ni hh0 lc
       by_cases hov:0<c.over
       ·have VN:(0:Int)<(c.over:Int):=by omega
        have hgw:gs≠wr.heap.size:=by have h1:=Jw.out.lt;omega
        go_wp2_with fail
        go_region
        all_goals (
         go_wp2_with fail;go_roundg (gk-1)
         case rel =>
          have h1:=XG.out;rw[if_pos hov]at h1;have hpk:=HPK.out;have wL:=HCB.out.2.2.2.1;have ahb:K<255:=by have h2:=iY;have h3:=abe;omega
          have e1:=Og p' c.len (Zi hpk ahb) wL;exact⟨K+1,p'+max 1 ((c.len+495) / 496),Zg wR.out iY,by go_num,aa ((HE.out.ag Bn.out.of_no).ay (F:=On gs) (b:=gs) rfl 0 _).drew,by rw[<-e1];exact(afM.out.aQ 0 _).cO,aa h1.symm,aa (Zh hpk wL)⟩
         case measure=>have:=wR.out;omega)
       ·have VN:¬((0:Int)<(c.over:Int)):=by omega
        go_wp2_with fail;go_roundg (gk-1)
        case rel =>
         have h1:=XG.out;rw[if_neg hov]at h1;refine⟨K+1,p',by have:=wR.out;omega,by go_num,aa (HE.out.ag Bn.out.of_no),afM.out,aa h1.symm,aa (by have:=HPK.out;omega)⟩
        case measure=>have:=wR.out;omega
    ·have hK':K=n.cells.length:=by omega
     have Nh:=o8.out;rw[List.drop_eq_nil_of_le (by omega),V.fZ]at Nh;have hd1:=JP.out;rw[<-Nh]at hd1;simp only at hd1;have hpk:=HPK.out;have HPF:=aa (show p'<=74300 by omega);have s1:=Bb.cell 1;have sf:=Bb.frozen;have sl:=Bb.lt;simp at s1;have pV:¬((K:Int)<(n.cells.length:Int)):=by omega
     clear bu hK Nh hpk Bb o8 HLC JP HDN;cases bL:n.leaf with
     | true =>
      rw[bL]at hd1 p0;simp only[if_true]at hd1;have mE:=aa hd1;have Ef:=aa bL;clear hd1 bL
      by_cases eY:(d.isSome=true/\d≠some deep)\/n.cells.length=0
      ·have hDn:D=none:=by rw[mE.out,if_pos eY]
       subst hDn;have BQ:=aa (fQ.out.ag HE.out);cases d with
       | none =>
        have hz0:(n.cells.length:Int)=0:=by
         rcases eY with ⟨h,_⟩|h
         ·cases h
         ·omega
        simp only[zn]at s1;clear eY mE pV;go_wp2_with fail;go_ret;exact⟨BQ.out,rfl,_,_,Jw.out⟩
       | some d0 =>
        simp only[zn]at s1
        by_cases dL:d0=deep
        ·have hz0:(n.cells.length:Int)=0:=by
          rcases eY with ⟨_,h⟩|h
          ·exact absurd (by rw[dL]) h
          ·omega
         subst dL;clear eY mE pV;go_wp2_with fail;go_ret;exact⟨BQ.out,rfl,_,_,Jw.out⟩
        ·have bQ:((d0:Int) != (deep:Int))=true:=by simpa using (by omega:¬(d0:Int)=deep)
         have tX:¬((d0:Int)=(deep:Int)):=by omega
         clear eY mE pV dL;go_wp2_with fail;go_ret;exact⟨BQ.out,rfl,_,_,Jw.out⟩
      ·have hDn:D=some (p',some deep):=by rw[mE.out,if_neg eY]
       subst hDn;have Sd:¬((n.cells.length:Int)=0):=fun h=>eY (.inr (by omega))
       have BQ:=aa ((fQ.out.ag HE.out).ay (F:=On gs) (b:=gs) rfl 1 (.int .i64 (deep:Int)));have HPZ:=aa (show p'<=80000 by have:=HPF.out;omega);cases d with
       | none =>
        simp only[zn]at s1;clear eY mE;go_wp2_with fail;go_ret;exact⟨BQ.out,rfl,Jw.out.aQ 1 _,HPZ.out⟩
       | some d0 =>
        have dL:d0=deep:=by
         rcases Nat.lt_trichotomy d0 deep with h|h|h
         ·exact absurd (.inl ⟨rfl,by simp;omega⟩) eY
         ·exact h
         ·exact absurd (.inl ⟨rfl,by simp;omega⟩) eY
        subst dL;simp only[zn]at s1;clear eY mE;go_wp2_with fail;go_ret;exact⟨BQ.out,rfl,Jw.out.aQ 1 _,HPZ.out⟩
     | false =>
      rw[bL]at hd1 p0;simp only[Bool.false_eq_true,if_false]at hd1;have hO:=Nd.Ok.of XN.out;have qg:=(hO.br bL).2;have ha2:=hO.a2;have adm:=aa qg;have mE:=aa hd1;have BQ:=aa (fQ.out.ag HE.out);have uM:=TI.out.ext HE.out;have PE:=aa uM;obtain⟨W,hW⟩:∃W,W=(((wr.alloc (.cells #[.string (au low)] 9)).alloc (.cells #[.string (au high)] 9)).alloc (.cells #[.slice (some ⟨wr.heap.size,0,none⟩) 1 1,.slice A2 n.keys.length c2,.slice (some ⟨wr.heap.size+1,0,none⟩) 1 1] 38)):=⟨_,rfl⟩;have jR:ah No wr W:=by rw[hW];exact(((ah.refl No wr).alloc _).alloc _).alloc _
      have OM:ax W wr.heap.size 9 #[.string (au low)]:=by rw[hW];exact((ax.new wr 9 _).alloc _).alloc _
      have hhb:ax W (wr.heap.size+1) 9 #[.string (au high)]:=by rw[hW];exact(ax.aS (b:=wr.heap.size+1) (wr.alloc _) 9 _ (by simp)).alloc _
      have sG:ax W (wr.heap.size+2) 38 #[.slice (some ⟨wr.heap.size,0,none⟩) 1 1,.slice A2 n.keys.length c2,.slice (some ⟨wr.heap.size+1,0,none⟩) 1 1]:=by rw[hW];exact ax.aS (b:=wr.heap.size+2) _ 38 _ (by simp)
      have ZF:dC.Ok W 1 ⟨some ⟨wr.heap.size,0,none⟩,1,1,[.string (au low)]⟩:=⟨⟨rfl,fun _=>⟨_,_,rfl,(fun h=>h),fun j u hu=>by rw[Nat.zero_add,OM.cell j];simpa using hu⟩⟩,(fun h=>by cases h),(fun u hu=>by simp at hu;subst hu;rfl),Nat.le_refl _⟩;have hq3:dC.Ok W 1 ⟨some ⟨wr.heap.size+1,0,none⟩,1,1,[.string (au high)]⟩:=⟨⟨rfl,fun _=>⟨_,_,rfl,(fun h=>h),fun j u hu=>by rw[Nat.zero_add,hhb.cell j];simpa using hu⟩⟩,(fun h=>by cases h),(fun u hu=>by simp at hu;subst hu;rfl),Nat.le_refl _⟩;have ZE:dC.Ok W 1 ⟨A2,n.keys.length,c2,aG n.keys⟩:=⟨(uM.keys.mono (G:=No) (by omega) (fun _ _ h=>h.elim)).ext jR,uM.e2,lU _,uM.l2⟩
      have oG:=aa (um [⟨some ⟨wr.heap.size,0,none⟩,1,1,[.string (au low)]⟩,⟨A2,n.keys.length,c2,aG n.keys⟩,⟨some ⟨wr.heap.size+1,0,none⟩,1,1,[.string (au high)]⟩] (wr.heap.size+2) 3 3 W rfl
       (by intro q hq;simp at hq;rcases hq with rfl|rfl|rfl;exact ZF;exact ZE;exact hq3) (by simp[bP];omega) (by omega) (by omega)
       (by
         intro j q hj;match j,hj with
         | 0,hj=>simp at hj;subst hj;exact sG.cell 0
         | 1,hj=>simp at hj;subst hj;exact sG.cell 1
         | 2,hj=>simp at hj;subst hj;exact sG.cell 2
         | j+3,hj=>simp at hj))
      have e1:eO [⟨some ⟨wr.heap.size,0,none⟩,1,1,[.string (au low)]⟩,⟨A2,n.keys.length,c2,aG n.keys⟩,⟨some ⟨wr.heap.size+1,0,none⟩,1,1,[.string (au high)]⟩]=aG (low::n.keys ++ [high]):=by simp[eO,aG]
      have e2:bP [⟨some ⟨wr.heap.size,0,none⟩,1,1,[.string (au low)]⟩,⟨A2,n.keys.length,c2,aG n.keys⟩,⟨some ⟨wr.heap.size+1,0,none⟩,1,1,[.string (au high)]⟩]=n.keys.length+2:=by simp[bP];omega
      rw[e1,e2]at oG;have BU:=aa jR;have aiS:n.kids.length<=256:=by omega
      clear hd1 hO qg OM hhb sG ZF ZE hq3 e1 e2 jR uM ha2;go_wp2_with fail;rw[<-hW];refine oG.out.mono ?_;rintro e w4 ⟨BA,bc,rfl,aP,ib⟩;have TE:=aa aP;have Bl:=aa (BU.out.ag ib);obtain⟨q0,q1,q2,q3,x0,x1,x2,x3,lx⟩:=((Em.out.ext HE.out (qd.out _ (by omega))).ext (BU.out.ag ib) (fun h=>h)).p4;clear aP ib p0 p1 p2 p3 g0 g1 g2 g3 ln s1 sf sl lo hi Ni hh0 oG hW;go_wp2_with fail
      have AB:Hid (Rd w4 (On gs) 1 BA (low::n.keys ++ [high]).length (aG (low::n.keys ++ [high]))):=aa (by
       have h1:=Rd.jf TE.out (by omega);have h2:(low::n.keys ++ [high]).length=n.keys.length+2:=by simp
       rw[h2]
       exact h1.mono (by omega) (fun b _ hb=>by
        have e':b=gs:=hb;have h3:=BU.out.size;have h4:=Jw.out.lt;show b<_
        omega))
      have Eg:Hid ((low::n.keys ++ [high]).length=n.keys.length+2):=aa (by simp);have HBC:=aa (dX TE.out);have ah1:=aa (PE.out.ext Bl.out.of_no);have aij:=aa (Jw.out.ext Bl.out (fun h=>h));have aaz:=aa (BQ.out.ag Bl.out.of_no);have ahB:=aa (HWZ.out.ag Bl.out);have M4:=aa ((vQ.out.ext HE.out (qd.out _ (Nat.le_refl _))).ext Bl.out (fun h=>h));have HH4:=aa ((HH2.out.ext HE.out (qd.out _ (Nat.le_succ _))).ext Bl.out (fun h=>h));have HPZ:=aa (show p'<=80000 by have:=HPF.out;omega);obtain⟨T,hT⟩:∃T,T=n.kids.zip ((low::n.keys).zip (n.keys ++ [high])):=⟨_,rfl⟩;have HT:=aa hT;have hd2:=mE.out;rw[<-hT]at hd2;have yH:=aa hd2.symm;clear hT hd2 q0 q1 q2 q3 x0 x1 x2 x3 lx mE wR
      go_loopg [124] n.kids.length (fun gk kv wr2=>∃(K2 p2:Nat) (d2:Option Nat),K2+gk=n.kids.length/\kv=.int .i64 (K2:Int)/\Hid (ah (On gs) w4 wr2)/\ax wr2 gs 118 #[.int .i64 (p2:Int),.int .i64 (zn d2)] /\
       Hid (iI (fun kid lo hi s=>v.look j kid (deep+1) lo hi s) low high (decide (K2=0)) (T.drop K2) (p2,d2)=D)/\Hid (p2<=80000))
      case atStart=>exact⟨0,p',d,by omega,rfl,aa (ah.refl _ _),aij.out,yH,HPZ⟩
      case round =>
       obtain⟨K2,p2,d2,hK2,rfl,zI,acy,afD,YC⟩:=hrel;have adn:=aa acy;have wR:=aa hK2
       by_cases bu:K2<n.kids.length
       ·obtain⟨kid,lo,hi,t1,t2,t3,t4⟩:=YR (low:=low) (high:=high) adm.out bu
        rw[<-HT.out]at t4;have og:=EM (fun kid lo hi s=>v.look j kid (deep+1) lo hi s) low high T K2 kid lo hi (p2,d2) t4;rw[afD.out]at og;have AA:=aa og;obtain⟨kb,ko,BJ,_,c3k⟩:=(ah1.out.ext zI.out).kids.pU t1;subst BJ;have lk:=World.block_lt_of_cell? _ _ c3k;simp only at lk;obtain⟨bb,bo,hB,_,cb1⟩:=(AB.out.ext zI.out).rF t2;obtain⟨_,_,hB',_,cb2⟩:=(AB.out.ext zI.out).rF t3;rw[hB]at hB';injection hB' with hB';injection hB' with e1 e2;subst e1;subst e2;subst hB;have lbb:=World.block_lt_of_cell? _ _ cb1;simp only at lbb;have l1:=((M4.out.ext zI.out (qd.out _ (Nat.le_refl _)))).cell 0;have l2:=((HH4.out.ext zI.out (qd.out _ (Nat.le_succ _)))).cell 0;simp at l1 l2;have XR:=aa (HIN.out lo wr _ _ l1 l2);have jy:=aa (fun w' (e:ah No wr w')=>aih.out w' kid lo hi p2 d2 ((ahB.out.kR zI.out HGS.out).ag e) (adn.out.ext e (fun h=>h)) YC.out);have agT:n.keys.length+1=n.kids.length:=adm.out.symm;have QE:=HBC.out;have yE:(K2:Int)<(n.kids.length:Int):=by omega
        have Dw:(K2:Int)<(n.keys.length:Int)+2:=by omega
        have hi3:(K2:Int)+1<(n.keys.length:Int)+2:=by omega
        have hi4:IntKind.i64.wrap ((K2:Int)+1)=(K2:Int)+1:=IntWalk.i64_in _ (by omega);have hi5:(0:Int)<=(K2:Int)+1:=by omega
        have hdw:IntKind.i64.wrap ((deep:Int)+1)=(deep:Int)+1:=IntWalk.i64_in _ (by have:=HDP.out;omega);obtain⟨R,hR⟩:∃R,R=v.look j kid (deep+1) lo hi (p2,d2):=⟨_,rfl⟩;rw[<-hR]at jy;have HR:=aa hR;clear og t1 t2 t3 t4 hR acy hK2 QE agT
        by_cases Np:K2≠0/\qf low high lo=false
        ·have hDn:D=none:=by rw[AA.out,if_pos Np]
         subst hDn;obtain⟨hz,BG⟩:=Np;have Na:(0:Int)<(K2:Int):=by omega
         rw[BG]at XR;clear hz BG AA HR jy;go_wp2_with fail;refine XR.out.mono ?_;rintro e w5 ⟨rfl,rfl⟩;go_wp2_with fail;go_ret;exact⟨aaz.out.ag zI.out,rfl,_,_,adn.out⟩
        ·have dw:=AA.out
         rw[if_neg Np]at dw;have Sb:D=xB (fun kid lo hi s=>v.look j kid (deep+1) lo hi s) low high T (K2+1) R:=by rw[dw,HR.out]
         have TC:=aa Sb;have XK:=aa (jy.out wr.drew (ah.refl No wr).drew);rw[show((deep+1:Nat):Int)=(deep:Int)+1 from by omega]at XK;have hi6:bo+(K2+1)=bo+(K2+1):=rfl;have OO:K2=0\/(K2≠0/\qf low high lo=true):=by
          by_cases hz:K2=0
          ·exact .inl hz
          ·refine .inr ⟨hz,?_⟩
           cases BG:qf low high lo
           ·exact absurd ⟨hz,BG⟩ Np
           ·rfl
         clear dw Sb Np AA jy hi6;rcases OO with hz|⟨hz,BG⟩
         ·have Na:¬((0:Int)<(K2:Int)):=by omega
          clear hz XR;go_wp2_with fail;cases R with
          | none =>
           have hDn:D=none:=TC.out;subst hDn;clear TC HR;go_cut [23] (fun c23 wx=>c23=.int .i64 5/\Hid (ah (On gs) wr wx)/\Hid (∃p d:Int,ax wx gs 118 #[.int .i64 p,.int .i64 d]))
           case first =>
            go_region_law ((go_simp;go_at_call 94;refine XK.out.mono ?_;rintro e w9 ⟨jO,rfl,wM⟩;have qY:=aa jO;have En:=aa wM;clear jO wM))
            all_goals (
             go_wp2_with fail;go_meet
             exact⟨rfl,aa ((ah.refl (On gs) wr).drew.ag qY.out),En⟩)
           case rest =>
            obtain⟨rfl,qY,En⟩:=hcut;go_wp2_with fail;go_ret;obtain⟨pz,dz,hbz⟩:=En.out;exact⟨(aaz.out.ag zI.out).ag qY.out,rfl,pz,dz,hbz⟩
          | some st' =>
           obtain⟨p9,d9⟩:=st';go_cut [23] (fun c23 wx=>c23=.int .i64 0/\Hid (ah (On gs) wr wx)/\Hid (ax wx gs 118 #[.int .i64 (p9:Int),.int .i64 (zn d9)])/\Hid (p9<=80000))
           case first =>
            go_region_law ((go_simp;go_at_call 94;refine XK.out.mono ?_;rintro e w9 ⟨jO,rfl,wM,hp9⟩;have qY:=aa jO;have En:=aa wM;have HP9:=aa hp9;clear jO wM hp9))
            all_goals (
             go_wp2_with fail;go_meet
             exact⟨rfl,aa ((ah.refl (On gs) wr).drew.ag qY.out),En,HP9⟩)
           case rest =>
            obtain⟨rfl,qY,En,HP9⟩:=hcut;go_wp2_with fail;go_roundg (gk-1)
            case rel=>exact⟨K2+1,p9,d9,by have:=wR.out;omega,by go_num,aa (zI.out.ag qY.out),En.out,aa TC.out.symm,HP9⟩
            case measure=>have:=wR.out;omega
         ·have Na:(0:Int)<(K2:Int):=by omega
          rw[BG]at XR;clear hz BG;go_wp2_with fail;refine XR.out.mono ?_;rintro e w5 ⟨rfl,rfl⟩;go_wp2_with fail;cases R with
          | none =>
           have hDn:D=none:=TC.out;subst hDn;clear TC HR;go_cut [23] (fun c23 wx=>c23=.int .i64 5/\Hid (ah (On gs) wr wx)/\Hid (∃p d:Int,ax wx gs 118 #[.int .i64 p,.int .i64 d]))
           case first =>
            go_region_law ((go_simp;go_at_call 94;refine XK.out.mono ?_;rintro e w9 ⟨jO,rfl,wM⟩;have qY:=aa jO;have En:=aa wM;clear jO wM))
            all_goals (
             go_wp2_with fail;go_meet
             exact⟨rfl,aa ((ah.refl (On gs) wr).drew.ag qY.out),En⟩)
           case rest =>
            obtain⟨rfl,qY,En⟩:=hcut;go_wp2_with fail;go_ret;obtain⟨pz,dz,hbz⟩:=En.out;exact⟨(aaz.out.ag zI.out).ag qY.out,rfl,pz,dz,hbz⟩
          | some st' =>
           obtain⟨p9,d9⟩:=st';go_cut [23] (fun c23 wx=>c23=.int .i64 0/\Hid (ah (On gs) wr wx)/\Hid (ax wx gs 118 #[.int .i64 (p9:Int),.int .i64 (zn d9)])/\Hid (p9<=80000))
           case first =>
            go_region_law ((go_simp;go_at_call 94;refine XK.out.mono ?_;rintro e w9 ⟨jO,rfl,wM,hp9⟩;have qY:=aa jO;have En:=aa wM;have HP9:=aa hp9;clear jO wM hp9))
            all_goals (
             go_wp2_with fail;go_meet
             exact⟨rfl,aa ((ah.refl (On gs) wr).drew.ag qY.out),En,HP9⟩)
           case rest =>
            obtain⟨rfl,qY,En,HP9⟩:=hcut;go_wp2_with fail;go_roundg (gk-1)
            case rel=>exact⟨K2+1,p9,d9,by have:=wR.out;omega,by go_num,aa (zI.out.ag qY.out),En.out,aa TC.out.symm,HP9⟩
            case measure=>have:=wR.out;omega
       ·have hK:K2=n.kids.length:=by omega
        have bY:T.length=n.kids.length:=by rw[HT.out];simp[adm.out]
        have Nh:=afD.out;rw[List.drop_eq_nil_of_le (by omega),iI]at Nh;subst Nh;have lY:¬((K2:Int)<(n.kids.length:Int)):=by omega
        obtain⟨p0,p1,p2',p3,g0,g1,g2,g3,ln⟩:=(((Em.out.ext HE.out (qd.out _ (by omega))).ext Bl.out (fun h=>h)).ext zI.out (qd.out _ (by omega))).p4;clear bu bY hK acy hK2;go_wp2_with fail;go_ret;exact⟨aaz.out.ag zI.out,rfl,adn.out,YC.out⟩
theorem KR (s:bH) (hs:s.Ok) (wz:World) (v:V) (hz:aD wz s v) (hg:v.Good) (gx i:Nat) (Vt:ax wz gx 70 (av s i)) (gs:Nat) (Qy:wz.heap.size<=gs):∀(k deep:Nat),k+deep=42->Px s v wz gx gs k deep
 | 0,deep,h=>FZ s hs wz v hz hg gx i Vt gs Qy 0 deep h (fun j hj=>by omega)
 | k+1,deep,h=>FZ s hs wz v hz hg gx i Vt gs Qy (k+1) deep h (fun j hj=>by
  have:j=k:=by omega
  subst this
  exact KR s hs wz v hz hg gx i Vt gs Qy j (deep+1) (by omega))
def MK (w:World) (r:Option (Nat×Option Nat)) (e:Ending) (w':World):Prop :=
 ah No w w'/\match r with
  | none=>∃p d:Int,e=.returned (.tuple #[.agg #[.int .i64 p,.int .i64 d],.int .i64 5])
  | some (p,d)=>e=.returned (.tuple #[.agg #[.int .i64 (p:Int),.int .i64 (zn d)],.int .i64 0])/\p<=80000
theorem J6 (s:bH) (hs:s.Ok) (w:World) (v:V) (h:aD w s v) (hg:v.Good) (gx i:Nat) (hx:ax w gx 70 (av s i)) (hi:i<4) (h0:v.r i≠0) :
  Calls Tryz.prog 58 #[.pointer (some ⟨gx,0,none⟩)] w (MK w (v.look 42 (v.r i) 0 [] [] (0,none))):=by
 have HN:=aa (fun w' (e:ah No w w')=>mJ ⟨s.t,0,none⟩ (.int .i64 (i:Int)) gx w' (hx.ext e (fun h=>h)));have HA:=aa (fun w' (e:ah No w w')=>qc s hs w' v (h.no hs e) gx i (hx.ext e (fun h=>h)));have HR:=aa (fun w' (e:ah No w w')=>mG s hs w' v (h.no hs e) gx i (hx.ext e (fun h=>h)) hi);have o8:=aa (fun w' (e:ah No w w') (VD:ax w' (w.heap.size+1) 118 #[.int .i64 0,.int .i64 (-1)])=>KR s hs w v h hg gx i hx (w.heap.size+1) (Nat.le_succ _) 42 0 rfl w' (v.r i) [] [] 0 none e VD (by omega));have h0':((v.r i:Int)==0)=false:=by simpa using (by omega:¬(v.r i:Int)=0)
 obtain⟨R,hR⟩:∃R,R=v.look 42 (v.r i) 0 [] [] (0,none):=⟨_,rfl⟩;rw[<-hR]at o8 ⊢;obtain⟨rt,hrt⟩:∃rt,rt=v.r i:=⟨_,rfl⟩;rw[<-hrt]at HR o8 h0';clear h hg hx h0 hrt hR;go_enter Tryz.func58,Tryz.ntmps58;go_wp2_with fail;have sj:ah No w ((w.alloc (.cells #[.int .i64 0,.int .i64 0] 118)).alloc (.cells #[.int .i64 0,.int .i64 (-1)] 118)):=((ah.refl No w).alloc _).alloc _;refine(HN.out _ (by(repeat' (first|exact ah.refl _ _|assumption|apply ah.alloc|apply ah.drewN|apply ah.drew|refine ah.ai ?_ (by first|omega|(simp;omega)|simp) _ _|refine ah.ay ?_ (by first|exact Or.inl rfl|exact Or.inr rfl|rfl) _ _|refine ah.ag ?_ (by assumption)|refine ah.ag ?_ (ah.of_no (by assumption)))))).mono ?_;rintro e w1 ⟨rfl,rfl⟩;go_wp2_with fail;refine(HA.out _ (by(repeat' (first|exact ah.refl _ _|assumption|apply ah.alloc|apply ah.drewN|apply ah.drew|refine ah.ai ?_ (by first|omega|(simp;omega)|simp) _ _|refine ah.ay ?_ (by first|exact Or.inl rfl|exact Or.inr rfl|rfl) _ _|refine ah.ag ?_ (by assumption)|refine ah.ag ?_ (ah.of_no (by assumption)))))).mono ?_;rintro e w2 ⟨rfl,aH⟩;have kG:=sj.ag aH;have ba:=((ax.new w 118 #[.int .i64 0,.int .i64 0]).alloc (.cells #[.int .i64 0,.int .i64 (-1)] 118)).ext aH (fun h=>h);have bb:=(ax.aS (b:=w.heap.size+1) (w.alloc (.cells #[.int .i64 0,.int .i64 0] 118)) 118 #[.int .i64 0,.int .i64 (-1)] (by simp)).ext aH (fun h=>h);have fQ:=aa kG;have BA:=aa ba;have BB:=aa bb;clear sj aH kG ba bb;go_wp2_with fail;refine(HR.out _ fQ.out).mono ?_;rintro e w3 ⟨rfl,bC⟩;go_wp2_with fail;refine(HR.out _ (fQ.out.ag bC)).mono ?_;rintro e w4 ⟨rfl,ib⟩;have Yp:=(fQ.out.ag bC).ag ib;have bb4:=(BB.out.ext bC (fun h=>h)).ext ib (fun h=>h);have ba4:=(BA.out.ext bC (fun h=>h)).ext ib (fun h=>h);have HL:=aa (o8.out w4 Yp bb4);have Q0:=aa Yp;have BA4:=aa ba4;clear bC ib Yp bb4 ba4;cases R with
 | none =>
  go_wp2_with fail;refine(HL.out).mono ?_;rintro e w5 ⟨bU,rfl,pz,dz,Xm⟩
  have GY:=BA4.out.ext bU (fun h=>by
   have h':w.heap.size=w.heap.size+1:=h
   omega)
  have xN:=Q0.out.kR bU (Nat.le_succ _);have a0:=GY.cell 0;have a1:=GY.cell 1;have af:=GY.frozen;have al:=GY.lt;have b0:=Xm.cell 0;have b1:=Xm.cell 1;simp at a0 a1 b0 b1;have BA5:=aa GY;have Bo:=aa xN;clear Xm bU GY xN;go_wp2_with fail;exact nV w.heap.size _ ((BA5.out.aQ 0 (.int .i64 pz)).aQ 1 (.int .i64 dz)) rfl rfl rfl rfl ⟨(Bo.out.ai (Nat.le_refl _) _ _).ai (Nat.le_refl _) _ _,pz,dz,rfl⟩
 | some r =>
  obtain⟨pz,dz⟩:=r;go_wp2_with fail;refine(HL.out).mono ?_;rintro e w5 ⟨bU,rfl,Xm,hpz⟩
  have GY:=BA4.out.ext bU (fun h=>by
   have h':w.heap.size=w.heap.size+1:=h
   omega)
  have xN:=Q0.out.kR bU (Nat.le_succ _);have a0:=GY.cell 0;have a1:=GY.cell 1;have af:=GY.frozen;have al:=GY.lt;have b0:=Xm.cell 0;have b1:=Xm.cell 1;simp at a0 a1 b0 b1;have BA5:=aa GY;have Bo:=aa xN;have HPZ:=aa hpz;clear Xm bU GY xN hpz;go_wp2_with fail;exact nV w.heap.size _ ((BA5.out.aQ 0 (.int .i64 (pz:Int))).aQ 1 (.int .i64 (zn dz))) rfl rfl rfl rfl ⟨(Bo.out.ai (Nat.le_refl _) _ _).ai (Nat.le_refl _) _ _,rfl,HPZ.out⟩
theorem NG (s:bH) (hs:s.Ok) (w:World) (v:V) (h:aD w s v) (hg:v.Good) (gx i:Nat) (hx:ax w gx 70 (av s i)) (hi:i<4) :
  Calls Tryz.prog 58 #[.pointer (some ⟨gx,0,none⟩)] w (MK w (v.qx i)):=by
 by_cases h0:v.r i=0
 ·have e:v.qx i=some (0,none):=by unfold V.qx;rw[if_pos h0]
  rw[e];refine(zQ s hs w v h gx i hx hi h0).mono ?_;rintro e w' ⟨he,JD⟩;exact⟨JD,he,by omega⟩
 ·have e:v.qx i=v.look 42 (v.r i) 0 [] [] (0,none):=by unfold V.qx;rw[if_neg h0]
  rw[e];exact J6 s hs w v h hg gx i hx hi h0
def V.check (v:V) (root:Nat):Nat:=if (v.qx root).isSome then 0 else 5
theorem Pg (s:bH) (hs:s.Ok) (w:World) (v:V) (h:aD w s v) (hg:v.Good) (gx i:Nat) (hx:ax w gx 70 (av s i)) (hi:i<4) :
  Calls Tryz.prog 22 #[.pointer (some ⟨gx,0,none⟩)] w fun e w'=>e=.returned (.int .i64 (v.check i:Int))/\ah No w w':=by
 have HS:=aa (NG s hs w v h hg gx i hx hi);unfold V.check;generalize v.qx i=R at *;clear h hg hx;cases R with
 | none =>
  go_enter Tryz.func22,Tryz.ntmps22;go_wp2_with fail;refine(HS.out).mono ?_;rintro e w1 ⟨aT,p,d,rfl⟩;go_wp2_with fail;go_ret;exact⟨rfl,by(repeat' (first|exact ah.refl _ _|assumption|apply ah.alloc|apply ah.drewN|apply ah.drew|refine ah.ai ?_ (by first|omega|(simp;omega)|simp) _ _|refine ah.ay ?_ (by first|exact Or.inl rfl|exact Or.inr rfl|rfl) _ _|refine ah.ag ?_ (by assumption)|refine ah.ag ?_ (ah.of_no (by assumption))))⟩
 | some r =>
  obtain⟨p,d⟩:=r;go_enter Tryz.func22,Tryz.ntmps22;go_wp2_with fail;refine(HS.out).mono ?_;rintro e w1 ⟨aT,rfl,_⟩;go_wp2_with fail;go_ret;exact⟨rfl,by(repeat' (first|exact ah.refl _ _|assumption|apply ah.alloc|apply ah.drewN|apply ah.drew|refine ah.ai ?_ (by first|omega|(simp;omega)|simp) _ _|refine ah.ay ?_ (by first|exact Or.inl rfl|exact Or.inr rfl|rfl) _ _|refine ah.ag ?_ (by assumption)|refine ah.ag ?_ (ah.of_no (by assumption))))⟩
theorem vN.start {s:bH}{w:World}{p:Nat}(hF:abC w s p) (h:p<=4000) (h1:1<=p) (i:Nat):vN s.cap v0 i [] [] []:=by
 refine⟨⟨PZ,by rw[hF.cap];exact h1,by rw[hF.cap];omega⟩,.inl ⟨rfl,rfl,rfl⟩,by simp,fun p=>?_,by simp⟩;rw[V.dH];simp only[List.append_nil,List.not_mem_nil,iff_false];intro ⟨h1,h2,_⟩;have:v0.high=1:=rfl;omega
end Go.Proofs.YtccnemmlkcmceaaGreatDoor
