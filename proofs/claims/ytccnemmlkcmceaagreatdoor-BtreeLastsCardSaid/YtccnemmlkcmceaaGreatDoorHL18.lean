/- Proofs about the given program, joined out of the texts J3, J4, J5, JA, VB. -/
import Derived.Test.YtccnemmlkcmceaaGreatDoorHL16
set_option linter.unusedVariables false
set_option linter.unusedSimpArgs false
set_option maxRecDepth 100000
set_option maxHeartbeats 6400000
namespace Go.Proofs.YtccnemmlkcmceaaGreatDoor
open Go.RowKit
theorem Ld (l r:Nd) (key:Bs) (w:World) (F:Nat->Prop) (a b:jT) (hl:aU w F a l) (hr:aU w F b r) (l_:key.length<65536) (xH:l.ok=true) (Lr:r.ok=true) (bL:l.leaf=false) (Eo:r.leaf=false) :
  Calls Tryz.prog 188 #[l.value a.A1 a.c1 a.A2 a.c2 a.A3 a.c3,r.value b.A1 b.c1 b.A2 b.c2 b.A3 b.c3,.string (au key)] w (yt w (if (l.glue r key).ok then some (l.glue r key)else none)):=by
 have Uh:=Nd.Ok.of xH;have hOr:=Nd.Ok.of Lr;have yF:=Nd.Ok.fits Uh;have qh:=Nd.Ok.fits hOr;have HL:=aa (fun w' (e:ah No w w')=>dG l w' F _ _ _ _ _ _ (hl.ext e.of_no) yF);have HR:=aa (fun w' (e:ah No w w')=>dG r w' F _ _ _ _ _ _ (hr.ext e.of_no) qh);rw[Nd.jh xH]at HL;rw[Nd.jh Lr]at HR;have hgf:=Nd.Gp (key:=key) yF qh l_;have hg:l.glue r key=⟨false,l.cells++r.cells,l.keys++key::r.keys,l.kids++r.kids⟩:=by unfold Nd.glue;rw[if_neg (by rw[bL];simp)]
 have HC:=aa (fun w' F A1 c1 A2 c2 A3 c3 hn=>dG (l.glue r key) w' F A1 c1 A2 c2 A3 c3 hn hgf);rw[hg]at HC ⊢;have lY:l.cells.length<=255:=Uh.a1;have vo:r.cells.length<=255:=hOr.a1;have j_:l.keys.length<=255:=Uh.a2;have lJ:r.keys.length<=255:=hOr.a2;have yE:l.kids.length<=256:=by rw[(Uh.br bL).2];omega
 have Dw:r.kids.length<=256:=by rw[(hOr.br Eo).2];omega
 have HPK:Hid (∀w',ah No w w'->dC.Ok w' 1 ⟨a.A2,l.keys.length,a.c2,aG l.keys⟩/\dC.Ok w' 1 ⟨b.A2,r.keys.length,b.c2,aG r.keys⟩):=aa (fun w' e =>
  ⟨⟨(hl.keys.mono (G:=No) (by omega) (fun _ _ h=>h.elim)).ext e,hl.e2,lU _,hl.l2⟩,⟨(hr.keys.mono (G:=No) (by omega) (fun _ _ h=>h.elim)).ext e,hr.e2,lU _,hr.l2⟩⟩)
 have HPI:Hid (∀w',ah No w w'->dC.Ok w' 1 ⟨a.A3,l.kids.length,a.c3,aK l.kids⟩/\dC.Ok w' 1 ⟨b.A3,r.kids.length,b.c3,aK r.kids⟩):=aa (fun w' e =>
  ⟨⟨(hl.kids.mono (G:=No) (by omega) (fun _ _ h=>h.elim)).ext e,hl.e3,pK _,hl.l3⟩,⟨(hr.kids.mono (G:=No) (by omega) (fun _ _ h=>h.elim)).ext e,hr.e3,pK _,hr.l3⟩⟩)
 have HPC:Hid (∀w',ah No w w'->dC.Ok w' 4 ⟨a.A1,l.cells.length,a.c1,aC l.cells⟩/\dC.Ok w' 4 ⟨b.A1,r.cells.length,b.c1,aC r.cells⟩):=aa (fun w' e =>
  ⟨⟨(hl.cells.mono (G:=No) (by omega) (fun _ _ h=>h.elim)).ext e,hl.e1,iV _,hl.l1⟩,⟨(hr.cells.mono (G:=No) (by omega) (fun _ _ h=>h.elim)).ext e,hr.e1,iV _,hr.l1⟩⟩)
 obtain⟨L,hL⟩:∃L,L=l.cells++r.cells:=⟨_,rfl⟩;have hLV:aC l.cells++aC r.cells=aC L:=by rw[hL,gT]
 have hLL:L.length=l.cells.length+r.cells.length:=by rw[hL];simp
 rw[<-hL]at HC ⊢;obtain⟨K,hK⟩:∃K,K=l.keys++key::r.keys:=⟨_,rfl⟩;have hKV:aG l.keys++(.string (au key)::aG r.keys)=aG K:=by rw[hK];simp[aG]
 have hKL:K.length=l.keys.length+(r.keys.length+1):=by rw[hK];simp
 rw[<-hK]at HC ⊢;obtain⟨I,hI⟩:∃I,I=l.kids++r.kids:=⟨_,rfl⟩;have hIV:aK l.kids++aK r.kids=aK I:=by rw[hI];simp[aK]
 have hIL:I.length=l.kids.length+r.kids.length:=by rw[hI];simp
 rw[<-hI]at HC ⊢;generalize nH:(if (⟨false,L,K,I⟩:Nd).ok=true then some (⟨false,L,K,I⟩:Nd)else none)=D at ⊢;have HD:=aa nH;clear nH;obtain⟨A1,c1,A2,c2,A3,c3⟩:=a;obtain⟨B1,d1,B2,d2,B3,d3⟩:=b;simp only[Nd.value,bL,Eo,List.length_nil]at HL HR HC HPC HPK HPI ⊢;generalize l.keys.length=n2 at *;generalize l.kids.length=n3 at *;generalize r.keys.length=m2 at *;generalize r.kids.length=m3 at *;have sj:ah No w (((w.alloc (.cells #[.bool false,.slice A1 l.cells.length c1,.slice A2 n2 c2,.slice A3 n3 c3] 40)).alloc (.cells #[.bool false,.slice B1 r.cells.length d1,.slice B2 m2 d2,.slice B3 m3 d3] 40)).alloc (.cells #[.bool false,.slice none 0 0,.slice none 0 0,.slice none 0 0] 40)):=(((ah.refl No w).alloc _).alloc _).alloc _;have bl0:ax (((w.alloc (.cells #[.bool false,.slice A1 l.cells.length c1,.slice A2 n2 c2,.slice A3 n3 c3] 40)).alloc (.cells #[.bool false,.slice B1 r.cells.length d1,.slice B2 m2 d2,.slice B3 m3 d3] 40)).alloc (.cells #[.bool false,.slice none 0 0,.slice none 0 0,.slice none 0 0] 40)) w.heap.size 40 #[.bool false,.slice A1 l.cells.length c1,.slice A2 n2 c2,.slice A3 n3 c3]:=((ax.new w 40 _).alloc _).alloc _;have br0:ax (((w.alloc (.cells #[.bool false,.slice A1 l.cells.length c1,.slice A2 n2 c2,.slice A3 n3 c3] 40)).alloc (.cells #[.bool false,.slice B1 r.cells.length d1,.slice B2 m2 d2,.slice B3 m3 d3] 40)).alloc (.cells #[.bool false,.slice none 0 0,.slice none 0 0,.slice none 0 0] 40)) (w.heap.size+1) 40 #[.bool false,.slice B1 r.cells.length d1,.slice B2 m2 d2,.slice B3 m3 d3]:=(ax.aS (b:=w.heap.size+1) (w.alloc _) 40 _ (by simp)).alloc _;have bs0:ax (((w.alloc (.cells #[.bool false,.slice A1 l.cells.length c1,.slice A2 n2 c2,.slice A3 n3 c3] 40)).alloc (.cells #[.bool false,.slice B1 r.cells.length d1,.slice B2 m2 d2,.slice B3 m3 d3] 40)).alloc (.cells #[.bool false,.slice none 0 0,.slice none 0 0,.slice none 0 0] 40)) (w.heap.size+2) 40 #[.bool false,.slice none 0 0,.slice none 0 0,.slice none 0 0]:=ax.aS (b:=w.heap.size+2) ((w.alloc _).alloc _) 40 _ (by simp);have uB:=aa sj;have JQ:=aa bl0;have PR:=aa br0;have yI:=aa bs0;generalize l.cells.length=n1 at *;generalize r.cells.length=m1 at *;have lL:=aa hLL;have HLV:=aa hLV;have AJ:=aa hKL;have HKV:=aa hKV;have HIL:=aa hIL;have HIV:=aa hIV;generalize aG l.keys=kx at *;generalize aG r.keys=ky at *;generalize aK l.kids=ix at *;generalize aK r.kids=iy at *;generalize aC l.cells=xs at *;generalize aC r.cells=ys at *;clear hl hr yF qh sj bl0 br0 bs0 Uh hOr hgf hg hL hLL hLV hK hKL hKV hI hIL hIV xH Lr bL Eo;go_enter Tryz.func188,Tryz.ntmps188;go_wp2_with fail;refine(HL.out _ uB.out).mono ?_;rintro e w1 ⟨rfl,aT⟩;have JN:=PR.out.ext aT (fun h=>h);obtain⟨p0,p1,p2,p3,g0,g1,g2,g3,ln⟩:=JN.p4;go_wp2_with fail;refine(HR.out _ (uB.out.ag aT)).mono ?_;rintro e w2 ⟨rfl,aH⟩;clear p0 p1 p2 p3 g0 g1 g2 g3 ln;have bl2:=(JQ.out.ext aT (fun h=>h)).ext aH (fun h=>h);have GR:=JN.ext aH (fun h=>h);have bs2:=(yI.out.ext aT (fun h=>h)).ext aH (fun h=>h);have kG:=(uB.out.ag aT).ag aH
 have lr:=bs2.lt;obtain⟨p0,p1,p2,p3,g0,g1,g2,g3,ln⟩:=bl2.p4;obtain⟨q0,q1,q2,q3,f0,f1,f2,f3,lq⟩:=GR.p4;have fQ:=aa kG;have bs3:=bs2
 have oG:Hid (∀g W,ah No w2 W->ax W g 37 #[.slice A1 n1 c1,.slice B1 m1 d1]->Calls Tryz.prog 147 #[.slice (some ⟨g,0,none⟩) 2 2] W (zu 45 4 W (aC L) L.length)):=aa (fun g W jR sG=>by
  obtain⟨Lu,Qp⟩:=HPC.out W (fQ.out.ag jR);have h:=kC [⟨A1,n1,c1,xs⟩,⟨B1,m1,d1,ys⟩] g 2 2 W rfl
   (by intro p hp;simp at hp;rcases hp with rfl|rfl;exact Lu;exact Qp) (by rw[pq];omega) (by omega) (by omega)
   (by
     intro j p hj;match j,hj with
     | 0,hj=>simp at hj;subst hj;exact sG.cell 0
     | 1,hj=>simp at hj;subst hj;exact sG.cell 1
     | j+2,hj=>simp at hj)
  rw[wm,pq,HLV.out,<-lL.out]at h
  exact h)
 have Gl:L.length<65536:=by rw[lL.out];omega
 have Eg:=aa Gl;clear aT aH kG HPC HLV;generalize hLn:L.length=Oh at *;generalize hKn:K.length=R5 at *;generalize hIn:I.length=Vo at *;clear Gl;go_wp2_with fail;go_cut [8] (fun v wx=>∃(b8:Nat) (A:Option Addr) (cc:Nat),v=.pointer (some ⟨b8,0,none⟩)/\ax wx b8 40 #[.bool false,.slice A Oh cc,.slice none 0 0,.slice none 0 0]/\w2.heap.size<=b8/\Rd wx (fun b=>b<w2.heap.size\/b=b8) 4 A Oh (aC L)/\Oh<=cc/\(A=none->cc=0)/\ah No w2 wx)
 case first =>
  have ne1:¬(w.heap.size=w2.heap.size):=by omega
  have ne2:¬(w.heap.size=w2.heap.size+1):=by omega
  have ne3:¬(w2.heap.size=w.heap.size):=by omega
  have ne4:¬(w2.heap.size+1=w.heap.size):=by omega
  have ne5:¬(w.heap.size+1=w2.heap.size):=by omega
  have ne6:¬(w.heap.size+1=w2.heap.size+1):=by omega
  have ne7:¬(w2.heap.size=w.heap.size+1):=by omega
  have ne8:¬(w2.heap.size+1=w.heap.size+1):=by omega
  go_region_held3 (fun w'=>w'.cell? ⟨w.heap.size,0,none⟩=some (.bool false)/\w'.cell? ⟨w.heap.size,1,none⟩=some (.slice A1 n1 c1)/\w'.cell? ⟨w.heap.size+1,1,none⟩=some (.slice B1 m1 d1)) (go_keep)
   ((
    go_at_call 147;first
    | (with_reducible (refine(oG.out (w2.heap.size) (w2.alloc (.cells #[.slice A1 n1 c1,.slice B1 m1 d1] 37)).drew ?_ ?_).mono ?_);exact((ah.refl No w2).alloc (.cells #[.slice A1 n1 c1,.slice B1 m1 d1] 37)).drew;exact(ax.new w2 37 _).cO;intro e w3 hh;unfold zu at hh;obtain⟨A,cc,he,aP,bC⟩:=hh;subst he;have HO:=aa aP;have fC:=(((ah.refl No w2).alloc (.cells #[.slice A1 n1 c1,.slice B1 m1 d1] 37)).drew).ag bC;have iF:=aa fC;have HY3:=aa bC;have k0:=aj fC p0 (fun h=>h);have k1:=aj fC p1 (fun h=>h);have k2:=aj fC q1 (fun h=>h);have n11:¬(w.heap.size+1=w3.heap.size):=(by have:=fC.size;omega);have n12:¬(w3.heap.size=w.heap.size+1):=(by have:=fC.size;omega);have ne9:¬(w.heap.size=w3.heap.size):=(by have:=fC.size;omega);have n10:¬(w3.heap.size=w.heap.size):=(by have:=fC.size;omega);clear aP bC fC)
    | (with_reducible (refine(oG.out (w2.heap.size) ((w2.alloc (.cells #[.slice A1 n1 c1,.slice B1 m1 d1] 37)).alloc (.cells #[.bool false,.slice none 0 0,.slice none 0 0,.slice none 0 0] 40)).drew ?_ ?_).mono ?_);exact(((ah.refl No w2).alloc (.cells #[.slice A1 n1 c1,.slice B1 m1 d1] 37)).alloc (.cells #[.bool false,.slice none 0 0,.slice none 0 0,.slice none 0 0] 40)).drew;exact((ax.new w2 37 _).alloc _).cO;intro e w3 hh;unfold zu at hh;obtain⟨A,cc,he,aP,bC⟩:=hh;subst he;have HO:=aa aP;have fC:=((((ah.refl No w2).alloc (.cells #[.slice A1 n1 c1,.slice B1 m1 d1] 37)).alloc (.cells #[.bool false,.slice none 0 0,.slice none 0 0,.slice none 0 0] 40)).drew).ag bC;have iF:=aa fC;have HY3:=aa bC;have k0:=aj fC p0 (fun h=>h);have k1:=aj fC p1 (fun h=>h);have k2:=aj fC q1 (fun h=>h);have n11:¬(w.heap.size+1=w3.heap.size):=(by have:=fC.size;omega);have n12:¬(w3.heap.size=w.heap.size+1):=(by have:=fC.size;omega);have ne9:¬(w.heap.size=w3.heap.size):=(by have:=fC.size;omega);have n10:¬(w3.heap.size=w.heap.size):=(by have:=fC.size;omega);have b8:=ax.aY bC ((ax.aS (b:=w2.heap.size+1) (w2.alloc (.cells #[.slice A1 n1 c1,.slice B1 m1 d1] 37)) 40 #[.bool false,.slice none 0 0,.slice none 0 0,.slice none 0 0] (by simp)).cO) (fun h=>h);have JR:=aa b8;obtain⟨t0,t1,t2,t3,u0,u1,u2,u3,lt⟩:=b8.p4;clear b8;clear aP bC fC)
    | (with_reducible (refine(oG.out (w2.heap.size+1) ((w2.alloc (.cells #[.bool false,.slice none 0 0,.slice none 0 0,.slice none 0 0] 40)).alloc (.cells #[.slice A1 n1 c1,.slice B1 m1 d1] 37)).drew ?_ ?_).mono ?_);exact(((ah.refl No w2).alloc (.cells #[.bool false,.slice none 0 0,.slice none 0 0,.slice none 0 0] 40)).alloc (.cells #[.slice A1 n1 c1,.slice B1 m1 d1] 37)).drew;exact(ax.aS (b:=w2.heap.size+1) (w2.alloc _) 37 _ (by simp)).cO;intro e w3 hh;unfold zu at hh;obtain⟨A,cc,he,aP,bC⟩:=hh;subst he;have HO:=aa aP;have fC:=((((ah.refl No w2).alloc (.cells #[.bool false,.slice none 0 0,.slice none 0 0,.slice none 0 0] 40)).alloc (.cells #[.slice A1 n1 c1,.slice B1 m1 d1] 37)).drew).ag bC;have iF:=aa fC;have HY3:=aa bC;have k0:=aj fC p0 (fun h=>h);have k1:=aj fC p1 (fun h=>h);have k2:=aj fC q1 (fun h=>h);have n11:¬(w.heap.size+1=w3.heap.size):=(by have:=fC.size;omega);have n12:¬(w3.heap.size=w.heap.size+1):=(by have:=fC.size;omega);have ne9:¬(w.heap.size=w3.heap.size):=(by have:=fC.size;omega);have n10:¬(w3.heap.size=w.heap.size):=(by have:=fC.size;omega);have b8:=ax.aY bC (((ax.new w2 40 #[.bool false,.slice none 0 0,.slice none 0 0,.slice none 0 0]).alloc _).cO) (fun h=>h);have JR:=aa b8;obtain⟨t0,t1,t2,t3,u0,u1,u2,u3,lt⟩:=b8.p4;clear b8;clear aP bC fC)))
  all_goals (
   go_wp2_with fail;go_meet
   first
   | (with_reducible (refine GI HO.out ?_ iF.out));(first|exact(((ah.refl No w2).alloc _).drew).size|exact((((ah.refl No w2).alloc _).alloc _).drew).size)
   | (with_reducible (refine DZ HO.out ?_ iF.out JR.out ?_ ?_));(exact((((ah.refl No w2).alloc _).alloc _).drew).size);omega;(show _<((w2.alloc _).alloc _).heap.size;simp <;> omega))
 case rest =>
  obtain⟨b8,A,cc,rfl,bn,hb8,AY,Gg,pW,bC⟩:=hcut;obtain⟨t0,t1,t2,t3,u0,u1,u2,u3,lt⟩:=bn.p4;have bs3:=bs2.ext bC (fun h=>h);have bl3:=bl2.ext bC (fun h=>h);have Ui:=GR.ext bC (fun h=>h);have fC:=fQ.out.ag bC;have hw:w.heap.size+2<w2.heap.size:=lr;clear p0 p1 p2 p3 g0 g1 g2 g3 ln q0 q1 q2 q3 f0 f1 f2 f3 lq bl2 GR bs2 JN lr;obtain⟨p0,p1,p2,p3,g0,g1,g2,g3,ln⟩:=bl3.p4;obtain⟨q0,q1,q2,q3,f0,f1,f2,f3,lq⟩:=Ui.p4;obtain⟨W,hW⟩:∃W,W=((wc.alloc (.cells #[.string (au key)] 9)).alloc (.cells #[.slice A2 n2 c2,.slice (some ⟨wc.heap.size,0,none⟩) 1 1,.slice B2 m2 d2] 38)):=⟨_,rfl⟩;have jR:ah No wc W:=by rw[hW];exact((ah.refl No wc).alloc _).alloc _
  have Yd:ax W wc.heap.size 9 #[.string (au key)]:=by rw[hW];exact(ax.new wc 9 _).alloc _
  have sG:ax W (wc.heap.size+1) 38 #[.slice A2 n2 c2,.slice (some ⟨wc.heap.size,0,none⟩) 1 1,.slice B2 m2 d2]:=by rw[hW];exact ax.aS (b:=wc.heap.size+1) (wc.alloc _) 38 _ (by simp)
  obtain⟨Lu,Qp⟩:=HPK.out W (fC.ag jR);have hp3:dC.Ok W 1 ⟨some ⟨wc.heap.size,0,none⟩,1,1,[.string (au key)]⟩:=⟨⟨rfl,fun _=>⟨_,_,rfl,(fun h=>h),fun j u hu=>by rw[Nat.zero_add,Yd.cell j];simpa using hu⟩⟩,(fun h=>by cases h),(fun u hu=>by simp at hu;subst hu;rfl),Nat.le_refl _⟩
  have wR:=aa (um [⟨A2,n2,c2,kx⟩,⟨some ⟨wc.heap.size,0,none⟩,1,1,[.string (au key)]⟩,⟨B2,m2,d2,ky⟩] (wc.heap.size+1) 3 3 W rfl
   (by intro p hp;simp at hp;rcases hp with rfl|rfl|rfl;exact Lu;exact hp3;exact Qp) (by simp[bP];omega) (by omega) (by omega)
   (by
     intro j p hj;match j,hj with
     | 0,hj=>simp at hj;subst hj;exact sG.cell 0
     | 1,hj=>simp at hj;subst hj;exact sG.cell 1
     | 2,hj=>simp at hj;subst hj;exact sG.cell 2
     | j+3,hj=>simp at hj))
  have e1:eO [⟨A2,n2,c2,kx⟩,⟨some ⟨wc.heap.size,0,none⟩,1,1,[.string (au key)]⟩,⟨B2,m2,d2,ky⟩]=aG K:=by rw[<-HKV.out];simp[eO]
  have e2:bP [⟨A2,n2,c2,kx⟩,⟨some ⟨wc.heap.size,0,none⟩,1,1,[.string (au key)]⟩,⟨B2,m2,d2,ky⟩]=R5:=by rw[AJ.out];simp[bP];omega
  rw[e1,e2]at wR;have BU:=aa jR;have hWs:wc.heap.size<=W.heap.size:=jR.size;have HWS:=aa hWs;clear Lu Qp hp3 e1 e2 Yd sG jR hWs;subst hW;have wH:=aa bn;have af7:=aa bl3;have af3:=aa Ui;have adw:=aa bs3;have qi:=aa fC;have AB:=aa AY;have YI:=aa hw;have mQ:=aa lt;have JR:=aa hb8;have iF:=aa bC;clear bn bl3 Ui bs3 fC AY hw bC;go_wp2_with fail;refine wR.out.mono ?_;rintro e w4 ⟨KA,kc,rfl,aP,ib⟩;have Ow:=BU.out.ag ib;have bn4:=wH.out.ext Ow (fun h=>h);have hkr:=Rd.jf aP (by omega);have Nk:=dX aP;have Ub:=dA aP;have hkr:Rd (w4.setCell ⟨b8,2,none⟩ (.slice KA R5 kc)) (fun b=>b<wc.heap.size) 1 KA R5 (aG K):=(hkr.mono (G:=fun b=>b<wc.heap.size) (by omega) (fun b _ hb=>Nat.lt_of_lt_of_le hb HWS.out)).ext (ah.ay (F:=fun b=>b<wc.heap.size) (b:=b8) (ah.refl _ w4) mQ.out 2 _);have xN:ah (fun b=>b=b8) wc (w4.setCell ⟨b8,2,none⟩ (.slice KA R5 kc)):=ah.ay (F:=fun b=>b=b8) (b:=b8) Ow.of_no rfl 2 _;have aaa:ah No w (w4.setCell ⟨b8,2,none⟩ (.slice KA R5 kc)):=(qi.out.ag Ow).ai (by have:=JR.out;have:=YI.out;omega) 2 _;have wO:ax (w4.setCell ⟨b8,2,none⟩ (.slice KA R5 kc)) b8 40 #[.bool false,.slice A Oh cc,.slice KA R5 kc,.slice none 0 0]:=bn4.aQ 2 _;have lY:¬w.heap.size=b8:=by have:=JR.out;have:=YI.out;omega
  have vo:¬w.heap.size+1=b8:=by have:=JR.out;have:=YI.out;omega
  have VT:¬w.heap.size+2=b8:=by have:=JR.out;have:=YI.out;omega
  have bl5:=af7.out.ext xN lY;have Fs:=af3.out.ext xN vo;have Xh:=adw.out.ext xN VT;have hc5:Rd (w4.setCell ⟨b8,2,none⟩ (.slice KA R5 kc)) (fun b=>b<w2.heap.size\/b=b8) 4 A Oh (aC L):=AB.out.ext (xN.mono (fun b _ h=>.inr h));have t0:=bn4.cell 2;have u0:=bn4.frozen 2;simp at t0;obtain⟨W,hW⟩:∃W,W=w4.setCell ⟨b8,2,none⟩ (.slice KA R5 kc):=⟨_,rfl⟩;rw[<-hW]at hkr xN aaa wO bl5 Fs Xh hc5;obtain⟨W2,Ao⟩:∃W2,W2=W.alloc (.cells #[.slice A3 n3 c3,.slice B3 m3 d3] 35):=⟨_,rfl⟩;have acS:ah No W W2:=by rw[Ao];exact(ah.refl No W).alloc _
  have sG:ax W2 W.heap.size 35 #[.slice A3 n3 c3,.slice B3 m3 d3]:=by rw[Ao];exact ax.new W 35 _
  obtain⟨Lu,Qp⟩:=HPI.out W2 (aaa.ag acS)
  have HII:=aa (Mw [⟨A3,n3,c3,ix⟩,⟨B3,m3,d3,iy⟩] W.heap.size 2 2 W2 rfl
   (by intro p hp;simp at hp;rcases hp with rfl|rfl;exact Lu;exact Qp) (by simp[bP];omega) (by omega) (by omega)
   (by
     intro j p hj;match j,hj with
     | 0,hj=>simp at hj;subst hj;exact sG.cell 0
     | 1,hj=>simp at hj;subst hj;exact sG.cell 1
     | j+2,hj=>simp at hj))
  rw[wm,pq,HIV.out,<-HIL.out]at HII;have acQ:W.heap.size=w4.heap.size:=by rw[hW];simp[World.setCell]
  rw[acQ]at HII;have Bo:=aa xN;have aio:=aa aaa;have adz:=aa wO;have aiy:=aa Xh;have HC5:=aa hc5;have HKR:=aa hkr;have afN:=aa acS;have Ec:Hid (wc.heap.size<=w4.heap.size):=aa Ow.size;have ahC:=aa acQ;have bl4:=af7.out.ext Ow (fun h=>h);have br4:=af3.out.ext Ow (fun h=>h);have lb4:=bn4.lt;obtain⟨t0,t1,t2,t3,u0,u1,u2,u3,lt⟩:=bn4.p4;clear p0 p1 p2 p3 g0 g1 g2 g3 ln q0 q1 q2 q3 f0 f1 f2 f3 lq Lu Qp sG acS xN aaa Xh hc5 hkr bn4 aP ib Ow bl5 Fs wO acQ;obtain⟨p0,p1,p2,p3,g0,g1,g2,g3,ln⟩:=bl4.p4;obtain⟨q0,q1,q2,q3,f0,f1,f2,f3,lq⟩:=br4.p4;clear bl4 br4;subst Ao;subst hW;have hn4:¬b8=w.heap.size:=fun h=>lY h.symm
  have OJ:¬b8=w.heap.size+1:=fun h=>vo h.symm
  go_wp2_with fail;clear p0 p1 p2 p3 g0 g1 g2 g3 ln q0 q1 q2 q3 f0 f1 f2 f3 lq t0 t1 t2 t3 u0 u1 u2 u3 lt;refine HII.out.mono ?_;rintro e w5 ⟨KI,ic,rfl,aP,bU⟩;have hir:=(Rd.jf aP (by omega)).mono (G:=fun b=>b<w4.heap.size) (by omega) (fun b _ hb=>by unfold Lo;have h1:=ahC.out;have h2:=afN.out.size;rw[h1]at h2;omega);have hic:=dX aP;have iL:=dA aP;have xE:=afN.out.ag bU;have wO:=adz.out.ext xE (fun h=>h);have bs6:ax (w5.setCell ⟨b8,3,none⟩ (.slice KI Vo ic)) (w.heap.size+2) 40 #[.bool false,.slice none 0 0,.slice none 0 0,.slice none 0 0]:=(aiy.out.ext xE (fun h=>h)).far (p:=⟨b8,3,none⟩) VT _;have Bh:ax (w5.setCell ⟨b8,3,none⟩ (.slice KI Vo ic)) b8 40 #[.bool false,.slice A Oh cc,.slice KA R5 kc,.slice KI Vo ic]:=wO.aQ 3 _;have aeq:Rd (w5.setCell ⟨b8,3,none⟩ (.slice KI Vo ic)) (fun b=>b<w4.heap.size) 1 KI Vo (aK I):=hir.ext (ah.ay (F:=fun b=>b<w4.heap.size) (b:=b8) (ah.refl _ w5) lb4 3 _);have ael:Rd (w5.setCell ⟨b8,3,none⟩ (.slice KI Vo ic)) (fun b=>b<wc.heap.size) 1 KA R5 (aG K):=HKR.out.ext (ah.ay (F:=fun b=>b<wc.heap.size) (b:=b8) xE.of_no mQ.out 3 _);have aeE:Rd (w5.setCell ⟨b8,3,none⟩ (.slice KI Vo ic)) (fun b=>b<w2.heap.size\/b=b8) 4 A Oh (aC L):=HC5.out.ext (ah.ay (F:=fun b=>b<w2.heap.size\/b=b8) (b:=b8) xE.of_no (.inr rfl) 3 _);have DK:ah No w (w5.setCell ⟨b8,3,none⟩ (.slice KI Vo ic)):=(aio.out.ag xE).ai (by have:=JR.out;have:=YI.out;omega) 3 _;have hN:aW (w5.setCell ⟨b8,3,none⟩ (.slice KI Vo ic)) (fun b=>b<w2.heap.size\/b=b8) A cc KA kc KI ic ⟨false,L,K,I⟩:=by
   subst hLn;subst hKn;subst hIn;have h4:=Ec.out;have h5:=iF.out.size;have h6:=mQ.out
   exact⟨aeE,ael.mono (by omega) (fun b _ hb=>by rcases hb with hb|hb <;> omega),aeq.mono (by omega) (fun b _ hb=>by rcases hb with hb|hb <;> omega),Gg,Nk,hic,
    (by show L.length<65536;exact Eg.out),(by show K.length<65536;rw[AJ.out];omega),(by show I.length<65536;rw[HIL.out];omega),pW,Ub,iL⟩
  have M6:=aa (HC.out _ _ _ _ _ _ _ _ hN);have HN:=aa hN;have Bn:=aa DK;have af2:=aa bs6;have aaL:=aa Bh;obtain⟨t0,t1,t2,t3,u0,u1,u2,u3,lt⟩:=wO.p4;clear hN hir aeq ael aeE bU xE aP wO bs6 Bh DK;have Bf:=HD.out;rcases Bool.eq_false_or_eq_true (⟨false,L,K,I⟩:Nd).ok with aX|aX
  rotate_left
  ·have hD:D=none:=by rw[<-Bf,aX];rfl
   rw[Nd.oq aX]at M6;clear HD Bf aX;subst hD;go_wp2_with fail;refine M6.out.mono ?_;rintro e w7 ⟨rfl,eX⟩;have Tp:=af2.out.ext eX (fun h=>h);clear t0 t1 t2 t3 u0 u1 u2 u3 lt;obtain⟨r0,r1,r2,r3,s0,s1,s2,s3,lr⟩:=Tp.p4;have lr:w.heap.size<w7.heap.size:=by omega
   go_wp2_with fail;refine kT (w.heap.size+2) _ (Tp.eu (.bool false) (.slice none 0 0) (.slice none 0 0) (.slice none 0 0)) rfl rfl rfl rfl ?_;exact⟨((((Bn.out.ag eX).ai (by omega) _ _).ai (by omega) _ _).ai (by omega) _ _).ai (by omega) _ _,rfl⟩
  ·have hD:D=some ⟨false,L,K,I⟩:=by rw[<-Bf,aX];rfl
   rw[Nd.jh aX]at M6;clear HD Bf aX;subst hD;go_wp2_with fail;refine M6.out.mono ?_;rintro e w7 ⟨rfl,eX⟩;have Tp:=af2.out.ext eX (fun h=>h);have bn7:=aaL.out.ext eX (fun h=>h);clear t0 t1 t2 t3 u0 u1 u2 u3 lt;obtain⟨r0,r1,r2,r3,s0,s1,s2,s3,lr⟩:=Tp.p4;obtain⟨t0,t1,t2,t3,u0,u1,u2,u3,lt⟩:=bn7.p4;have lr:w.heap.size<w7.heap.size:=by omega
   go_wp2_with fail;refine kT (w.heap.size+2) _ (Tp.eu (.bool false) (.slice A Oh cc) (.slice KA R5 kc) (.slice KI Vo ic)) rfl rfl rfl rfl ?_;have iL:(fun b=>b<w2.heap.size\/b=b8) (w.heap.size+2):=.inl YI.out;have hz:ah (fun b=>b<w2.heap.size\/b=b8) w7 _:=((((ah.refl _ w7).ay iL 0 (.bool false)).ay iL 1 (.slice A Oh cc)).ay iL 2 (.slice KA R5 kc)).ay iL 3 (.slice KI Vo ic);refine⟨((((Bn.out.ag eX).ai (by omega) _ _).ai (by omega) _ _).ai (by omega) _ _).ai (by omega) _ _,⟨A,cc,KA,kc,KI,ic⟩,by simp only[Nd.value];rw[hLn,hKn,hIn];rfl,?_⟩;exact((HN.out.ext eX.of_no).ext hz).mono (fun b _ hb=>by unfold gB at hb;have:=YI.out;exact .inl (by omega))
theorem Vh (l r:Nd) (key:Bs) (w:World) (F:Nat->Prop) (a b:jT) (hl:aU w F a l) (hr:aU w F b r) (yF:l.fits) (qh:r.fits) (l_:key.length<65536) :
  Calls Tryz.prog 188 #[l.value a.A1 a.c1 a.A2 a.c2 a.A3 a.c3,r.value b.A1 b.c1 b.A2 b.c2 b.A3 b.c3,.string (au key)] w (yt w (l.join r key)):=by
 unfold Nd.join;split
 ·rename_i h
  exact Vg l r key w F a b hl hr yF qh h
 ·rename_i h
  have h1:l.ok=true:=by cases hx:l.ok <;> simp_all
  have h2:r.ok=true:=by cases hx:r.ok <;> simp_all
  have h3:l.leaf=r.leaf:=by
   by_cases hx:l.leaf=r.leaf
   ·exact hx
   ·exact absurd (.inr (.inr hx)) h
  cases hf:l.leaf
  ·exact Ld l r key w F a b hl hr l_ h1 h2 hf (h3▸hf)
  ·exact R7 l r key w F a b hl hr l_ h1 h2 hf (h3▸hf)
def n_:Option Nd->Nat×Nd
 | none=>(2,⟨false,[],[],[]⟩)
 | some b=>(0,b)
theorem F8 (l r:Nd) (key:Bs) (w:World) (F:Nat->Prop) (a b:jT) (hl:aU w F a l) (hr:aU w F b r) (yF:l.fits) (qh:r.fits) (l_:key.length<65536) :
  Calls Tryz.prog 188 #[l.value a.A1 a.c1 a.A2 a.c2 a.A3 a.c3,r.value b.A1 b.c1 b.A2 b.c2 b.A3 b.c3,.string (au key)] w fun e w'=>ah No w w' /\
   ∃c:jT,e=.returned (.tuple #[(n_ (l.join r key)).2.value c.A1 c.c1 c.A2 c.c2 c.A3 c.c3,.int .i64 ((n_ (l.join r key)).1:Int)])/\aU w' (gB w) c (n_ (l.join r key)).2:=by
 refine(Vh l r key w F a b hl hr yF qh l_).mono ?_;rintro e w' ⟨hx,h⟩;refine⟨hx,?_⟩;cases hj:l.join r key with
 | none =>
  rw[hj]at h;simp only at h;exact⟨⟨none,0,none,0,none,0⟩,h,⟨Rd.lV _,Rd.lV _,Rd.lV _,Nat.le_refl _,Nat.le_refl _,Nat.le_refl _,by simp[n_],by simp[n_],by simp[n_],fun _=>rfl,fun _=>rfl,fun _=>rfl⟩⟩
 | some c =>
  rw[hj]at h;simp only at h;obtain⟨a',h1,h2⟩:=h;exact⟨a',h1,h2⟩
def rD (w:World) (r:Nat×Nat×Nd) (e:Ending) (w':World):Prop :=
 ah No w w'/\∃c:jT,e=.returned (.tuple #[.int .i64 (r.2.1:Int),r.2.2.value c.A1 c.c1 c.A2 c.c2 c.A3 c.c3,.int .i64 (r.1:Int)])/\(r.1=0->aU w' (gB w) c r.2.2)
theorem Kl {fn:Func}{p q x:Tmp}{ty:TypeId}(h:fn.results = #[.tmp x,.cell p ty,.tmp q]) (tmps:Array Value) (P:Program) (w:World) :
  (results fn tmps).run P w=((asAddr (tmps.getD p undef)).run P w).andThen fun a w1=>((loadVar ty a).run P w1).andThen fun v w2=>.ok (.tuple #[tmps.getD x undef,v,tmps.getD q undef]) w2:=by
 simp only[results,h];simp[Sem.run_bind,Result.andThen]
theorem ma {Q:Ending->World->Prop}{a:Act}{w:World}(b:Nat) (cs:Array Value) (hb:ax w b 40 cs) {u v:Value}(hs:some 4=some cs.size)
  (hp:a.tmps.getD 9 undef=.pointer (some ⟨b,0,none⟩)) (h8:a.tmps.getD 8 undef=u) (h4:a.tmps.getD 10 undef=v) (hd:a.defers = [])
  (h:Q (.returned (.tuple #[u,.agg cs,v])) w):bodyPost Tryz.prog Tryz.f149 Q Exit.ret a w:=by
 refine bodyPost_ret (v:=.tuple #[u,.agg cs,v]) (w:=w) ?_ hd h;have hl:=run_loadVar_row w b 40 40 cs (0,0) _ hb Tryz.underlying40 rfl (by rw[<-hs];kernel_rfl);rw[Kl rfl,hp,h4,h8];simp[asAddr,Result.andThen,hl]
theorem Jm (v:V) (p n:Nd) (i:Nat) (gx:Value) (w:World) (a b:jT) (hp:p.keys = []) :
  Calls Tryz.prog 149 #[gx,p.value a.A1 a.c1 a.A2 a.c2 a.A3 a.c3,.int .i64 (i:Int),n.value b.A1 b.c1 b.A2 b.c2 b.A3 b.c3] w (rD w (v.beside p i n)):=by
 have e:v.beside p i n=(5,0,n):=by unfold V.beside;rw[if_pos hp]
 rw[e];simp only[Nd.value,hp,List.length_nil];generalize p.cells.length=n1 at *;generalize p.kids.length=n3 at *;generalize Et:n.cells.length=m1 at *;generalize Al:n.keys.length=m2 at *;generalize hm3:n.kids.length=m3 at *;generalize p.leaf=lf at *;generalize Eo:n.leaf=rf at *;obtain⟨A1,c1,A2,c2,A3,c3⟩:=a;obtain⟨B1,d1,B2,d2,B3,d3⟩:=b;simp only;clear e hp;go_enter Tryz.func149,Tryz.ntmps149;have bs:=(ax.aS (b:=w.heap.size+2) ((w.alloc (.cells #[.bool lf,.slice A1 n1 c1,.slice A2 0 c2,.slice A3 n3 c3] 40)).alloc (.cells #[.bool rf,.slice B1 m1 d1,.slice B2 m2 d2,.slice B3 m3 d3] 40)) 40 #[.bool rf,.slice B1 m1 d1,.slice B2 m2 d2,.slice B3 m3 d3] (by simp)).cO;have yI:=aa bs;clear bs;go_wp2_with fail
 go_region
 go_wp2_with fail;refine ma (w.heap.size+2) _ yI.out rfl rfl rfl rfl rfl ?_;refine⟨(((ah.refl No w).alloc _).alloc _).alloc _ |>.drew,⟨B1,d1,B2,d2,B3,d3⟩,by simp only[Nd.value,Et,Al,hm3,Eo];rfl,fun h=>by cases h⟩
theorem MH {v:V}{p n:Nd}{i:Nat}(hk:p.keys ≠ []) (hi:0<i):v.beside p i n=(match v.node (p.kids.getD (i-1) 0)with|none=>(5,i-1,n)|some l=>((n_ (l.join n (p.keys.getD (i-1) []))).1,i-1,(n_ (l.join n (p.keys.getD (i-1) []))).2)):=by
 unfold V.beside;rw[if_neg hk,if_pos hi];cases v.node (p.kids.getD (i-1) 0)with
 | none=>rfl
 | some l=>simp only;cases l.join n (p.keys.getD (i-1) []) <;> rfl
theorem Jl {v:V}{p n:Nd}(hk:p.keys ≠ []):v.beside p 0 n=(match v.node (p.kids.getD 1 0)with|none=>(5,0,n)|some r=>((n_ (n.join r (p.keys.getD 0 []))).1,0,(n_ (n.join r (p.keys.getD 0 []))).2)):=by
 unfold V.beside;rw[if_neg hk,if_neg (by omega)];cases v.node (p.kids.getD 1 0)with
 | none=>rfl
 | some l=>simp only;cases n.join l (p.keys.getD 0 []) <;> rfl
theorem Xl (s:bH) (hs:s.Ok) (v:V) (p n:Nd) (i:Nat) (gx root:Nat) (w:World) (F:Nat->Prop) (a b:jT) (h:aD w s v) (hg:v.Good) (hx:ax w gx 70 (av s root)) (hP:aU w F a p) (hNd:aU w F b n)
  (hpf:p.fits) (hnf:n.fits) (hk:p.keys ≠ []) (qg:p.kids.length=p.keys.length+1) (hi:0<i) (hik:i<p.kids.length) :
  Calls Tryz.prog 149 #[.pointer (some ⟨gx,0,none⟩),p.value a.A1 a.c1 a.A2 a.c2 a.A3 a.c3,.int .i64 (i:Int),n.value b.A1 b.c1 b.A2 b.c2 b.A3 b.c3] w (rD w (v.beside p i n)):=by
 have oN:=hP.b3;rw[MH hk hi];obtain⟨at_,qP⟩:∃k,i=k+1:=⟨i-1,by omega⟩;subst qP;simp only[Nat.add_sub_cancel];obtain⟨kid,oK⟩:∃k,p.kids[at_]?=some k:=⟨_,List.getElem?_eq_getElem (by omega)⟩;obtain⟨key,wB⟩:∃k,p.keys[at_]?=some k:=⟨_,List.getElem?_eq_getElem (by omega)⟩;have ek:p.kids.getD at_ 0=kid:=by rw[List.getD_eq_getElem?_getD,oK];rfl
 have ey:p.keys.getD at_ []=key:=by rw[List.getD_eq_getElem?_getD,wB];rfl
 rw[ek,ey];obtain⟨kb,ko,BJ,hkF,Nk⟩:=hP.kids.pU oK;obtain⟨yb,yo,JM,hyF,Nb⟩:=hP.keys.rF wB;have l_:key.length<65536:=hpf.k key (List.mem_of_getElem? wB);have HND:=aa (fun w' (e:ah No w w')=>tq s hs w' v (h.no hs e) hg gx root (hx.ext e (fun h=>h)) kid);have HJ:=aa (fun w' (e:ah No w w') l c (hl:aU w' No c l) (yF:l.fits)=>F8 l n key w' No c b hl ((hNd.mono (fun _ _ h=>h.elim)).ext e) yF hnf l_);have PE:=aa (fun l (hl:v.node kid=some l)=>Nd.Ok.fits (Nd.Ok.of (V.bM hl)));simp only[Nd.value]at HJ ⊢;have j_:0<p.keys.length:=List.length_pos_iff.2 hk;have lJ:¬((p.keys.length:Int)=0):=by omega
 have bC:(at_:Int)<(p.kids.length:Int):=by omega
 have aH:(at_:Int)<(p.keys.length:Int):=by omega
 have ib:IntKind.i64.wrap (((at_+1:Nat):Int)-1)=(at_:Int):=by rw[IntWalk.i64_in _ (by omega)];omega
 have bU:(0:Int)<((at_+1:Nat):Int):=by omega
 have lk:=World.block_lt_of_cell? w _ Nk;have ly:=World.block_lt_of_cell? w _ Nb;simp only at lk ly;rw[JM,BJ];have HKC:=aa Nk;have HYC:=aa Nb;clear h hx hP hNd hpf hnf hk qg ek ey oK wB JM BJ hkF hyF hik Nk Nb;generalize p.cells.length=n1 at *;generalize vo:p.keys.length=n2 at *;generalize VT:p.kids.length=n3 at *;generalize Et:n.cells.length=m1 at *;generalize Al:n.keys.length=m2 at *;generalize hm3:n.kids.length=m3 at *;generalize p.leaf=lf at *;generalize Eo:n.leaf=rf at *;obtain⟨A1,c1,A2,c2,A3,c3⟩:=a;obtain⟨B1,d1,B2,d2,B3,d3⟩:=b;simp only at HJ ⊢;obtain⟨D,hD⟩:∃D,D=(match v.node kid with|none=>(5,at_,n)|some l=>((n_ (l.join n key)).1,at_,(n_ (l.join n key)).2)):=⟨_,rfl⟩;rw[<-hD];have HD:=aa hD;clear hD;go_enter Tryz.func149,Tryz.ntmps149;go_wp2_with fail
 go_cut [11,12] (fun u1 u2 wx=>∃b1 b2:Nat,u1=.pointer (some ⟨b1,0,none⟩)/\u2=.pointer (some ⟨b2,0,none⟩)/\b1≠b2/\w.heap.size+3<=b1/\w.heap.size+3<=b2/\ax wx b1 40 #[.bool rf,.slice B1 m1 d1,.slice B2 m2 d2,.slice B3 m3 d3]/\ax wx b2 40 #[.bool rf,.slice B1 m1 d1,.slice B2 m2 d2,.slice B3 m3 d3] /\
  ax wx w.heap.size 40 #[.bool lf,.slice A1 n1 c1,.slice (some ⟨yb,yo,none⟩) n2 c2,.slice (some ⟨kb,ko,none⟩) n3 c3]/\ax wx (w.heap.size+1) 40 #[.bool rf,.slice B1 m1 d1,.slice B2 m2 d2,.slice B3 m3 d3]/\ax wx (w.heap.size+2) 40 #[.bool false,.slice none 0 0,.slice none 0 0,.slice none 0 0]/\ah No w wx)
 case first =>
  go_region
  all_goals (
   go_wp2_with fail;go_meet;have b0:=((((ax.new w 40 #[.bool lf,.slice A1 n1 c1,.slice (some ⟨yb,yo,none⟩) n2 c2,.slice (some ⟨kb,ko,none⟩) n3 c3]).alloc (.cells #[.bool rf,.slice B1 m1 d1,.slice B2 m2 d2,.slice B3 m3 d3] 40)).alloc (.cells #[.bool false,.slice none 0 0,.slice none 0 0,.slice none 0 0] 40)).alloc (.cells #[.bool rf,.slice B1 m1 d1,.slice B2 m2 d2,.slice B3 m3 d3] 40)).alloc (.cells #[.bool rf,.slice B1 m1 d1,.slice B2 m2 d2,.slice B3 m3 d3] 40);have b1:=(((ax.aS (b:=w.heap.size+1) (w.alloc (.cells #[.bool lf,.slice A1 n1 c1,.slice (some ⟨yb,yo,none⟩) n2 c2,.slice (some ⟨kb,ko,none⟩) n3 c3] 40)) 40 #[.bool rf,.slice B1 m1 d1,.slice B2 m2 d2,.slice B3 m3 d3] (by simp)).alloc (.cells #[.bool false,.slice none 0 0,.slice none 0 0,.slice none 0 0] 40)).alloc (.cells #[.bool rf,.slice B1 m1 d1,.slice B2 m2 d2,.slice B3 m3 d3] 40)).alloc (.cells #[.bool rf,.slice B1 m1 d1,.slice B2 m2 d2,.slice B3 m3 d3] 40);have b2:=((ax.aS (b:=w.heap.size+2) ((w.alloc (.cells #[.bool lf,.slice A1 n1 c1,.slice (some ⟨yb,yo,none⟩) n2 c2,.slice (some ⟨kb,ko,none⟩) n3 c3] 40)).alloc (.cells #[.bool rf,.slice B1 m1 d1,.slice B2 m2 d2,.slice B3 m3 d3] 40)) 40 #[.bool false,.slice none 0 0,.slice none 0 0,.slice none 0 0] (by simp)).alloc (.cells #[.bool rf,.slice B1 m1 d1,.slice B2 m2 d2,.slice B3 m3 d3] 40)).alloc (.cells #[.bool rf,.slice B1 m1 d1,.slice B2 m2 d2,.slice B3 m3 d3] 40);have b3:=(ax.aS (b:=w.heap.size+3) (((w.alloc (.cells #[.bool lf,.slice A1 n1 c1,.slice (some ⟨yb,yo,none⟩) n2 c2,.slice (some ⟨kb,ko,none⟩) n3 c3] 40)).alloc (.cells #[.bool rf,.slice B1 m1 d1,.slice B2 m2 d2,.slice B3 m3 d3] 40)).alloc (.cells #[.bool false,.slice none 0 0,.slice none 0 0,.slice none 0 0] 40)) 40 #[.bool rf,.slice B1 m1 d1,.slice B2 m2 d2,.slice B3 m3 d3] (by simp)).alloc (.cells #[.bool rf,.slice B1 m1 d1,.slice B2 m2 d2,.slice B3 m3 d3] 40);have b4:=ax.aS (b:=w.heap.size+4) ((((w.alloc (.cells #[.bool lf,.slice A1 n1 c1,.slice (some ⟨yb,yo,none⟩) n2 c2,.slice (some ⟨kb,ko,none⟩) n3 c3] 40)).alloc (.cells #[.bool rf,.slice B1 m1 d1,.slice B2 m2 d2,.slice B3 m3 d3] 40)).alloc (.cells #[.bool false,.slice none 0 0,.slice none 0 0,.slice none 0 0] 40)).alloc (.cells #[.bool rf,.slice B1 m1 d1,.slice B2 m2 d2,.slice B3 m3 d3] 40)) 40 #[.bool rf,.slice B1 m1 d1,.slice B2 m2 d2,.slice B3 m3 d3] (by simp);have hE:=(((((ah.refl No w).alloc (.cells #[.bool lf,.slice A1 n1 c1,.slice (some ⟨yb,yo,none⟩) n2 c2,.slice (some ⟨kb,ko,none⟩) n3 c3] 40)).alloc (.cells #[.bool rf,.slice B1 m1 d1,.slice B2 m2 d2,.slice B3 m3 d3] 40)).alloc (.cells #[.bool false,.slice none 0 0,.slice none 0 0,.slice none 0 0] 40)).alloc (.cells #[.bool rf,.slice B1 m1 d1,.slice B2 m2 d2,.slice B3 m3 d3] 40)).alloc (.cells #[.bool rf,.slice B1 m1 d1,.slice B2 m2 d2,.slice B3 m3 d3] 40)
   first
    | exact⟨w.heap.size+3,w.heap.size+4,rfl,rfl,by omega,by omega,by omega,b3.cO,b4.cO,b0.cO,b1.cO,b2.cO,hE.drew⟩
    | exact⟨w.heap.size+4,w.heap.size+3,rfl,rfl,by omega,by omega,by omega,b4.cO,b3.cO,b0.cO,b1.cO,b2.cO,hE.drew⟩)
 case rest =>
  obtain⟨b1,b2,rfl,rfl,bQ,hb1,dO,k1,k2,kp,kn,kr,hE⟩:=hcut;obtain⟨p0,p1,p2,p3,g0,g1,g2,g3,ln⟩:=kp.p4;obtain⟨t0,t1,t2,t3,f0,f1,f2,f3,lt⟩:=k1.p4;have Nk:=aj hE HKC.out (fun h=>h);have Nb:=aj hE HYC.out (fun h=>h);have TN:=aa k1;have JO:=aa k2;have QY:=aa kn;have HKR:=aa kr;have HKP:=aa kp;have HE:=aa hE;have TS:=aa hb1;have ng:=aa dO;have HNE:=aa bQ;have Nh:kb<wc.heap.size:=Nat.lt_of_lt_of_le lk hE.size;have ack:¬b1=w.heap.size:=by omega
  have agM:¬b1=w.heap.size+1:=by omega
  have VS:¬b1=w.heap.size+2:=by omega
  have agL:¬b1=kb:=by omega
  have acj:¬b1=yb:=by omega
  clear k1 k2 kn kr kp hE hb1 dO;have Jv:=aa (HND.out _ HE.out);have Bf:=HD.out;clear HD;cases Qt:v.node kid with
  | none =>
   rw[Qt]at Jv Bf;simp only at Bf;subst Bf;clear Qt HJ PE;go_wp2_with fail;refine Jv.out.mono ?_;rintro e w2 ⟨aH,he⟩;simp only[Nd.zero]at he;subst he;clear p0 p1 p2 p3 g0 g1 g2 g3 ln t0 t1 t2 t3 f0 f1 f2 f3 lt Nk Nb;have gG:ah No wc w2:=aH;obtain⟨t0,t1,t2,t3,f0,f1,f2,f3,lt⟩:=(TN.out.ext gG (fun h=>h)).p4;obtain⟨q0,q1,q2,q3,j0,j1,j2,j3,lq⟩:=(QY.out.ext gG (fun h=>h)).p4;have Oo:=HKR.out.ext gG (fun h=>h);obtain⟨r0,r1,r2,r3,s0,s1,s2,s3,lr⟩:=Oo.p4;have PL:=aa Oo;have fQ:=aa (HE.out.ag gG);clear Oo aH gG;go_wp2_with fail
   go_region
   go_wp2_with fail;have ZV:w.heap.size+2≠b1:=fun h=>VS h.symm
   have IM:w.heap.size<=b1:=by have:=TS.out;omega
   have kr3:=(((((((PL.out.far (p:=⟨b1,0,none⟩) ZV (.bool false)).far (p:=⟨b1,1,none⟩) ZV (.slice none 0 0)).far (p:=⟨b1,2,none⟩) ZV (.slice none 0 0)).far (p:=⟨b1,3,none⟩) ZV (.slice none 0 0)).eu (.bool rf) (.slice B1 m1 d1) (.slice B2 m2 d2) (.slice B3 m3 d3))).cO);refine ma (w.heap.size+2) _ kr3 rfl rfl rfl rfl rfl ?_;refine⟨((((((((fQ.out.ai IM _ _).ai IM _ _).ai IM _ _).ai IM _ _).ai (by omega) _ _).ai (by omega) _ _).ai (by omega) _ _).ai (by omega) _ _).drew,⟨B1,d1,B2,d2,B3,d3⟩,by simp only[Nd.value,Et,Al,hm3,Eo];rfl,fun h=>by cases h⟩
  | some l =>
   rw[Qt]at Jv Bf;simp only at Bf;have Ef:=aa (PE.out l Qt);clear Qt PE;obtain⟨R,hR⟩:∃R,R=n_ (l.join n key):=⟨_,rfl⟩;have HJ2:=aa (fun w' e c hl=>HJ.out w' e l c hl Ef.out);rw[<-hR]at HJ2 Bf;subst Bf;clear hR HJ;go_wp2_with fail;refine Jv.out.mono ?_;rintro e w2 ⟨aH,D1,e1,D2,e2,D3,e3,he,pV⟩;simp only[Nd.value]at he;subst he;have gG:ah No wc w2:=aH;clear p0 p1 p2 p3 g0 g1 g2 g3 ln t0 t1 t2 t3 f0 f1 f2 f3 lt;have k1b:=TN.out.ext gG (fun h=>h);obtain⟨t0,t1,t2,t3,f0,f1,f2,f3,lt⟩:=k1b.p4;have aif:=aa k1b;obtain⟨u0,u1,u2,u3,m0,m1,m2,m3,lu⟩:=(JO.out.ext gG (fun h=>h)).p4;obtain⟨q0,q1,q2,q3,j0,j1,j2,j3,lq⟩:=(HKP.out.ext gG (fun h=>h)).p4;have Vs:=aj gG Nb (fun h=>h);have Oo:=HKR.out.ext gG (fun h=>h);obtain⟨r0,r1,r2,r3,s0,s1,s2,s3,lr⟩:=Oo.p4;have PL:=aa Oo;have fQ:=aa (HE.out.ag gG);have Ju:=aa pV;have dx:=aa gG;clear Oo aH gG pV Nk Nb k1b;have tX:¬b2=b1:=fun h=>HNE.out h.symm
   go_wp2_with fail;obtain⟨W3,hW3⟩:∃W3,W3=((((w2.setCell ⟨b1,0,none⟩ (.bool l.leaf)).setCell ⟨b1,1,none⟩ (.slice D1 l.cells.length e1)).setCell ⟨b1,2,none⟩ (.slice D2 l.keys.length e2)).setCell ⟨b1,3,none⟩ (.slice D3 l.kids.length e3)):=⟨_,rfl⟩;have IM:w.heap.size<=b1:=by have:=TS.out;omega
   have qi:=aa ((((fQ.out.ai IM 0 (.bool l.leaf)).ai IM 1 (.slice D1 l.cells.length e1)).ai IM 2 (.slice D2 l.keys.length e2)).ai IM 3 (.slice D3 l.kids.length e3));have k13:=aif.out.eu (.bool l.leaf) (.slice D1 l.cells.length e1) (.slice D2 l.keys.length e2) (.slice D3 l.kids.length e3);have Ey:=aa (fun g t cs (hb:ax w2 g t cs) (hg:g≠b1)=>((((hb.far (p:=⟨b1,0,none⟩) hg (.bool l.leaf)).far (p:=⟨b1,1,none⟩) hg (.slice D1 l.cells.length e1)).far (p:=⟨b1,2,none⟩) hg (.slice D2 l.keys.length e2)).far (p:=⟨b1,3,none⟩) hg (.slice D3 l.kids.length e3)));have Nq:On b1 b1:=rfl;have Z5:ah (On b1) w2 ((((w2.setCell ⟨b1,0,none⟩ (.bool l.leaf)).setCell ⟨b1,1,none⟩ (.slice D1 l.cells.length e1)).setCell ⟨b1,2,none⟩ (.slice D2 l.keys.length e2)).setCell ⟨b1,3,none⟩ (.slice D3 l.kids.length e3)):=((((ah.refl (On b1) w2).ay Nq 0 (.bool l.leaf)).ay Nq 1 (.slice D1 l.cells.length e1)).ay Nq 2 (.slice D2 l.keys.length e2)).ay Nq 3 (.slice D3 l.kids.length e3);rw[<-hW3]at qi k13 Ey Z5 ⊢;have VP:aU W3 No ⟨D1,e1,D2,e2,D3,e3⟩ l:=(Ju.out.ext (Z5.mono (fun b _ h=>by have h':b=b1:=h;rw[h'];exact TN.out.lt))).mono (fun _ _ h=>h.elim);have abU:=aj Z5 Vs (fun h=>acj h.symm);have ly3:yb<W3.heap.size:=by have:=World.block_lt_of_cell? W3 _ abU;exact this
   have HJ3:=aa (HJ2.out W3.drew qi.out.drew ⟨D1,e1,D2,e2,D3,e3⟩ (VP.ext (ah.refl No W3).drew));simp only at HJ3;have Ox:=dx.out;clear t0 t1 t2 t3 f0 f1 f2 f3 lt u0 u1 u2 u3 m0 m1 m2 m3 lu q0 q1 q2 q3 j0 j1 j2 j3 lq r0 r1 r2 r3 s0 s1 s2 s3 lr Vs VP Z5 hW3;obtain⟨t0,t1,t2,t3,f0,f1,f2,f3,lt⟩:=k13.p4;obtain⟨u0,u1,u2,u3,m0,m1,m2,m3,lu⟩:=(Ey.out _ _ _ (JO.out.ext Ox (fun h=>h)) tX).p4;obtain⟨q0,q1,q2,q3,j0,j1,j2,j3,lq⟩:=(Ey.out _ _ _ (HKP.out.ext Ox (fun h=>h)) (fun h=>ack h.symm)).p4;have Ep:=Ey.out _ _ _ PL.out (fun h=>VS h.symm);obtain⟨r0,r1,r2,r3,s0,s1,s2,s3,lr⟩:=Ep.p4;have HR3:=aa Ep;clear Ep k13 Ox;have HWS:=aa (show w.heap.size<=W3.heap.size from qi.out.size);go_cut [10] (fun k wx=>k=.int .i64 (R.1:Int)/\∃c:jT,ax wx (w.heap.size+2) 40 #[.bool R.2.leaf,.slice c.A1 R.2.cells.length c.c1,.slice c.A2 R.2.keys.length c.c2,.slice c.A3 R.2.kids.length c.c3]/\ah No w wx/\aU wx (gB W3.drew) c R.2)
   case first =>
    go_region_law ((go_simp;go_at_call 188;refine HJ3.out.mono ?_;rintro e w7 ⟨eX,c,rfl,A_⟩;have hr7:=(HR3.out.cO).ext eX (fun h=>h);have XI:=aa hr7;obtain⟨r0',r1',r2',r3',s0',s1',s2',s3',lr'⟩:=hr7.p4;have nS:=aa eX;have PG:=aa A_;clear eX A_ hr7))
    all_goals (
     go_wp2_with fail;go_meet;refine⟨rfl,c,XI.out.eu (.bool R.2.leaf) (.slice c.A1 R.2.cells.length c.c1) (.slice c.A2 R.2.keys.length c.c2) (.slice c.A3 R.2.kids.length c.c3),?_,?_⟩
     ·exact(((((qi.out.drew).ag nS.out).ai (Nat.le_add_right _ 2) _ _).ai (Nat.le_add_right _ 2) _ _).ai (Nat.le_add_right _ 2) _ _).ai (Nat.le_add_right _ 2) _ _
     ·have IU:gB W3.drew (w.heap.size+2):=lr
      exact(PG.out.ext (((((ah.refl (gB W3.drew) w7).ay IU 0 (.bool R.2.leaf)).ay IU 1 (.slice c.A1 R.2.cells.length c.c1)).ay IU 2 (.slice c.A2 R.2.keys.length c.c2)).ay IU 3 (.slice c.A3 R.2.kids.length c.c3))))
   case rest =>
    have HLR:=aa (show gB W3.drew (w.heap.size+2)from lr);obtain⟨rfl,c,Ye,Yo,Ww⟩:=hcut;clear r0 r1 r2 r3 s0 s1 s2 s3 lr t0 t1 t2 t3 f0 f1 f2 f3 lt u0 u1 u2 u3 m0 m1 m2 m3 lu q0 q1 q2 q3 j0 j1 j2 j3 lq;obtain⟨x0,x1,x2,x3,y0,y1,y2,y3,lx⟩:=Ye.p4;have HK8:=aa Ye;have zH:=aa Yo;have HN8:=aa Ww;clear Ye Yo Ww;go_wp2_with fail
    go_region
    go_wp2_with fail;have hk9:=(HK8.out.cO).eu (.bool R.2.leaf) (.slice c.A1 R.2.cells.length c.c1) (.slice c.A2 R.2.keys.length c.c2) (.slice c.A3 R.2.kids.length c.c3);refine ma (w.heap.size+2) _ hk9 rfl rfl rfl rfl rfl ?_;refine⟨((((zH.out.drew).ai (Nat.le_add_right _ 2) _ _).ai (Nat.le_add_right _ 2) _ _).ai (Nat.le_add_right _ 2) _ _).ai (Nat.le_add_right _ 2) _ _,c,rfl,fun _=>?_⟩;exact(HN8.out.ext (((((ah.refl (gB W3.drew) _).drew.ay HLR.out 0 _).ay HLR.out 1 _).ay HLR.out 2 _).ay HLR.out 3 _)).mono (fun b _ hb=>Nat.lt_of_lt_of_le hb HWS.out)
theorem Xk (s:bH) (hs:s.Ok) (v:V) (p n:Nd) (gx root:Nat) (w:World) (F:Nat->Prop) (a b:jT) (h:aD w s v) (hg:v.Good) (hx:ax w gx 70 (av s root)) (hP:aU w F a p) (hNd:aU w F b n)
  (hpf:p.fits) (hnf:n.fits) (hk:p.keys ≠ []) (qg:p.kids.length=p.keys.length+1) :
  Calls Tryz.prog 149 #[.pointer (some ⟨gx,0,none⟩),p.value a.A1 a.c1 a.A2 a.c2 a.A3 a.c3,(.int .i64 0),n.value b.A1 b.c1 b.A2 b.c2 b.A3 b.c3] w (rD w (v.beside p 0 n)):=by
 have oN:=hP.b3;obtain⟨D,hD⟩:∃D,D=v.beside p 0 n:=⟨_,rfl⟩;rw[<-hD];rw[Jl hk]at hD;have jK:0<p.keys.length:=List.length_pos_iff.2 hk;obtain⟨kid,oK⟩:∃k,p.kids[1]?=some k:=⟨_,List.getElem?_eq_getElem (by omega)⟩;obtain⟨key,wB⟩:∃k,p.keys[0]?=some k:=⟨_,List.getElem?_eq_getElem (by omega)⟩;have ek:p.kids.getD 1 0=kid:=by rw[List.getD_eq_getElem?_getD,oK];rfl
 have ey:p.keys.getD 0 []=key:=by rw[List.getD_eq_getElem?_getD,wB];rfl
 rw[ek,ey]at hD;obtain⟨kb,ko,BJ,hkF,Nk⟩:=hP.kids.pU oK;obtain⟨yb,yo,JM,hyF,Nb⟩:=hP.keys.rF wB;have l_:key.length<65536:=hpf.k key (List.mem_of_getElem? wB);have HND:=aa (fun w' (e:ah No w w')=>tq s hs w' v (h.no hs e) hg gx root (hx.ext e (fun h=>h)) kid);have HJ:=aa (fun w' (e:ah No w w') l c (hl:aU w' No c l) (yF:l.fits)=>F8 n l key w' No b c ((hNd.mono (fun _ _ h=>h.elim)).ext e) hl hnf yF l_);have PE:=aa (fun l (hl:v.node kid=some l)=>Nd.Ok.fits (Nd.Ok.of (V.bM hl)));simp only[Nd.value]at HJ ⊢;have j_:0<p.keys.length:=List.length_pos_iff.2 hk;have lJ:¬((p.keys.length:Int)=0):=by omega
 have bC:(1:Int)<(p.kids.length:Int):=by omega
 have aH:(0:Int)<(p.keys.length:Int):=by omega
 have lk:=World.block_lt_of_cell? w _ Nk;have ly:=World.block_lt_of_cell? w _ Nb;simp only at lk ly;rw[JM,BJ];simp only[Nat.add_zero]at Nb;have HKC:=aa Nk;have HYC:=aa Nb;clear h hx hP hNd hpf hnf hk qg ek ey oK wB JM BJ hkF hyF Nk Nb jK;generalize p.cells.length=n1 at *;generalize vo:p.keys.length=n2 at *;generalize VT:p.kids.length=n3 at *;generalize Et:n.cells.length=m1 at *;generalize Al:n.keys.length=m2 at *;generalize hm3:n.kids.length=m3 at *;generalize p.leaf=lf at *;generalize Eo:n.leaf=rf at *;obtain⟨A1,c1,A2,c2,A3,c3⟩:=a;obtain⟨B1,d1,B2,d2,B3,d3⟩:=b;simp only at HJ ⊢;have HD:=aa hD;clear hD;go_enter Tryz.func149,Tryz.ntmps149;go_wp2_with fail
 go_cut [11,12] (fun u1 u2 wx=>∃b1 b2:Nat,u1=.pointer (some ⟨b1,0,none⟩)/\u2=.pointer (some ⟨b2,0,none⟩)/\b1≠b2/\w.heap.size+3<=b1/\w.heap.size+3<=b2/\ax wx b1 40 #[.bool rf,.slice B1 m1 d1,.slice B2 m2 d2,.slice B3 m3 d3]/\ax wx b2 40 #[.bool rf,.slice B1 m1 d1,.slice B2 m2 d2,.slice B3 m3 d3] /\
  ax wx w.heap.size 40 #[.bool lf,.slice A1 n1 c1,.slice (some ⟨yb,yo,none⟩) n2 c2,.slice (some ⟨kb,ko,none⟩) n3 c3]/\ax wx (w.heap.size+1) 40 #[.bool rf,.slice B1 m1 d1,.slice B2 m2 d2,.slice B3 m3 d3]/\ax wx (w.heap.size+2) 40 #[.bool false,.slice none 0 0,.slice none 0 0,.slice none 0 0]/\ah No w wx)
 case first =>
  go_region
  all_goals (
   go_wp2_with fail;go_meet;have b0:=((((ax.new w 40 #[.bool lf,.slice A1 n1 c1,.slice (some ⟨yb,yo,none⟩) n2 c2,.slice (some ⟨kb,ko,none⟩) n3 c3]).alloc (.cells #[.bool rf,.slice B1 m1 d1,.slice B2 m2 d2,.slice B3 m3 d3] 40)).alloc (.cells #[.bool false,.slice none 0 0,.slice none 0 0,.slice none 0 0] 40)).alloc (.cells #[.bool rf,.slice B1 m1 d1,.slice B2 m2 d2,.slice B3 m3 d3] 40)).alloc (.cells #[.bool rf,.slice B1 m1 d1,.slice B2 m2 d2,.slice B3 m3 d3] 40);have b1:=(((ax.aS (b:=w.heap.size+1) (w.alloc (.cells #[.bool lf,.slice A1 n1 c1,.slice (some ⟨yb,yo,none⟩) n2 c2,.slice (some ⟨kb,ko,none⟩) n3 c3] 40)) 40 #[.bool rf,.slice B1 m1 d1,.slice B2 m2 d2,.slice B3 m3 d3] (by simp)).alloc (.cells #[.bool false,.slice none 0 0,.slice none 0 0,.slice none 0 0] 40)).alloc (.cells #[.bool rf,.slice B1 m1 d1,.slice B2 m2 d2,.slice B3 m3 d3] 40)).alloc (.cells #[.bool rf,.slice B1 m1 d1,.slice B2 m2 d2,.slice B3 m3 d3] 40);have b2:=((ax.aS (b:=w.heap.size+2) ((w.alloc (.cells #[.bool lf,.slice A1 n1 c1,.slice (some ⟨yb,yo,none⟩) n2 c2,.slice (some ⟨kb,ko,none⟩) n3 c3] 40)).alloc (.cells #[.bool rf,.slice B1 m1 d1,.slice B2 m2 d2,.slice B3 m3 d3] 40)) 40 #[.bool false,.slice none 0 0,.slice none 0 0,.slice none 0 0] (by simp)).alloc (.cells #[.bool rf,.slice B1 m1 d1,.slice B2 m2 d2,.slice B3 m3 d3] 40)).alloc (.cells #[.bool rf,.slice B1 m1 d1,.slice B2 m2 d2,.slice B3 m3 d3] 40);have b3:=(ax.aS (b:=w.heap.size+3) (((w.alloc (.cells #[.bool lf,.slice A1 n1 c1,.slice (some ⟨yb,yo,none⟩) n2 c2,.slice (some ⟨kb,ko,none⟩) n3 c3] 40)).alloc (.cells #[.bool rf,.slice B1 m1 d1,.slice B2 m2 d2,.slice B3 m3 d3] 40)).alloc (.cells #[.bool false,.slice none 0 0,.slice none 0 0,.slice none 0 0] 40)) 40 #[.bool rf,.slice B1 m1 d1,.slice B2 m2 d2,.slice B3 m3 d3] (by simp)).alloc (.cells #[.bool rf,.slice B1 m1 d1,.slice B2 m2 d2,.slice B3 m3 d3] 40);have b4:=ax.aS (b:=w.heap.size+4) ((((w.alloc (.cells #[.bool lf,.slice A1 n1 c1,.slice (some ⟨yb,yo,none⟩) n2 c2,.slice (some ⟨kb,ko,none⟩) n3 c3] 40)).alloc (.cells #[.bool rf,.slice B1 m1 d1,.slice B2 m2 d2,.slice B3 m3 d3] 40)).alloc (.cells #[.bool false,.slice none 0 0,.slice none 0 0,.slice none 0 0] 40)).alloc (.cells #[.bool rf,.slice B1 m1 d1,.slice B2 m2 d2,.slice B3 m3 d3] 40)) 40 #[.bool rf,.slice B1 m1 d1,.slice B2 m2 d2,.slice B3 m3 d3] (by simp);have hE:=(((((ah.refl No w).alloc (.cells #[.bool lf,.slice A1 n1 c1,.slice (some ⟨yb,yo,none⟩) n2 c2,.slice (some ⟨kb,ko,none⟩) n3 c3] 40)).alloc (.cells #[.bool rf,.slice B1 m1 d1,.slice B2 m2 d2,.slice B3 m3 d3] 40)).alloc (.cells #[.bool false,.slice none 0 0,.slice none 0 0,.slice none 0 0] 40)).alloc (.cells #[.bool rf,.slice B1 m1 d1,.slice B2 m2 d2,.slice B3 m3 d3] 40)).alloc (.cells #[.bool rf,.slice B1 m1 d1,.slice B2 m2 d2,.slice B3 m3 d3] 40)
   first
    | exact⟨w.heap.size+3,w.heap.size+4,rfl,rfl,by omega,by omega,by omega,b3.cO,b4.cO,b0.cO,b1.cO,b2.cO,hE.drew⟩
    | exact⟨w.heap.size+4,w.heap.size+3,rfl,rfl,by omega,by omega,by omega,b4.cO,b3.cO,b0.cO,b1.cO,b2.cO,hE.drew⟩)
 case rest =>
  obtain⟨b1,b2,rfl,rfl,bQ,hb1,dO,k1,k2,kp,kn,kr,hE⟩:=hcut;obtain⟨p0,p1,p2,p3,g0,g1,g2,g3,ln⟩:=kp.p4;obtain⟨t0,t1,t2,t3,f0,f1,f2,f3,lt⟩:=k2.p4;have Nk:=aj hE HKC.out (fun h=>h);have Nb:=aj hE HYC.out (fun h=>h);have TN:=aa k1;have JO:=aa k2;have QY:=aa kn;have HKR:=aa kr;have HKP:=aa kp;have HE:=aa hE;have TS:=aa hb1;have ng:=aa dO;have HNE:=aa bQ;have Nh:kb<wc.heap.size:=Nat.lt_of_lt_of_le lk hE.size;have ack:¬b2=w.heap.size:=by omega
  have agM:¬b2=w.heap.size+1:=by omega
  have VS:¬b2=w.heap.size+2:=by omega
  have agL:¬b2=kb:=by omega
  have acj:¬b2=yb:=by omega
  clear k1 k2 kn kr kp hE hb1 dO;have Jv:=aa (HND.out _ HE.out);have Bf:=HD.out;clear HD;cases Qt:v.node kid with
  | none =>
   rw[Qt]at Jv Bf;simp only at Bf;subst Bf;clear Qt HJ PE;go_wp2_with fail;refine Jv.out.mono ?_;rintro e w2 ⟨aH,he⟩;simp only[Nd.zero]at he;subst he;clear p0 p1 p2 p3 g0 g1 g2 g3 ln t0 t1 t2 t3 f0 f1 f2 f3 lt Nk Nb;have gG:ah No wc w2:=aH;obtain⟨t0,t1,t2,t3,f0,f1,f2,f3,lt⟩:=(JO.out.ext gG (fun h=>h)).p4;obtain⟨q0,q1,q2,q3,j0,j1,j2,j3,lq⟩:=(QY.out.ext gG (fun h=>h)).p4;have Oo:=HKR.out.ext gG (fun h=>h);obtain⟨r0,r1,r2,r3,s0,s1,s2,s3,lr⟩:=Oo.p4;have PL:=aa Oo;have fQ:=aa (HE.out.ag gG);clear Oo aH gG;go_wp2_with fail
   go_region
   go_wp2_with fail;have ZU:w.heap.size+2≠b2:=fun h=>VS h.symm
   have IL:w.heap.size<=b2:=by have:=ng.out;omega
   have kr3:=(((((((PL.out.far (p:=⟨b2,0,none⟩) ZU (.bool false)).far (p:=⟨b2,1,none⟩) ZU (.slice none 0 0)).far (p:=⟨b2,2,none⟩) ZU (.slice none 0 0)).far (p:=⟨b2,3,none⟩) ZU (.slice none 0 0)).eu (.bool rf) (.slice B1 m1 d1) (.slice B2 m2 d2) (.slice B3 m3 d3))).cO);refine ma (w.heap.size+2) _ kr3 rfl rfl rfl rfl rfl ?_;refine⟨((((((((fQ.out.ai IL _ _).ai IL _ _).ai IL _ _).ai IL _ _).ai (by omega) _ _).ai (by omega) _ _).ai (by omega) _ _).ai (by omega) _ _).drew,⟨B1,d1,B2,d2,B3,d3⟩,by simp only[Nd.value,Et,Al,hm3,Eo];rfl,fun h=>by cases h⟩
  | some l =>
   rw[Qt]at Jv Bf;simp only at Bf;have Ef:=aa (PE.out l Qt);clear Qt PE;obtain⟨R,hR⟩:∃R,R=n_ (n.join l key):=⟨_,rfl⟩;have HJ2:=aa (fun w' e c hl=>HJ.out w' e l c hl Ef.out);rw[<-hR]at HJ2 Bf;subst Bf;clear hR HJ;go_wp2_with fail;refine Jv.out.mono ?_;rintro e w2 ⟨aH,D1,e1,D2,e2,D3,e3,he,pV⟩;simp only[Nd.value]at he;subst he;have gG:ah No wc w2:=aH;clear p0 p1 p2 p3 g0 g1 g2 g3 ln t0 t1 t2 t3 f0 f1 f2 f3 lt;have k1b:=JO.out.ext gG (fun h=>h);obtain⟨t0,t1,t2,t3,f0,f1,f2,f3,lt⟩:=k1b.p4;have aie:=aa k1b;obtain⟨u0,u1,u2,u3,m0,m1,m2,m3,lu⟩:=(TN.out.ext gG (fun h=>h)).p4;obtain⟨q0,q1,q2,q3,j0,j1,j2,j3,lq⟩:=(HKP.out.ext gG (fun h=>h)).p4;have Vs:=aj gG Nb (fun h=>h);have Oo:=HKR.out.ext gG (fun h=>h);obtain⟨r0,r1,r2,r3,s0,s1,s2,s3,lr⟩:=Oo.p4;have PL:=aa Oo;have fQ:=aa (HE.out.ag gG);have Ju:=aa pV;have dx:=aa gG;clear Oo aH gG pV Nk Nb k1b;have tX:¬b1=b2:=fun h=>HNE.out h
   go_wp2_with fail;obtain⟨W3,hW3⟩:∃W3,W3=((((w2.setCell ⟨b2,0,none⟩ (.bool l.leaf)).setCell ⟨b2,1,none⟩ (.slice D1 l.cells.length e1)).setCell ⟨b2,2,none⟩ (.slice D2 l.keys.length e2)).setCell ⟨b2,3,none⟩ (.slice D3 l.kids.length e3)):=⟨_,rfl⟩;have IL:w.heap.size<=b2:=by have:=ng.out;omega
   have qi:=aa ((((fQ.out.ai IL 0 (.bool l.leaf)).ai IL 1 (.slice D1 l.cells.length e1)).ai IL 2 (.slice D2 l.keys.length e2)).ai IL 3 (.slice D3 l.kids.length e3));have k13:=aie.out.eu (.bool l.leaf) (.slice D1 l.cells.length e1) (.slice D2 l.keys.length e2) (.slice D3 l.kids.length e3);have Ey:=aa (fun g t cs (hb:ax w2 g t cs) (hg:g≠b2)=>((((hb.far (p:=⟨b2,0,none⟩) hg (.bool l.leaf)).far (p:=⟨b2,1,none⟩) hg (.slice D1 l.cells.length e1)).far (p:=⟨b2,2,none⟩) hg (.slice D2 l.keys.length e2)).far (p:=⟨b2,3,none⟩) hg (.slice D3 l.kids.length e3)));have Nq:On b2 b2:=rfl;have Z5:ah (On b2) w2 ((((w2.setCell ⟨b2,0,none⟩ (.bool l.leaf)).setCell ⟨b2,1,none⟩ (.slice D1 l.cells.length e1)).setCell ⟨b2,2,none⟩ (.slice D2 l.keys.length e2)).setCell ⟨b2,3,none⟩ (.slice D3 l.kids.length e3)):=((((ah.refl (On b2) w2).ay Nq 0 (.bool l.leaf)).ay Nq 1 (.slice D1 l.cells.length e1)).ay Nq 2 (.slice D2 l.keys.length e2)).ay Nq 3 (.slice D3 l.kids.length e3);rw[<-hW3]at qi k13 Ey Z5 ⊢;have VP:aU W3 No ⟨D1,e1,D2,e2,D3,e3⟩ l:=(Ju.out.ext (Z5.mono (fun b _ h=>by have h':b=b2:=h;rw[h'];exact JO.out.lt))).mono (fun _ _ h=>h.elim);have abU:=aj Z5 Vs (fun h=>acj h.symm);have ly3:yb<W3.heap.size:=by have:=World.block_lt_of_cell? W3 _ abU;exact this
   have HJ3:=aa (HJ2.out W3.drew qi.out.drew ⟨D1,e1,D2,e2,D3,e3⟩ (VP.ext (ah.refl No W3).drew));simp only at HJ3;have Ox:=dx.out;clear t0 t1 t2 t3 f0 f1 f2 f3 lt u0 u1 u2 u3 m0 m1 m2 m3 lu q0 q1 q2 q3 j0 j1 j2 j3 lq r0 r1 r2 r3 s0 s1 s2 s3 lr Vs VP Z5 hW3;obtain⟨t0,t1,t2,t3,f0,f1,f2,f3,lt⟩:=k13.p4;obtain⟨u0,u1,u2,u3,m0,m1,m2,m3,lu⟩:=(Ey.out _ _ _ (TN.out.ext Ox (fun h=>h)) tX).p4;obtain⟨q0,q1,q2,q3,j0,j1,j2,j3,lq⟩:=(Ey.out _ _ _ (HKP.out.ext Ox (fun h=>h)) (fun h=>ack h.symm)).p4;have Ep:=Ey.out _ _ _ PL.out (fun h=>VS h.symm);obtain⟨r0,r1,r2,r3,s0,s1,s2,s3,lr⟩:=Ep.p4;have HR3:=aa Ep;clear Ep k13 Ox;have HWS:=aa (show w.heap.size<=W3.heap.size from qi.out.size);go_cut [10] (fun k wx=>k=.int .i64 (R.1:Int)/\∃c:jT,ax wx (w.heap.size+2) 40 #[.bool R.2.leaf,.slice c.A1 R.2.cells.length c.c1,.slice c.A2 R.2.keys.length c.c2,.slice c.A3 R.2.kids.length c.c3]/\ah No w wx/\aU wx (gB W3.drew) c R.2)
   case first =>
    go_region_law ((go_simp;go_at_call 188;refine HJ3.out.mono ?_;rintro e w7 ⟨eX,c,rfl,A_⟩;have hr7:=(HR3.out.cO).ext eX (fun h=>h);have XI:=aa hr7;obtain⟨r0',r1',r2',r3',s0',s1',s2',s3',lr'⟩:=hr7.p4;have nS:=aa eX;have PG:=aa A_;clear eX A_ hr7))
    all_goals (
     go_wp2_with fail;go_meet;refine⟨rfl,c,XI.out.eu (.bool R.2.leaf) (.slice c.A1 R.2.cells.length c.c1) (.slice c.A2 R.2.keys.length c.c2) (.slice c.A3 R.2.kids.length c.c3),?_,?_⟩
     ·exact(((((qi.out.drew).ag nS.out).ai (Nat.le_add_right _ 2) _ _).ai (Nat.le_add_right _ 2) _ _).ai (Nat.le_add_right _ 2) _ _).ai (Nat.le_add_right _ 2) _ _
     ·have IU:gB W3.drew (w.heap.size+2):=lr
      exact(PG.out.ext (((((ah.refl (gB W3.drew) w7).ay IU 0 (.bool R.2.leaf)).ay IU 1 (.slice c.A1 R.2.cells.length c.c1)).ay IU 2 (.slice c.A2 R.2.keys.length c.c2)).ay IU 3 (.slice c.A3 R.2.kids.length c.c3))))
   case rest =>
    have HLR:=aa (show gB W3.drew (w.heap.size+2)from lr);obtain⟨rfl,c,Ye,Yo,Ww⟩:=hcut;clear r0 r1 r2 r3 s0 s1 s2 s3 lr t0 t1 t2 t3 f0 f1 f2 f3 lt u0 u1 u2 u3 m0 m1 m2 m3 lu q0 q1 q2 q3 j0 j1 j2 j3 lq;obtain⟨x0,x1,x2,x3,y0,y1,y2,y3,lx⟩:=Ye.p4;have HK8:=aa Ye;have zH:=aa Yo;have HN8:=aa Ww;clear Ye Yo Ww;go_wp2_with fail
    go_region
    go_wp2_with fail;have hk9:=(HK8.out.cO).eu (.bool R.2.leaf) (.slice c.A1 R.2.cells.length c.c1) (.slice c.A2 R.2.keys.length c.c2) (.slice c.A3 R.2.kids.length c.c3);refine ma (w.heap.size+2) _ hk9 rfl rfl rfl rfl rfl ?_;refine⟨((((zH.out.drew).ai (Nat.le_add_right _ 2) _ _).ai (Nat.le_add_right _ 2) _ _).ai (Nat.le_add_right _ 2) _ _).ai (Nat.le_add_right _ 2) _ _,c,rfl,fun _=>?_⟩;exact(HN8.out.ext (((((ah.refl (gB W3.drew) _).drew.ay HLR.out 0 _).ay HLR.out 1 _).ay HLR.out 2 _).ay HLR.out 3 _)).mono (fun b _ hb=>Nat.lt_of_lt_of_le hb HWS.out)
theorem Po (s:bH) (hs:s.Ok) (v:V) (p n:Nd) (i:Nat) (gx root:Nat) (w:World) (F:Nat->Prop) (a b:jT) (h:aD w s v) (hg:v.Good) (hx:ax w gx 70 (av s root)) (hP:aU w F a p) (hNd:aU w F b n)
  (hpf:p.fits) (hnf:n.fits) (qg:p.kids.length=p.keys.length+1) (hik:i<p.kids.length) :
  Calls Tryz.prog 149 #[.pointer (some ⟨gx,0,none⟩),p.value a.A1 a.c1 a.A2 a.c2 a.A3 a.c3,.int .i64 (i:Int),n.value b.A1 b.c1 b.A2 b.c2 b.A3 b.c3] w (rD w (v.beside p i n)):=by
 by_cases hk:p.keys = []
 ·exact Jm v p n i _ w a b hk
 ·rcases Nat.eq_zero_or_pos i with rfl|hi
  ·exact Xk s hs v p n gx root w F a b h hg hx hP hNd hpf hnf hk qg
  ·exact Xl s hs v p n i gx root w F a b h hg hx hP hNd hpf hnf hk qg hi hik
theorem Ji {c:aA}(h:c.ok=true):c.size<=160:=by
 have hb:=aA.iW h;unfold aA.ok at h;split at h
 ·simp only[Bool.and_eq_true,decide_eq_true_eq]at h
  exact h.2
 ·rename_i h0
  unfold aA.size;rw[if_pos (by omega)];omega
theorem YU {cs:List aA}(h:∀c∈cs,c.ok=true):di cs<=160*cs.length:=by
 induction cs with
 | nil=>simp[di]
 | cons c cs ih =>
  have h1:=ih (fun c hc=>h c (by simp[hc]));have h2:=Ji (h c (by simp));simp only[di,List.map_cons,List.sum_cons,List.length_cons]at *;omega
theorem YT {ks:List Bs}(h:∀c∈ks,dV c=true):cK ks<=145*ks.length:=by
 induction ks with
 | nil=>simp[cK]
 | cons c cs ih =>
  have h1:=ih (fun c hc=>h c (by simp[hc]));have h2:=dF (h c (by simp));simp only[cK,List.map_cons,List.sum_cons,List.length_cons]at *;omega
theorem KS {n:Nd}(aX:n.ok=true) (hs:500<n.size):2+n.gap<=n.all:=by
 have hO:=Nd.Ok.of aX;unfold Nd.size at hs;unfold Nd.all Nd.gap;cases hl:n.leaf
 ·have h1:=(hO.br hl).1
  have h2:=YT hO.k;rw[hl,h1]at hs;simp[di]at hs ⊢;omega
 ·have h1:=(hO.lf hl).1
  have h2:=YU hO.c;rw[hl,h1]at hs;simp[cK]at hs ⊢;omega
theorem Cm {n:Nd}(aX:n.ok=true) (hs:500<n.size):n.split=some (n.part 0 n.fV,n.part (n.fV+n.gap) n.all,n.mid n.fV):=by
 unfold Nd.split;rw[if_neg];rintro(h|h)
 ·rw[aX]at h;cases h
 ·have:=KS aX hs;omega
theorem FK (n:Nd) (w:World) (F:Nat->Prop) (a:jT) (hn:aU w F a n) (aX:n.ok=true) (hs:500<n.size) :
  Calls Tryz.prog 143 #[n.value a.A1 a.c1 a.A2 a.c2 a.A3 a.c3] w (zt w (some (n.part 0 n.fV,n.part (n.fV+n.gap) n.all,n.mid n.fV))):=by
 have h:=KS aX hs;cases hl:n.leaf
 ·have e1:n.gap=1:=by simp[Nd.gap,hl]
  have e2:n.all=n.keys.length:=by simp[Nd.all,hl]
  rw[e1,e2]at h ⊢;exact Hw n w F _ _ _ _ _ _ hn aX hl (by omega)
 ·have e1:n.gap=0:=by simp[Nd.gap,hl]
  have e2:n.all=n.cells.length:=by simp[Nd.all,hl]
  rw[e1,e2]at h ⊢;exact NH n w F _ _ _ _ _ _ hn aX hl (by omega)
theorem Ur {v:V}{id:Nat}{n:Nd}(h:(v.wr id n).1=3):n.ok=true/\500<n.size/\(v.wr id n).2=v:=by
 have AX:∀b,(v.set id 2 b).1≠3:=by
  intro b;unfold V.set;split
  ·simp
  ·show v.err id≠3
   unfold V.err;split
   ·simp
   ·split <;> simp
 by_cases h1:n.ok=true
 ·by_cases h2:500<n.size
  ·have e:n.out=([],3):=by unfold Nd.out;rw[if_neg (by simp[h1]),if_pos h2]
   refine⟨h1,h2,?_⟩;unfold V.wr;rw[e];simp
  ·have e:n.out=(n.enc,0):=by unfold Nd.out;rw[if_neg (by simp[h1]),if_neg h2]
   unfold V.wr at h;rw[e]at h;exact absurd h (by simpa using AX n.enc)
 ·have e:n.out=([],2):=by unfold Nd.out;rw[if_pos (by simpa using h1)]
  unfold V.wr at h;rw[e]at h;simp at h
theorem YO {v:V}{id:Nat}{n:Nd}(h:(v.wr id n).1=0):v.err id=0:=by
 unfold V.wr at h;split at h
 ·unfold V.set at h
  split at h
  ·assumption
  ·exact h
 ·rename_i h0;exact absurd h h0
theorem Uy {w:World}{F:Nat->Prop}{b1 b2 x y:Nat}{key:Bs}(h1:ax w b1 9 #[.string (au key)]) (h2:ax w b2 3 #[.int .i64 (x:Int),.int .i64 (y:Int)]) (hb1:¬F b1) (dO:¬F b2) :
  aW w F none 0 (some ⟨b1,0,none⟩) 1 (some ⟨b2,0,none⟩) 2 ⟨false,[],[key],[x,y]⟩:=by
 refine⟨Rd.lV _,⟨rfl,fun _=>⟨b1,0,rfl,hb1,fun j u hu=>?_⟩⟩,⟨rfl,fun _=>⟨b2,0,rfl,dO,fun j u hu=>?_⟩⟩,by simp,by simp,by simp,by simp,by simp,by simp,fun _=>rfl,fun h=>by simp at h,fun h=>by simp at h⟩
 ·rw[Nat.zero_add,h1.cell]
  match j,hu with
  | 0,hu=>simpa[aG]using hu
  | j+1,hu=>simp[aG]at hu
 ·rw[Nat.zero_add,h2.cell]
  match j,hu with
  | 0,hu=>simpa[aK]using hu
  | 1,hu=>simpa[aK]using hu
  | j+2,hu=>simp[aK]at hu
theorem Qc {n:Nd}(h:n.ok=true) {k:Nat}:(n.mid k).length<65536:=by
 have hO:=Nd.Ok.of h;unfold Nd.mid;split
 ·rw[List.getD_eq_getElem?_getD]
  cases hc:(n.cells.map aA.key)[k]? with
  | none=>simp
  | some x =>
   obtain⟨c,h1,h2⟩:=List.mem_map.1 (List.mem_of_getElem? hc);have:=aA.iW (hO.c c h1);rw[h2]at this;simp;omega
 ·rw[List.getD_eq_getElem?_getD]
  cases hc:n.keys[k]? with
  | none=>simp
  | some x =>
   have:=dF (hO.k x (List.mem_of_getElem? hc));simp;omega
theorem aD.tN {w1 w2:World}{s:bH}{v:V}{G:Nat->Prop}(h:aD w1 s v) (hx:ah G w1 w2) (h1:¬G s.t) (h2:¬G s.m) (Gd:s.db w2):aD w2 s v:=by
 obtain⟨ov,hm,k1,k2⟩:=h.mp;exact⟨h.tx.ext hx h1,Gd,h.h1,h.h2,h.hb,h.hc,ov,hm.ext hx h2,k1,k2⟩
theorem Lc (ks:List Bs) (i:Nat) (k:Bs) (hi:i<=ks.length):aG (ks.insertIdx i k)=(aG ks).take i++.string (au k)::(aG ks).drop i:=by
 unfold aG
 induction ks generalizing i with
 | nil =>
  have:i=0:=by simpa using hi
  subst this;rfl
 | cons a ks ih =>
  cases i with
  | zero=>rfl
  | succ i =>
   have:=ih i (by simpa using hi);simp only[List.insertIdx_succ_cons,List.map_cons,List.take_succ_cons,List.drop_succ_cons,List.cons_append,this]
theorem Lb (ks:List Nat) (i:Nat) (k:Nat) (hi:i<=ks.length):aK (ks.insertIdx i k)=(aK ks).take i++.int .i64 (k:Int)::(aK ks).drop i:=by
 unfold aK
 induction ks generalizing i with
 | nil =>
  have:i=0:=by simpa using hi
  subst this;rfl
 | cons a ks ih =>
  cases i with
  | zero=>rfl
  | succ i =>
   have:=ih i (by simpa using hi);simp only[List.insertIdx_succ_cons,List.map_cons,List.take_succ_cons,List.drop_succ_cons,List.cons_append,this]
theorem abM (s:bH) (hs:s.Ok) (v:V) (hgv:v.Good) (hhv:v.high<=s.cap) (key val:Bs) (hk:key.length<=140) (hv:val.length<=16384):MR s v key val:=by
 by_cases hl:3+key.length+val.length<=160
 ·exact KQ s hs v key val hl
 have e:v.aI s.cap key val=(⟨key,[],(v.chain s.cap val).1,val.length⟩,(v.chain s.cap val).2.1,(v.chain s.cap val).2.2):=by unfold V.aI;rw[if_neg hl]
 unfold MR;rw[e];have hid:(v.chain s.cap val).1<=65536:=by
  have:∀(k next:Nat) (v:V),v.Good->v.high<=s.cap->next<=65536->(bE s.cap val k next v).1<=65536:=by
   intro k
   induction k with
   | zero=>intro next v _ _ h;exact h
   | succ k ih =>
    intro next v hg hh h
    have h1:=hg.alloc hh (bH.oQ hs);have h2:=V.D8 hg hh (bH.oQ hs);rw[bE];split
    ·split
     ·refine ih _ _ (h1.1.set _ _ _ (by decide) (by rw[List.length_append,bX,List.length_take];omega)) ?_ h2
      rw[V.Kb];exact h1.2
     ·simp
    ·simp
  exact this _ _ _ hgv hhv (by omega)
 refine⟨⟨by simp only;omega,by simp,by simp only;omega,by simp only;omega⟩,fun w gx root h hg hx=>?_⟩;have HC:=aa (fun o=>Tj s hs (w.alloc o) v (h.no hs ((ah.refl No w).alloc o)) hg gx root (hx.alloc o) val (by omega) hv);obtain⟨r,hr⟩:∃r,r=v.chain s.cap val:=⟨_,rfl⟩;rw[<-hr]at HC ⊢;have l_:=az key;have hvl:=az val;have hi:¬((3:Int)+key.length+val.length<=160):=by omega
 have yE:IntKind.i64.wrap ((3:Int)+key.length)=(3:Int)+key.length:=IntWalk.i64_in _ (by omega);have Dw:IntKind.i64.wrap ((3:Int)+key.length+val.length)=(3:Int)+key.length+val.length:=IntWalk.i64_in _ (by omega);have HOL:=aa (fun b (hb:s.F b)=>h.old hb);have HDB:=aa (fun(w':World) (e:ah s.F w w')=>hs.keep _ _ e h.db);clear hr hid e h hg hx;go_enter Tryz.func97,Tryz.ntmps97;go_wp2_with fail;refine(HC.out _).mono ?_;rintro e w2 ⟨rfl,hT,hG,aH⟩;have hb:=(ax.new w 45 #[.string ⟨#[]⟩,.string ⟨#[]⟩,.int .i64 0,.int .i64 0]).ext aH (fun h=>absurd (HOL.out _ h) (Nat.lt_irrefl _));obtain⟨p0,p1,p2,p3,g0,g1,g2,g3,ln⟩:=hb.p4;have HB:=aa hb;have HT:=aa hT;have HG:=aa hG;have dx:=aa aH;clear hb hT hG aH;go_wp2_with fail;have kG:ah s.F w w2:=((ah.refl s.F w).alloc _).ag dx.out;have fC:=(((kG.ai (Nat.le_refl w.heap.size) 0 (.string (au key))).ai (Nat.le_refl w.heap.size) 1 (.string ⟨#[]⟩)).ai (Nat.le_refl w.heap.size) 2 (.int .i64 (r.1:Int))).ai (Nat.le_refl w.heap.size) 3 (.int .i64 (val.length:Int));have Nq:On w.heap.size w.heap.size:=rfl;have hL:=((((ah.refl (On w.heap.size) w2).ay Nq 0 (.string (au key))).ay Nq 1 (.string ⟨#[]⟩)).ay Nq 2 (.int .i64 (r.1:Int))).ay Nq 3 (.int .i64 (val.length:Int));refine GN w.heap.size _ (HB.out.eu (.string (au key)) (.string ⟨#[]⟩) (.int .i64 (r.1:Int)) (.int .i64 (val.length:Int))) rfl rfl rfl rfl ⟨rfl,?_,HG.out,fC⟩;exact HT.out.tN hL (fun h=>by have h1:=HOL.out s.t (.inl rfl);have h2:s.t=w.heap.size:=h;omega) (fun h=>by have h1:=HOL.out s.m (.inr rfl);have h2:s.m=w.heap.size:=h;omega) (HDB.out _ fC)
theorem UM (s:bH) (hs:s.Ok) (w:World) (v:V) (h:aD w s v) (hg:v.Good) (gx i:Nat) (hx:ax w gx 70 (av s i)) (hi:i<4) (key val:Bs) (ws:List dN) (hw:v.way i key=some ws) (st:dN) (dw:ws.getLast?=some st)
  (hM:MR s v key val) (he:(v.aI s.cap key val).2.1=0) (d:aA) (hh:hit ws key=some d) (hGr:((v.aI s.cap key val).2.2.bG d).1=0->zL s i ((v.aI s.cap key val).2.2.bG d).2 ws (st.n.put (v.aI s.cap key val).1)) :
  Calls Tryz.prog 62 #[.pointer (some ⟨gx,0,none⟩),.string (au key),.string (au val)] w (Ez s w (if ((v.aI s.cap key val).2.2.bG d).1≠0 then (v.aI s.cap key val).2.2.bG d else V.grow s.cap i ws.reverse (st.n.put (v.aI s.cap key val).1) ((v.aI s.cap key val).2.2.bG d).2)):=by
 have HW:=aa (lh s hs w v h hg gx i hx hi key);have HM:=aa (fun w' (e:ah No w w')=>hM.2 w' gx i (h.no hs e) hg (hx.ext e (fun h=>h)));have HCF:=aa hM.1;have wQ:=aa (fun(w':World) (e:ah s.F w w')=>dS h hx e);have HO:=aa (gB.of h);have Ul:=aa hGr;have Fz:=aa (sO hw);have ru:=aa dw;rw[hw]at HW;generalize v.aI s.cap key val=r at *;obtain⟨c,k,v1⟩:=r;simp only at he HM HCF Ul ⊢;subst he;simp only[aA.agg]at HM;have gX:∃m,ws.length=m+1:=by cases hz:ws.length <;> simp_all
 obtain⟨m,gX⟩:=gX;have LB:m<=40:=by have:=Fz.out.len;omega
 have o7:=aa gX;have gH:=Dv dw key;rw[hh]at gH;have bu:st.i<st.n.cells.length:=by
  rcases Nat.lt_or_ge st.i st.n.cells.length with h|h
  ·exact h
  ·rw[List.getElem?_eq_none h]at gH;cases gH
 obtain⟨d',hd⟩:∃d,st.n.cells[st.i]?=some d:=⟨_,List.getElem?_eq_getElem bu⟩;rw[hd]at gH;simp only at gH;have hdk:d'=d/\d'.key=key:=by
  by_cases hk:d'.key=key
  ·rw[if_pos hk]at gH;exact⟨by injection gH with h;exact h.symm,hk⟩
  ·rw[if_neg hk]at gH;cases gH
 obtain⟨rfl,hk⟩:=hdk;have Np:(d'.key==key)=true:=by simpa using hk
 have ZK:(st.i:Int)<(st.n.cells.length:Int):=by omega
 have HD:=aa hd;have mQ:=aa bu;clear h hg hx hw hM hGr dw hh gX gH hd bu hk;have YH:=aa (fun w' (hT:aD w' s v1) (hG:v1.Good) (hx:ax w' gx 70 (av s i))=>F4 s hs w' v1 hT hG gx i hx d');generalize v1.bG d'=r5 at *;obtain⟨k5,v5⟩:=r5;simp only[aA.agg]at YH Ul ⊢
 by_cases jK:k5=0
 ·subst jK
  rw[if_neg (by simp)];go_enter Tryz.func62,Tryz.ntmps62;go_wp2_with fail;refine(HW.out).mono ?_;rintro e' w2 ⟨aH,A,cap,l,hl,rfl,jB⟩;have HL:=aa hl;have Ex:=aa jB;rw[o7.out];clear hl jB;go_wp2_with fail;refine(HM.out _ aH).mono ?_;rintro e' w3 ⟨rfl,hT,hG,bC⟩;have ze:=Ex.out.ext (bC.mono fun b _ hb=>HO.out b hb);have qi:=aa (aH.of_no.ag bC);have HT:=aa hT;have HG:=aa hG;obtain⟨ad,b,o,rfl,hL⟩:=Lst.of Fz.out o7.out ru.out HL.out ze;obtain⟨q0,q1,q2,q3,q4,q5⟩:=And.intro hL.q0 (And.intro hL.q1 (And.intro hL.q2 (And.intro hL.q3 (And.intro hL.q4 hL.q5))));have lb:=hL.lb;have hcap:=hL.hcap;have rZ:=hL.rZ;have hb1:=hL.hb1;have cu:=hL.node;obtain⟨cb,co,mY,hcF,k0,k1,k2,k3⟩:=cu.cells.cellAt HD.out;have lc:=World.block_lt_of_cell? w3 _ k0;simp only at lc;have HLS:=aa hL;have HA1:=aa mY;have aaA:=aa ze;have HN:=aa cu;rw[mY]at q2;have Dr:st.i<ad.c1:=by have:=mQ.out;omega
  obtain⟨nl,pV⟩:∃nl,nl=st.n.cells.length:=⟨_,rfl⟩;obtain⟨si,yY⟩:∃si,si=st.i:=⟨_,rfl⟩;rw[<-pV]at q2 ZK hb1 rZ;rw[<-yY]at q5 k0 k1 k2 k3 ZK Dr;have Ju:=aa pV;have HSI:=aa yY;have jR:ah No w3 ((w3.alloc (.cells #[.string (au c.key),.string (au c.val),.int .i64 (c.over:Int),.int .i64 (c.len:Int)] 45)).alloc (.cells #[.int .i64 (st.id:Int),.bool true,.slice (some ⟨cb,co,none⟩) nl ad.c1,.slice ad.A2 st.n.keys.length ad.c2,.slice ad.A3 st.n.kids.length ad.c3,.int .i64 (si:Int)] 125)):=((ah.refl No w3).alloc _).alloc _;have G_:=aa (YH.out _ (HT.out.no hs jR) HG.out (wQ.out _ (qi.out.ag jR.of_no)));have BU:=aa jR;clear pV yY hT hG aH bC ze hL cu mY jR hcF;go_wp2_with fail;refine G_.out.mono ?_;rintro e w5 ⟨rfl,SB,Yn,bU⟩;have HT5:=aa SB;have HG5:=aa Yn;have jl:=aa bU;have yV:w.heap.size<=w3.heap.size:=qi.out.size
  have QE:=(((ax.new w3 45 #[.string (au c.key),.string (au c.val),.int .i64 (c.over:Int),.int .i64 (c.len:Int)]).alloc (.cells #[.int .i64 (st.id:Int),.bool true,.slice (some ⟨cb,co,none⟩) nl ad.c1,.slice ad.A2 st.n.keys.length ad.c2,.slice ad.A3 st.n.kids.length ad.c3,.int .i64 (si:Int)] 125)).ext bU (fun h=>by
   have h1:w3.heap.size<w.heap.size:=HO.out _ h
   omega))
  have IJ:=((ax.aS (b:=w3.heap.size+1) (w3.alloc (.cells #[.string (au c.key),.string (au c.val),.int .i64 (c.over:Int),.int .i64 (c.len:Int)] 45)) 125 #[.int .i64 (st.id:Int),.bool true,.slice (some ⟨cb,co,none⟩) nl ad.c1,.slice ad.A2 st.n.keys.length ad.c2,.slice ad.A3 st.n.kids.length ad.c3,.int .i64 (si:Int)] (by simp)).ext bU (fun h=>by
   have h1:w3.heap.size+1<w.heap.size:=HO.out _ h
   omega))
  have xN:=(qi.out.ag BU.out.of_no).ag bU;have xE:ah (gB w) _ w5:=bU.mono fun b _ hb=>HO.out b hb
  have uz:=aa (L9 s hs w w5 v5 SB Yn gx i (wQ.out _ xN) ws st ru.out c HCF.out _ cap l HL.out ((aaA.out.ext BU.out.of_no).ext xE) ad ((HN.out.ext BU.out.of_no).ext xE) HLS.out.ok HLS.out.lf HO.out xN (Ul.out (by trivial)));have hPV:st.n.value ad.A1 ad.c1 ad.A2 ad.c2 ad.A3 ad.c3=.agg #[.bool true,.slice (some ⟨cb,co,none⟩) nl ad.c1,.slice ad.A2 st.n.keys.length ad.c2,.slice ad.A3 st.n.kids.length ad.c3]:=by
   rw[Ju.out,<-HA1.out,<-HLS.out.lf];rfl
  rw[hPV,o7.out]at uz;simp only[aA.agg]at uz;clear k0 k1 k2 k3 q0 q1 q2 q3 q4 q5 lb lc;obtain⟨p0,p1,p2,p3,g0,g1,g2,g3,ln⟩:=QE.p4;obtain⟨z0,z1,z2,z3,z4,z5,lz⟩:=IJ.p6;clear SB Yn bU xN xE hPV QE IJ;go_wp2_with fail;refine uz.out.mono ?_;rintro e w8 ⟨a,rfl,PM⟩;have PM:=aa PM;go_wp2_with fail;refine PM.out.mono ?_;rintro e w9 ⟨rfl,LZ,Nr,jO⟩;go_wp2_with fail;go_ret;exact⟨rfl,LZ,Nr,jO⟩
 ·have mW:((k5:Int) != 0)=true:=by simpa using (by omega:¬(k5:Int)=0)
  rw[if_pos jK];clear jK;go_enter Tryz.func62,Tryz.ntmps62;go_wp2_with fail;refine(HW.out).mono ?_;rintro e' w2 ⟨aH,A,cap,l,hl,rfl,jB⟩;have HL:=aa hl;have Ex:=aa jB;rw[o7.out];clear hl jB;go_wp2_with fail;refine(HM.out _ aH).mono ?_;rintro e' w3 ⟨rfl,hT,hG,bC⟩;have ze:=Ex.out.ext (bC.mono fun b _ hb=>HO.out b hb);have qi:=aa (aH.of_no.ag bC);have HT:=aa hT;have HG:=aa hG;obtain⟨ad,b,o,rfl,hL⟩:=Lst.of Fz.out o7.out ru.out HL.out ze;obtain⟨q0,q1,q2,q3,q4,q5⟩:=And.intro hL.q0 (And.intro hL.q1 (And.intro hL.q2 (And.intro hL.q3 (And.intro hL.q4 hL.q5))));have lb:=hL.lb;have hcap:=hL.hcap;have rZ:=hL.rZ;have hb1:=hL.hb1;have cu:=hL.node;obtain⟨cb,co,mY,hcF,k0,k1,k2,k3⟩:=cu.cells.cellAt HD.out;have lc:=World.block_lt_of_cell? w3 _ k0;simp only at lc;have HLS:=aa hL;have HA1:=aa mY;have aaA:=aa ze;have HN:=aa cu;rw[mY]at q2;have Dr:st.i<ad.c1:=by have:=mQ.out;omega
  obtain⟨nl,pV⟩:∃nl,nl=st.n.cells.length:=⟨_,rfl⟩;obtain⟨si,yY⟩:∃si,si=st.i:=⟨_,rfl⟩;rw[<-pV]at q2 ZK hb1 rZ;rw[<-yY]at q5 k0 k1 k2 k3 ZK Dr;have Ju:=aa pV;have HSI:=aa yY;have jR:ah No w3 ((w3.alloc (.cells #[.string (au c.key),.string (au c.val),.int .i64 (c.over:Int),.int .i64 (c.len:Int)] 45)).alloc (.cells #[.int .i64 (st.id:Int),.bool true,.slice (some ⟨cb,co,none⟩) nl ad.c1,.slice ad.A2 st.n.keys.length ad.c2,.slice ad.A3 st.n.kids.length ad.c3,.int .i64 (si:Int)] 125)):=((ah.refl No w3).alloc _).alloc _;have G_:=aa (YH.out _ (HT.out.no hs jR) HG.out (wQ.out _ (qi.out.ag jR.of_no)));have BU:=aa jR;clear pV yY hT hG aH bC ze hL cu mY jR hcF;go_wp2_with fail;refine G_.out.mono ?_;rintro e w5 ⟨rfl,SB,Yn,bU⟩;go_wp2_with fail;go_ret;exact⟨rfl,SB,Yn,(qi.out.ag BU.out.of_no).ag bU⟩
end Go.Proofs.YtccnemmlkcmceaaGreatDoor
