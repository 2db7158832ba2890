/- Proofs about the given program, joined out of the texts C3, GA, GB, C5, C6, GC, GD, RB, RF. -/
import Derived.Test.YtccnemmlkcmceaaGreatDoorHL17
import Derived.Test.YtccnemmlkcmceaaGreatDoorHL18
import Derived.Lib.SmallJoins
import Derived.Deep.Slices
set_option linter.unusedVariables false
set_option linter.unusedSimpArgs false
set_option maxRecDepth 100000
set_option maxHeartbeats 6400000
namespace Go.Proofs.YtccnemmlkcmceaaGreatDoor
open Go.RowKit
def oV (l:List Ac):List Value:=l.flatMap Ac.vals
theorem uw (a:Ac) (l:List Ac):oV (a::l)=a.vals++oV l:=rfl
theorem D9 (l:List Ac):(oV l).length=l.length*4:=by
 induction l with
 | nil=>rfl
 | cons a l ih=>rw[uw,List.length_append,ih];simp[Ac.vals];omega
theorem zq:∀(l:List Ac) (i:Nat) (a:Ac),l[i]?=some a->∀j u,a.vals[j]?=some u->(oV l)[i*4+j]?=some u
 | d::l,0,a,h,j,u,hu=>by
  have:d=a:=by simpa using h
  subst this;rw[uw,List.getElem?_append_left (by simpa using (List.getElem?_eq_some_iff.1 hu).1)];simpa using hu
 | d::l,i+1,a,h,j,u,hu=>by
  have h':l[i]?=some a:=by simpa using h
  rw[uw,List.getElem?_append_right (by simp[Ac.vals];omega)];have:=zq l i a h' j u hu;rw[show(i+1)*4+j-d.vals.length=i*4+j by simp[Ac.vals];omega];exact this
theorem Rd.aff {w:World}{F:Nat->Prop}{A:Option Addr}{l:List Ac}(h:Rd w F 4 A l.length (oV l)) {i:Nat}{a:Ac}(hc:l[i]?=some a) :
  ∃b o,A=some ⟨b,o,none⟩/\¬F b/\w.cell? ⟨b,o+i*4,none⟩=some (.int .i64 a.kind)/\w.cell? ⟨b,o+i*4+1,none⟩=some (.int .i64 a.n)/\w.cell? ⟨b,o+i*4+2,none⟩=some (.string (au a.key))/\w.cell? ⟨b,o+i*4+3,none⟩=some (.string (au a.val)):=by
 have hi:i<l.length:=(List.getElem?_eq_some_iff.1 hc).1;obtain⟨b,o,e1,hb,hx⟩:=h.2 (by omega);have hv:=zq l i a hc;refine⟨b,o,e1,hb,hx _ _ (hv 0 _ rfl),?_,?_,?_⟩
 ·have:=hx _ _ (hv 1 _ rfl);rw[<-Nat.add_assoc]at this;exact this
 ·have:=hx _ _ (hv 2 _ rfl);rw[<-Nat.add_assoc]at this;exact this
 ·have:=hx _ _ (hv 3 _ rfl);rw[<-Nat.add_assoc]at this;exact this
def Ac.fits (a:Ac):Prop:=(-(2:Int)^63<=a.n/\a.n<2^63)/\a.val.length<2^63/\a.key.length<2^63
theorem V.Xt {v:V}{cap root:Nat}{key val:Bs}(h:(v.Put cap root key val).1=0):(v.Put cap root key val).2.spoilt=v.spoilt:=by
 have h1:=V.aN.clean (V.aN.fP (V.aN.refl (cap:=cap) (sp:=false) (v:=v)) root key val);unfold V.Put at h ⊢;split at h
 ·rename_i h2
  rw[if_pos h2]
 ·rename_i h2
  rw[if_neg h2];unfold V.sure at h ⊢;split at h
  ·rename_i h3
   rw[if_pos h3];exact h1
  ·contradiction
theorem V.adF {v:V}{cap root:Nat}{key:Bs}(h:(v.vz cap root key).2.1=0):(v.vz cap root key).2.2.spoilt=v.spoilt:=by
 have h1:=V.aN.clean (V.aN.iD (V.aN.refl (cap:=cap) (sp:=false) (v:=v)) root key);unfold V.vz at h ⊢;split at h
 ·rename_i h2
  rw[if_pos h2]
 ·rename_i h2
  rw[if_neg h2];split at h
  ·rename_i h3
   rw[if_pos h3];exact h1
  ·contradiction
structure iR (s:bH) (w wr:World) (v v':V) (i:Nat) (X P0 P':List Nat) (E E':List bK) (A':Option Addr) (c':Nat):Prop where
 tx:aD wr s v'
 one:vN s.cap v' i X P' E
 tr:Tr (· = i) v v' P0 P'
 bm:ax wr (w.heap.size+1) 32 #[.slice A' E'.length c']
 ra:jL wr (Lo (w.heap.size+2)) A' c' E'
 br:ax wr w.heap.size 32 #[.slice none 0 0]
 ex:ah s.F w wr
 st:V.Steps s.cap v v'
 sp:v'.spoilt=v.spoilt
section
variable {s:bH}{w wr w2:World}{v v' v2:V}{i:Nat}{X P0 P' P2:List Nat}{E E' E2:List bK}{A':Option Addr}{c':Nat}
theorem iR.no (h:iR s w wr v v' i X P0 P' E E' A' c') (hs:s.Ok) (hx:ah No wr w2):iR s w w2 v v' i X P0 P' E E' A' c' :=
 ⟨h.tx.no hs hx,h.one,h.tr,h.bm.ext hx (fun h=>h),h.ra.ext (hx.of_no),h.br.ext hx (fun h=>h),h.ex.ag hx.of_no,h.st,h.sp⟩
theorem iR.tree (h:iR s w wr v v' i X P0 P' E E' A' c') (h0:aD w s v) (ht:aD w2 s v2) (hx:ah s.F wr w2) (ho:vN s.cap v2 i X P2 E2) (hr:Tr (· = i) v' v2 P' P2) (dw:V.Steps s.cap v' v2) (rV:v2.spoilt=v'.spoilt):iR s w w2 v v2 i X P0 P2 E2 E' A' c':=by
 have hF:∀b,w.heap.size<=b->¬s.F b:=fun b hb hf=>by have:=h0.old hf;omega
 exact⟨ht,ho,h.tr.trans hr,h.bm.ext hx (hF _ (by omega)),(h.ra.mono (G:=fun b=>Lo (w.heap.size+2) b\/s.F b) (fun b _ hb=>by
  rcases hb with hb|hb
  ·exact hb
  ·exact Nat.lt_of_lt_of_le (h0.old hb) (by omega))).ext (hx.mono fun _ _ hb=>.inr hb) |>.mono (fun b _ hb=>.inl hb),h.br.ext hx (hF _ (Nat.le_refl _)),h.ex.ag hx,h.st.trans dw,rV.trans h.sp⟩
theorem iR.map {e0 e:Ending}(h:iR s w wr v v' i X P0 P' E E' A' c') (hs:s.Ok) (h0:aD w s v) (hm:zy wr (w.heap.size+1) e0 E2 e w2):∃A2 c2,iR s w w2 v v' i X P0 P' E E2 A2 c2:=by
 obtain⟨A2,c2,h1,h2⟩:=hm.m;have hx:ah s.F w w2:=h.ex.trans hm.x (fun b hb he=>by have:b=w.heap.size+1:=he;omega);refine⟨A2,c2,h.tx.tN hm.x (fun he=>?_) (fun he=>?_) (hs.keep _ _ hx h0.db),h.one,h.tr,h1,h2.mono (fun b _ hb=>?_),h.br.ext hm.x (fun he=>?_),hx,h.st,h.sp⟩
 ·have:s.t=w.heap.size+1:=he
  have:=h0.old (b:=s.t) (.inl rfl);omega
 ·have:s.m=w.heap.size+1:=he
  have:=h0.old (b:=s.m) (.inr rfl);omega
 ·have h1:b<w.heap.size+2:=hb
  have h2:=h.bm.lt;show b<wr.heap.size;omega
 ·have:w.heap.size=w.heap.size+1:=he
  omega
end
structure PS (s:bH) (w:World) (v:V) (i:Nat) (X P0:List Nat) (E:List bK) (e:Ending) (w':World):Prop where
 r:∃v' P' A' c',e=.returned (.tuple #[.agg #[.slice A' E.length c'],.bool true])/\aD w' s v'/\vN s.cap v' i X P' E/\Tr (· = i) v v' P0 P'/\jL w' (Lo w.heap.size) A' c' E/\V.Steps s.cap v v'
 x:ah s.F w w'
 y:w'.cell? ⟨s.t,10,none⟩=some (.bool v.spoilt)
def Fv (st:dN):Prop:=st.n.leaf=false/\st.n.ok=true/\st.i<=st.n.keys.length
theorem sQ {α:Type}{ws:List α}{k:Nat}{x:α}(h:ws[k]?=some x):(ws.take (k+1)).reverse=x::(ws.take k).reverse:=by
 rw[List.take_add_one,h];simp
theorem WA (s:bH) (hs:s.Ok) (w yD oC w16:World) (sp:dN) (key:Bs) (iB:Nat) (v12:V) (KB:Option Addr) (kd:Nat) (IB:Option Addr) (id:Nat) (iQ:Hid (Fv sp)) (gV:Hid (∀b,s.F b->b<w.heap.size)) (HDB:Hid (∀w',ah s.F w w'->s.db w'))
  (XB:Hid (∀b,(s.F b\/b=w.heap.size)->b<oC.heap.size)) (nU:Hid (ah No yD oC)) (XZ:Hid (ah s.F w oC)) (Ei:Hid (ah No oC w16)) (sw:Hid (aD yD s v12)) (n14:Nat)
  (TD:Hid (Rd w16 (fun b=>b<oC.heap.size\/n14<=b) 1 KB (sp.n.keys.length+1) ((aG sp.n.keys).take sp.i++.string (au key)::(aG sp.n.keys).drop sp.i)))
  (HRI:Hid (Rd w16 (fun b=>b<oC.heap.size) 1 IB (sp.n.kids.length+1) ((aK sp.n.kids).take (sp.i+1)++.int .i64 (iB:Int)::(aK sp.n.kids).drop (sp.i+1))))
  (PQ:Hid (sp.n.keys.length+1<=kd)) (PO:Hid (sp.n.kids.length+1<=id)) (PI:Hid (KB=none->kd=0)) (PH:Hid (IB=none->id=0)) :
  Hid (aU ((((w16.setCell ⟨w.heap.size,0,none⟩ (.bool false)).setCell ⟨w.heap.size,1,none⟩ (.slice none 0 0)).setCell ⟨w.heap.size,2,none⟩ (.slice KB (sp.n.keys.length+1) kd)).setCell ⟨w.heap.size,3,none⟩ (.slice IB (sp.n.kids.length+1) id)) (fun b=>s.F b\/b=w.heap.size) ⟨none,0,KB,kd,IB,id⟩ ⟨false,[],sp.n.keys.insertIdx sp.i key,sp.n.kids.insertIdx (sp.i+1) iB⟩) /\
  Hid (aD ((((w16.setCell ⟨w.heap.size,0,none⟩ (.bool false)).setCell ⟨w.heap.size,1,none⟩ (.slice none 0 0)).setCell ⟨w.heap.size,2,none⟩ (.slice KB (sp.n.keys.length+1) kd)).setCell ⟨w.heap.size,3,none⟩ (.slice IB (sp.n.kids.length+1) id)) s v12) /\
  Hid (ah s.F w ((((w16.setCell ⟨w.heap.size,0,none⟩ (.bool false)).setCell ⟨w.heap.size,1,none⟩ (.slice none 0 0)).setCell ⟨w.heap.size,2,none⟩ (.slice KB (sp.n.keys.length+1) kd)).setCell ⟨w.heap.size,3,none⟩ (.slice IB (sp.n.kids.length+1) id))):=by
 have hO:=Nd.Ok.of iQ.out.2.1;have qg:=(hO.br iQ.out.1).2;have hi:=iQ.out.2.2;have ha:=hO.a2;have hEw:ah s.F w ((((w16.setCell ⟨w.heap.size,0,none⟩ (.bool false)).setCell ⟨w.heap.size,1,none⟩ (.slice none 0 0)).setCell ⟨w.heap.size,2,none⟩ (.slice KB (sp.n.keys.length+1) kd)).setCell ⟨w.heap.size,3,none⟩ (.slice IB (sp.n.kids.length+1) id)) :=
  ((((XZ.out.ag Ei.out.of_no).ai (Nat.le_refl _) 0 (.bool false)).ai (Nat.le_refl _) 1 (.slice none 0 0)).ai (Nat.le_refl _) 2 (.slice KB (sp.n.keys.length+1) kd)).ai (Nat.le_refl _) 3 (.slice IB (sp.n.kids.length+1) id)
 have AX:∀(F:Nat->Prop),F w.heap.size->ah F w16 ((((w16.setCell ⟨w.heap.size,0,none⟩ (.bool false)).setCell ⟨w.heap.size,1,none⟩ (.slice none 0 0)).setCell ⟨w.heap.size,2,none⟩ (.slice KB (sp.n.keys.length+1) kd)).setCell ⟨w.heap.size,3,none⟩ (.slice IB (sp.n.kids.length+1) id)) :=
  fun F hF=>((((ah.refl F w16).ay hF 0 (.bool false)).ay hF 1 (.slice none 0 0)).ay hF 2 (.slice KB (sp.n.keys.length+1) kd)).ay hF 3 (.slice IB (sp.n.kids.length+1) id)
 have Vw:=XB.out w.heap.size (.inr rfl);generalize ((((w16.setCell ⟨w.heap.size,0,none⟩ (.bool false)).setCell ⟨w.heap.size,1,none⟩ (.slice none 0 0)).setCell ⟨w.heap.size,2,none⟩ (.slice KB (sp.n.keys.length+1) kd)).setCell ⟨w.heap.size,3,none⟩ (.slice IB (sp.n.kids.length+1) id))=wx at *;have e1:(sp.n.keys.insertIdx sp.i key).length=sp.n.keys.length+1:=List.length_insertIdx_of_le_length hi _;have e2:(sp.n.kids.insertIdx (sp.i+1) iB).length=sp.n.kids.length+1:=List.length_insertIdx_of_le_length (by omega) _;refine⟨aa ⟨Rd.lV _,?_,?_,Nat.le_refl _,by rw[e1];exact PQ.out,by rw[e2];exact PO.out,by simp,by rw[e1];omega,by rw[e2];omega,fun _=>rfl,PI.out,PH.out⟩,aa ?_,aa hEw⟩
 ·show Rd wx _ 1 KB (sp.n.keys.insertIdx sp.i key).length (aG (sp.n.keys.insertIdx sp.i key))
  rw[e1,Lc _ _ _ hi];exact(TD.out.ext (AX _ (.inl Vw))).mono (by omega) (fun b _ hb=>.inl (XB.out b hb))
 ·show Rd wx _ 1 IB (sp.n.kids.insertIdx (sp.i+1) iB).length (aK (sp.n.kids.insertIdx (sp.i+1) iB))
  rw[e2,Lb _ _ _ (by omega)];exact(HRI.out.ext (AX _ Vw)).mono (by omega) (fun b _ hb=>XB.out b hb)
 ·have hg:ah (On w.heap.size) yD wx:=(nU.out.ag Ei.out).of_no.ag (AX (On w.heap.size) rfl)
  exact sw.out.tN hg (fun h=>by have h1:=gV.out s.t (.inl rfl);have h2:s.t=w.heap.size:=h;omega) (fun h=>by have h1:=gV.out s.m (.inr rfl);have h2:s.m=w.heap.size:=h;omega) (HDB.out _ hEw)
theorem Vj {sp:dN}{key:Bs}{iB:Nat}(h:Fv sp) (hk:key.length<65536) (hi:iB<=65536):(⟨false,[],sp.n.keys.insertIdx sp.i key,sp.n.kids.insertIdx (sp.i+1) iB⟩:Nd).fits:=by
 have hO:=Nd.Ok.of h.2.1;have hf:=Nd.Ok.fits hO;have qg:=(hO.br h.1).2;have h3:=h.2.2;refine⟨by simp,fun k mW=>?_,fun i jP=>?_⟩
 ·rcases(List.mem_insertIdx h3).1 mW with e|e
  ·rw[e];exact hk
  ·exact hf.k k e
 ·rcases(List.mem_insertIdx (by omega)).1 jP with e|e
  ·rw[e];omega
  ·exact hf.i i e
theorem DL (s:bH) (hs:s.Ok) (root:Nat) (xG:root<4) (v:V) (ws:List dN) (n:Nd) (bQ:ws ≠ []) (Qm:∀st∈ws.dropLast,Fv st):zL s root v ws n:=by
 intro w gx F A cap l a h hg hx hF jB Fa hn hf;have gX:∃m,ws.length=m+1:=by cases hz:ws.length <;> simp_all
 obtain⟨m,gX⟩:=gX;have tZ:l.length=m+1:=by rw[<-gX,<-Fa,List.length_map]
 obtain⟨b,o,hA,JK,_⟩:=jB.rd.2 (by omega);subst hA;have hcap:m+1<=cap:=by have:=jB.cap;omega
 have LB:m<65536:=by have:=jB.len;omega
 have Ex:=aa (jB.mono (G:=s.F) (fun b _=>hF b));have HX:=aa (fun(w':World) (e:ah s.F w w')=>dS h hx e);have gV:=aa (fun b (hb:s.F b)=>h.old hb);have mQ:=aa (fun i (hi:i<m+1)=>(⟨_,List.getElem?_eq_getElem (by omega)⟩:∃p,l[i]?=some p));have YF:=aa Fa;have HUP:=aa Qm;have o7:=aa gX;have Yx:=aa (h.no hs ((ah.refl No w).alloc (.cells #[.bool n.leaf,.slice a.A1 n.cells.length a.c1,.slice a.A2 n.keys.length a.c2,.slice a.A3 n.kids.length a.c3] 40)));have HN0:Hid (aU (w.alloc (.cells #[.bool n.leaf,.slice a.A1 n.cells.length a.c1,.slice a.A2 n.keys.length a.c2,.slice a.A3 n.kids.length a.c3] 40)) (fun b=>s.F b\/b=w.heap.size) a n):=aa ((hn.mono (G:=fun b=>s.F b\/b=w.heap.size) (fun b hb h=>h.elim (hF b) (fun e=>absurd e (by omega)))).box _);have HF0:=aa hf;have HG0:=aa hg;have HDB:=aa (fun(w':World) (e:ah s.F w w')=>hs.keep _ _ e h.db);obtain⟨D,hD⟩:∃D,D=V.grow s.cap root ws.reverse n v:=⟨_,rfl⟩;rw[<-hD,gX];have HD:Hid (V.grow s.cap root (ws.take (m+1)).reverse n v=D):=aa (by rw[hD,<-gX,List.take_length]);have bn:=ax.new w 40 #[.bool n.leaf,.slice a.A1 n.cells.length a.c1,.slice a.A2 n.keys.length a.c2,.slice a.A3 n.kids.length a.c3];have wH:=aa bn;have uB:=aa ((ah.refl s.F w).alloc (.cells #[.bool n.leaf,.slice a.A1 n.cells.length a.c1,.slice a.A2 n.keys.length a.c2,.slice a.A3 n.kids.length a.c3] 40));simp only[Nd.value];clear hD Fa Qm gX tZ JK hF hn hf hx hg h bQ jB bn;go_enter Tryz.func100,Tryz.ntmps100;go_wp2_with fail;obtain⟨W0,LY⟩:∃W0,W0=(w.alloc (.cells #[.bool n.leaf,.slice a.A1 n.cells.length a.c1,.slice a.A2 n.keys.length a.c2,.slice a.A3 n.kids.length a.c3] 40)):=⟨_,rfl⟩;rw[<-LY]at Yx HN0 wH uB ⊢;clear LY
 go_loopg [7] (m+1) (fun gk k wr=>∃(kk:Nat) (n':Nd) (v':V) (a':jT),k=.int .i64 (kk:Int)/\Hid (gk=kk+1)/\Hid (kk<m+1)/\ax wr w.heap.size 40 #[.bool n'.leaf,.slice a'.A1 n'.cells.length a'.c1,.slice a'.A2 n'.keys.length a'.c2,.slice a'.A3 n'.kids.length a'.c3] /\
  Hid (aU wr (fun b=>s.F b\/b=w.heap.size) a' n')/\Hid n'.fits/\Hid (aD wr s v')/\Hid v'.Good/\Hid (ah s.F w wr)/\Hid (V.grow s.cap root (ws.take (kk+1)).reverse n' v'=D))
 case atStart=>exact⟨m,n,v,a,by go_num,aa rfl,aa (by omega),wH.out,HN0,HF0,Yx,HG0,uB,HD⟩
 case round =>
  clear wH HN0 HF0 Yx HG0 uB HD;obtain⟨kk,n',v',a',rfl,hgk,qg,Wm,HN,HFT,HT,HG,HE,HD⟩:=hrel;obtain⟨⟨st,ad⟩,hp⟩:=mQ.out kk qg.out;have Lj:=Ex.out.ext HE.out;obtain⟨b',o',su,ahg,q0,q1,q2,q3,q4,q5⟩:=Lj.at hp;injection su with su;injection su with e1 e2;subst e1;subst e2;simp only at q0 q1 q2 q3 q4 q5;have lq:=World.block_lt_of_cell? _ _ q0;simp only at lq;have Zx:ws[kk]?=some st:=by rw[<-YF.out,List.getElem?_map,hp];rfl
  have HWS:=aa Zx;have hki:(kk:Int)<(m:Int)+1:=by have:=qg.out;omega
  have HW:=aa (qw s hs wr.drew v' (HT.out.no hs (ah.refl No wr).drew) HG.out gx root (HX.out _ HE.out.drew) st.id n' _ _ _ _ _ _ _ (HN.out.ext (ah.refl _ wr).drew) HFT.out);have gF:=HD.out;rw[sQ Zx]at gF;have HD':=aa gF;obtain⟨r,hr⟩:∃r,r=v'.wr st.id n':=⟨_,rfl⟩;rw[<-hr]at HW;have HR:=aa hr;obtain⟨p0,p1,p2,p3,g0,g1,g2,g3,ln⟩:=Wm.p4;have wH:=aa Wm;simp only[Nd.value]at HW;clear gF HD hr Zx Lj Wm q1 q2 q3 q4 q5 ahg mQ;obtain⟨A1,c1,A2,c2,A3,c3⟩:=a';simp only at HW p0 p1 p2 p3;go_wp2_with fail;go_cut [8] (fun k8 wx=>k8=.int .i64 (r.1:Int)/\Hid (aD wx s r.2)/\Hid r.2.Good/\Hid (ah s.F wr wx))
  case first =>
   go_region_law ((go_simp;go_at_call 141;refine HW.out.mono ?_;rintro e w2 ⟨rfl,hT,hG,aH⟩;have rq:=aa hT;have Jy:=aa hG;have dx:=aa aH;clear hT hG aH))
   all_goals (
    go_wp2_with fail;go_meet
    exact⟨rfl,rq,Jy,aa ((ah.refl s.F wr).drew.ag dx.out)⟩)
  case rest =>
   obtain⟨rfl,rq,Jy,dx⟩:=hcut;have hnF:¬s.F w.heap.size:=fun hb=>absurd (gV.out _ hb) (Nat.lt_irrefl _)
   have fQ:=aa (HE.out.ag dx.out);have TK:=aa (HN.out.ext (dx.out.mono (fun b _ hb=>Or.inl hb):ah (fun b=>s.F b\/b=w.heap.size) wr wc));have IK:=wH.out.ext dx.out hnF;obtain⟨r1,v2⟩:=r;simp only at rq Jy dx HR HW ⊢
   by_cases Qw:r1=3
   ·subst Qw
    obtain⟨aX,eZ,JE⟩:=Ur (v:=v') (id:=st.id) (n:=n') (by rw[<-HR.out]);have agw:v2=v':=by rw[<-HR.out]at JE;exact JE
    subst agw;have G7:=aa (FK n' wc _ _ TK.out aX eZ);have VF:=Cm aX eZ;have XN:=aa aX;have gF:=HD'.out;rw[V.grow,if_neg (by rw[<-HR.out];simp),VF]at gF;simp only at gF;have e2:(v2.wr st.id n').2=v2:=by rw[<-HR.out]
    rw[e2]at gF;have Ef:=aa (Nd.gW HFT.out 0 n'.fV);have HRF:=aa (Nd.gW HFT.out (n'.fV+n'.gap) n'.all);generalize hL:n'.part 0 n'.fV=NL at G7 gF Ef;generalize hR:n'.part (n'.fV+n'.gap) n'.all=NR at G7 gF HRF;have AJ:Hid ((n'.mid n'.fV).length<65536):=aa (Qc XN.out);generalize hK:n'.mid n'.fV=key at G7 gF AJ;have HDG:=aa gF;simp only[Nd.value]at G7;clear gF VF e2 aX eZ JE HD' p0 p1 p2 p3 g0 g1 g2 g3 ln;have Em:=aa IK;obtain⟨p0,p1,p2,p3,g0,g1,g2,g3,ln⟩:=IK.p4;clear IK;go_wp2_with fail;refine G7.out.mono ?_;rintro e w5 ⟨bU,aL,aR,rfl,E_,E9⟩;have jl:=aa bU;have Ju:=aa E_;have uA:=aa E9;clear bU E_ E9 p0 p1 p2 p3 g0 g1 g2 g3 ln q0;simp only[Nd.value];go_wp2_with fail;obtain⟨W6,Fp⟩:∃W6,W6=((w5.alloc (.cells #[.bool NL.leaf,.slice aL.A1 NL.cells.length aL.c1,.slice aL.A2 NL.keys.length aL.c2,.slice aL.A3 NL.kids.length aL.c3] 40)).alloc (.cells #[.bool NR.leaf,.slice aR.A1 NR.cells.length aR.c1,.slice aR.A2 NR.keys.length aR.c2,.slice aR.A3 NR.kids.length aR.c3] 40)):=⟨_,rfl⟩;have IW:ah No w5 W6:=by rw[Fp];exact((ah.refl No w5).alloc _).alloc _
    have IX:ah No wc W6:=jl.out.ag IW;have hBL:ax W6 w5.heap.size 40 #[.bool NL.leaf,.slice aL.A1 NL.cells.length aL.c1,.slice aL.A2 NL.keys.length aL.c2,.slice aL.A3 NL.kids.length aL.c3]:=by rw[Fp];exact(ax.new w5 40 _).alloc _
    have hBR:ax W6 (w5.heap.size+1) 40 #[.bool NR.leaf,.slice aR.A1 NR.cells.length aR.c1,.slice aR.A2 NR.keys.length aR.c2,.slice aR.A3 NR.kids.length aR.c3]:=by rw[Fp];exact ax.aS (b:=w5.heap.size+1) (w5.alloc _) 40 _ (by simp)
    have Zy:w.heap.size<wc.heap.size:=Em.out.lt;have h5s:wc.heap.size<=w5.heap.size:=jl.out.size;have hFo:∀b,s.F b\/b=w.heap.size->gB wc b:=fun b hb=>hb.elim (fun h=>Nat.lt_of_lt_of_le (gV.out b h) (Nat.le_of_lt Zy)) (fun h=>h▸Zy)
    have adj:Hid (aU W6 (fun b=>s.F b\/b=w.heap.size) aL NL):=aa ((Ju.out.mono (G:=fun b=>s.F b\/b=w.heap.size) (fun b _ hb=>hFo b hb)).ext IW.of_no);have adh:Hid (aU W6 (fun b=>s.F b\/b=w.heap.size) aR NR):=aa ((uA.out.mono (G:=fun b=>s.F b\/b=w.heap.size) (fun b _ hb=>hFo b hb)).ext IW.of_no);have Bn:=aa (fQ.out.ag IX.of_no);have HT6:=aa (rq.out.no hs IX);have aaL:=aa (Em.out.ext IX (fun h=>h));have JQ:=aa hBL;have PR:=aa hBR;have HS5:=aa (Nat.lt_of_lt_of_le Zy h5s);rw[<-Fp];clear Fp IW IX Zy h5s hFo Ju uA jl;obtain⟨_,_,su,_,q0,_⟩:=(Ex.out.ext Bn.out).at hp;injection su with su;injection su with e1 e2;subst e1;subst e2;simp only at q0;have lq6:=World.block_lt_of_cell? _ _ q0;simp only at lq6;obtain⟨p0,p1,p2,p3,g0,g1,g2,g3,ln⟩:=hBL.p4;have HW9:=aa (qw s hs W6.drew v2 (HT6.out.no hs (ah.refl No W6).drew) Jy.out gx root (HX.out _ Bn.out.drew) st.id NL _ _ _ _ _ _ _ (adj.out.ext (ah.refl _ W6).drew) Ef.out);obtain⟨r9,hr9⟩:∃r9,r9=v2.wr st.id NL:=⟨_,rfl⟩;have hdg:=HDG.out;have HR9:=aa hr9;rw[<-hr9]at HW9 hdg;have HD9:=aa hdg;simp only[Nd.value]at HW9;clear hdg HDG hr9 hBL hBR;go_cut [13] (fun k9 wx=>k9=.int .i64 (r9.1:Int)/\Hid (aD wx s r9.2)/\Hid r9.2.Good/\Hid (ah s.F W6 wx))
    case first =>
     go_region_law ((go_simp;go_at_call 141;refine HW9.out.mono ?_;rintro e w2 ⟨rfl,hT,hG,aH⟩;have rq:=aa hT;have Jy:=aa hG;have dx:=aa aH;clear hT hG aH))
     all_goals (
      go_wp2_with fail;go_meet
      exact⟨rfl,rq,Jy,aa ((ah.refl s.F W6).drew.ag dx.out)⟩)
    case rest =>
     clear p0 p1 p2 p3 g0 g1 g2 g3 ln q0 lq6 HW9;obtain⟨rfl,Yw,HG9,qY⟩:=hcut;obtain⟨c9,v9⟩:=r9;simp only at Yw HG9 HD9 ⊢;have PN:=aa (Bn.out.ag qY.out)
     by_cases h9:c9=0
     ·subst h9
      have hse:=YO (v:=v2) (id:=st.id) (n:=NL) (by rw[<-HR9.out]);have agC:=V.uh hse;have ahl:=HT6.out.h2;have wL:=bH.oQ hs;have ahO:=aa (show st.id<65536 by omega);clear hse agC ahl wL;have dL:=HD9.out;rw[if_neg (by simp)]at dL;have Wl:=PR.out.ext qY.out (fun hb=>by have:=gV.out _ hb;have:=HS5.out;omega);obtain⟨p0,p1,p2,p3,g0,g1,g2,g3,ln⟩:=Wl.p4;have aaJ:=aa (zg s hs wc v9 Yw.out HG9.out gx root (HX.out _ PN.out) NR _ _ _ _ _ _ _ (adh.out.ext (qY.out.mono (fun b _ hb=>Or.inl hb))) HRF.out (fun b hb=>Or.inl hb));obtain⟨H_,Ls⟩:∃H_,H_=v9.fresh s.cap NR:=⟨_,rfl⟩;have V4:=V.DN HG9.out Yw.out.h2 (bH.oQ hs) NR;rw[<-Ls]at aaJ dL V4;have QZ:=aa V4;have Ej:=aa dL;simp only[Nd.value]at aaJ;clear dL Wl Ls V4 HD9;go_wp2_with fail;refine aaJ.out.mono ?_;rintro e yD ⟨rfl,aeW,ae1,Dc⟩;have sw:=aa aeW;have yw:=aa ae1;have zF:=aa Dc;clear aeW ae1 Dc p0 p1 p2 p3 g0 g1 g2 g3 ln aaJ;obtain⟨iB,c12,v12⟩:=H_;simp only at sw yw Ej QZ ⊢;have rz:=aa (PN.out.ag zF.out)
      by_cases Gm:c12=0
      ·subst Gm
       have dL:=Ej.out;rw[if_neg (by simp)]at dL;cases kk with
       | zero =>
        simp only[List.take_zero,List.reverse_nil]at dL;obtain⟨_,_,su,_,q0,_⟩:=(Ex.out.ext rz.out).at hp;injection su with su;injection su with e1 e2;subst e1;subst e2;simp only[Nat.zero_mul,Nat.add_zero]at q0;have lq6:=World.block_lt_of_cell? _ _ q0;simp only at lq6;have vv:ah No yD ((yD.alloc (.cells #[.string (au key)] 9)).alloc (.cells #[.int .i64 (st.id:Int),.int .i64 (iB:Int)] 3)):=((ah.refl No yD).alloc _).alloc _;have agq:=rz.out.size;have aed:aU ((yD.alloc (.cells #[.string (au key)] 9)).alloc (.cells #[.int .i64 (st.id:Int),.int .i64 (iB:Int)] 3)) s.F ⟨none,0,some ⟨yD.heap.size,0,none⟩,1,some ⟨yD.heap.size+1,0,none⟩,2⟩ ⟨false,[],[key],[st.id,iB]⟩ :=
         Uy ((ax.new yD 9 _).alloc _) (ax.aS (b:=yD.heap.size+1) (yD.alloc _) 3 _ (by simp)) (fun hb=>by have:=gV.out _ hb;omega) (fun hb=>by have:=gV.out _ hb;omega)
        have aex:(⟨false,[],[key],[st.id,iB]⟩:Nd).fits:=⟨by simp,fun k hk=>by
         have mW:k=key:=by simpa using hk
         rw[mW];exact AJ.out,fun i hi=>by
         have jP:i=st.id\/i=iB:=by simpa using hi
         have h1:=ahO.out;have h2:=QZ.out
         rcases jP with rfl|rfl <;> omega⟩
        have aaH:=aa (zg s hs _ v12 (sw.out.no hs vv) yw.out gx root (HX.out _ (rz.out.ag vv.of_no)) _ s.F _ _ _ _ _ _ aed aex (fun b hb=>hb));simp only[Nd.value,List.length_nil,List.length_singleton,List.length_cons,Nat.zero_add,Nat.reduceAdd]at aaH;have V3:=V.DN yw.out sw.out.h2 (bH.oQ hs) ⟨false,[],[key],[st.id,iB]⟩;obtain⟨r16,ad1⟩:∃r16,r16=v12.fresh s.cap ⟨false,[],[key],[st.id,iB]⟩:=⟨_,rfl⟩;rw[<-ad1]at aaH dL V3;have ads:=aa dL;have abu:=aa V3;have Ei:=aa (rz.out.ag vv.of_no);clear dL ad1 vv aed aex V3 agq;go_wp2_with fail;refine aaH.out.mono ?_;rintro e w16 ⟨rfl,aeV,ae0,EW⟩;have ac7:=aa aeV;have ado:=aa ae0;have ac5:=aa EW;clear aeV ae0 EW;obtain⟨top,c16,v16⟩:=r16;simp only at ac7 ado ads abu ⊢;have adq:=aa (Ei.out.ag ac5.out)
        by_cases h16:c16=0
        ·subst h16
         have dL:=ads.out;rw[if_neg (by simp)]at dL;subst dL;have BI:=HX.out _ adq.out;have d0:=BI.cell 0;have d1:=BI.cell 1;have ld:=BI.lt;simp[av]at d0 d1;have HSR:=aa (nY s hs w16.drew v16 (ac7.out.no hs (ah.refl No w16).drew) root top xG (by have:=abu.out;omega));clear BI q0 lq6;go_wp2_with fail
         go_region_law ((go_simp;go_at_call 21;refine(HSR.out).mono ?_;rintro e w7 ⟨rfl,Wu,eX⟩;have FB:=aa Wu;have nS:=aa eX;clear Wu eX))
         all_goals (
          go_wp2_with fail;go_ret
          exact⟨rfl,FB.out,ado.out.eU _ _,adq.out.drew.ag nS.out⟩)
        ·have hD:(c16,v16)=D:=by rw[<-ads.out,if_pos h16]
         subst hD;have ajI:((c16:Int) != 0)=true:=by simpa using (by omega:¬(c16:Int)=0)
         clear h16;go_wp2_with fail;go_ret;exact⟨rfl,ac7.out,ado.out,adq.out⟩
       | succ j =>
        obtain⟨⟨sp,ap⟩,OE⟩:∃q,l[j]?=some q:=⟨_,List.getElem?_eq_getElem (by have:=(List.getElem?_eq_some_iff.1 hp).1;omega)⟩;obtain⟨_,_,su,_,q0,q1,q2,q3,q4,q5⟩:=(Ex.out.ext rz.out).at OE;injection su with su;injection su with e1 e2;subst e1;subst e2;simp only at q0 q1 q2 q3 q4 q5;have lqp:=World.block_lt_of_cell? _ _ q1;simp only at lqp;have Ir:ws[j]?=some sp:=by rw[<-YF.out,List.getElem?_map,OE];rfl
        rw[sQ Ir]at dL;simp only at dL;have ais:Hid (V.grow s.cap root (ws.take (j+1)).reverse ⟨false,[],sp.n.keys.insertIdx sp.i key,sp.n.kids.insertIdx (sp.i+1) iB⟩ v12=D):=aa (by rw[sQ Ir];exact dL);have HNP:=aa ((Ex.out.ext rz.out).nodes _ (List.mem_of_getElem? OE))
        have EY:Fv sp:=HUP.out sp (by
         have l_:=qg.out;have hwm:=o7.out;refine List.mem_iff_getElem?.2 ⟨j,?_⟩;rw[List.getElem?_dropLast,if_pos (by omega)]
         exact Ir)
        have iQ:=aa EY;have hjm:IntKind.i64.wrap (((j+1:Nat):Int)-1)=(j:Int):=by rw[IntWalk.i64_in _ (by have:=qg.out;omega)];omega
        have ajk:(j:Int)<(m:Int)+1:=by have:=qg.out;omega
        have hj0:¬(((j+1:Nat):Int)=0):=by omega
        clear dL Ir EY;go_wp2_with fail
        go_region
        obtain⟨oC,Z6⟩:∃oC,oC=(yD.alloc (.cells #[.bool sp.n.leaf,.slice ap.A1 sp.n.cells.length ap.c1,.slice ap.A2 sp.n.keys.length ap.c2,.slice ap.A3 sp.n.kids.length ap.c3] 40)).drew:=⟨_,rfl⟩;have SE:ah No yD oC:=by rw[Z6];exact((ah.refl No yD).alloc _).drew
        have hBP:ax oC yD.heap.size 40 #[.bool sp.n.leaf,.slice ap.A1 sp.n.cells.length ap.c1,.slice ap.A2 sp.n.keys.length ap.c2,.slice ap.A3 sp.n.kids.length ap.c3]:=by rw[Z6];exact(ax.new yD 40 _).cO
        rw[<-Z6];have abz:=aa (((aaL.out.ext qY.out (fun hb=>absurd (gV.out _ hb) (Nat.lt_irrefl _))).ext zF.out (fun hb=>absurd (gV.out _ hb) (Nat.lt_irrefl _))).ext SE (fun h=>h));have Sj:=HNP.out;have ad4:=Nd.Ok.of iQ.out.2.1;have Un:Hid (∀W',ah No oC W'->Calls Tryz.prog 124 #[.slice ap.A2 sp.n.keys.length ap.c2] W' (zu 9 1 W' (aG sp.n.keys) sp.n.keys.length)):=aa (fun W' e=>gY ⟨ap.A2,sp.n.keys.length,ap.c2,aG sp.n.keys⟩ W' ⟨(Sj.keys.mono (G:=No) (by omega) (fun _ _ h=>h.elim)).ext (SE.ag e),Sj.e2,lU _,Sj.l2⟩ (by have:=ad4.a2;simp only;omega));have HCI:Hid (∀W',ah No oC W'->Calls Tryz.prog 146 #[.slice ap.A3 sp.n.kids.length ap.c3] W' (zu 3 1 W' (aK sp.n.kids) sp.n.kids.length)):=aa (fun W' e=>wF ⟨ap.A3,sp.n.kids.length,ap.c3,aK sp.n.kids⟩ W' ⟨(Sj.kids.mono (G:=No) (by omega) (fun _ _ h=>h.elim)).ext (SE.ag e),Sj.e3,pK _,Sj.l3⟩ (by have:=Sj.b3;simp only;omega));clear Z6 Sj ad4 q0 q1 q2 q3 q4 q5 lqp;obtain⟨p0,p1,p2,p3,g0,g1,g2,g3,ln⟩:=hBP.p4;have HBP:=aa hBP;have afQ:=aa SE;have XZ:=aa (rz.out.ag SE.of_no);clear hBP SE;go_wp2_with fail;have HIK:Hid (∀base v w vb,w.ownsRow base 9 1 v sp.n.keys.length (aG sp.n.keys)->ax w vb 9 #[.string (au key)]->some vb≠v.ownBlock->base<=w.heap.size->Calls Tryz.prog 144 #[v,.int .i64 (sp.i:Int),.slice (some ⟨vb,0,none⟩) 1 1] w (Ay base v w ((aG sp.n.keys).take sp.i++.string (au key)::(aG sp.n.keys).drop sp.i) (sp.n.keys.length+1))) :=
         aa (fun base v w vb ho hb hn hs=>CY sp.i _ iQ.out.2.2 (by have:=(Nd.Ok.of iQ.out.2.1).a2;omega) base v _ w ho (lU _) vb _ rfl hb hn hs)
        have HII:Hid (∀base v w vb,w.ownsRow base 3 1 v sp.n.kids.length (aK sp.n.kids)->ax w vb 3 #[.int .i64 (iB:Int)]->some vb≠v.ownBlock->base<=w.heap.size->Calls Tryz.prog 145 #[v,.int .i64 ((sp.i:Int)+1),.slice (some ⟨vb,0,none⟩) 1 1] w (Ay base v w ((aK sp.n.kids).take (sp.i+1)++.int .i64 (iB:Int)::(aK sp.n.kids).drop (sp.i+1)) (sp.n.kids.length+1))) :=
         aa (fun base v w vb ho hb hn hs=>by
          have h0:=Le (sp.i+1) _ (by have:=(Nd.Ok.of iQ.out.2.1).br iQ.out.1;have:=iQ.out.2.2;omega) (by have:=(Nd.Ok.of iQ.out.2.1).br iQ.out.1;have:=(Nd.Ok.of iQ.out.2.1).a2;omega) base v _ w ho (pK _) vb _ rfl hb hn hs;rw[show(((sp.i+1:Nat):Int))=(sp.i:Int)+1 from by omega]at h0
          exact h0)
        have Dp:¬(yD.heap.size=w.heap.size):=by have h1:=(aaL.out.ext qY.out (fun hb=>absurd (gV.out _ hb) (Nat.lt_irrefl _))).lt;have h2:=zF.out.size;omega
        have tX:¬(w.heap.size=yD.heap.size):=fun h=>Dp h.symm
        have hsw:IntKind.i64.wrap ((sp.i:Int)+1)=(sp.i:Int)+1:=IntWalk.i64_in _ (by have:=iQ.out.2.2;have:=(Nd.Ok.of iQ.out.2.1).a2;omega)
        have XB:=aa (show ∀b,(s.F b\/b=w.heap.size)->b<oC.heap.size from fun b hb=>by
         have h1:=abz.out.lt;rcases hb with hb|hb
         ·have:=gV.out b hb;omega
         ·omega)
        have nU:=aa (show ah No yD oC from afQ.out);have HFN:=aa (show(⟨false,[],sp.n.keys.insertIdx sp.i key,sp.n.kids.insertIdx (sp.i+1) iB⟩:Nd).fits from Vj iQ.out AJ.out QZ.out);go_region_held3 (fun w'=>w'.cell? ⟨yD.heap.size,2,none⟩=some (.slice ap.A2 sp.n.keys.length ap.c2)/\w'.cell? ⟨yD.heap.size,3,none⟩=some (.slice ap.A3 sp.n.kids.length ap.c3)) (go_keep)
         (first
          | (go_at_call 124;refine(Un.out _ ?_).mono ?_;(with_reducible (repeat' (first|exact ah.refl _ _|exact FC.out|exact yx.out|exact FD.out|apply ah.drew|apply ah.alloc)));rintro e uY ⟨KA,kc,rfl,aP,qM⟩;have Ed:=aa aP;have yu:=aa qM;have IZ:ah No oC uY:=(by refine ah.ag ?_ qM;(with_reducible (repeat' (first|exact ah.refl _ _|exact FC.out|exact yx.out|exact FD.out|apply ah.drew|apply ah.alloc))));have FD:=aa IZ;have k2:=aj IZ p2 (fun h=>h);have k3:=aj IZ p3 (fun h=>h);(first|((with_reducible have hy:=(qM:ah No ((oC.alloc (.cells #[.string (au key)] 9)).alloc (.cells #[.int .i64 (iB:Int)] 3)).drew uY));have HKB:=aa (ax.aY hy (((ax.new oC 9 #[.string (au key)]).alloc _).cO) (fun h=>h));have G9:=aa (ax.aY hy ((ax.aS (b:=oC.heap.size+1) (oC.alloc (.cells #[.string (au key)] 9)) 3 #[.int .i64 (iB:Int)] (by simp)).cO) (fun h=>h));clear hy)|((with_reducible have hy:=(qM:ah No ((oC.alloc (.cells #[.int .i64 (iB:Int)] 3)).alloc (.cells #[.string (au key)] 9)).drew uY));have G9:=aa (ax.aY hy (((ax.new oC 3 #[.int .i64 (iB:Int)]).alloc _).cO) (fun h=>h));have HKB:=aa (ax.aY hy ((ax.aS (b:=oC.heap.size+1) (oC.alloc (.cells #[.int .i64 (iB:Int)] 3)) 9 #[.string (au key)] (by simp)).cO) (fun h=>h));clear hy)|((with_reducible have hy:=(qM:ah No (oC.alloc (.cells #[.string (au key)] 9)).drew uY));have HKB:=aa (ax.aY hy ((ax.new oC 9 #[.string (au key)]).cO) (fun h=>h));clear hy)|((with_reducible have hy:=(qM:ah No (oC.alloc (.cells #[.int .i64 (iB:Int)] 3)).drew uY));have G9:=aa (ax.aY hy ((ax.new oC 3 #[.int .i64 (iB:Int)]).cO) (fun h=>h));clear hy)|skip);clear aP qM IZ)
          | (go_at_call 144;refine(HIK.out _ _ _ _ (kQ (F:=No) ?_ Ed.out (fun _ _ h=>h)) ?_ ?_ ?_).mono ?_;(with_reducible (repeat' (first|exact ah.refl _ _|exact FC.out|exact yx.out|exact FD.out|apply ah.drew|apply ah.alloc)));(with_reducible (first|exact HKB.out|exact HKB.out.alloc _|exact ax.new _ _ _|exact(ax.new _ _ _).alloc _|exact ax.aS _ _ _ (by simp)|exact(HKB.out.alloc _).alloc _));(intro h;have h1:=Ed.out.lt _ h.symm;have h2:=yu.out.size;first|omega|(simp at h1 h2;done)|(simp at h1 h2;omega));(have h2:=yu.out.size;first|omega|(simp at h2 ⊢;done)|(simp at h2 ⊢;omega));rintro e yK ⟨KB,kd,rfl,AY,Gg,pW,vg⟩;have adg:=aa AY;have PQ:=aa Gg;have PI:=aa pW;have ahA:=aa vg;have IY:ah No oC yK:=(by refine ah.trans ?_ vg (fun i hi hb=>?_);(with_reducible (repeat' (first|exact ah.refl _ _|exact FC.out|exact yx.out|exact FD.out|apply ah.drew|apply ah.alloc)));exfalso;have h1:=Ed.out.lt _ hb;have h2:=yu.out.size;first|omega|(simp at h1 h2;done)|(simp at h1 h2;omega)|(simp at h1 h2 hi;done)|(simp at h1 h2 hi;omega));have yx:=aa IY;clear k2 k3;have k2:=aj IY p2 (fun h=>h);have k3:=aj IY p3 (fun h=>h);(first|((with_reducible have hy:=(vg:ah (fun b=>(Value.slice KA sp.n.keys.length kc).ownBlock=some b) ((uY.alloc (.cells #[.string (au key)] 9)).alloc (.cells #[.int .i64 (iB:Int)] 3)) yK));have G9:=aa (ax.aY hy (ax.aS (b:=uY.heap.size+1) (uY.alloc (.cells #[.string (au key)] 9)) 3 #[.int .i64 (iB:Int)] (by simp)) (by intro h;have h1:=Ed.out.lt _ h;have h2:=yu.out.size;first|omega|(simp at h1 h2;done)|(simp at h1 h2;omega)));clear hy)|((with_reducible have hy:=(vg:ah (fun b=>(Value.slice KA sp.n.keys.length kc).ownBlock=some b) ((uY.alloc (.cells #[.int .i64 (iB:Int)] 3)).alloc (.cells #[.string (au key)] 9)) yK));have G9:=aa (ax.aY hy ((ax.new uY 3 #[.int .i64 (iB:Int)]).alloc _) (by intro h;have h1:=Ed.out.lt _ h;have h2:=yu.out.size;first|omega|(simp at h1 h2;done)|(simp at h1 h2;omega)));clear hy)|((with_reducible have hy:=(vg:ah (fun b=>(Value.slice KA sp.n.keys.length kc).ownBlock=some b) (uY.alloc (.cells #[.int .i64 (iB:Int)] 3)) yK));have G9:=aa (ax.aY hy (ax.new uY 3 #[.int .i64 (iB:Int)]) (by intro h;have h1:=Ed.out.lt _ h;have h2:=yu.out.size;first|omega|(simp at h1 h2;done)|(simp at h1 h2;omega)));clear hy)|((with_reducible have hy:=(vg:ah (fun b=>(Value.slice KA sp.n.keys.length kc).ownBlock=some b) (uY.alloc (.cells #[.string (au key)] 9)) yK));have G9:=aa (ax.aY hy (G9.out.alloc _) (by intro h;have h1:=Ed.out.lt _ h;have h2:=yu.out.size;first|omega|(simp at h1 h2;done)|(simp at h1 h2;omega)));clear hy)|((with_reducible have hy:=(vg:ah (fun b=>(Value.slice KA sp.n.keys.length kc).ownBlock=some b) uY yK));have G9:=aa (ax.aY hy (G9.out) (by intro h;have h1:=Ed.out.lt _ h;have h2:=yu.out.size;first|omega|(simp at h1 h2;done)|(simp at h1 h2;omega)));clear hy)|skip);clear AY Gg pW vg IY)
          | (go_at_call 146;refine(HCI.out _ ?_).mono ?_;(with_reducible (repeat' (first|exact ah.refl _ _|exact FC.out|exact yx.out|exact FD.out|apply ah.drew|apply ah.alloc)));rintro e PX ⟨IA,ic,rfl,aP,yU⟩;have MZ:=aa aP;have Fx:=aa yU;have xO:ah No oC PX:=(by refine ah.ag ?_ yU;(with_reducible (repeat' (first|exact ah.refl _ _|exact FC.out|exact yx.out|exact FD.out|apply ah.drew|apply ah.alloc))));have FC:=aa xO;have ae2:ah No yK PX:=(by refine ah.ag ?_ yU;(with_reducible (repeat' (first|exact ah.refl _ _|apply ah.drew|apply ah.alloc))));have aaI:=aa ae2;clear k2 k3;have k2:=aj xO p2 (fun h=>h);have k3:=aj xO p3 (fun h=>h);(first|((with_reducible have hy:=(yU:ah No (yK.alloc (.cells #[.int .i64 (iB:Int)] 3)) PX));have G9:=aa (ax.aY hy (ax.new yK 3 #[.int .i64 (iB:Int)]) (fun h=>h));clear hy)|((with_reducible have hy:=(yU:ah No yK PX));have G9:=aa (ax.aY hy (G9.out) (fun h=>h));clear hy)|skip);clear aP yU xO ae2)
          | (go_at_call 145;refine(HII.out _ _ _ _ (kQ (F:=No) ?_ MZ.out (fun _ _ h=>h)) ?_ ?_ ?_).mono ?_;(with_reducible (repeat' (first|exact ah.refl _ _|apply ah.drew|apply ah.alloc)));(with_reducible (first|exact G9.out|exact G9.out.alloc _|exact ax.new _ _ _|exact(ax.new _ _ _).alloc _|exact ax.aS _ _ _ (by simp)|exact(G9.out.alloc _).alloc _));(intro h;have h1:=MZ.out.lt _ h.symm;have h2:=Fx.out.size;have h3:=ahA.out.size;have h4:=yu.out.size;first|omega|(simp at h1 h2 h3 h4;done)|(simp at h1 h2 h3 h4;omega));(have h2:=Fx.out.size;first|omega|(simp at h2 ⊢;done)|(simp at h2 ⊢;omega));rintro e w16 ⟨IB,id,rfl,AY,Gg,pW,EW⟩;have ajN:=aa AY;have PO:=aa Gg;have PH:=aa pW;have vv:ah No oC w16:=(by refine ah.trans ?_ EW (fun i hi hb=>?_);(with_reducible (repeat' (first|exact ah.refl _ _|exact FC.out|exact yx.out|exact FD.out|apply ah.drew|apply ah.alloc)));exfalso;have h1:=MZ.out.lt _ hb;have h2:=yx.out.size;have h3:=Fx.out.size;first|omega|(simp at h1;done)|(simp at h1;omega));have Ei:=aa vv;have SC:ah (fun b=>b<oC.heap.size\/yK.heap.size<=b) yK w16:=(by refine ah.trans (F:=fun b=>b<oC.heap.size\/yK.heap.size<=b) ?_ EW (fun i hi hb=>?_);refine ah.ag aaI.out.of_no ?_;(with_reducible (repeat' (first|exact ah.refl _ _|apply ah.drew|apply ah.alloc)));exact Or.inr (by have h1:=MZ.out.lt _ hb;have h2:=aaI.out.size;have h3:=Fx.out.size;first|omega|(simp at h1;done)|(simp at h1;omega)));have aaH:=aa SC;have Wv:Rd yK (fun b=>b<oC.heap.size\/yK.heap.size<=b) 1 KB (sp.n.keys.length+1) _:=adg.out.mono (by omega) (fun b hb h=>by show b<_;rcases h with h|h;(have h2:=FD.out.size;have h3:=yu.out.size;first|omega|(simp at h2 h3 ⊢;omega));exact absurd h (by omega));have TD:=aa (Wv.ext SC);have hRI:Rd w16 (fun b=>b<oC.heap.size) 1 IB (sp.n.kids.length+1) _:=AY.mono (by omega) (fun b hb h=>by show b<_;have h4:b<oC.heap.size:=h;have h2:=yx.out.size;have h3:=Fx.out.size;first|omega|(simp;omega)|(simp at h2 h3 ⊢;omega));have HRI:=aa hRI;have O1:=ax.aY vv abz.out (fun h=>h);have TR:=aa O1;obtain⟨s0,s1,s2,s3,f0,f1,f2,f3,lf⟩:=O1.p4;clear k2 k3;have k2:=aj vv p2 (fun h=>h);have k3:=aj vv p3 (fun h=>h);clear AY Gg pW EW vv SC Wv hRI O1))
        all_goals (
         go_wp2_with fail;go_roundg (j+1)
         case rel =>
          have Ff:=WA s hs w yD oC w16 sp key iB v12 KB kd IB id iQ gV HDB XB nU XZ Ei sw (yK.heap.size) TD HRI PQ PO PI PH;refine⟨j,⟨false,[],sp.n.keys.insertIdx sp.i key,sp.n.kids.insertIdx (sp.i+1) iB⟩,v12,⟨none,0,KB,kd,IB,id⟩,by go_num,aa rfl,aa (by have:=qg.out;omega),?_,Ff.1,HFN,Ff.2.1,yw,Ff.2.2,ais⟩;have e1:(sp.n.keys.insertIdx sp.i key).length=sp.n.keys.length+1:=List.length_insertIdx_of_le_length iQ.out.2.2 _;have e2:(sp.n.kids.insertIdx (sp.i+1) iB).length=sp.n.kids.length+1:=List.length_insertIdx_of_le_length (by have h1:=((Nd.Ok.of iQ.out.2.1).br iQ.out.1).2;have h2:=iQ.out.2.2;omega) _;simp only[e1,e2,List.length_nil];exact TR.out.eu (.bool false) (.slice none 0 0) (.slice KB (sp.n.keys.length+1) kd) (.slice IB (sp.n.kids.length+1) id)
         case measure=>have:=hgk.out;omega)
      ·have hD:(c12,v12)=D:=by rw[<-Ej.out,if_pos Gm]
       subst hD;have ae7:((c12:Int) != 0)=true:=by simpa using (by omega:¬(c12:Int)=0)
       clear Gm;go_wp2_with fail;go_ret;exact⟨rfl,sw.out,yw.out,rz.out⟩
     ·have hD:(c9,v9)=D:=by rw[<-HD9.out,if_pos h9]
      subst hD;have h9':((c9:Int) != 0)=true:=by simpa using (by omega:¬(c9:Int)=0)
      clear h9;go_wp2_with fail;go_ret;exact⟨rfl,Yw.out,HG9.out,PN.out⟩
   ·have hD:(r1,v2)=D:=by rw[<-HD'.out,V.grow,if_pos (by rw[<-HR.out];exact Qw),HR.out]
    subst hD;have ajj:((r1:Int) != 3)=true:=by simpa using (by omega:¬(r1:Int)=3)
    clear Qw;go_wp2_with fail;go_ret;exact⟨rfl,rq.out,Jy.out,fQ.out⟩
theorem aaS {v:V}{key:Bs}{ws:List dN}(h:QS v key ws):∀st∈ws.dropLast,Fv st:=by
 intro st hs;have hm:=(List.dropLast_sublist ws).subset hs;obtain⟨h1,h2⟩:=h.all st hm;have hl:=h.up st hs;have aX:=V.bM h1;refine⟨hl,aX,?_⟩;have h3:=(Nd.uR aX key).2 hl;have h4:=((Nd.Ok.of aX).br hl).2;rw[h2];omega
theorem Kq (s:bH) (hs:s.Ok) (w:World) (v:V) (h:aD w s v) (hg:v.Good) (gx i:Nat) (hx:ax w gx 70 (av s i)) (hi:i<4) (key val:Bs) :
  Calls Tryz.prog 25 #[.pointer (some ⟨gx,0,none⟩),.string (au key),.string (au val)] w (Ez s w (v.Put s.cap i key val)):=by
 by_cases hm:iE key val=0
 ·refine Xu s hs w v h hg gx i hx key val hm fun w' e=>?_
  have h':=h.no hs e;have JD:=hx.ext e (fun h=>h);have hkv:key.length<=140/\val.length<=16384:=by
   unfold iE at hm;split at hm
   ·cases hm
   ·split at hm
    ·cases hm
    ·omega
  have hM:=abM s hs v hg h.h2 key val hkv.1 hkv.2;cases hw:v.way i key with
  | none =>
   have hp:v.fP s.cap i key val=(5,v):=by unfold V.fP;rw[hw]
   rw[hp];exact Rx s hs w' v h' hg gx i JD hi key val hw
  | some ws =>
   by_cases he:(v.aI s.cap key val).2.1=0
   ·match ws,hw with
    | [],hw=>exact CF s hs w' v h' hg gx i JD hi key val hw hM he
    | a::l,hw =>
     obtain⟨st,dw⟩:∃st,(a::l).getLast?=some st:=⟨_,List.getLast?_eq_some_getLast (by simp)⟩;have Qm:=aaS (sO hw);cases hh:hit (a::l) key with
     | none =>
      have hp:v.fP s.cap i key val=V.grow s.cap i (a::l).reverse (st.n.put (v.aI s.cap key val).1) (v.aI s.cap key val).2.2:=by
       unfold V.fP;rw[hw];simp only[he,ne_eq,not_true,if_false,dw,hh]
      rw[hp];exact Kr s hs w' v h' hg gx i JD hi key val (a::l) hw st dw hM he hh (DL s hs i hi _ _ _ (by simp) Qm)
     | some d =>
      have hp:v.fP s.cap i key val=if ((v.aI s.cap key val).2.2.bG d).1≠0 then (v.aI s.cap key val).2.2.bG d else V.grow s.cap i (a::l).reverse (st.n.put (v.aI s.cap key val).1) ((v.aI s.cap key val).2.2.bG d).2:=by
       unfold V.fP;rw[hw];simp only[he,ne_eq,not_true,if_false,dw,hh]
      rw[hp];exact UM s hs w' v h' hg gx i JD hi key val (a::l) hw st dw hM he d hh (fun _=>DL s hs i hi _ _ _ (by simp) Qm)
   ·have hp:v.fP s.cap i key val=(v.aI s.cap key val).2:=by
     unfold V.fP;rw[hw];simp only[ne_eq,he,not_false_iff,if_true]
    rw[hp];exact Y4 s hs w' v h' hg gx i JD hi key val ws hw hM he
 ·have hp:v.Put s.cap i key val=(iE key val,v):=by unfold V.Put;rw[if_pos hm]
  rw[hp];exact aax s hs w v h hg gx i hx key val hm
theorem Ma (s:bH) (hs:s.Ok) (w:World) (v:V) (h:aD w s v) (hg:v.Good) (gx i:Nat) (hx:ax w gx 70 (av s i)) (hi:i<4) (key:Bs) :
  Calls Tryz.prog 23 #[.pointer (some ⟨gx,0,none⟩),.string (au key)] w fun e w'=>e=.returned (.tuple #[.string (au (v.get i key).1),.bool (v.get i key).2.1,.int .i64 ((v.get i key).2.2:Int)])/\ah No w w':=by
 refine Mc s hs w v h hg gx i hx hi key (fun ws c hw hh=>Ca s hs v hg c ?_);have aX:=sO hw;unfold hit at hh;split at hh
 ·cases hh
 ·rename_i st dw
  have hn:=(aX.all st (List.mem_of_getLast? dw)).1;have hf:=Nd.Ok.fits (Nd.Ok.of (V.bM hn));split at hh
  ·cases hh
  ·rename_i c' OY
   split at hh
   ·injection hh with hh
    subst hh;exact hf.c _ (List.mem_of_getElem? OY)
   ·cases hh
def nG (E L:List bK):Bool:=L.all fun e=>E.lookup e.1==some e.2
theorem OU {E L:List bK}{k:Nat}{e:bK}(he:L[k]?=some e):nG E (L.drop k)=((E.lookup e.1==some e.2)&&nG E (L.drop (k+1))):=by
 have bu:=(List.getElem?_eq_some_iff.1 he).1;rw[List.drop_eq_getElem_cons bu,(List.getElem?_eq_some_iff.1 he).2];rfl
theorem F_ (s:bH) (hs:s.Ok) (w:World) (v:V) (h:aD w s v) (hg:v.Good) (gx i:Nat) (hx:ax w gx 70 (av s i)) (hi:i<4) (P:List Nat) (E:List bK) (hT:fu true v i P E)
  (A:Option Addr) (c:Nat) (L:List bK) (hr:Rd w No 2 A L.length (dR L)) (hb:L.length<65536) (hm:∀e∈L,iE e.1 []=0) :
  Calls Tryz.prog 29 #[.pointer (some ⟨gx,0,none⟩),.slice A L.length c] w fun e w'=>e=.returned (.bool (nG E L))/\ah No w w':=by
 have HG:=aa (fun w' (e:ah No w w') key (hk:iE key []=0)=>L_ (key:=key) hT hk▸Ma s hs w' v (h.no hs e) hg gx i (hx.ext e (fun h=>h)) hi key);have HR:=aa hr;have HM:=aa hm;obtain⟨D,hD⟩:∃D,D=nG E L:=⟨_,rfl⟩;rw[<-hD];clear h hg hx hT hr hm;go_enter Tryz.func29,Tryz.ntmps29;go_wp2_with fail;go_loopg [12] L.length (fun gk i wr=>∃(k:Nat),k+gk=L.length/\i=.int .i64 (k:Int)/\Hid (D=nG E (L.drop k))/\ah No w wr)
 case atStart=>exact⟨0,by omega,rfl,aa hD,ah.refl _ _⟩
 case round =>
  obtain⟨k,hk,rfl,hd,hE⟩:=hrel;have HE:=aa hE;have HK:=aa hk
  by_cases bu:k<L.length
  ·obtain⟨e,he⟩:∃e,L[k]?=some e:=⟨_,List.getElem?_eq_getElem bu⟩
   obtain⟨b,o,rfl,_,k0,k1⟩:=(HR.out.ext hE).DX he;have lc:=World.block_lt_of_cell? wr _ k0;simp only at lc;have iY:(k:Int)<(L.length:Int):=by omega
   have hme:=HM.out e (List.mem_of_getElem? he);have Um:=aa (HG.out (wr.alloc (.cells #[.string (au e.1),.string (au e.2)] 49)) (hE.alloc _) e.1 hme);have hd2:=hd.out.trans (OU he);have yJ:=aa (ax.new wr 49 #[.string (au e.1),.string (au e.2)]);have XX:=aa (hE.alloc (.cells #[.string (au e.1),.string (au e.2)] 49));clear hk hE hd hD hme;obtain⟨W,hW⟩:∃W,W=wr.alloc (.cells #[.string (au e.1),.string (au e.2)] 49):=⟨_,rfl⟩;rw[<-hW]at Um yJ XX;cases hq:E.lookup e.1 with
   | none =>
    rw[hq]at Um hd2;have mE:=aa (show D=false by rw[hd2];rfl);clear hd2 hq;go_wp2_with fail;rw[<-hW];refine(Um.out).mono ?_;rintro e' w2 ⟨rfl,aH⟩;have dO:=yJ.out.ext aH (fun h=>h);have c0:=dO.cell 0;have c1:=dO.cell 1;have cl:=dO.lt;simp at c0 c1;have dx:=aa aH;clear aH dO
    by_cases h0:e.2 = []
    ·rw[h0]at c1
     go_wp2_with fail;go_ret;exact⟨by rw[mE.out];rfl,XX.out.ag dx.out⟩
    ·have h1:(([]:Bs)==e.2)=false:=by
      cases h:e.2 with
      | nil=>exact absurd h h0
      | cons a b=>rfl
     go_wp2_with fail;go_ret;exact⟨by rw[mE.out];rfl,XX.out.ag dx.out⟩
   | some bv =>
    rw[hq]at Um hd2
    by_cases hbv:bv=e.2
    ·subst hbv
     have mE:=aa (show D=nG E (L.drop (k+1)) by rw[hd2];simp);clear hd2 hq;go_wp2_with fail;rw[<-hW];refine(Um.out).mono ?_;rintro e' w2 ⟨rfl,aH⟩;have dO:=yJ.out.ext aH (fun h=>h);have c0:=dO.cell 0;have c1:=dO.cell 1;have cl:=dO.lt;simp at c0 c1;have dx:=aa aH;clear aH dO;go_wp2_with fail;go_roundg (gk-1)
     case rel=>exact⟨k+1,by have:=HK.out;omega,by go_num,mE,XX.out.ag dx.out⟩
     case measure=>have:=HK.out;omega
    ·have mE:=aa (show D=false by rw[hd2];simp[hbv])
     have h1:(bv==e.2)=false:=by simpa using hbv
     clear hd2 hq;go_wp2_with fail;rw[<-hW];refine(Um.out).mono ?_;rintro e' w2 ⟨rfl,aH⟩;have dO:=yJ.out.ext aH (fun h=>h);have c0:=dO.cell 0;have c1:=dO.cell 1;have cl:=dO.lt;simp at c0 c1;have dx:=aa aH;clear aH dO;go_wp2_with fail;go_ret;exact⟨by rw[mE.out];rfl,XX.out.ag dx.out⟩
  ·have mW:k=L.length:=by omega
   have HDF:Hid (D=true):=aa (by rw[hd.out,mW,List.drop_length];rfl);subst mW;clear hd;go_wp2_with fail;go_ret;exact⟨by rw[HDF.out];rfl,HE.out⟩
def kz (E L O:List bK):Bool:=O.all fun e=>(E.lookup e.1).isSome==(L.lookup e.1).isSome
theorem Mv {E L O:List bK}{k:Nat}{e:bK}(he:O[k]?=some e):kz E L (O.drop k)=(((E.lookup e.1).isSome==(L.lookup e.1).isSome)&&kz E L (O.drop (k+1))):=by
 have bu:=(List.getElem?_eq_some_iff.1 he).1;rw[List.drop_eq_getElem_cons bu,(List.getElem?_eq_some_iff.1 he).2];rfl
theorem Km {E:List bK}{key:Bs}(hm:iE key []=0):∃b:Bs,vX E key=.returned (.tuple #[.string (au b),.bool (E.lookup key).isSome,.int .i64 0]):=by
 unfold vX;rw[if_pos hm];cases E.lookup key
 ·exact⟨[],rfl⟩
 ·exact⟨_,rfl⟩
theorem GM (s:bH) (hs:s.Ok) (w:World) (v:V) (h:aD w s v) (hg:v.Good) (gx i:Nat) (hx:ax w gx 70 (av s i)) (hi:i<4) (P:List Nat) (E:List bK) (hT:fu true v i P E)
  (A:Option Addr) (c:Nat) (L:List bK) (hr:jL w No A c L) (A2:Option Addr) (c2:Nat) (O:List bK) (rX:Rd w No 2 A2 O.length (dR O)) (hb:O.length<65536) (hm:∀e∈O,iE e.1 []=0) :
  Calls Tryz.prog 30 #[.pointer (some ⟨gx,0,none⟩),.slice A L.length c,.slice A2 O.length c2] w fun e w'=>e=.returned (.bool (kz E L O))/\ah No w w':=by
 have HG:Hid (∀w' (e:ah No w w') key (hk:iE key []=0),∃b:Bs,Calls Tryz.prog 23 #[.pointer (some ⟨gx,0,none⟩),.string (au key)] w' fun e w''=>e=.returned (.tuple #[.string (au b),.bool (E.lookup key).isSome,.int .i64 0])/\ah No w' w''):=aa (fun w' e key hk=>by
  have h1:=Ma s hs w' v (h.no hs e) hg gx i (hx.ext e (fun h=>h)) hi key;rw[L_ hT hk]at h1;cases hq:E.lookup key with
  | none=>rw[hq]at h1;exact⟨[],h1⟩
  | some b=>rw[hq]at h1;exact⟨b,h1⟩)
 have HRG:Hid (∀w' (e:ah No w w') g key (hk:iE key []=0),ax w' g 32 #[.slice A L.length c]->∃b:Bs,Calls Tryz.prog 65 #[.pointer (some ⟨g,0,none⟩),.string (au key)] w' fun e w''=>e=.returned (.tuple #[.string (au b),.bool (L.lookup key).isSome,.int .i64 0])/\w'=w''):=aa (fun w' e g key hk hb=>by
  have h1:=NV w' g A c L key hb (hr.ext e);obtain⟨b,hb⟩:=Km (E:=L) hk;rw[hb]at h1
  exact⟨b,h1⟩)
 have HR:=aa rX;have HM:=aa hm;obtain⟨D,hD⟩:∃D,D=kz E L O:=⟨_,rfl⟩;rw[<-hD];have Ev:=aa (ax.new w 32 #[.slice A L.length c]);have uB:=aa ((ah.refl No w).alloc (.cells #[.slice A L.length c] 32));clear h hg hx hT hr rX hm;go_enter Tryz.func30,Tryz.ntmps30;go_wp2_with fail;generalize w.alloc (.cells #[.slice A L.length c] 32)=W0 at *;go_loopg [20] O.length (fun gk i wr=>∃(k:Nat),k+gk=O.length/\i=.int .i64 (k:Int)/\Hid (D=kz E L (O.drop k))/\ah No W0 wr)
 case atStart=>exact⟨0,by omega,rfl,aa hD,ah.refl _ _⟩
 case round =>
  obtain⟨k,hk,rfl,hd,hE⟩:=hrel;have HE:=aa hE;have HK:=aa hk
  by_cases bu:k<O.length
  ·obtain⟨e,he⟩:∃e,O[k]?=some e:=⟨_,List.getElem?_eq_getElem bu⟩
   obtain⟨b,o,rfl,_,k0,k1⟩:=(HR.out.ext (uB.out.ag hE)).DX he;have lc:=World.block_lt_of_cell? wr _ k0;simp only at lc;have iY:(k:Int)<(O.length:Int):=by omega
   have hme:=HM.out e (List.mem_of_getElem? he);have XX:=aa ((uB.out.ag hE).alloc (.cells #[.string (au e.1),.string (au e.2)] 49));have HEB:=aa (hE.alloc (.cells #[.string (au e.1),.string (au e.2)] 49));obtain⟨bg,hg1⟩:=HG.out (wr.alloc (.cells #[.string (au e.1),.string (au e.2)] 49)) XX.out e.1 hme;have Um:=aa hg1;have mE:=aa (hd.out.trans (Mv he));have yJ:=aa (ax.new wr 49 #[.string (au e.1),.string (au e.2)]);have HME:=aa hme;clear hk hE hd hD hg1 hme;obtain⟨W,hW⟩:∃W,W=wr.alloc (.cells #[.string (au e.1),.string (au e.2)] 49):=⟨_,rfl⟩;rw[<-hW]at Um yJ XX HEB;go_wp2_with fail;rw[<-hW];refine(Um.out).mono ?_;rintro e' w2 ⟨rfl,aH⟩;have dO:=yJ.out.ext aH (fun h=>h);have c0:=dO.cell 0;have c1:=dO.cell 1;have cl:=dO.lt;simp at c0 c1;obtain⟨bm,JH⟩:=HRG.out w2 (XX.out.ag aH) w.heap.size e.1 HME.out ((Ev.out.ext HEB.out (fun h=>h)).ext aH (fun h=>h));have HGM:=aa JH;have dx:=aa aH;clear aH dO JH;go_wp2_with fail;refine(HGM.out).mono ?_;rintro e' w3 ⟨rfl,rfl⟩;generalize (E.lookup e.1).isSome=p at *;generalize (L.lookup e.1).isSome=q at *;cases p <;> cases q
   ·go_wp2_with fail
    go_roundg (gk-1)
    case rel=>exact⟨k+1,by have:=HK.out;omega,by go_num,mE,HEB.out.ag dx.out⟩
    case measure=>have:=HK.out;omega
   ·go_wp2_with fail
    go_ret;exact⟨by rw[mE.out];rfl,XX.out.ag dx.out⟩
   ·go_wp2_with fail
    go_ret;exact⟨by rw[mE.out];rfl,XX.out.ag dx.out⟩
   ·go_wp2_with fail
    go_roundg (gk-1)
    case rel=>exact⟨k+1,by have:=HK.out;omega,by go_num,mE,HEB.out.ag dx.out⟩
    case measure=>have:=HK.out;omega
  ·have mW:k=O.length:=by omega
   have HDF:Hid (D=true):=aa (by rw[hd.out,mW,List.drop_length];rfl);subst mW;clear hd;go_wp2_with fail;go_ret;exact⟨by rw[HDF.out];rfl,uB.out.ag HE.out⟩
theorem Y8 {w:World}{base n c i:Nat}{A:Option Addr}{ks:List Bs}(h:w.ownsRow base 9 1 (.slice A n c) n (aG ks)) (hn:n=ks.length) (hi:i<ks.length) (k:Bs) :
  ∃g,A=some ⟨g,0,none⟩/\base<=g/\g<w.heap.size/\(∃u,w.cell? ⟨g,i,none⟩=some u)/\w.frozen? ⟨g,i,none⟩=false/\Rd (w.setCell ⟨g,i,none⟩ (.string (au k))) (Lo base) 1 A n (aG (ks.set i k)):=by
 have hcap:=dX h;rcases h.2 with ⟨hv,h0⟩|⟨g,cap',cur,hv,Bc,hg,OI,LU,xK,Lm⟩
 ·omega
 ·injection hv with hA _ hc
  have hb:ax w g 9 cur:=hg;have hx:∀(j:Nat) (v:Value),(aG ks)[j]?=some v->cur[j]?=some v:=by
   intro j v hj;rw[<-Lm,List.getElem?_take]at hj;split at hj
   ·rw[<-Array.getElem?_toList];exact hj
   ·cases hj
  have hk:(aG ks)[i]?=some (.string (au ks[i])):=by simp[aG,hi]
  refine⟨g,hA,Bc,hb.lt,⟨_,(hb.cell i).trans (hx i _ hk)⟩,hb.frozen i,?_⟩;refine⟨by simp[aG];omega,fun _=>⟨g,0,hA,(fun h=>by unfold Lo at h;omega),fun j u hu=>?_⟩⟩;rw[Nat.zero_add];have dO:=hb.aQ i (.string (au k));rw[dO.cell j,Array.getElem?_setIfInBounds];have hu':((ks.set i k).map fun k=>Value.string (au k))[j]?=some u:=hu;rw[List.getElem?_map,List.getElem?_set]at hu'
  by_cases Qx:i=j
  ·subst Qx
   rw[if_pos rfl,if_pos (by have:=(Array.getElem?_eq_some_iff.1 (hx i _ hk)).1;exact this)];rw[if_pos rfl,if_pos hi]at hu';simpa using hu'
  ·rw[if_neg Qx]
   rw[if_neg Qx]at hu';exact hx j u (by unfold aG;rw[List.getElem?_map];exact hu')
def aaw (s:bH) (root:Nat) (v:V) (ws:List dN) (p:Nd) (at_:Nat) (both:Nd):Prop :=
 ∀(w:World) (gx:Nat) (F:Nat->Prop) (A:Option Addr) (cap:Nat) (l:List (dN×jT)) (a:jT),aD w s v->v.Good->ax w gx 70 (av s root)->(∀b,s.F b->F b)->kE w F A cap l->l.map (·.1)=ws->aU w F a both ->
  Calls Tryz.prog 150 #[.pointer (some ⟨gx,0,none⟩),.slice A ws.length cap,.int .i64 (at_:Int),both.value a.A1 a.c1 a.A2 a.c2 a.A3 a.c3] w (Ez s w (V.share s.cap root ws.reverse p at_ both v))
theorem Rn (s:bH) (hs:s.Ok) (root:Nat) (xG:root<4) (v:V) (ws:List dN) (both:Nd) (at_:Nat) (sp:dN) (dw:ws.getLast?=some sp) (Qm:∀st∈ws,Fv st) (aX:both.ok=true) (eZ:500<both.size) (qP:at_<sp.n.keys.length):aaw s root v ws sp.n at_ both:=by
 intro w gx F A cap l a h hg hx hF jB Fa hn;have gX:∃m,ws.length=m+1:=by cases hz:ws.length <;> simp_all
 obtain⟨m,gX⟩:=gX;have tZ:l.length=m+1:=by rw[<-gX,<-Fa,List.length_map]
 obtain⟨p,hp,dI⟩:=uL Fa gX;obtain⟨sp',ap⟩:=p;have:sp'=sp:=by rw[dw]at dI;simpa using dI.symm
 subst this;obtain⟨b,o,hA,JK,q0,q1,q2,q3,q4,q5⟩:=jB.at hp;simp only at q0 q1 q2 q3 q4 q5;subst hA;have lb:=World.block_lt_of_cell? w _ q0;simp only at lb;have hcap:m+1<=cap:=by have:=jB.cap;omega
 have LB:m<65536:=by have:=jB.len;omega
 have EY:Fv sp':=Qm sp' (List.mem_of_getLast? dw);have hO:=Nd.Ok.of EY.2.1;have qg:=(hO.br EY.1).2;have ha2:=hO.a2;have VE:=jB.nodes _ (List.mem_of_getElem? hp);simp only at VE;obtain⟨k1,j_⟩:∃k,sp'.n.kids[at_]?=some k:=⟨_,List.getElem?_eq_getElem (by omega)⟩;obtain⟨k2,lJ⟩:∃k,sp'.n.kids[at_+1]?=some k:=⟨_,List.getElem?_eq_getElem (by omega)⟩;obtain⟨kb,ko,BJ,hkF,JI⟩:=VE.kids.pU j_;obtain⟨kb',ko',aab,_,hc2⟩:=VE.kids.pU lJ;rw[BJ]at aab;injection aab with aab;injection aab with e1 e2;subst e1;subst e2;have lk:=World.block_lt_of_cell? w _ JI;simp only at lk;have eg1:sp'.n.kids.getD at_ 0=k1:=by rw[List.getD_eq_getElem?_getD,j_];rfl
 have eg2:sp'.n.kids.getD (at_+1) 0=k2:=by rw[List.getD_eq_getElem?_getD,lJ];rfl
 have VF:=Cm aX eZ;have Ex:=aa (jB.mono (G:=s.F) (fun b _=>hF b));have HX:=aa (fun(w':World) (e:ah s.F w w')=>dS h hx e);have gV:=aa (fun b (hb:s.F b)=>h.old hb);have YF:=aa Fa;have HUP:=aa (fun st (dw:st∈ws.dropLast)=>Qm st ((List.dropLast_sublist ws).subset dw));have o7:=aa gX;have iQ:=aa EY;have HNE:=aa (show ws ≠ []from fun e=>by rw[e]at gX;simp at gX);obtain⟨W2,Ao⟩:∃W2,W2=((w.alloc (.cells #[.bool both.leaf,.slice a.A1 both.cells.length a.c1,.slice a.A2 both.keys.length a.c2,.slice a.A3 both.kids.length a.c3] 40)).alloc (.cells #[.bool sp'.n.leaf,.slice ap.A1 sp'.n.cells.length ap.c1,.slice ap.A2 sp'.n.keys.length ap.c2,.slice ap.A3 sp'.n.kids.length ap.c3] 40)):=⟨_,rfl⟩;have kG:ah No w W2:=by rw[Ao];exact((ah.refl No w).alloc _).alloc _
 have SG:ax W2 (w.heap.size+1) 40 #[.bool sp'.n.leaf,.slice ap.A1 sp'.n.cells.length ap.c1,.slice ap.A2 sp'.n.keys.length ap.c2,.slice ap.A3 sp'.n.kids.length ap.c3]:=by rw[Ao];exact ax.aS (b:=w.heap.size+1) (w.alloc _) 40 _ (by simp)
 have rq:=aa (h.no hs kG);have Jy:=aa hg;have G7:=aa (FK both W2 _ _ (hn.ext kG.of_no) aX eZ);have hfb:=Nd.Ok.fits (Nd.Ok.of aX);have Ef:=aa (Nd.gW hfb 0 both.fV);have HRF:=aa (Nd.gW hfb (both.fV+both.gap) both.all);have AJ:Hid ((both.mid both.fV).length<65536):=aa (Qc aX);have XH:=aa (VE.mono (G:=s.F) (fun b _=>hF b));have rC:=aa JI;have JO:=aa lJ;have fQ:=aa kG;have TS:=aa SG;have HA3:=aa BJ;have aT:(at_:Int)<(sp'.n.kids.length:Int):=by omega
 have aH:(at_:Int)+1<(sp'.n.kids.length:Int):=by omega
 have bC:IntKind.i64.wrap ((at_:Int)+1)=(at_:Int)+1:=IntWalk.i64_in _ (by omega);have ib:(at_:Int)<(sp'.n.keys.length:Int):=by omega
 have kH:(0:Int)<=(at_:Int)+1:=by omega
 obtain⟨D,hD⟩:∃D,D=V.share s.cap root ws.reverse sp'.n at_ both v:=⟨_,rfl⟩;rw[<-hD,gX];unfold V.share at hD;rw[VF]at hD;simp only[eg1,eg2]at hD;generalize hL:both.part 0 both.fV=NL at G7 hD Ef;generalize hR:both.part (both.fV+both.gap) both.all=NR at G7 hD HRF;generalize hK:both.mid both.fV=key at G7 hD AJ;have HD:=aa hD.symm;have af9:=aa qP;simp only[Nd.value]at G7 ⊢;rw[BJ]at Ao SG TS q4;clear hD Fa Qm gX tZ JK hF hn hx hg h jB dw dI EY hO qg ha2 VE j_ lJ hkF JI hc2 eg1 eg2 VF hfb kG aX eZ BJ hp qP hL hR hK;go_enter Tryz.func150,Tryz.ntmps150;go_wp2_with fail;rw[<-Ao];refine G7.out.mono ?_;rintro e w5 ⟨bU,aL,aR,rfl,E_,E9⟩;have L8:=fQ.out.ag bU;have jl:=aa bU;have Ju:=aa E_;have uA:=aa E9;simp only[Nd.value];clear bU E_ E9 q0 q1 q2 q3 q4 q5 lb;go_wp2_with fail;obtain⟨W6,Fp⟩:∃W6,W6=((w5.alloc (.cells #[.bool NL.leaf,.slice aL.A1 NL.cells.length aL.c1,.slice aL.A2 NL.keys.length aL.c2,.slice aL.A3 NL.kids.length aL.c3] 40)).alloc (.cells #[.bool NR.leaf,.slice aR.A1 NR.cells.length aR.c1,.slice aR.A2 NR.keys.length aR.c2,.slice aR.A3 NR.kids.length aR.c3] 40)):=⟨_,rfl⟩;have IW:ah No w5 W6:=by rw[Fp];exact((ah.refl No w5).alloc _).alloc _
 have IX:ah No W2 W6:=jl.out.ag IW;have hBL:ax W6 w5.heap.size 40 #[.bool NL.leaf,.slice aL.A1 NL.cells.length aL.c1,.slice aL.A2 NL.keys.length aL.c2,.slice aL.A3 NL.kids.length aL.c3]:=by rw[Fp];exact(ax.new w5 40 _).alloc _
 have hBR:ax W6 (w5.heap.size+1) 40 #[.bool NR.leaf,.slice aR.A1 NR.cells.length aR.c1,.slice aR.A2 NR.keys.length aR.c2,.slice aR.A3 NR.kids.length aR.c3]:=by rw[Fp];exact ax.aS (b:=w5.heap.size+1) (w5.alloc _) 40 _ (by simp)
 have h2s:w.heap.size<=W2.heap.size:=fQ.out.size;have h5s:W2.heap.size<=w5.heap.size:=jl.out.size;have hFo:∀b,s.F b->gB W2 b:=fun b hb=>Nat.lt_of_lt_of_le (gV.out b hb) h2s
 have adj:Hid (aU W6 s.F aL NL):=aa ((Ju.out.mono (fun b _ hb=>hFo b hb)).ext IW.of_no);have adh:Hid (aU W6 s.F aR NR):=aa ((uA.out.mono (fun b _ hb=>hFo b hb)).ext IW.of_no);have Bn:=aa (fQ.out.ag IX);have HT6:=aa (rq.out.no hs IX);have TR:=aa (TS.out.ext IX (fun h=>h));have HS5:=aa (Nat.le_trans h2s h5s);have PR:=aa hBR;rw[<-Fp];clear Fp IW IX h5s hFo Ju uA jl L8 h2s;obtain⟨p0,p1,p2,p3,g0,g1,g2,g3,ln⟩:=hBL.p4;obtain⟨z0,z1,z2,z3,y0,y1,y2,y3,lz⟩:=TR.out.p4;have d1:=aj Bn.out rC.out (fun h=>h);have ld:=World.block_lt_of_cell? _ _ d1;simp only at ld;have HW9:=aa (qw s hs W6.drew v (HT6.out.no hs (ah.refl No W6).drew) Jy.out gx root (HX.out _ Bn.out.drew.of_no) k1 NL _ _ _ _ _ _ _ (adj.out.ext (ah.refl _ W6).drew) Ef.out);obtain⟨r9,hr9⟩:∃r9,r9=v.wr k1 NL:=⟨_,rfl⟩;have hdg:=HD.out;rw[<-hr9]at HW9 hdg;have HD9:=aa hdg;simp only[Nd.value]at HW9;clear hdg HD hr9 hBL hBR lk;go_cut [14] (fun k9 wx=>k9=.int .i64 (r9.1:Int)/\Hid (aD wx s r9.2)/\Hid r9.2.Good/\Hid (ah s.F W6 wx))
 case first =>
  go_region_law ((go_simp;go_at_call 141;refine HW9.out.mono ?_;rintro e w2 ⟨rfl,hT,hG,aH⟩;have rq:=aa hT;have Jy:=aa hG;have dx:=aa aH;clear hT hG aH))
  all_goals (
   go_wp2_with fail;go_meet
   exact⟨rfl,rq,Jy,aa ((ah.refl s.F W6).drew.ag dx.out)⟩)
 case rest =>
  clear p0 p1 p2 p3 g0 g1 g2 g3 ln HW9 z0 z1 z2 z3 y0 y1 y2 y3 lz d1 ld;obtain⟨rfl,Yw,HG9,qY⟩:=hcut;obtain⟨c9,v9⟩:=r9;simp only at Yw HG9 HD9 ⊢;have PN:=aa (Bn.out.of_no.ag qY.out)
  by_cases h9:c9=0
  ·subst h9
   have dL:=HD9.out;rw[if_neg (by simp)]at dL;have Wl:=PR.out.ext qY.out (fun hb=>by have:=gV.out _ hb;have:=HS5.out;omega);obtain⟨p0,p1,p2,p3,g0,g1,g2,g3,ln⟩:=Wl.p4;have acL:=TR.out.ext qY.out (fun hb=>by have:=gV.out _ hb;omega);obtain⟨z0,z1,z2,z3,y0,y1,y2,y3,lz⟩:=acL.p4;have aiG:=aa acL;have ahL:=aa (XH.out.ext PN.out);obtain⟨_,_,su,hkF,d2⟩:=ahL.out.kids.pU (k:=k2) (i:=at_+1) JO.out;rw[HA3.out]at su;injection su with su;injection su with e1 e2;subst e1;subst e2;have ld:=World.block_lt_of_cell? _ _ d2;simp only at ld;have Jr:=aa (qw s hs wc.drew v9 (Yw.out.no hs (ah.refl No wc).drew) HG9.out gx root (HX.out _ PN.out.drew) k2 NR _ _ _ _ _ _ _ ((adh.out.ext qY.out).ext (ah.refl _ wc).drew) HRF.out);obtain⟨H_,Ls⟩:∃H_,H_=v9.wr k2 NR:=⟨_,rfl⟩;rw[<-Ls]at Jr dL;have Ej:=aa dL;simp only[Nd.value]at Jr;clear dL Ls Wl acL hkF;go_wp2_with fail;go_cut [15] (fun k9 wx=>k9=.int .i64 (H_.1:Int)/\Hid (aD wx s H_.2)/\Hid H_.2.Good/\Hid (ah s.F wc wx))
   case first =>
    go_region_law ((go_simp;go_at_call 141;refine Jr.out.mono ?_;rintro e w2 ⟨rfl,hT,hG,aH⟩;have rq:=aa hT;have Jy:=aa hG;have dx:=aa aH;clear hT hG aH))
    all_goals (
     go_wp2_with fail;go_meet
     exact⟨rfl,rq,Jy,aa ((ah.refl s.F wc).drew.ag dx.out)⟩)
   case rest =>
    clear p0 p1 p2 p3 g0 g1 g2 g3 ln Jr z0 z1 z2 z3 y0 y1 y2 y3 lz d2 ld;obtain⟨rfl,sw,yw,zF⟩:=hcut;obtain⟨c12,v12⟩:=H_;simp only at sw yw Ej ⊢;have rz:=aa (PN.out.ag zF.out)
    by_cases Gm:c12=0
    ·subst Gm
     have dL:=Ej.out;rw[if_neg (by simp)]at dL;have ait:=aa dL;have Wp:=aiG.out.ext zF.out (fun hb=>by have:=gV.out _ hb;omega);obtain⟨z0,z1,z2,z3,y0,y1,y2,y3,lz⟩:=Wp.p4;have abB:=aa Wp;have De:=XH.out.ext rz.out;have Un:=aa (gY ⟨ap.A2,sp'.n.keys.length,ap.c2,aG sp'.n.keys⟩ wc ⟨De.keys.mono (G:=No) (by omega) (fun _ _ h=>h.elim),De.e2,lU _,De.l2⟩ (by have:=(Nd.Ok.of iQ.out.2.1).a2;simp only;omega));simp only[dC.v]at Un;have QW:=aa De;clear dL Wp De;go_wp2_with fail;refine Un.out.mono ?_;rintro e uY ⟨KA,kc,rfl,aP,qM⟩;obtain⟨g,rfl,Bb,kL,⟨u0,hu0⟩,xI,AY⟩:=Y8 aP rfl af9.out key;have AB:=aa AY;have abb:=dX aP;have af0:=aa abb;have aiN:=qM.size;have abf:=abB.out.ext qM (fun h=>h);clear z0 z1 z2 z3 y0 y1 y2 y3 lz;obtain⟨z0,z1,z2,z3,y0,y1,y2,y3,lz⟩:=abf.p4;have yu:=aa qM;have aiO:w.heap.size+1<wc.heap.size:=abB.out.lt;have Dp:¬(w.heap.size+1=g):=by omega
     have tX:¬(g=w.heap.size+1):=by omega
     have TW:at_<kc:=by have:=af9.out;omega
     have Jw:=aa Bb;have HGL:=aa kL;clear aP AY qM abf abb;go_wp2_with fail;have hxw:ah s.F wc (uY.setCell ⟨g,at_,none⟩ (.string (au key))):=yu.out.of_no.ai Jw.out at_ _;have hEw:ah s.F w (uY.setCell ⟨g,at_,none⟩ (.string (au key))):=rz.out.ag hxw;have hwc:w.heap.size<=wc.heap.size:=rz.out.size;have hTw:aD (uY.setCell ⟨g,at_,none⟩ (.string (au key))) s v12 :=
      sw.out.tN (G:=On g) (yu.out.of_no.ay (show On g g from rfl) at_ _) (fun h=>by have h1:=gV.out s.t (.inl rfl);have h2:s.t=g:=h;have h3:=Jw.out;omega) (fun h=>by have h1:=gV.out s.m (.inr rfl);have h2:s.m=g:=h;have h3:=Jw.out;omega)
       (hs.keep _ _ hxw sw.out.db)
     have hsk:(sp'.n.keys.set at_ key).length=sp'.n.keys.length:=List.length_set;have hnw:aU (uY.setCell ⟨g,at_,none⟩ (.string (au key))) s.F ⟨none,0,some ⟨g,0,none⟩,kc,some ⟨kb,ko,none⟩,ap.c3⟩ ⟨false,[],sp'.n.keys.set at_ key,sp'.n.kids⟩:=by
      have hk:=(QW.out.ext hxw);refine⟨Rd.lV _,?_,?_,Nat.le_refl _,by rw[hsk];exact af0.out,hk.l3,by simp,by rw[hsk];exact hk.b2,hk.b3,fun _=>rfl,(fun h=>by cases h),(fun h=>by cases h)⟩
      ·show Rd _ s.F 1 _ (sp'.n.keys.set at_ key).length _
       rw[hsk];exact AB.out.mono (by omega) (fun b _ hb=>Nat.lt_of_lt_of_le (gV.out b hb) hwc)
      ·have:=hk.kids
       rw[HA3.out]at this;exact this
     have hfw:(⟨false,[],sp'.n.keys.set at_ key,sp'.n.kids⟩:Nd).fits:=by
      have hf:=Nd.Ok.fits (Nd.Ok.of iQ.out.2.1);refine⟨by simp,fun k hk=>?_,hf.i⟩;rcases List.mem_or_eq_of_mem_set hk with h|h
      ·exact hf.k k h
      ·rw[h];exact AJ.out
     have hGW:=DL s hs root xG v12 ws ⟨false,[],sp'.n.keys.set at_ key,sp'.n.kids⟩ HNE.out HUP.out _ gx s.F (some ⟨b,o,none⟩) cap l ⟨none,0,some ⟨g,0,none⟩,kc,some ⟨kb,ko,none⟩,ap.c3⟩ hTw yw.out (HX.out _ hEw) (fun b hb=>hb) (Ex.out.ext hEw) YF.out hnw hfw;simp only[Nd.value,hsk,List.length_nil]at hGW;rw[o7.out,ait.out]at hGW;refine hGW.mono ?_;rintro e yK ⟨rfl,ahm,ahq,vg⟩;have hx:=hEw.ag vg;clear hGW hnw hfw hTw;go_wp2_with fail;go_ret;exact⟨rfl,ahm,ahq,hx⟩
    ·have hD:(c12,v12)=D:=by rw[<-Ej.out,if_pos Gm]
     subst hD;have ae7:((c12:Int) != 0)=true:=by simpa using (by omega:¬(c12:Int)=0)
     clear Gm;go_wp2_with fail;go_ret;exact⟨rfl,sw.out,yw.out,rz.out⟩
  ·have hD:(c9,v9)=D:=by rw[<-HD9.out,if_pos h9]
   subst hD;have h9':((c9:Int) != 0)=true:=by simpa using (by omega:¬(c9:Int)=0)
   clear h9;go_wp2_with fail;go_ret;exact⟨rfl,Yw.out,HG9.out,PN.out⟩
structure NOk (n:Nd):Prop where
 f:n.fits
 lf:n.leaf=true->n.keys = []
 br:n.leaf=false->n.kids.length=n.keys.length+1/\∀i∈n.kids,i<2147483648
theorem Cu (s:bH) (hs:s.Ok) (w:World) (v:V) (h:aD w s v) (hg:v.Good) (gx i:Nat) (hx:ax w gx 70 (av s i)) (hi:i<4) (id:Nat) (n:Nd) (a:jT) (hn:aU w s.F a n) (hN:NOk n) (first:Bool) :
  Calls Tryz.prog 153 #[.pointer (some ⟨gx,0,none⟩),.int .i64 (id:Int),n.value a.A1 a.c1 a.A2 a.c2 a.A3 a.c3,.bool first] w (Ez s w (v.settle i id n first)):=by
 by_cases hc:first=false\/(n.leaf=true/\0<n.cells.length)\/0<n.keys.length
 ·exact FL s hs w v h hg gx i hx id n s.F a hn hN.f first hc
 ·have hf:first=true:=by cases first;exact absurd (.inl rfl) hc;rfl
  subst hf;have hk:n.keys = []:=by
   apply List.length_eq_zero_iff.1;rcases Nat.eq_zero_or_pos n.keys.length with h|h
   ·exact h
   ·exact absurd (.inr (.inr h)) hc
  cases hl:n.leaf
  ·obtain⟨h1,h2⟩:=hN.br hl
   rw[hk]at h1;obtain⟨kid,oK⟩:∃k,n.kids[0]?=some k:=⟨_,List.getElem?_eq_getElem (by simp at h1;omega)⟩;exact EE s hs w v h hg gx i hx hi id n a hl hk hn kid oK (h2 kid (List.mem_of_getElem? oK))
  ·have jQ:n.cells = []:=by
    apply List.length_eq_zero_iff.1;rcases Nat.eq_zero_or_pos n.cells.length with h|h
    ·exact h
    ·exact absurd (.inr (.inl ⟨hl,h⟩)) hc
   exact zW s hs w v h hg gx i hx hi id n a hl jQ hk
theorem Qh {l r b:Nd}{key:Bs}(h:l.join r key=some b):b.ok=true:=by
 unfold Nd.join at h;split at h
 ·cases h
 ·split at h
  ·rename_i h2;injection h with h;rw[<-h];exact h2
  ·cases h
theorem Tt {v:V}{p n:Nd}{i:Nat}(h:(v.beside p i n).1=0) (hik:i<=p.keys.length):(v.beside p i n).2.2.ok=true/\(v.beside p i n).2.1<p.keys.length:=by
 unfold V.beside at h ⊢
 by_cases hk:p.keys = []
 ·rw[if_pos hk]at h;cases h
 ·have hl:0<p.keys.length:=List.length_pos_iff.2 hk
  rw[if_neg hk]at h ⊢
  by_cases hi:0<i
  ·rw[if_pos hi]at h ⊢
   cases hn:v.node (p.kids.getD (i-1) 0)with
   | none=>rw[hn]at h;cases h
   | some l =>
    rw[hn]at h;simp only at h ⊢;cases hj:l.join n (p.keys.getD (i-1) [])with
    | none=>rw[hj]at h;cases h
    | some b=>exact⟨Qh hj,by show i-1<_;omega⟩
  ·rw[if_neg hi]at h ⊢
   cases hn:v.node (p.kids.getD 1 0)with
   | none=>rw[hn]at h;cases h
   | some l =>
    rw[hn]at h;simp only at h ⊢;cases hj:n.join l (p.keys.getD 0 [])with
    | none=>rw[hj]at h;cases h
    | some b=>exact⟨Qh hj,hl⟩
theorem Ht (l:List (dN×jT)) (k:Nat):(eT l).take (k*6)=eT (l.take k):=by
 induction l generalizing k with
 | nil=>simp[eT]
 | cons p l ih =>
  match k with
  | 0=>simp[eT]
  | k+1 =>
   have h1:eT (p::l)=p.1.vals p.2++eT l:=rfl;have h2:eT (p::l.take k)=p.1.vals p.2++eT (l.take k):=rfl;rw[List.take_succ_cons,h1,h2,<-ih k,List.take_append,show(k+1)*6-(p.1.vals p.2).length=k*6 from by simp[dN.vals];omega];congr 1;exact List.take_of_length_le (by simp[dN.vals];omega)
theorem kE.take {w:World}{F:Nat->Prop}{A:Option Addr}{cap:Nat}{l:List (dN×jT)}(h:kE w F A cap l) (k:Nat) (hk:k<=l.length):kE w F A cap (l.take k):=by
 have hr:=h.rd.take k hk (by omega);rw[Ht]at hr;have hl:(l.take k).length=k:=by rw[List.length_take];omega
 refine⟨by rw[hl];exact hr,by have:=h.cap;omega,fun p hp=>h.nodes p (List.mem_of_mem_take hp),by have:=h.len;omega⟩
theorem SV {p:Nd}{at_:Nat}(aX:p.ok=true) (hl:p.leaf=false) (ha:at_<p.keys.length):NOk ⟨false,[],p.keys.eraseIdx at_,p.kids.eraseIdx (at_+1)⟩:=by
 have hO:=Nd.Ok.of aX;have hf:=Nd.Ok.fits hO;have qg:=(hO.br hl).2;refine⟨⟨by simp,fun k hk=>hf.k k ((List.eraseIdx_sublist ..).subset hk),fun i hi=>hf.i i ((List.eraseIdx_sublist ..).subset hi)⟩,(fun h=>by cases h),fun _=>⟨?_,fun i hi=>?_⟩⟩
 ·show(p.kids.eraseIdx (at_+1)).length=(p.keys.eraseIdx at_).length+1
  rw[List.length_eraseIdx,List.length_eraseIdx,if_pos (by omega),if_pos ha];omega
 ·have:=hO.i i ((List.eraseIdx_sublist ..).subset hi)
  simp[jE]at this;omega
end Go.Proofs.YtccnemmlkcmceaaGreatDoor
namespace Go.Proofs.YtccnemmlkcmceaaGreatDoor
open Go.RowKit Go.ChangeShapes Go.WideShapes Go.ChangeAt
theorem Tryz.QO:Tryz.prog.cellsOf 53=4:=by kernel_rfl
theorem Tryz.cells3:Tryz.prog.cellsOf 3=1:=by kernel_rfl
theorem Tryz.Xe:Tryz.prog.cellsOf 9=1:=by kernel_rfl
theorem Tw {H:Type}{enc:TypeId×Value->H}{W:World}{sp:Nat->Bool}{fuel:Nat}{cs:List Value}{x:DataW H×List MemPlace}
  (h:DataW.trod enc Tryz.prog W 0 sp true fuel 53 cs=some x):∃a:Ac,cs=a.vals/\a.fits:=by
 obtain⟨y0,y1,y2,y3,m,hx,hl,h0,h1,h2,h3⟩:=Go.Joins.trod_struct4 (P:=Tryz.prog) Tryz.underlying53 h;obtain⟨n0,e0,_⟩:=DataW.trod_int (P:=Tryz.prog) Tryz.underlying3 h0;obtain⟨n1,e1,_,w1⟩:=DataW.trod_int (P:=Tryz.prog) Tryz.underlying3 h1;obtain⟨s2,e2,_,z2⟩:=DataW.trod_string (P:=Tryz.prog) Tryz.underlying9 h2;obtain⟨s3,e3,_,z3⟩:=DataW.trod_string (P:=Tryz.prog) Tryz.underlying9 h3;rw[Tryz.QO]at hl;refine⟨⟨n0,n1,s2.data.toList,s3.data.toList⟩,?_,?_,?_,?_⟩
 ·match cs,hl with
  | [a,b,c,d],_ =>
   have q0:[a] = [Value.int .i64 n0]:=by simpa[Value.cells,Tryz.cells3]using e0
   have q1:[b] = [Value.int .i64 n1]:=by simpa[Value.cells,Tryz.cells3]using e1
   have q2:[c] = [Value.string s2]:=by simpa[Value.cells,Tryz.Xe]using e2
   have q3:[d] = [Value.string s3]:=by simpa[Value.cells,Tryz.Xe]using e3
   injection q0 with q0;injection q1 with q1;injection q2 with q2;injection q3 with q3;subst q0;subst q1;subst q2;subst q3;simp only[Ac.vals,abF]
 ·simp only[Lit.wf,Bool.and_eq_true,decide_eq_true_eq,IntKind.min,IntKind.max]at w1
  have a':-(2:Int)^63<=n1:=of_decide_eq_true w1.1;have b':n1<=(2:Int)^63-1:=of_decide_eq_true w1.2;exact⟨a',by show n1<2^63;omega⟩
 ·have h4:s3.data.toList.length=s3.size:=Array.length_toList
  unfold maxLen at z3;show s3.data.toList.length<2 ^ 63;rw[h4];omega
 ·have h4:s2.data.toList.length=s2.size:=Array.length_toList
  unfold maxLen at z2;show s2.data.toList.length<2 ^ 63;rw[h4];omega
theorem Tx {w:World}{b o:Nat}{l:List Ac}(h:∀i a,l[i]?=some a->∀j u,a.vals[j]?=some u->w.cell? ⟨b,o+(i*4+j),none⟩=some u):∀j u,(oV l)[j]?=some u->w.cell? ⟨b,o+j,none⟩=some u:=by
 intro j u hu;have hj:=(List.getElem?_eq_some_iff.1 hu).1;rw[D9]at hj;have hi:j / 4<l.length:=by omega
 have ha:l[j / 4]?=some (l[j / 4]'hi):=List.getElem?_eq_getElem hi;have Uc:j%4<(l[j / 4]'hi).vals.length:=by simp[Ac.vals];omega
 have h1:=h _ _ ha (j%4) _ (List.getElem?_eq_getElem Uc);have h2:=zq l _ _ ha (j%4) _ (List.getElem?_eq_getElem Uc);rw[show j / 4*4+j%4=j by omega]at h1 h2;rw[hu]at h2;rw[h1,h2]
theorem KV {α:Type}{n:Nat}{p:Nat->α->Prop}(h:∀i,i<n->∃x,p i x):∃l:List α,l.length=n/\∀i a,l[i]?=some a->p i a:=by
 induction n with
 | zero=>exact⟨[],rfl,fun i a h=>by cases h⟩
 | succ n ih =>
  obtain⟨l,h1,h2⟩:=ih (fun i hi=>h i (by omega));obtain⟨x,hx⟩:=h n (by omega);refine⟨l ++ [x],by simp[h1],fun i a ha=>?_⟩;rcases Nat.lt_or_ge i l.length with hi|hi
  ·rw[List.getElem?_append_left hi]at ha;exact h2 i a ha
  ·rw[List.getElem?_append_right hi]at ha
   have jP:=(List.getElem?_eq_some_iff.1 ha).1;have:i-l.length=0:=by simpa using jP
   rw[this]at ha;have e:x=a:=by simpa using ha
   subst e;have e2:i=n:=by omega
   rw[e2];exact hx
theorem G5 {H:Type}{enc:TypeId×Value->H}{W:World}{base:Nat}{v:Value}{d:DataW H}{p:List MemPlace}
  (EX:Value.okWide Tryz.prog W .any base 22 v) (h:DataW.Trod enc Tryz.prog W 0 (fun _=>true) true 22 v d p) :
  ∃(A:Option Addr) (l:List Ac) (c:Nat),v=.slice A l.length c/\Rd W (fun b=>W.heap.size<=b) 4 A l.length (oV l)/\l.length<2 ^ 63/\∀a∈l,a.fits:=by
 obtain⟨A0,n0,c0,rfl⟩:=okWide_slice (P:=Tryz.prog) Tryz.underlying22 EX;obtain⟨fuel,hf⟩:=h;have hf':DataW.trod enc Tryz.prog W 0 (fun _=>true) true fuel 22 [.slice A0 n0 c0]=some (d,p):=hf;rcases Go.Deep.open_slice (P:=Tryz.prog) Tryz.underlying22 hf' with ⟨e,_⟩|⟨a,len,cap,m,n,D,Pl,e,_,hl,hm,ZJ,_,hx⟩
 ·injection e with e _
  injection e with e1 e2 e3;subst e1;subst e2;subst e3;exact⟨none,[],0,rfl,Rd.lV _,by decide,by simp⟩
 ·injection e with e _
  injection e with e1 e2 e3;subst e1;subst e2;subst e3;rw[Tryz.QO]at hx;have hlm:n0<=m:=by rw[ZJ];split <;> omega
  obtain⟨l,h1,h2⟩:=KV (n:=n0) (p:=fun i (x:Ac)=>x.fits/\∀j u,x.vals[j]?=some u->W.cell? ((a.add (i*4)).add j)=some u) (fun i hi=>by
   obtain⟨cs',g1,g2⟩:=hx i (by omega);obtain⟨y,rfl,hy⟩:=Tw g2;obtain⟨_,_,g3⟩:=World.cells?_some g1;refine⟨y,hy,fun j u hu=>?_⟩;have hj:=(List.getElem?_eq_some_iff.1 hu).1
   rw[g3 j (by simpa[Ac.vals]using hj),hu])
  subst h1;refine⟨some a,l,c0,rfl,⟨D9 l,fun Sd=>?_⟩,by unfold maxLen at hm;omega,fun y hy=>?_⟩
  ·obtain⟨x0,wJ⟩:∃x0,l[0]?=some x0:=⟨_,List.getElem?_eq_getElem Sd⟩
   have aa2:a.spot=none:=by
    have:=(h2 0 x0 wJ).2 0 _ rfl;rw[Go.Deep.add_add,Nat.zero_mul,Nat.add_zero]at this;unfold Addr.add at this;simp only[if_true]at this;unfold World.cell? at this;cases hs:a.spot with
    | none=>rfl
    | some _=>rw[hs]at this;split at this <;> simp at this
   obtain⟨b,o,sp⟩:=a;simp only at aa2;subst aa2
   have fF:=Tx (w:=W) (b:=b) (o:=o) (l:=l) (fun i y hy j u hu=>by
    have:=(h2 i y hy).2 j u hu;rw[Go.Deep.add_add,Addr.iP]at this
    exact this)
   refine⟨b,o,rfl,?_,fF⟩;have h3:=(h2 0 x0 wJ).2 0 _ rfl;rw[Go.Deep.add_add,Addr.iP]at h3;have:=World.block_lt_of_cell? W _ h3;simp only at this;omega
  ·obtain⟨i,hi,e⟩:=List.getElem_of_mem hy
   exact(h2 i y (by rw[List.getElem?_eq_getElem hi,e])).1
theorem Tryz.aao:Tryz.prog.cellsOf 83=2:=by kernel_rfl
theorem RB {H:Type}{enc:TypeId×Value->H}{W:World}{base:Nat}{v:Value}{d:DataW H}{p:List MemPlace}
  (EX:Value.okWide Tryz.prog W .any base 83 v) (h:DataW.Trod enc Tryz.prog W 0 (fun _=>true) true 83 v d p) :
  ∃n0 n1:Int,v=.agg #[.int .i64 n0,.int .i64 n1]/\(-(2:Int)^63<=n0/\n0<2^63)/\(-(2:Int)^63<=n1/\n1<2^63):=by
 obtain⟨cs,rfl,eZ,_⟩:∃cs,v=.agg cs/\cs.size=Tryz.prog.cellsOf 83/\Go.Row.okWide Tryz.prog W .any base 83 cs:=by
  simpa[Value.okWide,Tryz.underlying83]using EX
 rw[Tryz.aao]at eZ;obtain⟨l⟩:=cs;obtain⟨fuel,hf⟩:=h
 match l,eZ with
 | [a,b],_ =>
  have hf':DataW.trod enc Tryz.prog W 0 (fun _=>true) true fuel 83 [a,b]=some (d,p):=hf;obtain⟨xs,m,_,_,_,hl,Nn⟩:=DataW.trod_array (P:=Tryz.prog) Tryz.underlying83 hf'
  match xs,hl with
  | [x0,x1],_ =>
   have h0:=Nn 0 (by decide);have h1:=Nn 1 (by decide);rw[Tryz.cells3]at h0 h1;simp only[Nat.zero_mul,Nat.one_mul,List.drop_zero,List.drop_succ_cons,List.take_succ_cons,List.take_zero,List.getElem?_cons_zero,List.getElem?_cons_succ]at h0 h1;obtain⟨n0,e0,_,w0⟩:=DataW.trod_int (P:=Tryz.prog) Tryz.underlying3 h0;obtain⟨n1,e1,_,w1⟩:=DataW.trod_int (P:=Tryz.prog) Tryz.underlying3 h1;have q0:[a] = [Value.int .i64 n0]:=by simpa[Value.cells,Tryz.cells3]using e0
   have q1:[b] = [Value.int .i64 n1]:=by simpa[Value.cells,Tryz.cells3]using e1
   injection q0 with q0;injection q1 with q1;subst q0;subst q1;exact⟨n0,n1,rfl,Ut w0,Ut w1⟩
end Go.Proofs.YtccnemmlkcmceaaGreatDoor
