/- Proofs about the given program, joined out of the texts X5, X6, X7, X8, Y1, Y2, Y3, E0, E1, E2, E3, Y4. -/
import Derived.Test.YtccnemmlkcmceaaGreatDoorHL12
set_option linter.unusedVariables false
set_option linter.unusedSimpArgs false
set_option maxRecDepth 100000
set_option maxHeartbeats 6400000
namespace Go.Proofs.YtccnemmlkcmceaaGreatDoor
open Go.RowKit
theorem FL (s:bH) (hs:s.Ok) (w:World) (v:V) (h:aD w s v) (hg:v.Good) (gx i:Nat) (hx:ax w gx 70 (av s i)) (id:Nat) (n:Nd) (F:Nat->Prop) (a:jT) (hn:aU w F a n) (hf:n.fits) (first:Bool)
  (hc:first=false\/(n.leaf=true/\0<n.cells.length)\/0<n.keys.length) :
  Calls Tryz.prog 153 #[.pointer (some ⟨gx,0,none⟩),.int .i64 (id:Int),n.value a.A1 a.c1 a.A2 a.c2 a.A3 a.c3,.bool first] w (Ez s w (v.settle i id n first)):=by
 have HW:=aa (fun o=>qw s hs (w.alloc o) v (h.no hs ((ah.refl No w).alloc o)) hg gx i (hx.alloc o) id n F _ _ _ _ _ _ (hn.box o) hf);have e:v.settle i id n first=v.wr id n:=by unfold V.settle;rw[if_pos hc]
 rw[e];generalize v.wr id n=r at *;simp only[Nd.value]at HW ⊢;have JI:first=false\/(n.leaf=true/\(0:Int)<(n.cells.length:Int))\/(0:Int)<(n.keys.length:Int):=by
  rcases hc with h|⟨h,h'⟩|h
  ·exact .inl h
  ·exact .inr (.inl ⟨h,by omega⟩)
  ·exact .inr (.inr (by omega))
 generalize n.cells.length=cl at *;generalize n.keys.length=kl at *;generalize n.kids.length=il at *;generalize n.leaf=lf at *;clear e hn hf h hg hx hc;have HC:=aa JI;clear JI;cases first
 ·clear HC
  go_enter Tryz.func153,Tryz.ntmps153;go_wp2_with fail;refine(HW.out _).mono ?_;rintro e w2 ⟨rfl,hT,hG,aH⟩;go_wp2_with fail;go_ret;exact⟨rfl,hT,hG,((ah.refl s.F w).alloc _).ag aH⟩
 ·cases lf
  ·have hk:(0:Int)<kl:=by rcases HC.out with h|⟨h,_⟩|h;cases h;cases h;exact h
   clear HC;go_enter Tryz.func153,Tryz.ntmps153;go_wp2_with fail;refine(HW.out _).mono ?_;rintro e w2 ⟨rfl,hT,hG,aH⟩;go_wp2_with fail;go_ret;exact⟨rfl,hT,hG,((ah.refl s.F w).alloc _).ag aH⟩
  ·by_cases wL:(0:Int)<cl
   ·clear HC
    go_enter Tryz.func153,Tryz.ntmps153;go_wp2_with fail;refine(HW.out _).mono ?_;rintro e w2 ⟨rfl,hT,hG,aH⟩;go_wp2_with fail;go_ret;exact⟨rfl,hT,hG,((ah.refl s.F w).alloc _).ag aH⟩
   ·have hk:(0:Int)<kl:=by rcases HC.out with h|⟨_,h⟩|h;cases h;exact absurd h wL;exact h
    have jQ:cl=0:=by omega
    subst jQ;clear HC wL;go_enter Tryz.func153,Tryz.ntmps153;go_wp2_with fail;refine(HW.out _).mono ?_;rintro e w2 ⟨rfl,hT,hG,aH⟩;go_wp2_with fail;go_ret;exact⟨rfl,hT,hG,((ah.refl s.F w).alloc _).ag aH⟩
theorem zW (s:bH) (hs:s.Ok) (w:World) (v:V) (h:aD w s v) (hg:v.Good) (gx i:Nat) (hx:ax w gx 70 (av s i)) (hi:i<4) (id:Nat) (n:Nd) (a:jT)
  (bL:n.leaf=true) (hc:n.cells = []) (hk:n.keys = []) :
  Calls Tryz.prog 153 #[.pointer (some ⟨gx,0,none⟩),.int .i64 (id:Int),n.value a.A1 a.c1 a.A2 a.c2 a.A3 a.c3,.bool true] w (Ez s w (v.settle i id n true)):=by
 have HF:=aa (fun o=>xQ s hs (w.alloc o) v (h.no hs ((ah.refl No w).alloc o)) hg id);have HG:=aa (hg.drop id);have HX:=aa (fun(w':World) (e:ah s.F w w')=>dS h hx e);have HS:=aa (fun w h=>nY s hs w (v.drop id).2 h i 0 hi (by omega));have e:v.settle i id n true=if (v.drop id).1≠0 then v.drop id else (0,(v.drop id).2.eU i 0):=by
  unfold V.settle;rw[if_neg (by simp[hc,hk])];simp[bL]
 rw[e];have c0:=hx.cell 0;simp[av]at c0;have kL:=hx.lt;generalize v.drop id=r at *;obtain⟨k,v2⟩:=r;simp only[Nd.value,bL,hc,hk,List.length_nil]at HF HG HS ⊢;generalize n.kids.length=il at *;clear e h hg hx bL hc hk
 by_cases hk:k=0
 ·subst hk
  rw[if_neg (by simp)];go_enter Tryz.func153,Tryz.ntmps153;go_wp2_with fail;refine(HF.out _).mono ?_;rintro e w2 ⟨rfl,hT,aH⟩;have kG:=((ah.refl s.F w).alloc (.cells #[.bool true,.slice a.A1 0 a.c1,.slice a.A2 0 a.c2,.slice a.A3 il a.c3] 40)).ag aH;have BI:=HX.out _ kG;have d0:=BI.cell 0;have d1:=BI.cell 1;simp[av]at d0 d1;have HSR:=aa (HS.out w2.drew (hT.no hs (ah.refl No w2).drew));have fQ:=aa kG;clear hT aH kG BI;go_wp2_with fail
  go_region_law ((go_simp;go_at_call 21;refine(HSR.out).mono ?_;rintro e w7 ⟨rfl,Wu,eX⟩;have FB:=aa Wu;have nS:=aa eX;clear Wu eX))
  all_goals (
   go_wp2_with fail;go_ret
   exact⟨rfl,FB.out,HG.out.eU _ _,fQ.out.drew.ag nS.out⟩)
 ·rw[if_pos hk]
  have mW:((k:Int) != 0)=true:=by simpa using (by omega:¬(k:Int)=0)
  clear hk;go_enter Tryz.func153,Tryz.ntmps153;go_wp2_with fail;refine(HF.out _).mono ?_;rintro e w2 ⟨rfl,hT,aH⟩;go_wp2_with fail;go_ret;exact⟨rfl,hT,HG.out,((ah.refl s.F w).alloc _).ag aH⟩
theorem EE (s:bH) (hs:s.Ok) (w:World) (v:V) (h:aD w s v) (hg:v.Good) (gx i:Nat) (hx:ax w gx 70 (av s i)) (hi:i<4) (id:Nat) (n:Nd) (a:jT)
  (bL:n.leaf=false) (hk:n.keys = []) (hn:aU w s.F a n) (kid:Nat) (oK:n.kids[0]?=some kid) (agV:kid<2147483648) :
  Calls Tryz.prog 153 #[.pointer (some ⟨gx,0,none⟩),.int .i64 (id:Int),n.value a.A1 a.c1 a.A2 a.c2 a.A3 a.c3,.bool true] w (Ez s w (v.settle i id n true)):=by
 have HF:=aa (fun o=>xQ s hs (w.alloc o) v (h.no hs ((ah.refl No w).alloc o)) hg id);have HG:=aa (hg.drop id);have HX:=aa (fun(w':World) (e:ah s.F w w')=>dS h hx e);have HS:=aa (fun w h=>nY s hs w (v.drop id).2 h i kid hi agV);have VX:n.kids.getD 0 0=kid:=by simp[List.getD,oK]
 have e:v.settle i id n true=if (v.drop id).1≠0 then v.drop id else (0,(v.drop id).2.eU i kid):=by
  unfold V.settle;rw[if_neg (by simp[bL,hk])];simp only[bL,Bool.false_eq_true,if_false,VX]
 rw[e];obtain⟨kb,ko,BJ,JK,q0⟩:=hn.kids.pU oK;simp only[Nat.add_zero]at q0;have lq:=World.block_lt_of_cell? w _ q0;simp only at lq;have VZ:0<n.kids.length:=(List.getElem?_eq_some_iff.1 oK).1;have ajp:(0:Int)<n.kids.length:=by omega
 have c0:=hx.cell 0;simp[av]at c0;have kL:=hx.lt;generalize v.drop id=r at *;obtain⟨k,v2⟩:=r;simp only[Nd.value,bL,hk,List.length_nil,BJ]at HF HG HS ⊢;generalize n.kids.length=il at *;generalize n.cells.length=cl at *;clear e h hg hx bL hk hn oK VX BJ JK
 by_cases hk:k=0
 ·subst hk
  rw[if_neg (by simp)];go_enter Tryz.func153,Tryz.ntmps153;go_wp2_with fail;refine(HF.out _).mono ?_;rintro e w2 ⟨rfl,hT,aH⟩;have kG:=((ah.refl s.F w).alloc (.cells #[.bool false,.slice a.A1 cl a.c1,.slice a.A2 0 a.c2,.slice (some ⟨kb,ko,none⟩) il a.c3] 40)).ag aH;have BI:=HX.out _ kG;have d0:=BI.cell 0;have d1:=BI.cell 1;simp[av]at d0 d1;have HSR:=aa (HS.out w2.drew (hT.no hs (ah.refl No w2).drew));have fQ:=aa kG;clear hT aH kG BI;go_wp2_with fail
  go_region_law ((go_simp;go_at_call 21;refine(HSR.out).mono ?_;rintro e w7 ⟨rfl,Wu,eX⟩;have FB:=aa Wu;have nS:=aa eX;clear Wu eX))
  all_goals (
   go_wp2_with fail;go_ret
   exact⟨rfl,FB.out,HG.out.eU _ _,fQ.out.drew.ag nS.out⟩)
 ·rw[if_pos hk]
  have mW:((k:Int) != 0)=true:=by simpa using (by omega:¬(k:Int)=0)
  clear hk;go_enter Tryz.func153,Tryz.ntmps153;go_wp2_with fail;refine(HF.out _).mono ?_;rintro e w2 ⟨rfl,hT,aH⟩;go_wp2_with fail;go_ret;exact⟨rfl,hT,HG.out,((ah.refl s.F w).alloc _).ag aH⟩
def ym (s:bH) (root:Nat) (v:V) (ws:List dN) (n:Nd):Prop :=
 ∀(w:World) (gx:Nat) (F:Nat->Prop) (A:Option Addr) (cap:Nat) (l:List (dN×jT)) (a:jT),aD w s v->v.Good->ax w gx 70 (av s root)->(∀b,s.F b->F b)->kE w F A cap l->l.map (·.1)=ws->aU w F a n->n.fits ->
  Calls Tryz.prog 102 #[.pointer (some ⟨gx,0,none⟩),.slice A ws.length cap,n.value a.A1 a.c1 a.A2 a.c2 a.A3 a.c3] w (Ez s w (V.shrink s.cap root ws.reverse n v))
theorem NI (s:bH) (hs:s.Ok) (root:Nat) (xG:root<4) (v:V) (st:dN) (n:Nd) (bL:n.leaf=true) (wK:n.keys = []):ym s root v [st] n:=by
 intro w gx F A cap l a h hg hx hF jB Fa hn hf;have e:V.shrink s.cap root [st].reverse n v=v.settle root st.id n true:=rfl;rw[e];obtain⟨p,hp,dI⟩:=uL (m:=0) Fa rfl;obtain⟨st',ad⟩:=p;have:st'=st:=by simpa using dI.symm
 subst this;obtain⟨b,o,hA,JK,q0,q1,q2,q3,q4,q5⟩:=jB.at hp;simp only[Nat.zero_mul,Nat.add_zero]at q0;subst hA;have lb:=World.block_lt_of_cell? w _ q0;simp only at lb;have hcap:1<=cap:=by
  have:=jB.cap;have h2:l.length=1:=by have:=congrArg List.length Fa;simpa using this
  omega
 have HS:Hid (∀o,Calls Tryz.prog 153 #[.pointer (some ⟨gx,0,none⟩),.int .i64 (st'.id:Int),n.value a.A1 a.c1 a.A2 a.c2 a.A3 a.c3,.bool true] (w.alloc o).drew (Ez s (w.alloc o).drew (v.settle root st'.id n true))):=aa (fun o=>by
  have hE:ah No w (w.alloc o).drew:=((ah.refl No w).alloc o).drew
  by_cases hc:n.cells = []
  ·exact zW s hs _ v (h.no hs hE) hg gx root (hx.ext hE (fun h=>h)) xG st'.id n a bL hc wK
  ·exact FL s hs _ v (h.no hs hE) hg gx root (hx.ext hE (fun h=>h)) st'.id n F a (hn.ext hE.of_no) hf true (.inr (.inl ⟨bL,List.length_pos_iff.2 hc⟩)))
 generalize v.settle root st'.id n true=r at *;simp only[Nd.value,List.length_singleton]at HS ⊢;generalize n.cells.length=cl at *;generalize n.keys.length=kl at *;generalize n.kids.length=il at *;generalize n.leaf=lf at *;generalize st'.id=sid at *;clear e dI hp jB Fa hn hf hx hg h q1 q2 q3 q4 q5 JK bL wK;go_enter Tryz.func102,Tryz.ntmps102;go_wp2_with fail
 go_step3
 go_wp2_with fail
 go_step3
 go_wp2_with fail;go_loopg [1,7] 0 (fun gk ww k wr=>ww=.slice (some ⟨b,o,none⟩) 1 cap/\k=.int .i64 0/\wr=w.alloc (.cells #[.bool lf,.slice a.A1 cl a.c1,.slice a.A2 kl a.c2,.slice a.A3 il a.c3] 40))
 case atStart=>exact⟨rfl,by go_num,rfl⟩
 case round =>
  obtain⟨rfl,rfl,rfl⟩:=hrel;have bn:=ax.new w 40 #[.bool lf,.slice a.A1 cl a.c1,.slice a.A2 kl a.c2,.slice a.A3 il a.c3];obtain⟨p0,p1,p2,p3,g0,g1,g2,g3,ln⟩:=bn.p4;have q0':=aj ((ah.refl No w).alloc (.cells #[.bool lf,.slice a.A1 cl a.c1,.slice a.A2 kl a.c2,.slice a.A3 il a.c3] 40)) q0 (fun h=>h);have uB:=aa (((ah.refl s.F w).alloc (.cells #[.bool lf,.slice a.A1 cl a.c1,.slice a.A2 kl a.c2,.slice a.A3 il a.c3] 40)).drew);have hw0:IntKind.i64.wrap 0=0:=rfl;clear q0 bn;go_wp2_with fail
  go_region_law ((go_simp;go_at_call 153;refine(HS.out _).mono ?_;rintro e w2 ⟨rfl,hT,hG,aH⟩;have HT:=aa hT;have HG:=aa hG;have HX:=aa aH;clear hT hG aH))
  all_goals (
   go_wp2_with fail
   try rw[Exit.noGoto_ret]
   go_ret
   exact⟨rfl,HT.out,HG.out,uB.out.ag HX.out⟩)
def FI (s:bH) (w:World) (r:Bool×Nat×V) (e:Ending) (w':World):Prop:=e=.returned (.tuple #[.bool r.1,.int .i64 (r.2.1:Int)])/\aD w' s r.2.2/\r.2.2.Good/\ah s.F w w'
theorem S_ (s:bH) (hs:s.Ok) (w:World) (v:V) (h:aD w s v) (hg:v.Good) (gx i:Nat) (hx:ax w gx 70 (av s i)) (hi:i<4) (key:Bs) (hw:v.way i key=none) :
  Calls Tryz.prog 63 #[.pointer (some ⟨gx,0,none⟩),.string (au key)] w (FI s w (false,5,v)):=by
 have HW:=aa (lh s hs w v h hg gx i hx hi key);have HT:=aa (fun(w':World) (e:ah No w w')=>h.no hs e);have HG:=aa hg;rw[hw]at HW;clear h hg hx hw;go_enter Tryz.func63,Tryz.ntmps63;go_wp2_with fail;refine(HW.out).mono ?_;rintro e' w2 ⟨aH,rfl⟩;go_wp2_with fail;go_ret2;exact⟨rfl,HT.out _ aH,HG.out,aH.of_no⟩
structure Lst (w w2:World) (ws:List dN) (m:Nat) (key:Bs) (st:dN) (ad:jT) (b o cap:Nat) (l:List (dN×jT)):Prop where
 hl:l.map (·.1)=ws
 lf:st.n.leaf=true
 ok:st.n.ok=true
 ile:st.i<=st.n.cells.length
 q0:w2.cell? ⟨b,o+m*6,none⟩=some (.int .i64 (st.id:Int))
 q1:w2.cell? ⟨b,o+m*6+1,none⟩=some (.bool true)
 q2:w2.cell? ⟨b,o+m*6+2,none⟩=some (.slice ad.A1 st.n.cells.length ad.c1)
 q3:w2.cell? ⟨b,o+m*6+3,none⟩=some (.slice ad.A2 st.n.keys.length ad.c2)
 q4:w2.cell? ⟨b,o+m*6+4,none⟩=some (.slice ad.A3 st.n.kids.length ad.c3)
 q5:w2.cell? ⟨b,o+m*6+5,none⟩=some (.int .i64 (st.i:Int))
 lb:b<w2.heap.size
 hcap:m+1<=cap
 rZ:st.n.cells.length<=ad.c1
 hb1:st.n.cells.length<65536
 node:aU w2 (gB w) ad st.n
 way:kE w2 (gB w) (some ⟨b,o,none⟩) cap l
theorem Lst.of {v:V}{key:Bs}{w w2:World}{ws:List dN}{m:Nat}{st:dN}{A:Option Addr}{cap:Nat}{l:List (dN×jT)}(hWO:QS v key ws) (gX:ws.length=m+1) (dw:ws.getLast?=some st) (hl:l.map (·.1)=ws)
  (jB:kE w2 (gB w) A cap l):∃ad b o,A=some ⟨b,o,none⟩/\Lst w w2 ws m key st ad b o cap l:=by
 obtain⟨p,hp,dI⟩:=uL hl gX;obtain⟨st',ad⟩:=p;have:st'=st:=by rw[dI]at dw;simpa using dw
 subst this;obtain⟨b,o,hA,JK,q0,q1,q2,q3,q4,q5⟩:=jB.at hp;have cu:=jB.nodes (st',ad) (List.mem_of_getElem? hp);simp only at q0 q1 q2 q3 q4 q5 cu;have bL:=hWO.last st' dI;obtain⟨gN,yY⟩:=hWO.all st' (List.mem_of_getLast? dI);have aX:=V.bM gN;have Fb:st'.i<=st'.n.cells.length:=by rw[yY];exact(Nd.uR aX key).1 bL
 rw[bL]at q1;subst hA;refine⟨ad,b,o,rfl,hl,bL,aX,Fb,q0,q1,q2,q3,q4,q5,World.block_lt_of_cell? w2 _ q0,?_,cu.l1,cu.b1,cu,jB⟩;have:=jB.cap;have h2:l.length=m+1:=by rw[<-gX,<-hl,List.length_map]
 omega
theorem Ta (s:bH) (hs:s.Ok) (w:World) (v:V) (h:aD w s v) (hg:v.Good) (gx i:Nat) (hx:ax w gx 70 (av s i)) (hi:i<4) (key:Bs) (ws:List dN) (hw:v.way i key=some ws) (hh:hit ws key=none) :
  Calls Tryz.prog 63 #[.pointer (some ⟨gx,0,none⟩),.string (au key)] w (FI s w (false,0,v)):=by
 have HW:=aa (lh s hs w v h hg gx i hx hi key);have HT:=aa (fun(w':World) (e:ah No w w')=>h.no hs e);have HG:=aa hg;have Fz:=aa (sO hw);rw[hw]at HW;clear h hg hx hw;have HH:=aa hh;clear hh;rcases Nat.eq_zero_or_pos ws.length with gX|gX
 ·have hn:ws = []:=List.eq_nil_of_length_eq_zero gX
  subst hn;clear gX;go_enter Tryz.func63,Tryz.ntmps63;go_wp2_with fail;refine(HW.out).mono ?_;rintro e' w2 ⟨aH,A,cap,l,hl,rfl,_⟩;clear hl;simp only[List.length_nil];go_wp2_with fail;go_ret2;exact⟨rfl,HT.out _ aH,HG.out,aH.of_no⟩
 ·obtain⟨m,gX⟩:∃m,ws.length=m+1:=by cases hz:ws.length <;> simp_all
  have dw:∃st,ws.getLast?=some st:=by cases hz:ws.getLast? <;> simp_all
  obtain⟨st,dw⟩:=dw;have ru:=aa dw;have LB:m<=40:=by have:=Fz.out.len;omega
  have o7:=aa gX;have gH:=Dv dw key;rw[HH.out]at gH;have TP:=aa gH;clear dw gX gH;go_enter Tryz.func63,Tryz.ntmps63;go_wp2_with fail;refine(HW.out).mono ?_;rintro e' w2 ⟨aH,A,cap,l,hl,rfl,jB⟩;rw[o7.out];obtain⟨ad,b,o,rfl,hL⟩:=Lst.of Fz.out o7.out ru.out hl jB;obtain⟨q0,q1,q2,q3,q4,q5⟩:=And.intro hL.q0 (And.intro hL.q1 (And.intro hL.q2 (And.intro hL.q3 (And.intro hL.q4 hL.q5))));have lb:=hL.lb;have hcap:=hL.hcap;have rZ:=hL.rZ;have hb1:=hL.hb1;have Fb:=hL.ile;have cu:=hL.node;have dx:=aa aH;clear hl jB hL aH;rcases Nat.lt_or_ge st.i st.n.cells.length with bu|iC
  ·obtain⟨d,hd⟩:∃d,st.n.cells[st.i]?=some d:=⟨_,List.getElem?_eq_getElem bu⟩
   obtain⟨cb,co,mY,_,k0,k1,k2,k3⟩:=cu.cells.cellAt hd;have lc:=World.block_lt_of_cell? w2 _ k0;simp only at lc;rw[mY]at q2;have gH:=TP.out;rw[hd]at gH;simp only at gH;have Np:(d.key==key)=false:=by
    by_cases hk:d.key=key
    ·rw[if_pos hk]at gH;cases gH
    ·simpa using hk
   have Sk:¬((st.i:Int)=(st.n.cells.length:Int)):=by omega
   clear hd cu mY Fb gH;generalize st.i=si at *;generalize st.n.cells.length=cl at *;generalize st.n.keys.length=kl at *;generalize st.n.kids.length=il at *;generalize st.id=sid at *;go_wp2_with fail;go_ret2;exact⟨rfl,HT.out _ (dx.out.alloc _),HG.out,(dx.out.alloc _).of_no⟩
  ·have acv:(st.i:Int)=(st.n.cells.length:Int):=by omega
   clear cu Fb iC;generalize st.i=si at *;generalize st.n.cells.length=cl at *;generalize st.n.keys.length=kl at *;generalize st.n.kids.length=il at *;generalize st.id=sid at *;have hse:si=cl:=by omega
   subst hse;clear acv;go_wp2_with fail;go_ret2;exact⟨rfl,HT.out _ (dx.out.alloc _),HG.out,(dx.out.alloc _).of_no⟩
theorem Nd.Mr {n:Nd}{i:Nat}(h:n.fits):(n.cut i).fits:=by
 refine⟨fun d hd=>?_,h.k,h.i⟩;simp only[Nd.cut]at hd;rcases List.mem_append.1 hd with hd|hd
 ·exact h.c d (List.mem_of_mem_take hd)
 ·exact h.c d (List.mem_of_mem_drop hd)
theorem NK (s:bH) (hs:s.Ok) (w wT:World) (v:V) (hT:aD wT s v) (hg:v.Good) (gx i:Nat) (hx:ax wT gx 70 (av s i)) (ws:List dN) (st:dN) (j:Nat) (hj:j<st.n.cells.length)
  (A:Option Addr) (cap:Nat) (l:List (dN×jT)) (hl:l.map (·.1)=ws) (jB:kE wT (gB w) A cap l) (ad:jT) (hn:aU wT (gB w) ad st.n) (aX:st.n.ok=true) (bL:st.n.leaf=true) (hO:∀b,s.F b->gB w b) (hE:ah s.F w wT)
  (hG:ym s i v ws (st.n.cut j)) :
  Calls Tryz.prog 103 #[st.n.value ad.A1 ad.c1 ad.A2 ad.c2 ad.A3 ad.c3,.int .i64 (j:Int)] wT fun e w8=>∃a:jT,e=.returned ((st.n.cut j).value a.A1 a.c1 a.A2 a.c2 a.A3 a.c3) /\
   Calls Tryz.prog 102 #[.pointer (some ⟨gx,0,none⟩),.slice A ws.length cap,(st.n.cut j).value a.A1 a.c1 a.A2 a.c2 a.A3 a.c3] w8 (Ez s w (V.shrink s.cap i ws.reverse (st.n.cut j) v)):=by
 have Aq:=Nd.Ok.of aX;obtain⟨h1,h2⟩:=Aq.lf bL;refine(aam st.n j wT (gB w) _ _ _ _ _ _ hn bL h1 h2 hj (by have:=Aq.a1;omega)).mono ?_;rintro e w8 ⟨kK,A1,c1,A2,c2,A3,c3,rfl,Qu⟩;have eZ:=hE.size;refine⟨⟨A1,c1,A2,c2,A3,c3⟩,rfl,?_⟩;refine(hG w8 gx (gB w) A cap l ⟨A1,c1,A2,c2,A3,c3⟩ (hT.no hs kK) hg (hx.ext kK (fun h=>h)) hO (jB.ext kK.of_no) hl (Qu.mono (fun b _ hb=>Nat.lt_of_lt_of_le hb eZ)) (Nd.Mr (Nd.Ok.fits Aq))).mono ?_;rintro e w9 ⟨he,LZ,Nr,jO⟩;exact⟨he,LZ,Nr,(hE.ag kK.of_no).ag jO⟩
theorem Mo (s:bH) (hs:s.Ok) (w:World) (v:V) (h:aD w s v) (hg:v.Good) (gx i:Nat) (hx:ax w gx 70 (av s i)) (hi:i<4) (key:Bs) (ws:List dN) (hw:v.way i key=some ws) (st:dN) (dw:ws.getLast?=some st) (c:aA) (hh:hit ws key=some c)
  (hSh:(v.bG c).1=0->ym s i (v.bG c).2 ws (st.n.cut st.i)) :
  Calls Tryz.prog 63 #[.pointer (some ⟨gx,0,none⟩),.string (au key)] w (FI s w (if (v.bG c).1≠0 then (false,v.bG c)else (true,V.shrink s.cap i ws.reverse (st.n.cut st.i) (v.bG c).2))):=by
 have HW:=aa (lh s hs w v h hg gx i hx hi key);have YH:=aa (fun w' (e:ah No w w')=>F4 s hs w' v (h.no hs e) hg gx i (hx.ext e (fun h=>h)) c);have wQ:=aa (fun(w':World) (e:ah s.F w w')=>dS h hx e);have HO:=aa (gB.of h);have HSH:=aa hSh;have Fz:=aa (sO hw);have ru:=aa dw;rw[hw]at HW;have gX:∃m,ws.length=m+1:=by cases hz:ws.length <;> simp_all
 obtain⟨m,gX⟩:=gX;have LB:m<=40:=by have:=Fz.out.len;omega
 have o7:=aa gX;have gH:=Dv dw key;rw[hh]at gH;have bu:st.i<st.n.cells.length:=by
  rcases Nat.lt_or_ge st.i st.n.cells.length with h|h
  ·exact h
  ·rw[List.getElem?_eq_none h]at gH;cases gH
 obtain⟨d,hd⟩:∃d,st.n.cells[st.i]?=some d:=⟨_,List.getElem?_eq_getElem bu⟩;rw[hd]at gH;simp only at gH;have hdk:d=c/\d.key=key:=by
  by_cases hk:d.key=key
  ·rw[if_pos hk]at gH;exact⟨by injection gH with h;exact h.symm,hk⟩
  ·rw[if_neg hk]at gH;cases gH
 obtain⟨rfl,hk⟩:=hdk;have Np:(d.key==key)=true:=by simpa using hk
 have Sk:¬((st.i:Int)=(st.n.cells.length:Int)):=by omega
 have HD:=aa hd;have mQ:=aa bu;obtain⟨r,hr⟩:∃r,r=v.bG d:=⟨_,rfl⟩;rw[<-hr]at HSH YH ⊢;obtain⟨k,v2⟩:=r;simp only[aA.agg]at YH HSH ⊢;clear h hg hx hw hSh dw hh gX gH hd bu hk hr
 by_cases jK:k=0
 ·subst jK
  rw[if_neg (by simp)];go_enter Tryz.func63,Tryz.ntmps63;go_wp2_with fail;refine(HW.out).mono ?_;rintro e' w2 ⟨aH,A,cap,l,hl,rfl,jB⟩;rw[o7.out];obtain⟨ad,b,o,rfl,hL⟩:=Lst.of Fz.out o7.out ru.out hl jB;obtain⟨q0,q1,q2,q3,q4,q5⟩:=And.intro hL.q0 (And.intro hL.q1 (And.intro hL.q2 (And.intro hL.q3 (And.intro hL.q4 hL.q5))));have lb:=hL.lb;have hcap:=hL.hcap;have rZ:=hL.rZ;have hb1:=hL.hb1;have cu:=hL.node;obtain⟨cb,co,mY,hcF,k0,k1,k2,k3⟩:=cu.cells.cellAt HD.out;have lc:=World.block_lt_of_cell? w2 _ k0;simp only at lc;have dx:=aa aH;have HL:=aa hL;have HA1:=aa mY;have Ex:=aa jB;have lL:=aa hl;have HN:=aa cu;rw[mY]at q2;have iY:(st.i:Int)<(st.n.cells.length:Int):=by have:=mQ.out;omega
  have Dr:st.i<ad.c1:=by have:=mQ.out;omega
  obtain⟨kk0,kk1,kk2,kk3⟩:=And.intro k0 (And.intro k1 (And.intro k2 k3));clear hl jB hL aH cu mY;obtain⟨nl,pV⟩:∃nl,nl=st.n.cells.length:=⟨_,rfl⟩;obtain⟨si,yY⟩:∃si,si=st.i:=⟨_,rfl⟩;rw[<-pV]at q2 iY Sk hb1 rZ;rw[<-yY]at q5 k0 k1 k2 k3 iY Dr Sk;have Ju:=aa pV;have HSI:=aa yY;clear pV yY kk0 kk1 kk2 kk3;go_wp2_with fail;refine(YH.out _ (dx.out.alloc _)).mono ?_;rintro e w5 ⟨rfl,SB,Yn,bU⟩;have hEa:ah No w2 (w2.alloc (.cells #[.int .i64 (st.id:Int),.bool true,.slice (some ⟨cb,co,none⟩) nl ad.c1,.slice ad.A2 st.n.keys.length ad.c2,.slice ad.A3 st.n.kids.length ad.c3,.int .i64 (si:Int)] 125)):=(ah.refl No w2).alloc _;have xN:=(dx.out.ag hEa).of_no.ag bU;have xE:ah (gB w) _ w5:=bU.mono fun b _ hb=>HO.out b hb
  have acR:=NK s hs w w5 v2 SB Yn gx i (wQ.out _ xN) ws st st.i mQ.out _ cap l lL.out ((Ex.out.ext hEa.of_no).ext xE) ad ((HN.out.ext hEa.of_no).ext xE) HL.out.ok HL.out.lf HO.out xN (HSH.out (by trivial));have hPV:st.n.value ad.A1 ad.c1 ad.A2 ad.c2 ad.A3 ad.c3=.agg #[.bool true,.slice (some ⟨cb,co,none⟩) nl ad.c1,.slice ad.A2 st.n.keys.length ad.c2,.slice ad.A3 st.n.kids.length ad.c3]:=by
   rw[Ju.out,<-HA1.out,<-HL.out.lf];rfl
  rw[hPV,o7.out,<-HSI.out]at acR;have uz:=aa acR
  have wO:=(ax.new w2 125 #[.int .i64 (st.id:Int),.bool true,.slice (some ⟨cb,co,none⟩) nl ad.c1,.slice ad.A2 st.n.keys.length ad.c2,.slice ad.A3 st.n.kids.length ad.c3,.int .i64 (si:Int)]).ext bU (fun h=>by
   have h1:w2.heap.size<w.heap.size:=HO.out _ h;have:=dx.out.size
   omega)
  obtain⟨z0,z1,z2,z3,z4,z5,lz⟩:=wO.p6;clear SB Yn bU hEa xN xE acR hPV wO;go_wp2_with fail;refine uz.out.mono ?_;rintro e w8 ⟨a,rfl,PM⟩;have PM:=aa PM;go_wp2_with fail;refine PM.out.mono ?_;rintro e w9 ⟨rfl,LZ,Nr,jO⟩;go_wp2_with fail;go_ret2;rw[<-HSI.out];exact⟨rfl,LZ,Nr,jO⟩
 ·have mW:((k:Int) != 0)=true:=by simpa using (by omega:¬(k:Int)=0)
  rw[if_pos jK];clear jK;go_enter Tryz.func63,Tryz.ntmps63;go_wp2_with fail;refine(HW.out).mono ?_;rintro e' w2 ⟨aH,A,cap,l,hl,rfl,jB⟩;rw[o7.out];obtain⟨ad,b,o,rfl,hL⟩:=Lst.of Fz.out o7.out ru.out hl jB;obtain⟨q0,q1,q2,q3,q4,q5⟩:=And.intro hL.q0 (And.intro hL.q1 (And.intro hL.q2 (And.intro hL.q3 (And.intro hL.q4 hL.q5))));have lb:=hL.lb;have hcap:=hL.hcap;have rZ:=hL.rZ;have hb1:=hL.hb1;have cu:=hL.node;obtain⟨cb,co,mY,hcF,k0,k1,k2,k3⟩:=cu.cells.cellAt HD.out;have lc:=World.block_lt_of_cell? w2 _ k0;simp only at lc;have dx:=aa aH;have HL:=aa hL;have HA1:=aa mY;have Ex:=aa jB;have lL:=aa hl;have HN:=aa cu;rw[mY]at q2;have iY:(st.i:Int)<(st.n.cells.length:Int):=by have:=mQ.out;omega
  have Dr:st.i<ad.c1:=by have:=mQ.out;omega
  obtain⟨kk0,kk1,kk2,kk3⟩:=And.intro k0 (And.intro k1 (And.intro k2 k3));clear hl jB hL aH cu mY;obtain⟨nl,pV⟩:∃nl,nl=st.n.cells.length:=⟨_,rfl⟩;obtain⟨si,yY⟩:∃si,si=st.i:=⟨_,rfl⟩;rw[<-pV]at q2 iY Sk hb1 rZ;rw[<-yY]at q5 k0 k1 k2 k3 iY Dr Sk;have Ju:=aa pV;have HSI:=aa yY;clear pV yY kk0 kk1 kk2 kk3;go_wp2_with fail;refine(YH.out _ (dx.out.alloc _)).mono ?_;rintro e w5 ⟨rfl,SB,Yn,bU⟩;go_wp2_with fail;go_ret2;exact⟨rfl,SB,Yn,(dx.out.alloc _).of_no.ag bU⟩
theorem aaP (s:bH) (hs:s.Ok) (w:World) (v:V) (h:aD w s v) (hg:v.Good) (gx i:Nat) (hx:ax w gx 70 (av s i)) (key:Bs) (hm:iE key []≠0) :
  Calls Tryz.prog 27 #[.pointer (some ⟨gx,0,none⟩),.string (au key)] w (FI s w (false,iE key [],v)):=by
 have HM:=aa (xw s hs w v h gx i hx key []);have HT:=aa (fun(w':World) (e:ah No w w')=>h.no hs e);have HG:=aa hg;have hm':((iE key []:Int) != 0)=true:=by simpa using (by omega:¬(iE key []:Int)=0)
 generalize iE key []=k at *;clear h hg hx hm;go_enter Tryz.func27,Tryz.ntmps27;go_wp2_with fail;refine(HM.out).mono ?_;rintro e' w1 ⟨rfl,aT⟩;go_wp2_with fail;go_ret2;exact⟨rfl,HT.out _ aT,HG.out,aT.of_no⟩
theorem X9 (s:bH) (hs:s.Ok) (w:World) (v:V) (h:aD w s v) (gx i:Nat) (hx:ax w gx 70 (av s i)) (key:Bs) (hm:iE key []=0)
  (hP:∀w',ah No w w'->Calls Tryz.prog 63 #[.pointer (some ⟨gx,0,none⟩),.string (au key)] w' (FI s w' (v.iD s.cap i key))) :
  Calls Tryz.prog 27 #[.pointer (some ⟨gx,0,none⟩),.string (au key)] w (FI s w (v.vz s.cap i key)):=by
 have HM:=aa (xw s hs w v h gx i hx key []);have HP:=aa hP;have HX:=aa (fun(w':World) (e:ah s.F w w')=>dS h hx e);have e:v.vz s.cap i key=if (v.iD s.cap i key).2.1=0 then v.iD s.cap i key else (false,(v.iD s.cap i key).2.1,(v.iD s.cap i key).2.2.kI):=by simp[V.vz,hm,V.kI]
 rw[e];rw[hm]at HM;obtain⟨r,hr⟩:∃r,r=v.iD s.cap i key:=⟨_,rfl⟩;rw[<-hr]at HP ⊢;clear h hx hm hP e hr;obtain⟨b,k,v2⟩:=r
 by_cases hk:k=0
 ·subst hk
  rw[if_pos rfl];have HS:=aa (P7 (.pointer (some ⟨gx,0,none⟩)));go_enter Tryz.func27,Tryz.ntmps27;go_wp2_with fail;refine(HM.out).mono ?_;rintro e' w1 ⟨rfl,aT⟩;go_wp2_with fail;refine(HP.out _ aT).mono ?_;rintro e' w2 ⟨rfl,hT,hG,aH⟩;go_wp2_with fail;refine(HS.out _).mono ?_;rintro e' w3 ⟨rfl,rfl⟩;go_wp2_with fail;go_ret2;exact⟨rfl,hT,hG,aT.of_no.ag aH⟩
 ·rw[if_neg hk]
  have mW:((k:Int) != 0)=true:=by simpa using (by omega:¬(k:Int)=0)
  have HS:=aa (fun w' (hT:aD w' s v2) hX=>J9 s hs w' v2 hT gx i hX k hk);clear hk;go_enter Tryz.func27,Tryz.ntmps27;go_wp2_with fail;refine(HM.out).mono ?_;rintro e' w1 ⟨rfl,aT⟩;go_wp2_with fail;refine(HP.out _ aT).mono ?_;rintro e' w2 ⟨rfl,hT,hG,aH⟩;go_wp2_with fail;refine(HS.out _ hT (HX.out _ (aT.of_no.ag aH))).mono ?_;rintro e' w3 ⟨rfl,Yj,bC⟩;go_wp2_with fail;go_ret2;exact⟨rfl,Yj,hG.kI,(aT.of_no.ag aH).ag bC⟩
theorem Vl (k low high:Bs) (w:World) (bl bh:Nat) (h1:w.cell? ⟨bl,0,none⟩=some (.string (au low))) (h2:w.cell? ⟨bh,0,none⟩=some (.string (au high))) :
  Calls Tryz.prog 134 #[.string (au k),.pointer (some ⟨bl,0,none⟩),.pointer (some ⟨bh,0,none⟩)] w fun e w'=>e=.returned (.bool (qf low high k))/\w=w':=by
 unfold qf;cases ha:fA k low
 ·cases high with
  | nil =>
   go_enter Tryz.func134,Tryz.ntmps134;go_wp2_with fail;go_ret;exact⟨rfl,rfl⟩
  | cons x high =>
   have bQ:(x::high).isEmpty=false:=rfl;generalize x::high=hh at *;go_enter Tryz.func134,Tryz.ntmps134;go_wp2_with fail;go_ret;exact⟨iH (by simp[bQ]),rfl⟩
 ·go_enter Tryz.func134,Tryz.ntmps134
  go_wp2_with fail;go_ret;exact⟨rfl,rfl⟩
theorem Oe (s:bH) (hs:s.Ok) (wz w:World) (v:V) (hz:aD wz s v) (hg:v.Good) (gx i:Nat) (Vt:ax wz gx 70 (av s i)) (ZM:ah No wz w) (gs id:Nat) (Qy:wz.heap.size<=gs) (VD:ax w gs 118 #[.int .i64 0,.int .i64 (-1)]) (n:Nd) (hn:v.node id=some n)
  (bL:n.leaf=true) (jQ:n.cells ≠ []) (hc:∀c∈n.cells,c.over=0) :
  Calls Tryz.prog 94 #[.pointer (some ⟨gx,0,none⟩),.pointer (some ⟨gs,0,none⟩),.int .i64 (id:Int),.int .i64 0,.string (au []),.string (au [])] w fun e w'=>e=.returned (.int .i64 0) /\
   ax w' gs 118 #[.int .i64 1,.int .i64 0]/\ah (On gs) w w':=by
 have h:=hz.no hs ZM;have hx:=Vt.ext ZM (fun h=>h);have HN:=aa (fun w' (e:ah No w w')=>tq s hs w' v (h.no hs e) hg gx i (hx.ext e (fun h=>h)) id);have HIN:=aa (fun k w bl bh h1 h2=>Vl k [] [] w bl bh h1 h2);have iL:∀k,qf [] [] k=true:=by intro k;simp[qf,lI]
 have HV:=aa (fun c (JI:c∈n.cells) w' (hT:aD w' s v) (hX:ax w' gx 70 (av s i))=>sP s v c (hc c JI) w' gx i hT hX);have Sd:(0:Int)<(n.cells.length:Int):=by have:=List.length_pos_iff.2 jQ;omega
 have aX:=V.bM hn;have Aq:=Nd.Ok.of aX;have abe:=Aq.a1;have aiP:¬(gs=s.t):=fun e=>(VD.UZ h.tx (by decide)) e
 rw[hn]at HN;have HT:=aa (fun w' (e:ah No w w')=>h.no hs e);have HX:=aa (fun w' (e:ah No w w')=>hx.ext e (fun h=>h));have HSV:=aa VD;have HC:=aa hc;have Ef:=aa bL;simp only[iL]at HIN;clear h hg hx hn hc jQ aX Aq VD;go_enter Tryz.func94,Tryz.ntmps94;go_wp2_with fail;refine(HN.out _ (by(repeat' (first|exact ah.refl _ _|assumption|apply ah.alloc|apply ah.drewN|apply ah.drew|refine ah.ai ?_ (by first|omega|(simp;omega)|simp) _ _|refine ah.ay ?_ (by first|exact Or.inl rfl|exact Or.inr rfl|rfl) _ _|refine ah.ag ?_ (by assumption)|refine ah.ag ?_ (ah.of_no (by assumption)))))).mono ?_;rintro e w1 ⟨aT,A1,c1,A2,c2,A3,c3,rfl,cu⟩;have mM:ah No w w1:=(((ah.refl No w).alloc _).alloc _).ag aT;have rU:=HSV.out.ext mM (fun h=>h);have s0:=rU.cell 0;have s1:=rU.cell 1;have sf:=rU.frozen;have sl:=rU.lt;simp at s0 s1;have nC:=(ax.new w 9 #[.string (au [])]).alloc (.cells #[.string (au [])] 9);have LD:=nC.ext aT (fun h=>h);have Dx:=(ax.aS (b:=w.heap.size+1) (w.alloc (.cells #[.string (au [])] 9)) 9 #[.string (au [])] (by simp)).ext aT (fun h=>h);simp only[Nd.value,bL];go_wp2_with fail;obtain⟨W1,Yi⟩:∃W1,W1=w1.setCell ⟨gs,0,none⟩ (.int .i64 1):=⟨_,rfl⟩;have hWs:W1.heap.size=w1.heap.size:=by rw[Yi];simp[World.setCell]
 have hEg:ah (On gs) w1 W1:=by rw[Yi];exact(ah.refl (On gs) w1).ay (b:=gs) rfl _ _
 have ahs:gs<w.heap.size:=HSV.out.lt;have AZ:∀b,w.heap.size<=b->¬On gs b:=fun b hb e=>by
  have e':b=gs:=e;omega
 obtain⟨o,ho⟩:∃o,o=Obj.cells #[.bool true,.slice A1 n.cells.length c1,.slice A2 n.keys.length c2,.slice A3 n.kids.length c3] 40:=⟨_,rfl⟩;have hEa:ah No W1 (W1.alloc o):=(ah.refl No W1).alloc o;have dO:ax (W1.alloc o) gs 118 #[.int .i64 1,.int .i64 (-1)]:=by rw[Yi];exact(rU.aQ 0 _).alloc _
 have vJ:=(LD.ext hEg (AZ _ (Nat.le_refl _))).ext hEa (fun h=>h);have hh2:=(Dx.ext hEg (AZ _ (Nat.le_succ _))).ext hEa (fun h=>h);have IK:ax (W1.alloc o) w1.heap.size 40 #[.bool true,.slice A1 n.cells.length c1,.slice A2 n.keys.length c2,.slice A3 n.kids.length c3]:=by rw[ho,<-hWs];exact ax.new W1 40 _
 have VO:aW (W1.alloc o) (On gs) A1 c1 A2 c2 A3 c3 n:=((cu.mono (G:=On gs) (fun b _ hb=>by
  have e':b=gs:=hb;show b<_;simp
  omega)).ext hEg).ext hEa.of_no
 have kG:ah (On gs) w (W1.alloc o):=(mM.of_no.ag hEg).ag hEa.of_no;have ng:=aa dO;have vQ:=aa vJ;have HH2:=aa hh2;have Em:=aa IK;have TI:=aa VO;have fQ:=aa kG;have hEz:=((ZM.ag mM).kR hEg Qy).ag hEa;have HXT:Hid (∀wr,ah No (W1.alloc o) wr->aD wr s v/\ax wr gx 70 (av s i)):=aa (fun wr e=>⟨hz.no hs (hEz.ag e),Vt.ext (hEz.ag e) (fun h=>h)⟩);rw[<-Yi,<-ho];have adW:=mM.size;clear hz Vt ZM hEz Yi hEg hEa dO vJ hh2 IK VO kG nC LD Dx cu rU s0 s1 sf sl mM aT;go_loopg [53] n.cells.length (fun gk k wr=>∃K:Nat,K+gk=n.cells.length/\k=.int .i64 (K:Int)/\ah No (W1.alloc o) wr)
 case atStart=>exact⟨0,by omega,rfl,ah.refl _ _⟩
 case round =>
  obtain⟨K,hK,rfl,hE⟩:=hrel;have lo:=(vQ.out.ext hE (fun h=>h)).cell 0;have hi:=(HH2.out.ext hE (fun h=>h)).cell 0;obtain⟨p0,p1,p2,p3,g0,g1,g2,g3,ln⟩:=(Em.out.ext hE (fun h=>h)).p4;have Ni:=World.block_lt_of_cell? wr _ lo;have hh0:=World.block_lt_of_cell? wr _ hi;simp at lo hi Ni hh0;have HE:=aa hE;have wR:=aa hK
  by_cases bu:K<n.cells.length
  ·obtain⟨c,hc⟩:∃c,n.cells[K]?=some c:=⟨_,List.getElem?_eq_getElem bu⟩
   obtain⟨cb,co,mY,_,k0,k1,k2,k3⟩:=(TI.out.ext hE.of_no).cells.cellAt hc;have lc:=World.block_lt_of_cell? wr _ k0;simp only at lc;subst mY;have rZ:=TI.out.l1;have iY:(K:Int)<(n.cells.length:Int):=by omega
   have TA:=aa (fun w' (e:ah No (W1.alloc o) w')=>HV.out c (List.mem_of_getElem? hc) w' (HXT.out w' e).1 (HXT.out w' e).2);have Un:=aa hc;clear hE hK hc;generalize n.cells.length=cl at *;simp only[aA.agg]at TA;have zJ:=aa (HC.out c (List.mem_of_getElem? Un.out));have aaG:=aa (HIN.out c.key _ w.heap.size (w.heap.size+1) (((vQ.out.ext HE.out (fun h=>h)).alloc (.cells #[.string (au c.key),.string (au c.val),.int .i64 (c.over:Int),.int .i64 (c.len:Int)] 45)).cell 0) (((HH2.out.ext HE.out (fun h=>h)).alloc _).cell 0));rw[zJ.out]at k2 TA aaG;have hvv:v.value c=some c.val:=by simp[V.value,zJ.out]
   rw[hvv]at TA;simp only[vR]at TA;clear hvv;go_wp2_with fail;refine aaG.out.mono ?_;rintro e w5 ⟨rfl,rfl⟩;go_wp2_with fail;refine(TA.out _ (HE.out.alloc _)).mono ?_;rintro e w6 ⟨rfl,kH⟩;have bc:=(ax.new wr 45 #[.string (au c.key),.string (au c.val),.int .i64 ((0:Nat):Int),.int .i64 (c.len:Int)]).ext kH (fun h=>h);obtain⟨z0,z1,z2,z3,_,_,_,_,lz⟩:=bc.p4;have DK:=aa ((HE.out.alloc _).ag kH);clear bc kH;go_wp2_with fail;go_roundg (gk-1)
   case rel=>exact⟨K+1,by have:=wR.out;omega,by go_num,DK.out⟩
   case measure=>have:=wR.out;omega
  ·have hK':K=n.cells.length:=by omega
   subst hK';have gb:=ng.out.ext hE (fun h=>h);have y0:=gb.cell 0;have y1:=gb.cell 1;have yf:=gb.frozen;have yl:=gb.lt;simp at y0 y1;have Jw:=aa gb;clear hE hK gb;generalize n.cells.length=cl at *;go_wp2_with fail;go_ret;refine⟨rfl,Jw.out.aQ 1 _,(fQ.out.ag HE.out.of_no).ay (b:=gs) rfl _ _⟩
theorem zQ (s:bH) (hs:s.Ok) (w:World) (v:V) (h:aD w s v) (gx i:Nat) (hx:ax w gx 70 (av s i)) (hi:i<4) (h0:v.r i=0) :
  Calls Tryz.prog 58 #[.pointer (some ⟨gx,0,none⟩)] w fun e w'=>e=.returned (.tuple #[.agg #[.int .i64 0,.int .i64 (-1)],.int .i64 0])/\ah No w w':=by
 have HN:=aa (fun w' (e:ah No w w')=>mJ ⟨s.t,0,none⟩ (.int .i64 (i:Int)) gx w' (hx.ext e (fun h=>h)));have HA:=aa (fun w' (e:ah No w w')=>qc s hs w' v (h.no hs e) gx i (hx.ext e (fun h=>h)));have HR:=aa (fun w' (e:ah No w w')=>mG s hs w' v (h.no hs e) gx i (hx.ext e (fun h=>h)) hi);rw[h0]at HR;clear h hx h0;go_enter Tryz.func58,Tryz.ntmps58;go_wp2_with fail;have sj:ah No w ((w.alloc (.cells #[.int .i64 0,.int .i64 0] 118)).alloc (.cells #[.int .i64 0,.int .i64 (-1)] 118)):=((ah.refl No w).alloc _).alloc _;refine(HN.out _ (by(repeat' (first|exact ah.refl _ _|assumption|apply ah.alloc|apply ah.drewN|apply ah.drew|refine ah.ai ?_ (by first|omega|(simp;omega)|simp) _ _|refine ah.ay ?_ (by first|exact Or.inl rfl|exact Or.inr rfl|rfl) _ _|refine ah.ag ?_ (by assumption)|refine ah.ag ?_ (ah.of_no (by assumption)))))).mono ?_;rintro e w1 ⟨rfl,rfl⟩;go_wp2_with fail;refine(HA.out _ (by(repeat' (first|exact ah.refl _ _|assumption|apply ah.alloc|apply ah.drewN|apply ah.drew|refine ah.ai ?_ (by first|omega|(simp;omega)|simp) _ _|refine ah.ay ?_ (by first|exact Or.inl rfl|exact Or.inr rfl|rfl) _ _|refine ah.ag ?_ (by assumption)|refine ah.ag ?_ (ah.of_no (by assumption)))))).mono ?_;rintro e w2 ⟨rfl,aH⟩;go_wp2_with fail;have kG:=sj.ag aH;have ba:=((ax.new w 118 #[.int .i64 0,.int .i64 0]).alloc (.cells #[.int .i64 0,.int .i64 (-1)] 118)).ext aH (fun h=>h);have bb:=(ax.aS (b:=w.heap.size+1) (w.alloc (.cells #[.int .i64 0,.int .i64 0] 118)) 118 #[.int .i64 0,.int .i64 (-1)] (by simp)).ext aH (fun h=>h);refine(HR.out _ kG).mono ?_;rintro e w3 ⟨rfl,bC⟩;have ba3:=ba.ext bC (fun h=>h);have bb3:=bb.ext bC (fun h=>h);have a0:=ba3.cell 0;have a1:=ba3.cell 1;have af:=ba3.frozen;have al:=ba3.lt;have b0:=bb3.cell 0;have b1:=bb3.cell 1;simp at a0 a1 b0 b1;have BA:=aa ba3;have qi:=aa (kG.ag bC);clear ba bb ba3 bb3 aH bC sj kG;go_wp2_with fail;exact nV w.heap.size _ ((BA.out.aQ 0 (.int .i64 0)).aQ 1 (.int .i64 (-1))) rfl rfl rfl rfl ⟨rfl,(qi.out.ai (Nat.le_refl _) _ _).ai (Nat.le_refl _) _ _⟩
theorem J7 (s:bH) (hs:s.Ok) (w:World) (v:V) (h:aD w s v) (hg:v.Good) (gx i:Nat) (hx:ax w gx 70 (av s i)) (hi:i<4) (h0:v.r i≠0) (n:Nd) (hn:v.node (v.r i)=some n)
  (bL:n.leaf=true) (jQ:n.cells ≠ []) (hc:∀c∈n.cells,c.over=0) :
  Calls Tryz.prog 58 #[.pointer (some ⟨gx,0,none⟩)] w fun e w'=>e=.returned (.tuple #[.agg #[.int .i64 1,.int .i64 0],.int .i64 0])/\ah No w w':=by
 have HN:=aa (fun w' (e:ah No w w')=>mJ ⟨s.t,0,none⟩ (.int .i64 (i:Int)) gx w' (hx.ext e (fun h=>h)));have HA:=aa (fun w' (e:ah No w w')=>qc s hs w' v (h.no hs e) gx i (hx.ext e (fun h=>h)));have HR:=aa (fun w' (e:ah No w w')=>mG s hs w' v (h.no hs e) gx i (hx.ext e (fun h=>h)) hi);have o8:=aa (fun w' (e:ah No w w') (VD:ax w' (w.heap.size+1) 118 #[.int .i64 0,.int .i64 (-1)])=>Oe s hs w w' v h hg gx i hx e (w.heap.size+1) (v.r i) (Nat.le_succ _) VD n hn bL jQ hc);have h0':((v.r i:Int)==0)=false:=by simpa using (by omega:¬(v.r i:Int)=0)
 obtain⟨rt,hrt⟩:∃rt,rt=v.r i:=⟨_,rfl⟩;rw[<-hrt]at HR o8 h0';clear h hg hx h0 hn bL jQ hc hrt;go_enter Tryz.func58,Tryz.ntmps58;go_wp2_with fail;have sj:ah No w ((w.alloc (.cells #[.int .i64 0,.int .i64 0] 118)).alloc (.cells #[.int .i64 0,.int .i64 (-1)] 118)):=((ah.refl No w).alloc _).alloc _;refine(HN.out _ (by(repeat' (first|exact ah.refl _ _|assumption|apply ah.alloc|apply ah.drewN|apply ah.drew|refine ah.ai ?_ (by first|omega|(simp;omega)|simp) _ _|refine ah.ay ?_ (by first|exact Or.inl rfl|exact Or.inr rfl|rfl) _ _|refine ah.ag ?_ (by assumption)|refine ah.ag ?_ (ah.of_no (by assumption)))))).mono ?_;rintro e w1 ⟨rfl,rfl⟩;go_wp2_with fail;refine(HA.out _ (by(repeat' (first|exact ah.refl _ _|assumption|apply ah.alloc|apply ah.drewN|apply ah.drew|refine ah.ai ?_ (by first|omega|(simp;omega)|simp) _ _|refine ah.ay ?_ (by first|exact Or.inl rfl|exact Or.inr rfl|rfl) _ _|refine ah.ag ?_ (by assumption)|refine ah.ag ?_ (ah.of_no (by assumption)))))).mono ?_;rintro e w2 ⟨rfl,aH⟩;have kG:=sj.ag aH;have ba:=((ax.new w 118 #[.int .i64 0,.int .i64 0]).alloc (.cells #[.int .i64 0,.int .i64 (-1)] 118)).ext aH (fun h=>h);have bb:=(ax.aS (b:=w.heap.size+1) (w.alloc (.cells #[.int .i64 0,.int .i64 0] 118)) 118 #[.int .i64 0,.int .i64 (-1)] (by simp)).ext aH (fun h=>h);have fQ:=aa kG;have BA:=aa ba;have BB:=aa bb;clear sj aH kG ba bb;go_wp2_with fail;refine(HR.out _ fQ.out).mono ?_;rintro e w3 ⟨rfl,bC⟩;go_wp2_with fail;refine(HR.out _ (fQ.out.ag bC)).mono ?_;rintro e w4 ⟨rfl,ib⟩;have Yp:=(fQ.out.ag bC).ag ib;have bb4:=(BB.out.ext bC (fun h=>h)).ext ib (fun h=>h);have ba4:=(BA.out.ext bC (fun h=>h)).ext ib (fun h=>h);have HL:=aa (o8.out w4 Yp bb4);have Q0:=aa Yp;have BA4:=aa ba4;clear bC ib Yp bb4 ba4;go_wp2_with fail;refine(HL.out).mono ?_;rintro e w5 ⟨rfl,Xm,bU⟩
 have GY:=BA4.out.ext bU (fun h=>by
  have h':w.heap.size=w.heap.size+1:=h
  omega)
 have xN:=Q0.out.kR bU (Nat.le_succ _);have a0:=GY.cell 0;have a1:=GY.cell 1;have af:=GY.frozen;have al:=GY.lt;have b0:=Xm.cell 0;have b1:=Xm.cell 1;simp at a0 a1 b0 b1;have BA5:=aa GY;have Bo:=aa xN;clear Xm bU GY xN;go_wp2_with fail;exact nV w.heap.size _ ((BA5.out.aQ 0 (.int .i64 1)).aQ 1 (.int .i64 0)) rfl rfl rfl rfl ⟨rfl,(Bo.out.ai (Nat.le_refl _) _ _).ai (Nat.le_refl _) _ _⟩
theorem KE (x:Value) (w:World) (p:Int) (d:Int) (hS:Calls Tryz.prog 58 #[x] w fun e w'=>e=.returned (.tuple #[.agg #[.int .i64 p,.int .i64 d],.int .i64 0])/\ah No w w') :
  Calls Tryz.prog 24 #[x] w fun e w'=>e=.returned (.tuple #[.int .i64 p,.int .i64 0])/\ah No w w':=by
 have HS:=aa hS;clear hS;go_enter Tryz.func24,Tryz.ntmps24;go_wp2_with fail;refine(HS.out).mono ?_;rintro e w1 ⟨rfl,aT⟩;go_wp2_with fail;go_ret2;exact⟨rfl,by(repeat' (first|exact ah.refl _ _|assumption|apply ah.alloc|apply ah.drewN|apply ah.drew|refine ah.ai ?_ (by first|omega|(simp;omega)|simp) _ _|refine ah.ay ?_ (by first|exact Or.inl rfl|exact Or.inr rfl|rfl) _ _|refine ah.ag ?_ (by assumption)|refine ah.ag ?_ (ah.of_no (by assumption))))⟩
theorem KP {cap:Nat}{v:V}{key val:Bs}(hl:3+key.length+val.length<=160):v.aI cap key val=(⟨key,val,0,0⟩,0,v):=by unfold V.aI;rw[if_pos hl]
theorem MO (s:bH) (hs:s.Ok) (w:World) (v:V) (h:aD w s v) (hg:v.Good) (gx i:Nat) (hx:ax w gx 70 (av s i)) (hi:i<4) (key val:Bs) (hm:iE key val=0) (hl:3+key.length+val.length<=160)
  (ws:List dN) (hw:v.way i key=some ws) (hh:hit ws key=none) (hr:∀st,ws.getLast?=some st->(v.wr st.id (st.n.put ⟨key,val,0,0⟩)).1≠3) :
  Calls Tryz.prog 25 #[.pointer (some ⟨gx,0,none⟩),.string (au key),.string (au val)] w (Ez s w (v.Put s.cap i key val)):=by
 have hM:=KQ s hs v key val hl;have he:=KP (cap:=s.cap) (v:=v) hl;refine Xu s hs w v h hg gx i hx key val hm fun w' e=>?_
 have h':=h.no hs e;have JD:=hx.ext e (fun h=>h)
 match ws,hw,hh,hr with
 | [],hw,_,_=>exact CF s hs w' v h' hg gx i JD hi key val hw hM (by rw[he])
 | a::l,hw,hh,hr =>
  obtain⟨st,dw⟩:∃st,(a::l).getLast?=some st:=⟨_,List.getLast?_eq_some_getLast (by simp)⟩;have hG:zL s i v (a::l) (st.n.put ⟨key,val,0,0⟩):=Wz s hs i v (a::l) _ st dw (hr st dw);have hp:v.fP s.cap i key val=V.grow s.cap i (a::l).reverse (st.n.put ⟨key,val,0,0⟩) v:=by
   unfold V.fP;rw[hw,he];simp only[ne_eq,not_true,if_false,dw,hh]
  rw[hp];have:=Kr s hs w' v h' hg gx i JD hi key val (a::l) hw st dw hM (by rw[he]) hh (by rw[he];exact hG);rw[he]at this;exact this
theorem KZ {v:V}{c:aA}(h:c.over=0):v.bG c=(0,v):=by unfold V.bG;rw[h];exact Gw _ _
theorem M9 (s:bH) (hs:s.Ok) (w:World) (v:V) (h:aD w s v) (hg:v.Good) (gx i:Nat) (hx:ax w gx 70 (av s i)) (hi:i<4) (key:Bs) (hm:iE key []=0)
  (st:dN) (hw:v.way i key=some [st]) (c:aA) (hh:hit [st] key=some c) (hc:c.over=0) (bL:st.n.leaf=true) (wK:st.n.keys = []) :
  Calls Tryz.prog 27 #[.pointer (some ⟨gx,0,none⟩),.string (au key)] w (FI s w (v.vz s.cap i key)):=by
 refine X9 s hs w v h gx i hx key hm fun w' e=>?_
 have h':=h.no hs e;have JD:=hx.ext e (fun h=>h);have Yc:=KZ (v:=v) hc;have:=Mo s hs w' v h' hg gx i JD hi key [st] hw st rfl c hh (by rw[Yc];exact fun _=>NI s hs i hi v st (st.n.cut st.i) bL wK);have hp:v.iD s.cap i key=if (v.bG c).1≠0 then (false,v.bG c)else (true,V.shrink s.cap i [st].reverse (st.n.cut st.i) (v.bG c).2):=by
  unfold V.iD;rw[hw];simp only[hh];rfl
 rw[hp];exact this
theorem bF.Ho {r:bF}{n:Nat}(h:(r.take n).2.bad=false):r.bad=false/\r.s.length=(r.take n).2.s.length+n:=by
 unfold bF.take at h ⊢;split
 ·rename_i h1;rw[if_pos h1]at h;cases h
 ·rename_i h1;rw[if_neg h1]at h
  refine⟨h,?_⟩;show r.s.length=(r.s.drop n).length+n;rw[List.length_drop];omega
theorem bF.qV {r:bF}(h:r.byte.2.bad=false):r.bad=false/\r.s.length=r.byte.2.s.length+1:=bF.Ho (n:=1) h
theorem bF.BK {r:bF}(h:r.four.2.bad=false):r.bad=false/\r.s.length=r.four.2.s.length+4:=bF.Ho (n:=4) h
theorem bF.Bp {r:bF}(h:r.text.2.bad=false):r.bad=false/\r.s.length=r.text.2.s.length+(1+r.text.1.length):=by
 obtain⟨h1,h2⟩:=bF.Ho (r:=r.byte.2) (n:=r.byte.1) h;obtain⟨h3,h4⟩:=r.qV h1;refine⟨h3,?_⟩;have h5:r.text.1.length=r.byte.1:=bF.take_len _ _;have h6:r.text.2=(r.byte.2.take r.byte.1).2:=rfl;rw[h6];omega
theorem bF.aap {r:bF}(h:r.cell.2.bad=false):r.bad=false/\r.s.length=r.cell.2.s.length+r.cell.1.size:=by
 unfold bF.cell at h ⊢;split
 ·rename_i h1
  rw[if_pos h1]at h;obtain⟨a1,a2⟩:=bF.Bp h;obtain⟨b1,b2⟩:=bF.qV a1;obtain⟨c1,c2⟩:=bF.Bp b1;refine⟨c1,?_⟩;simp only[aA.size,Nat.lt_irrefl,if_false];omega
 ·rename_i h1
  rw[if_neg h1]at h;split
  ·rename_i h2
   rw[if_pos h2]at h;simp only[Bool.or_eq_false_iff,decide_eq_false_iff_not]at h;obtain⟨a1,a2⟩:=bF.BK h.1;obtain⟨b1,b2⟩:=bF.BK a1;obtain⟨c1,c2⟩:=bF.qV b1;obtain⟨d1,d2⟩:=bF.Bp c1;refine⟨d1,?_⟩;have h3:0<r.text.2.byte.2.four.2.four.1:=Nat.pos_of_ne_zero h.2;simp only[aA.size,if_pos h3];omega
  ·rename_i h2
   rw[if_neg h2]at h;cases h
theorem x_:∀(k:Nat) (n:Nd) (r:bF),(bD k n r).2.bad=false->r.bad=false/\(bD k n r).1.leaf=n.leaf /\
  di (bD k n r).1.cells+cK (bD k n r).1.keys+(bD k n r).2.s.length=di n.cells+cK n.keys+r.s.length
 | 0,n,r,h=>⟨h,rfl,rfl⟩
 | k+1,n,r,h=>by
  rw[bD]at h ⊢;split
  ·rename_i h1;rw[if_pos h1]at h;rw[h]at h1;cases h1
  ·rename_i h1
   rw[if_neg h1]at h;obtain⟨i1,i2,i3⟩:=x_ k _ _ h;refine⟨by simpa using h1,i2.trans ?_,i3.trans ?_⟩
   ·unfold Nd.one;split <;> rfl
   ·unfold Nd.one at i1 ⊢
    split
    ·rename_i hl
     rw[if_pos hl]at i1;obtain⟨j1,j2⟩:=bF.aap i1;simp only[di,List.map_append,List.sum_append,List.map_cons,List.map_nil,List.sum_cons,List.sum_nil]at *;omega
    ·rename_i hl
     rw[if_neg hl]at i1;obtain⟨j1,j2⟩:=bF.BK i1;obtain⟨j3,j4⟩:=bF.Bp j1;simp only[cK,List.map_append,List.sum_append,List.map_cons,List.map_nil,List.sum_cons,List.sum_nil]at *;omega
theorem W_ (s:Bs) (n:Nd) (h:GH s=some n):n.size<=500:=by
 unfold GH at h;split at h
 ·cases h
 rename_i h0
 split at h
 ·cases h
 rename_i h1
 split at h
 ·cases h
 rename_i h2
 split at h
 ·cases h
 split at h
 ·injection h with h
  subst h;have Yr:(⟨s,false⟩:bF).loop.2.bad=false:=by simpa using h1
  obtain⟨i1,i2,i3⟩:=x_ _ _ _ Yr;have e3:(bD (⟨s,false⟩:bF).byte.2.byte.1 (⟨s,false⟩:bF).head.1 (⟨s,false⟩:bF).head.2)=(⟨s,false⟩:bF).loop:=rfl;rw[e3]at i2 i3;have h2':(⟨s,false⟩:bF).loop.2.s.length=0:=by omega
  unfold Nd.size;rw[i2];unfold bF.head at i1 i3 ⊢;split
  ·rename_i hb
   rw[if_pos hb]at i1 i3;obtain⟨j1,j2⟩:=bF.qV i1;obtain⟨j3,j4⟩:=bF.qV j1;simp only[di,cK,List.map_nil,List.sum_nil]at i3 ⊢;simp only at j4;simp;omega
  ·rename_i hb
   rw[if_neg hb]at i1 i3;obtain⟨k1,k2⟩:=bF.BK i1;obtain⟨j1,j2⟩:=bF.qV k1;obtain⟨j3,j4⟩:=bF.qV j1;simp only[di,cK,List.map_nil,List.sum_nil]at i3 ⊢;simp only at j4;simp;omega
 ·cases h
structure Tr (K:Nat->Prop) (v v':V) (A B:List Nat):Prop where
 us:∀p,v'.err p=0↔(v.err p=0/\p∉A)\/p∈B
 fr:∀p,v.err p=0->p∉A->v'.pg p=v.pg p/\p∉B
 r:∀j,¬K j->v'.r j=v.r j
section
variable {K K':Nat->Prop}{v v' v1:V}{A A' B B' C:List Nat}
theorem Tr.refl (K:Nat->Prop) (v:V) (A:List Nat) (h:∀p∈A,v.err p=0):Tr K v v A A :=
 ⟨fun p=>by by_cases hp:p∈A;simp[hp,h p hp];simp[hp],fun p _ hp=>⟨rfl,hp⟩,fun _ _=>rfl⟩
theorem Tr.congr (h:Tr K v v' A B) (hA:∀p,p∈A↔p∈A') (hB:∀p,p∈B↔p∈B'):Tr K v v' A' B' :=
 ⟨fun p=>by rw[h.us p,hA p,hB p],fun p hp hq=>by have:=h.fr p hp (by rw[hA p];exact hq);rw[hB p]at this;exact this,h.r⟩
theorem Tr.trans (h:Tr K v v1 A B) (h':Tr K v1 v' B C):Tr K v v' A C:=by
 refine⟨fun p=>?_,fun p hp hq=>?_,fun j hj=>(h'.r j hj).trans (h.r j hj)⟩
 ·rw[h'.us p,h.us p]
  constructor
  ·rintro(⟨h1|h1,h2⟩|h1)
   ·exact .inl h1
   ·exact absurd h1 h2
   ·exact .inr h1
  ·rintro(⟨h1,h2⟩|h1)
   ·exact .inl ⟨.inl ⟨h1,h2⟩,(h.fr p h1 h2).2⟩
   ·exact .inr h1
 ·have h1:=h.fr p hp hq
  have h2:=h'.fr p ((h.us p).2 (.inl ⟨hp,hq⟩)) h1.2;exact⟨h2.1.trans h1.1,h2.2⟩
theorem Tr.more (h:Tr K v v' A B) (hC:∀p∈C,v.err p=0/\p∉A):Tr K v v' (A++C) (B++C):=by
 refine⟨fun p=>?_,fun p hp hq=>?_,h.r⟩
 ·rw[h.us p]
  by_cases hc:p∈C
  ·have:=hC p hc;simp[hc,this.1,this.2]
  ·simp[hc]
 ·simp only[List.mem_append,not_or]at hq ⊢
  have:=h.fr p hp hq.1;exact⟨this.1,this.2,hq.2⟩
theorem Tr.had (h:Tr K v v' A B):∀p∈B,v'.err p=0:=fun p hp=>(h.us p).2 (.inr hp)
theorem Tr.kept (h:Tr K v v' A B) {p:Nat}(hp:v.err p=0) (hq:p∉A):v'.err p=0/\v'.pg p=v.pg p :=
 ⟨(h.us p).2 (.inl ⟨hp,hq⟩),(h.fr p hp hq).1⟩
end
theorem V.dH (v:V) (p:Nat):v.err p=0↔1<=p/\p<v.high/\(v.pg p).kind≠255:=by
 constructor
 ·exact V.uh
 ·rintro⟨h1,h2,h3⟩
  unfold V.err;rw[if_neg (by omega),if_neg h3]
theorem V.xg (v:V) (id:Nat) (q:bB) (hk:q.kind≠255) (he:v.err id=0) (p:Nat):(v.put id q).err p=0↔v.err p=0:=by
 rw[V.dH,V.dH];have:=(V.dH v id).1 he
 by_cases hp:p=id
 ·subst hp;simp[V.put,hk,this]
 ·simp[V.put,hp]
theorem Tr.put {v:V}{id:Nat}{q:bB}(hk:q.kind≠255) (he:v.err id=0) {A:List Nat}(hA:∀p∈A,v.err p=0) (hid:id∈A) (K:Nat->Prop):Tr K v (v.put id q) A A:=by
 refine⟨fun p=>?_,fun p hp hq=>⟨?_,hq⟩,fun _ _=>rfl⟩
 ·rw[V.xg v id q hk he p]
  by_cases hp:p∈A
  ·simp[hp,hA p hp]
  ·simp[hp]
 ·have:p≠id:=fun e=>hq (e▸hid)
  simp[V.put,this]
theorem V.UD {v:V}{id:Nat}(he:v.err id=0) (k:Nat) (b:List UInt8):v.set id k b=(0,v.put id ⟨k,b⟩):=by
 unfold V.set;rw[if_pos he]
def V.room (cap:Nat) (v:V):Nat:=(cap-v.high)+v.cnt
def V.eB (cap:Nat) (v:V):Prop:=v.Good/\v.high<=cap/\cap<=65536
theorem V.eB.alloc {cap:Nat}{v:V}(h:v.eB cap):(v.alloc cap).2.2.eB cap:=by
 obtain⟨h1,h2,h3⟩:=h;obtain⟨g1,g2⟩:=h1.alloc h2 h3;exact⟨g1,g2,h3⟩
theorem V.Ro (v:V) (id k:Nat) (b:List UInt8):(v.set id k b).2.high=v.high:=by unfold V.set;split <;> rfl
theorem V.Gy (v:V) (id:Nat):(v.drop id).2.high=v.high:=by unfold V.drop;split <;> rfl
theorem V.eB.set {cap:Nat}{v:V}(h:v.eB cap) (id k:Nat) (b:List UInt8) (hk:k≠255) (hb:b.length<=500):(v.set id k b).2.eB cap :=
 ⟨h.1.set id k b hk hb,by rw[V.Ro];exact h.2.1,h.2.2⟩
theorem V.eB.drop {cap:Nat}{v:V}(h:v.eB cap) (id:Nat):(v.drop id).2.eB cap :=
 ⟨h.1.drop id,by rw[V.Gy];exact h.2.1,h.2.2⟩
theorem V.eB.eU {cap:Nat}{v:V}(h:v.eB cap) (i n:Nat):(v.eU i n).eB cap:=⟨h.1.eU i n,h.2⟩
theorem V.UE (v:V) (i n p:Nat):(v.eU i n).err p=v.err p:=rfl
theorem V.qX {cap:Nat}{v:V}(h:v.eB cap):((v.alloc cap).2.1=7/\v.room cap=0/\(v.alloc cap).2.2=v) \/
  ((
   v.alloc cap).2.1=0/\v.err (v.alloc cap).1≠0/\(v.alloc cap).2.2.room cap+1=v.room cap/\(v.alloc cap).2.2.r=v.r/\(v.alloc cap).1≠0/\(v.alloc cap).1<65536 /\
   (∀p,(v.alloc cap).2.2.err p=0↔v.err p=0\/p=(v.alloc cap).1)/\(∀p,p≠(v.alloc cap).1->(v.alloc cap).2.2.pg p=v.pg p)/\((v.alloc cap).2.2.pg (v.alloc cap).1).kind=1):=by
 obtain⟨⟨l,hl⟩,h2,h3⟩:=h;have hh:=hl.h1;have Ug:=hl.cnt
 by_cases h0:v.free=0
 ·have Ni:l = []:=by
   have:=hl.hd
   match l,hl,this with
   | [],_,_=>rfl
   | a::l,hl,e=>have:=(hl.mem a).2 (by simp);simp at e;omega
  have jQ:v.cnt=0:=by rw[Ug,Ni];rfl
  by_cases h1:v.high=cap
  ·left
   have e:v.alloc cap=(0,7,v):=by unfold V.alloc;rw[if_pos h0,if_pos h1]
   rw[e];exact⟨rfl,by unfold V.room;omega,rfl⟩
  ·right
   have e:v.alloc cap=(v.high,0,v.gU):=by unfold V.alloc;rw[if_pos h0,if_neg h1]
   rw[e];refine⟨rfl,?_,?_,rfl,by show v.high≠0;omega,by show v.high<65536;omega,fun p=>?_,fun p hp=>?_,?_⟩
   ·rw[Ne,V.dH];omega
   ·show cap-(v.high+1)+v.cnt+1=cap-v.high+v.cnt;omega
   ·rw[V.dH,V.dH]
    show 1<=p/\p<v.high+1/\((v.gU).pg p).kind≠255↔_\/p=v.high
    by_cases hp:p=v.high
    ·subst hp;simp[V.gU,V.put,hh]
    ·simp[V.gU,V.put,hp];omega
   ·have hp':p≠v.high:=hp
    simp[V.gU,V.put,hp']
   ·simp[V.gU,V.put]
 ·right
  obtain⟨l',rfl⟩:=hl.cons h0;have hm:=(hl.mem v.free).2 (by simp);have e:v.alloc cap=(v.free,0,v.eG):=by unfold V.alloc;rw[if_neg h0]
  rw[e];refine⟨rfl,?_,?_,rfl,h0,by show v.free<65536;omega,fun p=>?_,fun p hp=>?_,?_⟩
  ·rw[Ne,V.dH];rintro⟨_,_,h⟩;exact h hm.2.2
  ·show cap-v.high+(v.cnt-1)+1=cap-v.high+v.cnt
   have:v.cnt=l'.length+1:=by rw[Ug];rfl
   omega
  ·rw[V.dH,V.dH]
   show 1<=p/\p<v.high/\((v.eG).pg p).kind≠255↔_\/p=v.free
   by_cases hp:p=v.free
   ·subst hp;simp[V.eG,V.put,hm]
   ·simp[V.eG,V.put,hp]
  ·have hp':p≠v.free:=hp
   simp[V.eG,V.put,hp']
  ·simp[V.eG,V.put]
theorem Tr.alloc {cap:Nat}{v:V}(h:v.eB cap) (h0:(v.alloc cap).2.1=0) (A:List Nat) (hA:∀p∈A,v.err p=0) (K:Nat->Prop):Tr K v (v.alloc cap).2.2 A ((v.alloc cap).1::A):=by
 rcases V.qX h with ⟨h1,_⟩|⟨_,hn,_,hr,_,_,hu,hf,_⟩
 ·omega
 ·refine⟨fun p=>?_,fun p hp hq=>?_,fun _ _=>by rw[hr]⟩
  ·rw[hu p,List.mem_cons]
   by_cases hp:p∈A
   ·simp[hp,hA p hp]
   ·simp[hp]
  ·have bQ:p≠(v.alloc cap).1:=fun e=>hn (e▸hp)
   exact⟨hf p bQ,by simp[bQ,hq]⟩
theorem V.zk (v:V) (id:Nat):(v.drop id).1=v.err id:=by unfold V.drop;split <;> simp_all
theorem V.pY {v:V}{id:Nat}(he:v.err id=0) (p:Nat):(v.drop id).2.err p=0↔v.err p=0/\p≠id:=by
 unfold V.drop;rw[if_pos he,V.dH,V.dH]
 by_cases hp:p=id
 ·subst hp;simp[V.jA,V.put]
 ·simp[V.jA,V.put,hp]
theorem V.xW {v:V}{id:Nat}(p:Nat) (hp:p≠id):(v.drop id).2.pg p=v.pg p:=by
 unfold V.drop;split
 ·simp[V.jA,V.put,hp]
 ·rfl
theorem V.O7 (v:V) (id:Nat):(v.drop id).2.r=v.r:=by unfold V.drop;split <;> rfl
theorem V.Gx {cap:Nat}{v:V}{id:Nat}(he:v.err id=0):(v.drop id).2.room cap=v.room cap+1:=by
 unfold V.drop V.room;rw[if_pos he];simp[V.jA,V.put];omega
theorem Tr.drop {v:V}{id:Nat}(he:v.err id=0) {A B:List Nat}(hA:∀p∈A,v.err p=0) (hid:id∈A) (hB:∀p,p∈B↔p∈A/\p≠id) (K:Nat->Prop):Tr K v (v.drop id).2 A B:=by
 refine⟨fun p=>?_,fun p hp hq=>⟨?_,?_⟩,fun _ _=>by rw[V.O7]⟩
 ·rw[V.pY he p,hB p]
  by_cases hp:p∈A
  ·simp[hp,hA p hp]
  ·have:p≠id:=fun e=>hp (e▸hid)
   simp[hp,this]
 ·exact V.xW p (fun e=>hq (e▸hid))
 ·rw[hB p];exact fun h=>hq h.1
theorem V.Hf {v:V}{id:Nat}{n:Nd}(h:n.ok=true) (hs:n.size<=500) (he:v.err id=0):v.wr id n=(0,v.put id ⟨2,n.enc⟩):=by
 have e:n.out=(n.enc,0):=by unfold Nd.out;rw[if_neg (by simp[h]),if_neg (by omega)]
 unfold V.wr;rw[e];exact V.UD he 2 _
theorem V.PV {v:V}{id:Nat}{n:Nd}(h:n.ok=true) (hs:500<n.size):v.wr id n=(3,v):=by
 have e:n.out=([],3):=by unfold Nd.out;rw[if_neg (by simp[h]),if_pos hs]
 unfold V.wr;rw[e];simp
theorem V.KL {v:V}{id:Nat}{n:Nd}(h:n.ok=true) (hs:n.size<=500) (he:v.err id=0):(v.put id ⟨2,n.enc⟩).node id=some n:=by
 unfold V.node;rw[if_pos ((V.xg v id ⟨2,n.enc⟩ (by simp) he id).2 he)];simp only[V.put,if_true];exact aak n h (by rw[Nd.BM h];exact hs)
theorem V.eB.wr {cap:Nat}{v:V}(h:v.eB cap) (id:Nat) (n:Nd):(v.wr id n).2.eB cap:=by
 unfold V.wr;split
 ·exact h.set _ _ _ (by decide) n.Ib
 ·exact h
theorem V.eB.put {cap:Nat}{v:V}(h:v.eB cap) {id:Nat}{n:Nd}(hn:n.ok=true) (hs:n.size<=500) (he:v.err id=0):(v.put id ⟨2,n.enc⟩).eB cap:=by
 have:=h.wr id n;rw[V.Hf hn hs he]at this;exact this
theorem V.mU {v v':V}{id:Nat}(h1:v'.err id=0) (h2:v'.pg id=v.pg id) {n:Nd}(h:v.node id=some n):v'.node id=some n:=by
 unfold V.node at h ⊢;split at h
 ·rw[if_pos h1,h2];exact h
 ·cases h
theorem V.fw {v:V}{id:Nat}{n:Nd}(h:v.node id=some n):v.err id=0:=by
 unfold V.node at h;split at h;assumption;cases h
theorem V.RU {v v':V}{id:Nat}(h1:v'.err id=0) (h2:v'.pg id=v.pg id) {n:Nat×Bs}(h:v.link id=some n):v'.link id=some n:=by
 unfold V.link at h ⊢;split at h
 ·rw[if_pos h1,h2];exact h
 ·cases h
theorem V.Bu {v:V}{id:Nat}{n:Nat×Bs}(h:v.link id=some n):v.err id=0:=by
 unfold V.link at h;split at h;assumption;cases h
theorem V.WE {cap:Nat}{v:V}{n:Nd}(h:v.eB cap) (hn:n.ok=true) (hs:n.size<=500) (h0:(v.alloc cap).2.1=0) :
  v.fresh cap n=((v.alloc cap).1,0,(v.alloc cap).2.2.put (v.alloc cap).1 ⟨2,n.enc⟩):=by
 have he:(v.alloc cap).2.2.err (v.alloc cap).1=0:=by
  rcases V.qX h with ⟨h1,_⟩|⟨_,_,_,_,_,_,hu,_⟩
  ·omega
  ·exact(hu _).2 (.inr rfl)
 unfold V.fresh;rw[if_pos h0,V.Hf hn hs he]
theorem V.WC {cap:Nat}{v:V}{n:Nd}(h0:(v.alloc cap).2.1≠0):v.fresh cap n=(0,(v.alloc cap).2.1,(v.alloc cap).2.2):=by
 unfold V.fresh;rw[if_neg h0]
def gz (v:V):List Nat->Nat->Bs->Prop
 | [],id,b=>id=0/\b = []
 | p::ps,id,b=>id=p/\p≠0/\∃nx s b',v.link p=some (nx,s)/\b=s++b'/\gz v ps nx b'
theorem V.U7 {v:V}{id:Nat}{n:Nat}{s:Bs}(h:v.link id=some (n,s)):1<=s.length/\1<=id:=by
 have hu:=(V.dH v id).1 (V.Bu h);unfold V.link at h;split at h
 ·split at h
  ·rename_i hk
   injection h with h;injection h with h1 h2;rw[<-h2,List.length_drop];omega
  ·cases h
 ·cases h
theorem gz.us {v:V}:∀{ps:List Nat}{id:Nat}{b:Bs},gz v ps id b->∀p∈ps,v.err p=0/\(v.pg p).kind=3
 | [],_,_,_,p,hp=>by simp at hp
 | q::ps,id,b,h,p,hp=>by
  obtain⟨rfl,_,nx,s,b',hl,rfl,hc⟩:=h;rcases List.mem_cons.1 hp with rfl|hp
  ·refine⟨V.Bu hl,?_⟩
   unfold V.link at hl;split at hl
   ·split at hl
    ·rename_i hk;exact hk.1
    ·cases hl
   ·cases hl
  ·exact hc.us p hp
theorem gz.same {v v':V}:∀{ps:List Nat}{id:Nat}{b:Bs},gz v ps id b->(∀p∈ps,v.err p=0->v'.err p=0/\v'.pg p=v.pg p)->gz v' ps id b
 | [],_,_,h,_=>h
 | q::ps,id,b,h,hs=>by
  obtain⟨rfl,h0,nx,s,b',hl,rfl,hc⟩:=h;have:=hs id (by simp) (V.Bu hl);exact⟨rfl,h0,nx,s,b',V.RU this.1 this.2 hl,rfl,hc.same (fun p hp=>hs p (by simp[hp]))⟩
theorem gz.det {v:V}:∀{ps ps':List Nat}{id:Nat}{b b':Bs},gz v ps id b->gz v ps' id b'->ps=ps'/\b=b'
 | [],[],_,_,_,h,h'=>⟨rfl,h.2.trans h'.2.symm⟩
 | [],_::_,_,_,_,h,h'=>by obtain⟨rfl,h0,_⟩:=h';exact absurd h.1 h0
 | _::_,[],_,_,_,h,h'=>by obtain⟨rfl,h0,_⟩:=h;exact absurd h'.1 h0
 | p::ps,q::ps',id,b,b',h,h'=>by
  obtain⟨rfl,h0,nx,s,c,hl,rfl,hc⟩:=h;obtain⟨rfl,_,nx',s',c',LG,rfl,OY⟩:=h';rw[hl]at LG;injection LG with e;injection e with e1 e2;subst e1;subst e2;obtain⟨rfl,rfl⟩:=hc.det OY;exact⟨rfl,rfl⟩
theorem gz.tail {v:V}:∀{ps:List Nat}{qs:List Nat}{id p:Nat}{b:Bs},gz v (qs++p::ps) id b->∃b',gz v (p::ps) p b'
 | ps,[],id,p,b,h=>by obtain⟨rfl,h⟩:=h;exact⟨b,rfl,h⟩
 | ps,q::qs,id,p,b,h=>by
  obtain⟨rfl,h0,nx,s,b',hl,rfl,hc⟩:=h;exact hc.tail
theorem gz.nodup {v:V}:∀{ps:List Nat}{id:Nat}{b:Bs},gz v ps id b->ps.Nodup
 | [],_,_,_=>List.nodup_nil
 | p::ps,id,b,h=>by
  have h':=h;obtain⟨rfl,h0,nx,s,b',hl,rfl,hc⟩:=h';refine List.nodup_cons.2 ⟨fun hm=>?_,hc.nodup⟩;obtain⟨xs,ys,e⟩:=List.append_of_mem hm;rw[e]at h hc;obtain⟨c,h2⟩:=hc.tail;have:=(h.det h2).1;have:=congrArg List.length this;simp at this;omega
theorem gz.len {v:V}:∀{ps:List Nat}{id:Nat}{b:Bs},gz v ps id b->ps.length<=b.length
 | [],_,_,_=>by simp
 | p::ps,id,b,h=>by
  obtain⟨rfl,h0,nx,s,b',hl,rfl,hc⟩:=h;have:=hc.len;have:=(V.U7 hl).1;rw[List.length_append,List.length_cons];omega
theorem gz.val {v:V}(len:Nat):∀{ps:List Nat}{id:Nat}{b:Bs}(k:Nat) (b0:Bs),gz v ps id b->b0.length+b.length<=len->v.jV len (ps.length+k) id b0=some (b0++b)
 | [],id,b,k,b0,h,hl=>by
  obtain⟨rfl,rfl⟩:=h
  match k with
  | 0=>simp[V.jV]
  | k+1=>simp[V.jV]
 | p::ps,id,b,k,b0,h,hl=>by
  obtain⟨rfl,h0,nx,s,b',hk,rfl,hc⟩:=h;rw[List.length_append]at hl;rw[show(id::ps).length+k=(ps.length+k)+1 from by simp;omega];rw[V.jV,if_neg (by omega),hk];simp only;rw[hc.val len k (b0++s) (by rw[List.length_append];omega),List.append_assoc]
def jF (g:Bool) (v:V) (c:aA) (P:List Nat) (b:Bs):Prop :=
 (c.over=0/\P = []/\b=c.val)\/(c.over≠0/\gz v P c.over b/\b.length=c.len/\(g=true->P.length=(c.len+495) / 496/\1<=c.len))
theorem jF.same {g:Bool}{v v':V}{c:aA}{P:List Nat}{b:Bs}(h:jF g v c P b) (hs:∀p∈P,v.err p=0->v'.err p=0/\v'.pg p=v.pg p):jF g v' c P b:=by
 rcases h with h|⟨h1,h2,h3⟩
 ·exact .inl h
 ·exact .inr ⟨h1,h2.same hs,h3⟩
theorem jF.us {g:Bool}{v:V}{c:aA}{P:List Nat}{b:Bs}(h:jF g v c P b):∀p∈P,v.err p=0/\(v.pg p).kind=3:=by
 rcases h with ⟨_,rfl,_⟩|⟨_,h2,_⟩
 ·simp
 ·exact h2.us
theorem jF.val {g:Bool}{v:V}{c:aA}{P:List Nat}{b:Bs}(h:jF g v c P b):v.value c=some b:=by
 rcases h with ⟨h1,rfl,rfl⟩|⟨h1,h2,h3,_⟩
 ·unfold V.value;rw[if_pos h1]
 ·unfold V.value
  rw[if_neg h1];have hl:=h2.len;have:=h2.val c.len (c.len+2-P.length) [] (by simp;omega);rw[show P.length+(c.len+2-P.length)=c.len+2 from by omega,List.nil_append]at this;rw[this];simp[h3]
theorem UW (l:List Nat) (n:Nat) (h:l.Nodup) (hb:∀a∈l,1<=a/\a<n) (hn:1<=n):l.length<n:=uJ n l h hb hn
theorem gz.drop (cap:Nat):∀{ps:List Nat}{id:Nat}{b:Bs}(k:Nat) (v:V) (A B:List Nat) (K:Nat->Prop),v.eB cap->gz v ps id b->(∀p∈A,v.err p=0)->(∀p∈ps,p∈A)->(∀p,p∈B↔p∈A/\p∉ps) ->
  ∃v',V.f_ (ps.length+k) id v=(0,v')/\Tr K v v' A B/\v'.eB cap/\v'.room cap=v.room cap+ps.length/\v'.r=v.r/\v'.high=v.high
 | [],id,b,k,v,A,B,K,hg,h,hA,hP,hB=>by
  obtain⟨rfl,rfl⟩:=h;refine⟨v,?_,(Tr.refl K v A hA).congr (fun _=>Iff.rfl) (fun p=>by rw[hB p];simp),hg,by simp,rfl,rfl⟩;cases k <;> simp[V.f_]
 | p::ps,id,b,k,v,A,B,K,hg,h,hA,hP,hB=>by
  have gN:=h.nodup;obtain⟨rfl,h0,nx,s,b',hl,rfl,hc⟩:=h;have hu:=V.Bu hl;have E5:=List.nodup_cons.1 gN;have hid:id∈A:=hP id (by simp);have mY:∀p,p∈A.filter (fun p=>p≠id)↔p∈A/\p≠id:=fun p=>by simp
  have hT:=Tr.drop hu hA hid mY K
  have OY:gz (v.drop id).2 ps nx b':=hc.same (fun p hp he=>by
   have bQ:p≠id:=fun e=>E5.1 (e▸hp)
   exact⟨(V.pY hu p).2 ⟨he,bQ⟩,V.xW p bQ⟩)
  obtain⟨v',h1,h2,h3,h4,h5,h6⟩:=gz.drop cap k (v.drop id).2 _ B K (hg.drop id) OY hT.had (fun p hp=>by
   rw[mY];exact⟨hP p (by simp[hp]),fun e=>E5.1 (e▸hp)⟩) (fun p=>by rw[hB p,mY];simp[and_assoc])
  refine⟨v',?_,hT.trans h2,h3,by rw[h4,V.Gx hu];simp;omega,by rw[h5,V.O7],by rw[h6,V.Gy]⟩;rw[show(id::ps).length+k=(ps.length+k)+1 from by simp;omega,V.f_,if_neg h0,hl];simp only;rw[if_pos (by rw[V.zk];exact hu),h1]
theorem jF.bG {g:Bool}{cap:Nat}{v:V}{c:aA}{P:List Nat}{b:Bs}(h:jF g v c P b) (hg:v.eB cap) (A B:List Nat) (K:Nat->Prop) (hA:∀p∈A,v.err p=0) (hP:∀p∈P,p∈A) (hB:∀p,p∈B↔p∈A/\p∉P) :
  (v.bG c).1=0/\Tr K v (v.bG c).2 A B/\(v.bG c).2.eB cap/\(v.bG c).2.room cap=v.room cap+P.length/\(v.bG c).2.r=v.r/\(v.bG c).2.high=v.high:=by
 unfold V.bG;rcases h with ⟨h1,rfl,_⟩|⟨h1,h2,_⟩
 ·have e:V.f_ (v.high+1) c.over v=(0,v):=by rw[h1];simp[V.f_]
  rw[e];exact⟨rfl,(Tr.refl K v A hA).congr (fun _=>Iff.rfl) (fun p=>by rw[hB p];simp),hg,rfl,rfl,rfl⟩
 ·have hl:=UW P v.high h2.nodup (fun a ha=>by have:=(V.dH v a).1 (h2.us a ha).1;exact⟨this.1,this.2.1⟩) (by obtain⟨⟨l,hl⟩,_⟩:=hg;exact hl.h1)
  obtain⟨v',e,h3⟩:=h2.drop cap (v.high+1-P.length) v A B K hg hA hP hB;rw[show P.length+(v.high+1-P.length)=v.high+1 from by omega]at e;rw[e];exact⟨rfl,h3⟩
theorem U6 {v:V}{id nx:Nat}{s:Bs}(he:v.err id=0) (hn:nx<4294967296) (hs:1<=s.length):(v.put id ⟨3,n4 nx++s⟩).link id=some (nx,s):=by
 unfold V.link;rw[if_pos ((V.xg v id _ (by simp) he id).2 he)];simp only[V.put,if_true];rw[if_pos ⟨trivial,by rw[List.length_append,bX];omega⟩,o_ nx hn];simp[n4]
theorem D7 (cap:Nat) (val:Bs) (K:Nat->Prop):∀(k next:Nat) (v:V) (ps A:List Nat),v.eB cap->gz v ps next (val.drop (k*496))->(k≠0->(k-1)*496<val.length)->next<65536->(∀p∈A,v.err p=0)->(∀p∈ps,p∈A)->A.Nodup ->
  (bE cap val k next v).2.2.eB cap/\(((bE cap val k next v).2.1=7/\v.room cap<k/\(∃C,Tr K v (bE cap val k next v).2.2 A (C++A))) \/
  ((
   bE cap val k next v).2.1=0/\∃ns,ns.length=k/\gz (bE cap val k next v).2.2 (ns++ps) (bE cap val k next v).1 val/\Tr K v (bE cap val k next v).2.2 A (ns++A)/\(ns++A).Nodup/\(∀p∈ns,v.err p≠0) /\
   (bE cap val k next v).2.2.room cap+k=v.room cap/\(bE cap val k next v).1<65536/\(bE cap val k next v).2.2.r=v.r))
 | 0,next,v,ps,A,hg,hc,_,hn,hA,hP,gN=>by
  rw[bE];exact⟨hg,.inr ⟨rfl,[],rfl,by simpa using hc,Tr.refl K v A hA,by simpa using gN,by simp,rfl,hn,rfl⟩⟩
 | k+1,next,v,ps,A,hg,hc,hk,hn,hA,hP,gN=>by
  have mW:=hk (by omega);rw[Nat.add_sub_cancel]at mW;have lJ:k≠0->(k-1)*496<val.length:=fun _=>Nat.lt_of_le_of_lt (Nat.mul_le_mul_right 496 (Nat.sub_le k 1)) mW
  rcases V.qX hg with ⟨h1,h2,h3⟩|⟨h1,h2,h3,h4,h5,h6,h7,h8,_⟩
  ·have e:bE cap val (k+1) next v=(0,7,v):=by rw[bE,if_neg (by omega),h1,h3]
   rw[e];exact⟨hg,.inl ⟨rfl,by omega,[],Tr.refl K v A hA⟩⟩
  ·have hT:=Tr.alloc hg h1 A hA K
   have hS:=hg.alloc;generalize hid:(v.alloc cap).1=id at *;generalize hv1:(v.alloc cap).2.2=v1 at *;have he:v1.err id=0:=(h7 id).2 (.inr rfl);have es:v1.set id 3 (n4 next++(val.drop (k*496)).take 496)=(0,v1.put id ⟨3,n4 next++(val.drop (k*496)).take 496⟩):=V.UD he 3 _;have oN:(n4 next++(val.drop (k*496)).take 496).length<=500:=by rw[List.length_append,bX,List.length_take];omega
   have hS2:(v1.put id ⟨3,n4 next++(val.drop (k*496)).take 496⟩).eB cap:=by have:=hS.set id 3 _ (by decide) oN;rw[es]at this;exact this
   obtain⟨v2,JE⟩:∃v2,v2=v1.put id ⟨3,n4 next++(val.drop (k*496)).take 496⟩:=⟨_,rfl⟩;have Bd:Tr K v1 v2 (id::A) (id::A):=by rw[JE];exact Tr.put (by simp) he hT.had (by simp) K
   have hT':=hT.trans Bd;have ag3:id∉A:=fun hm=>h2 (hA id hm)
   have Nh:v2.link id=some (next,(val.drop (k*496)).take 496):=by
    rw[JE];exact U6 he (by omega) (by rw[List.length_take,List.length_drop];omega)
   have hch:gz v2 (id::ps) id (val.drop (k*496)):=by
    refine⟨rfl,h5,next,_,val.drop ((k+1)*496),Nh,?_,hc.same (fun p hp Fg=>?_)⟩
    ·rw[show(k+1)*496=k*496+496 from by omega,<-List.drop_drop]
     exact(List.take_append_drop _ _).symm
    ·have bQ:p≠id:=fun e=>h2 (e▸Fg)
     refine⟨hT'.had p (by simp[hP p hp]),?_⟩;have e2:v2.pg p=v1.pg p:=by rw[JE];simp[V.put,bQ]
     rw[e2,h8 p bQ]
   have er:bE cap val (k+1) next v=bE cap val k id v2:=by
    rw[bE,hid,hv1,if_pos h1,es,if_pos rfl,JE]
   rw[<-JE]at hS2;have hrm:v2.room cap+1=v.room cap:=by
    have:v2.room cap=v1.room cap:=by rw[JE];rfl
    omega
   have rX:v2.r=v.r:=by rw[JE];exact h4
   rw[er]
   obtain⟨i1,i2⟩:=D7 cap val K k id v2 (id::ps) (id::A) hS2 hch lJ h6 hT'.had (by
    intro p hp;rcases List.mem_cons.1 hp with rfl|hp
    ·simp
    ·simp[hP p hp]) (List.nodup_cons.2 ⟨ag3,gN⟩)
   refine⟨i1,?_⟩;rcases i2 with ⟨j1,j2,C,j3⟩|⟨j1,ns,j2,j3,j4,j5,j6,j7,j8,j9⟩
   ·exact .inl ⟨j1,by omega,C ++ [id],(hT'.trans j3).congr (fun _=>Iff.rfl) (fun p=>by simp)⟩
   ·refine .inr ⟨j1,ns ++ [id],by simp[j2],by simpa using j3,(hT'.trans j4).congr (fun _=>Iff.rfl) (fun p=>by simp),by simpa using j5,?_,by omega,j8,by rw[j9,rX]⟩
    intro p hp;rcases List.mem_append.1 hp with hp|hp
    ·intro h0
     exact j6 p hp ((hT'.us p).2 (by by_cases hpa:p∈A;exact .inr (by simp[hpa]);exact .inl ⟨h0,hpa⟩))
    ·have:p=id:=by simpa using hp
     rw[this];exact h2
theorem tH {cap:Nat}{v:V}(hg:v.eB cap) (key val:Bs) (hm:iE key val=0) (K:Nat->Prop) (A:List Nat) (hA:∀p∈A,v.err p=0) (gN:A.Nodup) :
  (v.aI cap key val).2.2.eB cap/\(((v.aI cap key val).2.1=7/\v.room cap<(val.length+495) / 496/\(∃C,Tr K v (v.aI cap key val).2.2 A (C++A))) \/
  ((
   v.aI cap key val).2.1=0/\∃ns,ns.length<=(val.length+495) / 496/\jF true (v.aI cap key val).2.2 (v.aI cap key val).1 ns val/\Tr K v (v.aI cap key val).2.2 A (ns++A)/\(ns++A).Nodup /\
   (v.aI cap key val).2.2.room cap+ns.length=v.room cap/\(v.aI cap key val).1.key=key/\(v.aI cap key val).1.ok=true/\(v.aI cap key val).2.2.r=v.r)):=by
 have hk:1<=key.length/\key.length<=140/\val.length<=16384:=by
  unfold iE at hm;split at hm
  ·omega
  ·split at hm
   ·omega
   ·rename_i h1 h2
    have:key.length≠0:=fun e=>h1 (List.length_eq_zero_iff.1 e)
    omega
 unfold V.aI
 by_cases hs:3+key.length+val.length<=160
 ·rw[if_pos hs]
  refine⟨hg,.inr ⟨rfl,[],by simp,.inl ⟨rfl,rfl,rfl⟩,Tr.refl K v A hA,by simpa using gN,rfl,rfl,?_,rfl⟩⟩;simp[aA.ok,dV,aA.size,hk];omega
 ·rw[if_neg hs]
  have jQ:gz v [] 0 (val.drop (((val.length-1) / 496+1)*496)):=⟨rfl,List.drop_eq_nil_of_le (by omega)⟩;obtain⟨i1,i2⟩:=D7 cap val K ((val.length-1) / 496+1) 0 v [] A hg jQ (fun _=>by rw[Nat.add_sub_cancel];omega) (by omega) hA (by simp) gN;have hq:(val.length-1) / 496+1=(val.length+495) / 496:=by omega
  unfold V.chain;rw[hq]at i1 i2 ⊢;refine⟨i1,?_⟩;rcases i2 with ⟨j1,j2,C,j3⟩|⟨j1,ns,j2,j3,j4,j5,j6,j7,j8,j9⟩
  ·exact .inl ⟨j1,j2,C,j3⟩
  ·rw[List.append_nil]at j3
   have Sd:(bE cap val ((val.length+495) / 496) 0 v).1≠0:=by
    match ns,j2,j3 with
    | [],j2,_=>simp at j2;omega
    | p::ns,_,j3=>obtain⟨e,h0,_⟩:=j3;rw[e];exact h0
   refine .inr ⟨j1,ns,by omega,.inr ⟨Sd,j3,rfl,fun _=>⟨j2,by show 1<=val.length;omega⟩⟩,j4,j5,(by rw[j2];exact j7),rfl,?_,j9⟩;simp only[aA.ok,if_neg Sd,dV,jE];simp[hk];omega
abbrev bK:=Bs×Bs
def bO (g:Bool) (v:V):List aA->List Nat->List bK->Prop
 | [],P,E=>P = []/\E = []
 | c::cs,P,E=>∃P1 P2 b E2,jF g v c P1 b/\bO g v cs P2 E2/\P.Perm (P1++P2)/\E=(c.key,b)::E2
def m_ (S:Nat->Bs->Bs->List Nat->List bK->Prop):Bs->List (Nat×Bs)->List Nat->List bK->Prop
 | _,[],P,E=>P = []/\E = []
 | lo,(k,x)::l,P,E=>∃P1 P2 E1 E2,S k lo x P1 E1/\m_ S x l P2 E2/\P.Perm (P1++P2)/\E=E1++E2
def Bz (lo hi k:Bs):Prop:=fA lo k=true/\(hi = []\/fA k hi=true)
theorem Bz.qf {lo hi k:Bs}(h:Bz lo hi k):qf lo hi k=true:=by
 have h1:=jJ h.1;unfold YtccnemmlkcmceaaGreatDoor.qf;rw[h1];rcases h.2 with rfl|h2
 ·rfl
 ·rw[h2];simp
def Nd.Keys (n:Nd) (lo hi:Bs):Prop:=(∀c∈n.cells,qf lo hi c.key=true)/\(∀k∈n.keys,Bz lo hi k)
def Ew (g rt:Bool) (n:Nd):Prop:=(n.leaf=true->n.cells ≠ []/\(g=true->rt=false->2<=n.cells.length))/\(n.leaf=false->g=true->n.keys ≠ [])
def abk (g:Bool) (v:V) (n:Nd) (Q:List Nat) (E:List bK):Prop:=n.leaf=true/\bO g v n.cells Q E
def Q7 (S:Nat->Bs->Bs->List Nat->List bK->Prop) (n:Nd) (lo hi:Bs) (Q:List Nat) (E:List bK):Prop :=
 n.leaf=false/\∃l:List (Nat×Bs),n.kids=l.map (·.1)/\n.keys ++ [hi]=l.map (·.2)/\m_ S lo l Q E
def gI (g:Bool) (v:V):Nat->Bool->Nat->Bs->Bs->List Nat->List bK->Prop
 | 0,rt,id,lo,hi,P,E=>∃n Q,v.node id=some n/\Ew g rt n/\P.Perm (id::Q)/\n.Keys lo hi/\abk g v n Q E
 | h+1,rt,id,lo,hi,P,E=>∃n Q,v.node id=some n/\Ew g rt n/\P.Perm (id::Q)/\n.Keys lo hi/\Q7 (gI g v h false) n lo hi Q E
def jN (g:Bool) (v:V) (h:Nat) (n:Nd) (lo hi:Bs) (Q:List Nat) (E:List bK):Prop :=
 n.Keys lo hi/\match h with
  | 0=>abk g v n Q E
  | h+1=>Q7 (gI g v h false) n lo hi Q E
theorem gI.iff {g:Bool}{v:V}{h:Nat}{rt:Bool}{id:Nat}{lo hi:Bs}{P:List Nat}{E:List bK} :
  gI g v h rt id lo hi P E↔∃n Q,v.node id=some n/\Ew g rt n/\P.Perm (id::Q)/\jN g v h n lo hi Q E:=by
 cases h <;> exact Iff.rfl
def jb:Bs->List (Nat×Bs)->Bs
 | lo,[]=>lo
 | _,(_,x)::l=>jb x l
theorem Im (lo:Bs) (a b:List (Nat×Bs)):jb lo (a++b)=jb (jb lo a) b:=by
 induction a generalizing lo with
 | nil=>rfl
 | cons p a ih=>exact ih p.2
theorem pR (lo:Bs) (a:List (Nat×Bs)):jb lo a=((a.map (·.2)).getLast?).getD lo:=by
 induction a generalizing lo with
 | nil=>rfl
 | cons p a ih =>
  rw[jb,ih];cases a with
  | nil=>rfl
  | cons q a=>simp[List.getLast?_cons]
section
variable {g:Bool}{v v':V}{S S':Nat->Bs->Bs->List Nat->List bK->Prop}{lo hi:Bs}{P Q P':List Nat}{E:List bK}
theorem bO.perm {cs:List aA}(h:bO g v cs P E) (hp:P'.Perm P):bO g v cs P' E:=by
 cases cs with
 | nil=>obtain⟨rfl,rfl⟩:=h;exact⟨hp.eq_nil,rfl⟩
 | cons c cs=>obtain⟨P1,P2,b,E2,h1,h2,h3,h4⟩:=h;exact⟨P1,P2,b,E2,h1,h2,hp.trans h3,h4⟩
theorem m_.perm {l:List (Nat×Bs)}(h:m_ S lo l P E) (hp:P'.Perm P):m_ S lo l P' E:=by
 cases l with
 | nil=>obtain⟨rfl,rfl⟩:=h;exact⟨hp.eq_nil,rfl⟩
 | cons c cs=>obtain⟨P1,P2,b,E2,h1,h2,h3,h4⟩:=h;exact⟨P1,P2,b,E2,h1,h2,hp.trans h3,h4⟩
theorem gI.perm {h:Nat}{rt:Bool}{id:Nat}(hh:gI g v h rt id lo hi P E) (hp:P'.Perm P):gI g v h rt id lo hi P' E:=by
 rw[gI.iff]at hh ⊢;obtain⟨n,Q,h1,h2,h3,h4⟩:=hh;exact⟨n,Q,h1,h2,hp.trans h3,h4⟩
theorem bO.append {a b:List aA}:bO g v (a++b) P E↔∃P1 P2 E1 E2,bO g v a P1 E1/\bO g v b P2 E2/\P.Perm (P1++P2)/\E=E1++E2:=by
 induction a generalizing P E with
 | nil =>
  constructor
  ·intro h;exact⟨[],P,[],E,⟨rfl,rfl⟩,h,List.Perm.refl _,rfl⟩
  ·rintro⟨P1,P2,E1,E2,⟨rfl,rfl⟩,h,h3,rfl⟩;exact h.perm h3
 | cons c a ih =>
  constructor
  ·rintro⟨P1,P2,x,E2,h1,h2,h3,rfl⟩
   obtain⟨Q1,Q2,F1,F2,k1,k2,k3,rfl⟩:=ih.1 h2;exact⟨P1++Q1,Q2,(c.key,x)::F1,F2,⟨P1,Q1,x,F1,h1,k1,List.Perm.refl _,rfl⟩,k2,by rw[List.append_assoc];exact h3.trans (k3.append_left _),rfl⟩
  ·rintro⟨P1,P2,E1,E2,⟨Q1,Q2,x,F2,h1,h2,h3,rfl⟩,k2,k3,rfl⟩
   refine⟨Q1,Q2++P2,x,F2++E2,h1,ih.2 ⟨_,_,_,_,h2,k2,List.Perm.refl _,rfl⟩,?_,rfl⟩;rw[<-List.append_assoc];exact k3.trans (h3.append_right _)
theorem m_.append {a b:List (Nat×Bs)}:m_ S lo (a++b) P E↔∃P1 P2 E1 E2,m_ S lo a P1 E1/\m_ S (jb lo a) b P2 E2/\P.Perm (P1++P2)/\E=E1++E2:=by
 induction a generalizing lo P E with
 | nil =>
  constructor
  ·intro h;exact⟨[],P,[],E,⟨rfl,rfl⟩,h,List.Perm.refl _,rfl⟩
  ·rintro⟨P1,P2,E1,E2,⟨rfl,rfl⟩,h,h3,rfl⟩;exact h.perm h3
 | cons c a ih =>
  obtain⟨k,x⟩:=c;constructor
  ·rintro⟨P1,P2,F,E2,h1,h2,h3,rfl⟩
   obtain⟨Q1,Q2,F1,F2,k1,k2,k3,rfl⟩:=ih.1 h2;exact⟨P1++Q1,Q2,F++F1,F2,⟨P1,Q1,F,F1,h1,k1,List.Perm.refl _,rfl⟩,k2,by rw[List.append_assoc];exact h3.trans (k3.append_left _),by rw[List.append_assoc]⟩
  ·rintro⟨P1,P2,E1,E2,⟨Q1,Q2,F,F2,h1,h2,h3,rfl⟩,k2,k3,rfl⟩
   refine⟨Q1,Q2++P2,F,F2++E2,h1,ih.2 ⟨_,_,_,_,h2,k2,List.Perm.refl _,rfl⟩,?_,by rw[List.append_assoc]⟩;rw[<-List.append_assoc];exact k3.trans (h3.append_right _)
theorem m_.one {k:Nat}{x:Bs}:m_ S lo [(k,x)] P E↔∃P',S k lo x P' E/\P.Perm P':=by
 constructor
 ·rintro⟨P1,P2,E1,E2,h1,⟨rfl,rfl⟩,h3,rfl⟩
  exact⟨P1,by simpa using h1,by simpa using h3⟩
 ·rintro⟨P',h1,h3⟩
  exact⟨P',[],E,[],h1,⟨rfl,rfl⟩,by simpa using h3,by simp⟩
theorem m_.mono {l:List (Nat×Bs)}(h:m_ S lo l P E) (hs:∀k a b Q F,(∀p∈Q,p∈P)->S k a b Q F->S' k a b Q F):m_ S' lo l P E:=by
 induction l generalizing lo P E with
 | nil=>exact h
 | cons c l ih =>
  obtain⟨k,x⟩:=c;obtain⟨P1,P2,E1,E2,h1,h2,h3,rfl⟩:=h;exact⟨P1,P2,E1,E2,hs _ _ _ _ _ (fun p hp=>h3.mem_iff.2 (by simp[hp])) h1,ih h2 (fun k a b Q F hq=>hs k a b Q F (fun p hp=>h3.mem_iff.2 (by simp[hq p hp]))),h3,rfl⟩
theorem bO.us {cs:List aA}(h:bO g v cs P E):∀p∈P,v.err p=0/\(v.pg p).kind=3:=by
 induction cs generalizing P E with
 | nil=>obtain⟨rfl,_⟩:=h;simp
 | cons c cs ih =>
  obtain⟨P1,P2,b,E2,h1,h2,h3,rfl⟩:=h;intro p hp;rcases List.mem_append.1 (h3.mem_iff.1 hp)with hp|hp
  ·exact h1.us p hp
  ·exact ih h2 p hp
theorem m_.us {l:List (Nat×Bs)}(h:m_ S lo l P E) (hs:∀k a b Q F,S k a b Q F->∀p∈Q,v.err p=0):∀p∈P,v.err p=0:=by
 induction l generalizing lo P E with
 | nil=>obtain⟨rfl,_⟩:=h;simp
 | cons c l ih =>
  obtain⟨k,x⟩:=c;obtain⟨P1,P2,E1,E2,h1,h2,h3,rfl⟩:=h;intro p hp;rcases List.mem_append.1 (h3.mem_iff.1 hp)with hp|hp
  ·exact hs _ _ _ _ _ h1 p hp
  ·exact ih h2 p hp
theorem gI.us:∀{h:Nat}{rt:Bool}{id:Nat}{lo hi:Bs}{P:List Nat}{E:List bK},gI g v h rt id lo hi P E->∀p∈P,v.err p=0
 | 0,rt,id,lo,hi,P,E,hh,p,hp=>by
  obtain⟨n,Q,h1,h2,h3,h4,h5⟩:=hh;rcases List.mem_cons.1 (h3.mem_iff.1 hp)with rfl|hp
  ·exact V.fw h1
  ·exact(h5.2.us p hp).1
 | h+1,rt,id,lo,hi,P,E,hh,p,hp=>by
  obtain⟨n,Q,h1,h2,h3,h4,h5,l,_,_,h6⟩:=hh;rcases List.mem_cons.1 (h3.mem_iff.1 hp)with rfl|hp
  ·exact V.fw h1
  ·exact h6.us (fun _ _ _ _ _ hs=>gI.us hs) p hp
theorem jN.us {h:Nat}{n:Nd}(hh:jN g v h n lo hi P E):∀p∈P,v.err p=0:=by
 cases h with
 | zero=>exact fun p hp=>(hh.2.2.us p hp).1
 | succ h=>obtain⟨_,_,l,_,_,h6⟩:=hh;exact h6.us (fun _ _ _ _ _ hs=>gI.us hs)
theorem bO.same {cs:List aA}(h:bO g v cs P E) (hs:∀p∈P,v.err p=0->v'.err p=0/\v'.pg p=v.pg p):bO g v' cs P E:=by
 induction cs generalizing P E with
 | nil=>exact h
 | cons c cs ih =>
  obtain⟨P1,P2,b,E2,h1,h2,h3,rfl⟩:=h;exact⟨P1,P2,b,E2,h1.same (fun p hp=>hs p (h3.mem_iff.2 (by simp[hp]))),ih h2 (fun p hp=>hs p (h3.mem_iff.2 (by simp[hp]))),h3,rfl⟩
theorem gI.same:∀{h:Nat}{rt:Bool}{id:Nat}{lo hi:Bs}{P:List Nat}{E:List bK},gI g v h rt id lo hi P E->(∀p∈P,v.err p=0->v'.err p=0/\v'.pg p=v.pg p)->gI g v' h rt id lo hi P E
 | 0,rt,id,lo,hi,P,E,hh,hs=>by
  obtain⟨n,Q,h1,h2,h3,h4,h5⟩:=hh;have:=hs id (h3.mem_iff.2 (by simp)) (V.fw h1);exact⟨n,Q,V.mU this.1 this.2 h1,h2,h3,h4,h5.1,h5.2.same (fun p hp=>hs p (h3.mem_iff.2 (by simp[hp])))⟩
 | h+1,rt,id,lo,hi,P,E,hh,hs=>by
  obtain⟨n,Q,h1,h2,h3,h4,h5,l,l1,l2,h6⟩:=hh;have:=hs id (h3.mem_iff.2 (by simp)) (V.fw h1);exact⟨n,Q,V.mU this.1 this.2 h1,h2,h3,h4,h5,l,l1,l2,h6.mono (fun k a b Q' F hq hS=>hS.same (fun p hp=>hs p (h3.mem_iff.2 (by simp[hq p hp]))))⟩
theorem jN.same {h:Nat}{n:Nd}(hh:jN g v h n lo hi P E) (hs:∀p∈P,v.err p=0->v'.err p=0/\v'.pg p=v.pg p):jN g v' h n lo hi P E:=by
 refine⟨hh.1,?_⟩;cases h with
 | zero=>exact⟨hh.2.1,hh.2.2.same hs⟩
 | succ h=>obtain⟨_,h5,l,l1,l2,h6⟩:=hh;exact⟨h5,l,l1,l2,h6.mono (fun k a b Q' F hq hS=>hS.same (fun p hp=>hs p (hq p hp)))⟩
end
theorem cZ {lo hi k:Bs}:qf lo hi k=true↔fA k lo=false/\(hi = []\/fA k hi=true):=by
 unfold qf;cases hi <;> simp
theorem Lf (k:Bs):qf [] [] k=true:=by rw[cZ];exact⟨lI k,.inl rfl⟩
abbrev ja (E:List bK):Prop:=E.Pairwise fun a b=>fA a.1 b.1=true
theorem bO.keys {g:Bool}{v:V}{cs:List aA}{P:List Nat}{E:List bK}(h:bO g v cs P E):E.map (·.1)=cs.map aA.key:=by
 induction cs generalizing P E with
 | nil=>obtain⟨_,rfl⟩:=h;rfl
 | cons c cs ih=>obtain⟨P1,P2,b,E2,h1,h2,h3,rfl⟩:=h;simp[ih h2]
theorem bO.len {g:Bool}{v:V}{cs:List aA}{P:List Nat}{E:List bK}(h:bO g v cs P E):E.length=cs.length:=by
 have:=congrArg List.length h.keys;simpa using this
theorem ja.of {E:List bK}(h:ed (E.map (·.1))):ja E:=List.pairwise_map.1 h
def Xq (lo hi:Bs) (E:List bK):Prop:=E ≠ []/\(∀e∈E,qf lo hi e.1=true)/\ja E
theorem Oq {a b c:Bs}(h1:fA b a=false) (h2:fA b c=true):fA a c=true:=R6 h1 h2
theorem tJ {a b c:Bs}(h1:fA a b=true) (h2:fA c b=false):fA a c=true:=by
 cases h:fA a c
 ·cases h3:fA c a
  ·have:=Bv a c h h3;subst this;rw[h1]at h2;cases h2
  ·have:=dD h3 h1;rw[this]at h2;cases h2
 ·rfl
theorem Ob {a b:Bs}(h:fA a b=true):fA b a=false:=jJ h
theorem m_.told {S:Nat->Bs->Bs->List Nat->List bK->Prop}(hS:∀k a b Q F,S k a b Q F->Xq a b F) :
  ∀{l:List (Nat×Bs)}{lo:Bs}{P:List Nat}{E:List bK},m_ S lo l P E->(∀x∈(l.map (·.2)).dropLast,x ≠ [])->(∀e∈E,qf lo (jb lo l) e.1=true)/\ja E/\(l ≠ []->E ≠ [])
 | [],lo,P,E,h,_=>by obtain⟨_,rfl⟩:=h;exact⟨by simp,List.Pairwise.nil,fun h=>absurd rfl h⟩
 | (k,x)::l,lo,P,E,h,hx=>by
  obtain⟨P1,P2,E1,E2,h1,h2,h3,rfl⟩:=h;obtain⟨a1,a2,a3⟩:=hS _ _ _ _ _ h1
  obtain⟨b1,b2,b3⟩:=m_.told hS h2 (fun y hy=>hx y (by
   cases l with
   | nil=>simp at hy
   | cons q l=>simp only[List.map_cons]at hy ⊢;rw[List.dropLast_cons_of_ne_nil (by simp)];exact List.mem_cons_of_mem _ hy))
  cases l with
  | nil =>
   obtain⟨_,rfl⟩:=h2;simp only[List.append_nil];exact⟨a2,a3,fun _=>a1⟩
  | cons q l =>
   have hxn:x ≠ []:=hx x (by simp only[List.map_cons];rw[List.dropLast_cons_of_ne_nil (by simp)];simp);have kG:=b3 (by simp);obtain⟨e2,E2',rfl⟩:=List.exists_cons_of_ne_nil kG;obtain⟨e1,E1',rfl⟩:=List.exists_cons_of_ne_nil a1;have c1:=cZ.1 (a2 e1 (by simp));have c2:=cZ.1 (b1 e2 (by simp));refine⟨fun e he=>?_,List.pairwise_append.2 ⟨a3,b2,fun e he f hf=>?_⟩,fun _=>by simp⟩
   ·rw[cZ]
    rcases List.mem_append.1 he with he|he
    ·have d:=cZ.1 (a2 e he)
     have d2:=d.2.resolve_left hxn;refine⟨d.1,?_⟩;have d3:fA e.1 e2.1=true:=tJ d2 c2.1;rcases c2.2 with c|c
     ·exact .inl c
     ·exact .inr (dD d3 c)
    ·have d:=cZ.1 (b1 e he)
     refine⟨?_,d.2⟩;have d1:=c1.2.resolve_left hxn;exact Ob (Oq c1.1 (tJ d1 d.1))
   ·have d:=cZ.1 (a2 e he)
    have d2:=cZ.1 (b1 f hf);exact tJ (d.2.resolve_left hxn) d2.1
theorem Qf {n:Nd}(h:n.ok=true):∀k∈n.keys,k ≠ []:=by
 intro k hk e;have:=dF ((Nd.Ok.of h).k k hk);rw[e]at this;simp at this
theorem nL {n:Nd}{hi:Bs}{l:List (Nat×Bs)}(h2:n.keys ++ [hi]=l.map (·.2)):(l.map (·.2)).dropLast=n.keys:=by
 rw[<-h2];simp
theorem F5 {n:Nd}{hi lo:Bs}{l:List (Nat×Bs)}(h2:n.keys ++ [hi]=l.map (·.2)):jb lo l=hi:=by
 rw[pR,<-h2];simp
theorem KD {n:Nd}{hi:Bs}{l:List (Nat×Bs)}(h2:n.keys ++ [hi]=l.map (·.2)):l ≠ []:=by
 rintro rfl;simp at h2
theorem jN.Rc {g:Bool}{v:V}{n:Nd}{lo hi:Bs}{P:List Nat}{E:List bK}(aX:n.ok=true) (hb:jN g v 0 n lo hi P E):(∀e∈E,qf lo hi e.1=true)/\ja E:=by
 have hk:=hb.2.2.keys;refine⟨fun e he=>?_,ja.of (by rw[hk];exact Nd.Ok.jW aX)⟩;have:e.1∈n.cells.map aA.key:=by rw[<-hk];exact List.mem_map.2 ⟨e,he,rfl⟩
 obtain⟨c,hc,e1⟩:=List.mem_map.1 this;rw[<-e1];exact hb.1.1 c hc
theorem gI.told {g:Bool}{v:V}:∀{h:Nat}{rt:Bool}{id:Nat}{lo hi:Bs}{P:List Nat}{E:List bK},gI g v h rt id lo hi P E->Xq lo hi E
 | 0,rt,id,lo,hi,P,E,hh=>by
  obtain⟨n,Q,h1,h2,h3,h4,h5⟩:=hh;have:=jN.Rc (V.bM h1) ⟨h4,h5⟩;refine⟨?_,this⟩;rintro rfl;have:=h5.2.len;have h6:=(h2.1 h5.1).1;simp at this;exact h6 (List.length_eq_zero_iff.1 this.symm)
 | h+1,rt,id,lo,hi,P,E,hh=>by
  obtain⟨n,Q,h1,h2,h3,h4,h5,l,l1,l2,h6⟩:=hh;obtain⟨r1,r2,r3⟩:=h6.told (fun _ _ _ _ _ hs=>gI.told hs) (by rw[nL l2];exact Qf (V.bM h1));rw[F5 l2]at r1;exact⟨r3 (KD l2),r1,r2⟩
def ka:Bs:=[97]
def kb:Bs:=[98]
def vx:Bs:=[120]
def vy:Bs:=[121]
def e1:V:=(v0.Put 20 0 ka vx).2
def e2:V:=(e1.Put 20 0 kb vy).2
def e3:V:=(e2.vz 20 0 ka).2.2
def e4:V:=(e3.vz 20 0 kb).2.2
def cA:aA:=⟨ka,vx,0,0⟩
def cB:aA:=⟨kb,vy,0,0⟩
theorem f1:v0.way 0 ka=some []:=by kernel_rfl
theorem f1e:(v0.Put 20 0 ka vx).1=0:=by kernel_rfl
theorem f2:e1.way 0 kb=some [⟨1,⟨true,[cA],[],[]⟩,1⟩]:=by kernel_rfl
theorem f2e:(e1.Put 20 0 kb vy).1=0:=by kernel_rfl
theorem f2w:(e1.wr 1 ((⟨true,[cA],[],[]⟩:Nd).put cB)).1=0:=by kernel_rfl
theorem f2h:e2.oM 0=(1,0):=by kernel_rfl
theorem f2r:e2.r 0=1:=by kernel_rfl
theorem f2n:e2.node 1=some ⟨true,[cA,cB],[],[]⟩:=by kernel_rfl
theorem f2g:e2.get 0 kb=(vy,true,0):=by kernel_rfl
theorem f2y:e2.way 0 kb=some [⟨1,⟨true,[cA,cB],[],[]⟩,1⟩]:=by kernel_rfl
theorem f3:e2.way 0 ka=some [⟨1,⟨true,[cA,cB],[],[]⟩,0⟩]:=by kernel_rfl
theorem f3e:(e2.vz 20 0 ka).1=true/\(e2.vz 20 0 ka).2.1=0:=⟨by kernel_rfl,by kernel_rfl⟩
theorem f4:e3.way 0 kb=some [⟨1,⟨true,[cB],[],[]⟩,0⟩]:=by kernel_rfl
theorem f4e:(e3.vz 20 0 kb).1=true/\(e3.vz 20 0 kb).2.1=0:=⟨by kernel_rfl,by kernel_rfl⟩
theorem f5h:e4.oM 0=(0,0):=by kernel_rfl
theorem f5r:e4.r 0=0:=by kernel_rfl
end Go.Proofs.YtccnemmlkcmceaaGreatDoor
