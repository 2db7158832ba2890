/- Proofs about the given program, joined out of the texts JA, VB. -/
import Derived.Test.YtccnemmlkcmceaaGreatDoorHE25
import Derived.Test.YtccnemmlkcmceaaGreatDoorHE26
set_option linter.unusedVariables false
set_option linter.unusedSimpArgs false
set_option maxRecDepth 100000
set_option maxHeartbeats 6400000
namespace Go.Proofs.YtccnemmlkcmceaaGreatDoor
open Go.RowKit
theorem cell_size_le {c:Cell} (h:c.ok = true):c.size ≤ 160:=by
 have hb:=Cell.ok_bounds h
 unfold Cell.ok at h
 split at h
 ·simp only [Bool.and_eq_true,decide_eq_true_eq] at h
  exact h.2
 ·rename_i h0
  unfold Cell.size
  rw [if_pos (by omega)]
  omega
theorem sumC_le {cs:List Cell} (h:∀ c ∈ cs,c.ok = true):sumC cs ≤ 160 * cs.length:=by
 induction cs with
 | nil=>simp [sumC]
 | cons c cs ih =>
  have h1:=ih (fun c hc=>h c (by simp [hc]))
  have h2:=cell_size_le (h c (by simp))
  simp only [sumC,List.map_cons,List.sum_cons,List.length_cons] at *
  omega
theorem sumK_le {ks:List Bs} (h:∀ c ∈ ks,keyOk c = true):sumK ks ≤ 145 * ks.length:=by
 induction ks with
 | nil=>simp [sumK]
 | cons c cs ih =>
  have h1:=ih (fun c hc=>h c (by simp [hc]))
  have h2:=keyOk_len (h c (by simp))
  simp only [sumK,List.map_cons,List.sum_cons,List.length_cons] at *
  omega
theorem long_all {n:Nd} (hok:n.ok = true) (hs:500 < n.size):2 + n.gap ≤ n.all:=by
 have hO:=Nd.Ok.of hok
 unfold Nd.size at hs
 unfold Nd.all Nd.gap
 cases hl:n.leaf
 ·have h1:=(hO.br hl).1
  have h2:=sumK_le hO.k
  rw [hl,h1] at hs
  simp [sumC] at hs ⊢
  omega
 ·have h1:=(hO.lf hl).1
  have h2:=sumC_le hO.c
  rw [hl,h1] at hs
  simp [sumK] at hs ⊢
  omega
theorem split_some {n:Nd} (hok:n.ok = true) (hs:500 < n.size):n.split = some (n.part 0 n.best,n.part (n.best + n.gap) n.all,n.mid n.best):=by
 unfold Nd.split
 rw [if_neg]
 rintro (h | h)
 ·rw [hok] at h;cases h
 ·have:=long_all hok hs;omega
theorem split_any (n:Nd) (w:World) (F:Nat → Prop) (a:Adr) (hn:NodeIn w F a n) (hok:n.ok = true) (hs:500 < n.size) :
  Calls Tryz.prog 143 #[n.value a.A1 a.c1 a.A2 a.c2 a.A3 a.c3] w (SplitTold w (some (n.part 0 n.best,n.part (n.best + n.gap) n.all,n.mid n.best))):=by
 have h:=long_all hok hs
 cases hl:n.leaf
 ·have e1:n.gap = 1:=by simp [Nd.gap,hl]
  have e2:n.all = n.keys.length:=by simp [Nd.all,hl]
  rw [e1,e2] at h ⊢
  exact split_branch n w F _ _ _ _ _ _ hn hok hl (by omega)
 ·have e1:n.gap = 0:=by simp [Nd.gap,hl]
  have e2:n.all = n.cells.length:=by simp [Nd.all,hl]
  rw [e1,e2] at h ⊢
  exact split_leaf n w F _ _ _ _ _ _ hn hok hl (by omega)
theorem wr_three {v:V} {id:Nat} {n:Nd} (h:(v.wr id n).1 = 3):n.ok = true ∧ 500 < n.size ∧ (v.wr id n).2 = v:=by
 have hset:∀ b,(v.set id 2 b).1 ≠ 3:=by
  intro b
  unfold V.set
  split
  ·simp
  ·show v.err id ≠ 3
   unfold V.err
   split
   ·simp
   ·split <;> simp
 by_cases h1:n.ok = true
 ·by_cases h2:500 < n.size
  ·have e:n.out = ([],3):=by unfold Nd.out;rw [if_neg (by simp [h1]),if_pos h2]
   refine ⟨h1,h2,?_⟩
   unfold V.wr
   rw [e];simp
  ·have e:n.out = (n.enc,0):=by unfold Nd.out;rw [if_neg (by simp [h1]),if_neg h2]
   unfold V.wr at h
   rw [e] at h
   exact absurd h (by simpa using hset n.enc)
 ·have e:n.out = ([],2):=by unfold Nd.out;rw [if_pos (by simpa using h1)]
  unfold V.wr at h
  rw [e] at h
  simp at h
theorem wr_zero {v:V} {id:Nat} {n:Nd} (h:(v.wr id n).1 = 0):v.err id = 0:=by
 unfold V.wr at h
 split at h
 ·unfold V.set at h
  split at h
  ·assumption
  ·exact h
 ·rename_i h0;exact absurd h h0
theorem two_node {w:World} {F:Nat → Prop} {b1 b2 x y:Nat} {key:Bs} (h1:Blk w b1 9 #[.string (str key)]) (h2:Blk w b2 3 #[.int .i64 (x:Int),.int .i64 (y:Int)]) (hb1:¬ F b1) (hb2:¬ F b2) :
  NodeAt w F none 0 (some ⟨b1,0,none⟩) 1 (some ⟨b2,0,none⟩) 2 ⟨false,[],[key],[x,y]⟩:=by
 refine ⟨Rd.nil_ _,⟨rfl,fun _=>⟨b1,0,rfl,hb1,fun j u hu=>?_⟩⟩,⟨rfl,fun _=>⟨b2,0,rfl,hb2,fun j u hu=>?_⟩⟩,by simp,by simp,by simp,by simp,by simp,by simp,fun _=>rfl,fun h=>by simp at h,fun h=>by simp at h⟩
 ·rw [Nat.zero_add,h1.cell]
  match j,hu with
  | 0,hu=>simpa [keyVals] using hu
  | j + 1,hu=>simp [keyVals] at hu
 ·rw [Nat.zero_add,h2.cell]
  match j,hu with
  | 0,hu=>simpa [kidVals] using hu
  | 1,hu=>simpa [kidVals] using hu
  | j + 2,hu=>simp [kidVals] at hu
theorem mid_len {n:Nd} (h:n.ok = true) {k:Nat}:(n.mid k).length < 65536:=by
 have hO:=Nd.Ok.of h
 unfold Nd.mid
 split
 ·rw [List.getD_eq_getElem?_getD]
  cases hc:(n.cells.map Cell.key)[k]? with
  | none=>simp
  | some x =>
   obtain ⟨c,h1,h2⟩:=List.mem_map.1 (List.mem_of_getElem? hc)
   have:=Cell.ok_bounds (hO.c c h1)
   rw [h2] at this
   simp;omega
 ·rw [List.getD_eq_getElem?_getD]
  cases hc:n.keys[k]? with
  | none=>simp
  | some x =>
   have:=keyOk_len (hO.k x (List.mem_of_getElem? hc))
   simp;omega
theorem TxAt.local_ {w1 w2:World} {s:Sys} {v:V} {G:Nat → Prop} (h:TxAt w1 s v) (hx:Ext G w1 w2) (h1:¬ G s.t) (h2:¬ G s.m) (hdb:s.db w2):TxAt w2 s v:=by
 obtain ⟨ov,hm,k1,k2⟩:=h.mp
 exact ⟨h.tx.ext hx h1,hdb,h.h1,h.h2,h.hb,h.hc,ov,hm.ext hx h2,k1,k2⟩
theorem keyVals_ins (ks:List Bs) (i:Nat) (k:Bs) (hi:i ≤ ks.length):keyVals (ks.insertIdx i k) = (keyVals ks).take i ++ .string (str k) :: (keyVals ks).drop i:=by
 unfold keyVals
 induction ks generalizing i with
 | nil =>
  have:i = 0:=by simpa using hi
  subst this;rfl
 | cons a ks ih =>
  cases i with
  | zero=>rfl
  | succ i =>
   have:=ih i (by simpa using hi)
   simp only [List.insertIdx_succ_cons,List.map_cons,List.take_succ_cons,List.drop_succ_cons,List.cons_append,this]
theorem kidVals_ins (ks:List Nat) (i:Nat) (k:Nat) (hi:i ≤ ks.length):kidVals (ks.insertIdx i k) = (kidVals ks).take i ++ .int .i64 (k:Int) :: (kidVals ks).drop i:=by
 unfold kidVals
 induction ks generalizing i with
 | nil =>
  have:i = 0:=by simpa using hi
  subst this;rfl
 | cons a ks ih =>
  cases i with
  | zero=>rfl
  | succ i =>
   have:=ih i (by simpa using hi)
   simp only [List.insertIdx_succ_cons,List.map_cons,List.take_succ_cons,List.drop_succ_cons,List.cons_append,this]
theorem mk_any (s:Sys) (hs:s.Ok) (v:V) (hgv:v.Good) (hhv:v.high ≤ s.cap) (key val:Bs) (hk:key.length ≤ 140) (hv:val.length ≤ 16384):MkOk s v key val:=by
 by_cases hl:3 + key.length + val.length ≤ 160
 ·exact mk_small s hs v key val hl
 have e:v.mkCell s.cap key val = (⟨key,[],(v.chain s.cap val).1,val.length⟩,(v.chain s.cap val).2.1,(v.chain s.cap val).2.2):=by unfold V.mkCell;rw [if_neg hl]
 unfold MkOk
 rw [e]
 have hid:(v.chain s.cap val).1 ≤ 65536:=by
  have:∀ (k next:Nat) (v:V),v.Good → v.high ≤ s.cap → next ≤ 65536 → (chainLoop s.cap val k next v).1 ≤ 65536:=by
   intro k
   induction k with
   | zero=>intro next v _ _ h;exact h
   | succ k ih =>
    intro next v hg hh h
    have h1:=hg.alloc hh (Sys.cap_le hs)
    have h2:=V.alloc_id hg hh (Sys.cap_le hs)
    rw [chainLoop]
    split
    ·split
     ·refine ih _ _ (h1.1.set _ _ _ (by decide) (by rw [List.length_append,n4_len,List.length_take];omega)) ?_ h2
      rw [V.set_high];exact h1.2
     ·simp
    ·simp
  exact this _ _ _ hgv hhv (by omega)
 refine ⟨⟨by simp only;omega,by simp,by simp only;omega,by simp only;omega⟩,fun w gx root h hg hx=>?_⟩
 have HC:=Lib.hid (fun o=>chain_any s hs (w.alloc o) v (h.no hs ((Ext.refl No w).alloc o)) hg gx root (hx.alloc o) val (by omega) hv)
 obtain ⟨r,hr⟩:∃ r,r = v.chain s.cap val:=⟨_,rfl⟩
 rw [← hr] at HC ⊢
 have hkl:=str_size key
 have hvl:=str_size val
 have hi:¬ ((3:Int) + key.length + val.length ≤ 160):=by omega
 have hi1:IntKind.i64.wrap ((3:Int) + key.length) = (3:Int) + key.length:=IntWalk.i64_in _ (by omega)
 have hi2:IntKind.i64.wrap ((3:Int) + key.length + val.length) = (3:Int) + key.length + val.length:=IntWalk.i64_in _ (by omega)
 have HOL:=Lib.hid (fun b (hb:s.F b)=>h.old hb)
 have HDB:=Lib.hid (fun (w':World) (e:Ext s.F w w')=>hs.keep _ _ e h.db)
 clear hr hid e h hg hx
 go_enter Tryz.func97,Tryz.ntmps97
 go_wp2_with fail
 refine (HC.out _).mono ?_
 rintro e w2 ⟨rfl,hT,hG,hx2⟩
 have hb:=(Blk.new w 45 #[.string ⟨#[]⟩,.string ⟨#[]⟩,.int .i64 0,.int .i64 0]).ext hx2 (fun h=>absurd (HOL.out _ h) (Nat.lt_irrefl _))
 obtain ⟨p0,p1,p2,p3,g0,g1,g2,g3,ln⟩:=hb.p4
 have HB:=Lib.hid hb;have HT:=Lib.hid hT;have HG:=Lib.hid hG;have HX2:=Lib.hid hx2
 clear hb hT hG hx2
 go_wp2_with fail
 have hE2:Ext s.F w w2:=((Ext.refl s.F w).alloc _).trans_ HX2.out
 have hE3:=(((hE2.setNew (Nat.le_refl w.heap.size) 0 (.string (str key))).setNew (Nat.le_refl w.heap.size) 1 (.string ⟨#[]⟩)).setNew (Nat.le_refl w.heap.size) 2 (.int .i64 (r.1:Int))).setNew (Nat.le_refl w.heap.size) 3 (.int .i64 (val.length:Int))
 have hOn:On w.heap.size w.heap.size:=rfl
 have hL:=((((Ext.refl (On w.heap.size) w2).setF hOn 0 (.string (str key))).setF hOn 1 (.string ⟨#[]⟩)).setF hOn 2 (.int .i64 (r.1:Int))).setF hOn 3 (.int .i64 (val.length:Int))
 refine cell_back w.heap.size _ (HB.out.put4 (.string (str key)) (.string ⟨#[]⟩) (.int .i64 (r.1:Int)) (.int .i64 (val.length:Int))) rfl rfl rfl rfl ⟨rfl,?_,HG.out,hE3⟩
 exact HT.out.local_ hL (fun h=>by have h1:=HOL.out s.t (.inl rfl);have h2:s.t = w.heap.size:=h;omega) (fun h=>by have h1:=HOL.out s.m (.inr rfl);have h2:s.m = w.heap.size:=h;omega) (HDB.out _ hE3)
theorem put0_hit (s:Sys) (hs:s.Ok) (w:World) (v:V) (h:TxAt w s v) (hg:v.Good) (gx i:Nat) (hx:Blk w gx 70 (treeCells s i)) (hi:i < 4) (key val:Bs) (ws:List Stp) (hw:v.way i key = some ws) (st:Stp) (hst:ws.getLast? = some st)
  (hM:MkOk s v key val) (he:(v.mkCell s.cap key val).2.1 = 0) (d:Cell) (hh:hit ws key = some d) (hGr:((v.mkCell s.cap key val).2.2.letGo d).1 = 0 → GrowOk s i ((v.mkCell s.cap key val).2.2.letGo d).2 ws (st.n.put (v.mkCell s.cap key val).1)) :
  Calls Tryz.prog 62 #[.pointer (some ⟨gx,0,none⟩),.string (str key),.string (str val)] w (Did s w (if ((v.mkCell s.cap key val).2.2.letGo d).1 ≠ 0 then (v.mkCell s.cap key val).2.2.letGo d else V.grow s.cap i ws.reverse (st.n.put (v.mkCell s.cap key val).1) ((v.mkCell s.cap key val).2.2.letGo d).2)):=by
 have HW:=Lib.hid (way_any s hs w v h hg gx i hx hi key)
 have HM:=Lib.hid (fun w' (e:Ext No w w')=>hM.2 w' gx i (h.no hs e) hg (hx.ext e (fun h=>h)))
 have HCF:=Lib.hid hM.1
 have HX0:=Lib.hid (fun (w':World) (e:Ext s.F w w')=>tree_ext h hx e)
 have HO:=Lib.hid (Old.of h)
 have HGR:=Lib.hid hGr
 have HWO:=Lib.hid (way_ok hw)
 have HST:=Lib.hid hst
 rw [hw] at HW
 generalize v.mkCell s.cap key val = r at *
 obtain ⟨c,k,v1⟩:=r
 simp only at he HM HCF HGR ⊢
 subst he
 simp only [Cell.agg] at HM
 have hwl:∃ m,ws.length = m + 1:=by cases hz:ws.length <;> simp_all
 obtain ⟨m,hwl⟩:=hwl
 have hm41:m ≤ 40:=by have:=HWO.out.len;omega
 have HWL:=Lib.hid hwl
 have hhit:=hit_eq hst key
 rw [hh] at hhit
 have hlt:st.i < st.n.cells.length:=by
  rcases Nat.lt_or_ge st.i st.n.cells.length with h | h
  ·exact h
  ·rw [List.getElem?_eq_none h] at hhit;cases hhit
 obtain ⟨d',hd⟩:∃ d,st.n.cells[st.i]? = some d:=⟨_,List.getElem?_eq_getElem hlt⟩
 rw [hd] at hhit
 simp only at hhit
 have hdk:d' = d ∧ d'.key = key:=by
  by_cases hk:d'.key = key
  ·rw [if_pos hk] at hhit;exact ⟨by injection hhit with h;exact h.symm,hk⟩
  ·rw [if_neg hk] at hhit;cases hhit
 obtain ⟨rfl,hk⟩:=hdk
 have hbk:(d'.key == key) = true:=by simpa using hk
 have hlti:(st.i:Int) < (st.n.cells.length:Int):=by omega
 have HD:=Lib.hid hd;have HLT:=Lib.hid hlt
 clear h hg hx hw hM hGr hst hh hwl hhit hd hlt hk
 have HLG:=Lib.hid (fun w' (hT:TxAt w' s v1) (hG:v1.Good) (hx:Blk w' gx 70 (treeCells s i))=>letgo_any s hs w' v1 hT hG gx i hx d')
 generalize v1.letGo d' = r5 at *
 obtain ⟨k5,v5⟩:=r5
 simp only [Cell.agg] at HLG HGR ⊢
 by_cases hk0:k5 = 0
 ·subst hk0
  rw [if_neg (by simp)]
  go_enter Tryz.func62,Tryz.ntmps62
  go_wp2_with fail
  refine (HW.out).mono ?_
  rintro e' w2 ⟨hx2,A,cap,l,hl,rfl,hWA⟩
  have HL:=Lib.hid hl
  have HWA:=Lib.hid hWA
  rw [HWL.out]
  clear hl hWA
  go_wp2_with fail
  refine (HM.out _ hx2).mono ?_
  rintro e' w3 ⟨rfl,hT,hG,hx3⟩
  have hWA3:=HWA.out.ext (hx3.mono fun b _ hb=>HO.out b hb)
  have HE3:=Lib.hid (hx2.of_no.trans_ hx3)
  have HT:=Lib.hid hT;have HG:=Lib.hid hG
  obtain ⟨ad,b,o,rfl,hL⟩:=Lst.of HWO.out HWL.out HST.out HL.out hWA3
  obtain ⟨q0,q1,q2,q3,q4,q5⟩:=And.intro hL.q0 (And.intro hL.q1 (And.intro hL.q2 (And.intro hL.q3 (And.intro hL.q4 hL.q5))))
  have lb:=hL.lb
  have hcap:=hL.hcap
  have hcl1:=hL.hcl1
  have hb1:=hL.hb1
  have hnode:=hL.node
  obtain ⟨cb,co,hA1,hcF,k0,k1,k2,k3⟩:=hnode.cells.cellAt HD.out
  have lc:=World.block_lt_of_cell? w3 _ k0
  simp only at lc
  have HLS:=Lib.hid hL;have HA1:=Lib.hid hA1;have HWA3:=Lib.hid hWA3
  have HN:=Lib.hid hnode
  rw [hA1] at q2
  have hlt'':st.i < ad.c1:=by have:=HLT.out;omega
  obtain ⟨nl,hnl⟩:∃ nl,nl = st.n.cells.length:=⟨_,rfl⟩
  obtain ⟨si,hsi⟩:∃ si,si = st.i:=⟨_,rfl⟩
  rw [← hnl] at q2 hlti hb1 hcl1
  rw [← hsi] at q5 k0 k1 k2 k3 hlti hlt''
  have HNL:=Lib.hid hnl;have HSI:=Lib.hid hsi
  have hEW:Ext No w3 ((w3.alloc (.cells #[.string (str c.key),.string (str c.val),.int .i64 (c.over:Int),.int .i64 (c.len:Int)] 45)).alloc (.cells #[.int .i64 (st.id:Int),.bool true,.slice (some ⟨cb,co,none⟩) nl ad.c1,.slice ad.A2 st.n.keys.length ad.c2,.slice ad.A3 st.n.kids.length ad.c3,.int .i64 (si:Int)] 125)):=((Ext.refl No w3).alloc _).alloc _
  have HCL:=Lib.hid (HLG.out _ (HT.out.no hs hEW) HG.out (HX0.out _ (HE3.out.trans_ hEW.of_no)))
  have HEW:=Lib.hid hEW
  clear hnl hsi hT hG hx2 hx3 hWA3 hL hnode hA1 hEW hcF
  go_wp2_with fail
  refine HCL.out.mono ?_
  rintro e w5 ⟨rfl,hT5,hG5,hx5⟩
  have HT5:=Lib.hid hT5;have HG5:=Lib.hid hG5;have HX5:=Lib.hid hx5
  have hsz3:w.heap.size ≤ w3.heap.size:=HE3.out.size
  have hbc:=(((Blk.new w3 45 #[.string (str c.key),.string (str c.val),.int .i64 (c.over:Int),.int .i64 (c.len:Int)]).alloc (.cells #[.int .i64 (st.id:Int),.bool true,.slice (some ⟨cb,co,none⟩) nl ad.c1,.slice ad.A2 st.n.keys.length ad.c2,.slice ad.A3 st.n.kids.length ad.c3,.int .i64 (si:Int)] 125)).ext hx5 (fun h=>by
   have h1:w3.heap.size < w.heap.size:=HO.out _ h
   omega))
  have hbs:=((Blk.new_at (b:=w3.heap.size + 1) (w3.alloc (.cells #[.string (str c.key),.string (str c.val),.int .i64 (c.over:Int),.int .i64 (c.len:Int)] 45)) 125 #[.int .i64 (st.id:Int),.bool true,.slice (some ⟨cb,co,none⟩) nl ad.c1,.slice ad.A2 st.n.keys.length ad.c2,.slice ad.A3 st.n.kids.length ad.c3,.int .i64 (si:Int)] (by simp)).ext hx5 (fun h=>by
   have h1:w3.heap.size + 1 < w.heap.size:=HO.out _ h
   omega))
  have hE5:=(HE3.out.trans_ HEW.out.of_no).trans_ hx5
  have hx5':Ext (Old w) _ w5:=hx5.mono fun b _ hb=>HO.out b hb
  have HPUT:=Lib.hid (grow_put s hs w w5 v5 hT5 hG5 gx i (HX0.out _ hE5) ws st HST.out c HCF.out _ cap l HL.out ((HWA3.out.ext HEW.out.of_no).ext hx5') ad ((HN.out.ext HEW.out.of_no).ext hx5') HLS.out.ok HLS.out.lf HO.out hE5 (HGR.out (by trivial)))
  have hPV:st.n.value ad.A1 ad.c1 ad.A2 ad.c2 ad.A3 ad.c3 = .agg #[.bool true,.slice (some ⟨cb,co,none⟩) nl ad.c1,.slice ad.A2 st.n.keys.length ad.c2,.slice ad.A3 st.n.kids.length ad.c3]:=by
   rw [HNL.out,← HA1.out,← HLS.out.lf];rfl
  rw [hPV,HWL.out] at HPUT
  simp only [Cell.agg] at HPUT
  clear k0 k1 k2 k3 q0 q1 q2 q3 q4 q5 lb lc
  obtain ⟨p0,p1,p2,p3,g0,g1,g2,g3,ln⟩:=hbc.p4
  obtain ⟨z0,z1,z2,z3,z4,z5,lz⟩:=hbs.p6
  clear hT5 hG5 hx5 hE5 hx5' hPV hbc hbs
  go_wp2_with fail
  refine HPUT.out.mono ?_
  rintro e w8 ⟨a,rfl,HG8⟩
  have HG8:=Lib.hid HG8
  go_wp2_with fail
  refine HG8.out.mono ?_
  rintro e w9 ⟨rfl,hT9,hG9,hx9⟩
  go_wp2_with fail
  go_ret
  exact ⟨rfl,hT9,hG9,hx9⟩
 ·have hk':((k5:Int) != 0) = true:=by simpa using (by omega:¬ (k5:Int) = 0)
  rw [if_pos hk0]
  clear hk0
  go_enter Tryz.func62,Tryz.ntmps62
  go_wp2_with fail
  refine (HW.out).mono ?_
  rintro e' w2 ⟨hx2,A,cap,l,hl,rfl,hWA⟩
  have HL:=Lib.hid hl
  have HWA:=Lib.hid hWA
  rw [HWL.out]
  clear hl hWA
  go_wp2_with fail
  refine (HM.out _ hx2).mono ?_
  rintro e' w3 ⟨rfl,hT,hG,hx3⟩
  have hWA3:=HWA.out.ext (hx3.mono fun b _ hb=>HO.out b hb)
  have HE3:=Lib.hid (hx2.of_no.trans_ hx3)
  have HT:=Lib.hid hT;have HG:=Lib.hid hG
  obtain ⟨ad,b,o,rfl,hL⟩:=Lst.of HWO.out HWL.out HST.out HL.out hWA3
  obtain ⟨q0,q1,q2,q3,q4,q5⟩:=And.intro hL.q0 (And.intro hL.q1 (And.intro hL.q2 (And.intro hL.q3 (And.intro hL.q4 hL.q5))))
  have lb:=hL.lb
  have hcap:=hL.hcap
  have hcl1:=hL.hcl1
  have hb1:=hL.hb1
  have hnode:=hL.node
  obtain ⟨cb,co,hA1,hcF,k0,k1,k2,k3⟩:=hnode.cells.cellAt HD.out
  have lc:=World.block_lt_of_cell? w3 _ k0
  simp only at lc
  have HLS:=Lib.hid hL;have HA1:=Lib.hid hA1;have HWA3:=Lib.hid hWA3
  have HN:=Lib.hid hnode
  rw [hA1] at q2
  have hlt'':st.i < ad.c1:=by have:=HLT.out;omega
  obtain ⟨nl,hnl⟩:∃ nl,nl = st.n.cells.length:=⟨_,rfl⟩
  obtain ⟨si,hsi⟩:∃ si,si = st.i:=⟨_,rfl⟩
  rw [← hnl] at q2 hlti hb1 hcl1
  rw [← hsi] at q5 k0 k1 k2 k3 hlti hlt''
  have HNL:=Lib.hid hnl;have HSI:=Lib.hid hsi
  have hEW:Ext No w3 ((w3.alloc (.cells #[.string (str c.key),.string (str c.val),.int .i64 (c.over:Int),.int .i64 (c.len:Int)] 45)).alloc (.cells #[.int .i64 (st.id:Int),.bool true,.slice (some ⟨cb,co,none⟩) nl ad.c1,.slice ad.A2 st.n.keys.length ad.c2,.slice ad.A3 st.n.kids.length ad.c3,.int .i64 (si:Int)] 125)):=((Ext.refl No w3).alloc _).alloc _
  have HCL:=Lib.hid (HLG.out _ (HT.out.no hs hEW) HG.out (HX0.out _ (HE3.out.trans_ hEW.of_no)))
  have HEW:=Lib.hid hEW
  clear hnl hsi hT hG hx2 hx3 hWA3 hL hnode hA1 hEW hcF
  go_wp2_with fail
  refine HCL.out.mono ?_
  rintro e w5 ⟨rfl,hT5,hG5,hx5⟩
  go_wp2_with fail
  go_ret
  exact ⟨rfl,hT5,hG5,(HE3.out.trans_ HEW.out.of_no).trans_ hx5⟩
end Go.Proofs.YtccnemmlkcmceaaGreatDoor
