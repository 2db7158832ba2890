/- Proofs about the given program, joined out of the texts X5, X6, X7, X8, Y1, Y2, Y3, Y4. -/
import Derived.Test.YtccnemmlkcmceaaGreatDoorHE13
import Derived.Test.YtccnemmlkcmceaaGreatDoorHE20
set_option linter.unusedVariables false
set_option linter.unusedSimpArgs false
set_option maxRecDepth 100000
set_option maxHeartbeats 6400000
namespace Go.Proofs.YtccnemmlkcmceaaGreatDoor
open Go.RowKit
theorem settle_wr (s:Sys) (hs:s.Ok) (w:World) (v:V) (h:TxAt w s v) (hg:v.Good) (gx i:Nat) (hx:Blk w gx 70 (treeCells s i)) (id:Nat) (n:Nd) (F:Nat → Prop) (a:Adr) (hn:NodeIn w F a n) (hf:n.fits) (first:Bool)
  (hc:first = false ∨ (n.leaf = true ∧ 0 < n.cells.length) ∨ 0 < n.keys.length) :
  Calls Tryz.prog 153 #[.pointer (some ⟨gx,0,none⟩),.int .i64 (id:Int),n.value a.A1 a.c1 a.A2 a.c2 a.A3 a.c3,.bool first] w (Did s w (v.settle i id n first)):=by
 have HW:=Lib.hid (fun o=>wr_any s hs (w.alloc o) v (h.no hs ((Ext.refl No w).alloc o)) hg gx i (hx.alloc o) id n F _ _ _ _ _ _ (hn.box o) hf)
 have e:v.settle i id n first = v.wr id n:=by unfold V.settle;rw [if_pos hc]
 rw [e]
 generalize v.wr id n = r at *
 simp only [Nd.value] at HW ⊢
 have hc1:first = false ∨ (n.leaf = true ∧ (0:Int) < (n.cells.length:Int)) ∨ (0:Int) < (n.keys.length:Int):=by
  rcases hc with h | ⟨h,h'⟩ | h
  ·exact .inl h
  ·exact .inr (.inl ⟨h,by omega⟩)
  ·exact .inr (.inr (by omega))
 generalize n.cells.length = cl at *
 generalize n.keys.length = kl at *
 generalize n.kids.length = il at *
 generalize n.leaf = lf at *
 clear e hn hf h hg hx hc
 have HC:=Lib.hid hc1
 clear hc1
 cases first
 ·clear HC
  go_enter Tryz.func153,Tryz.ntmps153
  go_wp2_with fail
  refine (HW.out _).mono ?_
  rintro e w2 ⟨rfl,hT,hG,hx2⟩
  go_wp2_with fail
  go_ret
  exact ⟨rfl,hT,hG,((Ext.refl s.F w).alloc _).trans_ hx2⟩
 ·cases lf
  ·have hk:(0:Int) < kl:=by rcases HC.out with h | ⟨h,_⟩ | h;cases h;cases h;exact h
   clear HC
   go_enter Tryz.func153,Tryz.ntmps153
   go_wp2_with fail
   refine (HW.out _).mono ?_
   rintro e w2 ⟨rfl,hT,hG,hx2⟩
   go_wp2_with fail
   go_ret
   exact ⟨rfl,hT,hG,((Ext.refl s.F w).alloc _).trans_ hx2⟩
  ·by_cases hcl:(0:Int) < cl
   ·clear HC
    go_enter Tryz.func153,Tryz.ntmps153
    go_wp2_with fail
    refine (HW.out _).mono ?_
    rintro e w2 ⟨rfl,hT,hG,hx2⟩
    go_wp2_with fail
    go_ret
    exact ⟨rfl,hT,hG,((Ext.refl s.F w).alloc _).trans_ hx2⟩
   ·have hk:(0:Int) < kl:=by rcases HC.out with h | ⟨_,h⟩ | h;cases h;exact absurd h hcl;exact h
    have hc0:cl = 0:=by omega
    subst hc0
    clear HC hcl
    go_enter Tryz.func153,Tryz.ntmps153
    go_wp2_with fail
    refine (HW.out _).mono ?_
    rintro e w2 ⟨rfl,hT,hG,hx2⟩
    go_wp2_with fail
    go_ret
    exact ⟨rfl,hT,hG,((Ext.refl s.F w).alloc _).trans_ hx2⟩
theorem settle_leaf (s:Sys) (hs:s.Ok) (w:World) (v:V) (h:TxAt w s v) (hg:v.Good) (gx i:Nat) (hx:Blk w gx 70 (treeCells s i)) (hi:i < 4) (id:Nat) (n:Nd) (a:Adr)
  (hlf:n.leaf = true) (hc:n.cells = []) (hk:n.keys = []) :
  Calls Tryz.prog 153 #[.pointer (some ⟨gx,0,none⟩),.int .i64 (id:Int),n.value a.A1 a.c1 a.A2 a.c2 a.A3 a.c3,.bool true] w (Did s w (v.settle i id n true)):=by
 have HF:=Lib.hid (fun o=>free_any s hs (w.alloc o) v (h.no hs ((Ext.refl No w).alloc o)) hg id)
 have HG:=Lib.hid (hg.drop id)
 have HX:=Lib.hid (fun (w':World) (e:Ext s.F w w')=>tree_ext h hx e)
 have HS:=Lib.hid (fun w h=>setroot_any s hs w (v.drop id).2 h i 0 hi (by omega))
 have e:v.settle i id n true = if (v.drop id).1 ≠ 0 then v.drop id else (0,(v.drop id).2.setR i 0):=by
  unfold V.settle;rw [if_neg (by simp [hc,hk])];simp [hlf]
 rw [e]
 have c0:=hx.cell 0
 simp [treeCells] at c0
 have hgl:=hx.lt
 generalize v.drop id = r at *
 obtain ⟨k,v2⟩:=r
 simp only [Nd.value,hlf,hc,hk,List.length_nil] at HF HG HS ⊢
 generalize n.kids.length = il at *
 clear e h hg hx hlf hc hk
 by_cases hk:k = 0
 ·subst hk
  rw [if_neg (by simp)]
  go_enter Tryz.func153,Tryz.ntmps153
  go_wp2_with fail
  refine (HF.out _).mono ?_
  rintro e w2 ⟨rfl,hT,hx2⟩
  have hE2:=((Ext.refl s.F w).alloc (.cells #[.bool true,.slice a.A1 0 a.c1,.slice a.A2 0 a.c2,.slice a.A3 il a.c3] 40)).trans_ hx2
  have hX2:=HX.out _ hE2
  have d0:=hX2.cell 0
  have d1:=hX2.cell 1
  simp [treeCells] at d0 d1
  have HSR:=Lib.hid (HS.out w2.drew (hT.no hs (Ext.refl No w2).drew))
  have HE2:=Lib.hid hE2
  clear hT hx2 hE2 hX2
  go_wp2_with fail
  go_region_law ((go_simp;go_at_call 21;refine (HSR.out).mono ?_;rintro e w7 ⟨rfl,hT7,hx7⟩;have HT7:=Lib.hid hT7;have HX7:=Lib.hid hx7;clear hT7 hx7))
  all_goals (
   go_wp2_with fail
   go_ret
   exact ⟨rfl,HT7.out,HG.out.setR _ _,HE2.out.drew.trans_ HX7.out⟩)
 ·rw [if_pos hk]
  have hk':((k:Int) != 0) = true:=by simpa using (by omega:¬ (k:Int) = 0)
  clear hk
  go_enter Tryz.func153,Tryz.ntmps153
  go_wp2_with fail
  refine (HF.out _).mono ?_
  rintro e w2 ⟨rfl,hT,hx2⟩
  go_wp2_with fail
  go_ret
  exact ⟨rfl,hT,HG.out,((Ext.refl s.F w).alloc _).trans_ hx2⟩
def ShrinkOk (s:Sys) (root:Nat) (v:V) (ws:List Stp) (n:Nd):Prop :=
 ∀ (w:World) (gx:Nat) (F:Nat → Prop) (A:Option Addr) (cap:Nat) (l:List (Stp × Adr)) (a:Adr),TxAt w s v → v.Good → Blk w gx 70 (treeCells s root) → (∀ b,s.F b → F b) → WayAt w F A cap l → l.map (·.1) = ws → NodeIn w F a n → n.fits →
  Calls Tryz.prog 102 #[.pointer (some ⟨gx,0,none⟩),.slice A ws.length cap,n.value a.A1 a.c1 a.A2 a.c2 a.A3 a.c3] w (Did s w (V.shrink s.cap root ws.reverse n v))
theorem shrink_one (s:Sys) (hs:s.Ok) (root:Nat) (hroot:root < 4) (v:V) (st:Stp) (n:Nd) (hlf:n.leaf = true) (hks:n.keys = []):ShrinkOk s root v [st] n:=by
 intro w gx F A cap l a h hg hx hF hWA hlw hn hf
 have e:V.shrink s.cap root [st].reverse n v = v.settle root st.id n true:=rfl
 rw [e]
 obtain ⟨p,hp,hlast⟩:=last_of (m:=0) hlw rfl
 obtain ⟨st',ad⟩:=p
 have:st' = st:=by simpa using hlast.symm
 subst this
 obtain ⟨b,o,hA,hbF,q0,q1,q2,q3,q4,q5⟩:=hWA.at hp
 simp only [Nat.zero_mul,Nat.add_zero] at q0
 subst hA
 have lb:=World.block_lt_of_cell? w _ q0
 simp only at lb
 have hcap:1 ≤ cap:=by
  have:=hWA.cap
  have h2:l.length = 1:=by have:=congrArg List.length hlw;simpa using this
  omega
 have HS:Hid (∀ o,Calls Tryz.prog 153 #[.pointer (some ⟨gx,0,none⟩),.int .i64 (st'.id:Int),n.value a.A1 a.c1 a.A2 a.c2 a.A3 a.c3,.bool true] (w.alloc o).drew (Did s (w.alloc o).drew (v.settle root st'.id n true))):=Lib.hid (fun o=>by
  have hE:Ext No w (w.alloc o).drew:=((Ext.refl No w).alloc o).drew
  by_cases hc:n.cells = []
  ·exact settle_leaf s hs _ v (h.no hs hE) hg gx root (hx.ext hE (fun h=>h)) hroot st'.id n a hlf hc hks
  ·exact settle_wr s hs _ v (h.no hs hE) hg gx root (hx.ext hE (fun h=>h)) st'.id n F a (hn.ext hE.of_no) hf true (.inr (.inl ⟨hlf,List.length_pos_iff.2 hc⟩)))
 generalize v.settle root st'.id n true = r at *
 simp only [Nd.value,List.length_singleton] at HS ⊢
 generalize n.cells.length = cl at *
 generalize n.keys.length = kl at *
 generalize n.kids.length = il at *
 generalize n.leaf = lf at *
 generalize st'.id = sid at *
 clear e hlast hp hWA hlw hn hf hx hg h q1 q2 q3 q4 q5 hbF hlf hks
 go_enter Tryz.func102,Tryz.ntmps102
 go_wp2_with fail
 go_step3
 go_wp2_with fail
 go_step3
 go_wp2_with fail
 go_loopg [1,7] 0 (fun gk ww k wr=>ww = .slice (some ⟨b,o,none⟩) 1 cap ∧ k = .int .i64 0 ∧ wr = w.alloc (.cells #[.bool lf,.slice a.A1 cl a.c1,.slice a.A2 kl a.c2,.slice a.A3 il a.c3] 40))
 case atStart=>exact ⟨rfl,by go_num,rfl⟩
 case round =>
  obtain ⟨rfl,rfl,rfl⟩:=hrel
  have bn:=Blk.new w 40 #[.bool lf,.slice a.A1 cl a.c1,.slice a.A2 kl a.c2,.slice a.A3 il a.c3]
  obtain ⟨p0,p1,p2,p3,g0,g1,g2,g3,ln⟩:=bn.p4
  have q0':=cell_ext ((Ext.refl No w).alloc (.cells #[.bool lf,.slice a.A1 cl a.c1,.slice a.A2 kl a.c2,.slice a.A3 il a.c3] 40)) q0 (fun h=>h)
  have HE0:=Lib.hid (((Ext.refl s.F w).alloc (.cells #[.bool lf,.slice a.A1 cl a.c1,.slice a.A2 kl a.c2,.slice a.A3 il a.c3] 40)).drew)
  have hw0:IntKind.i64.wrap 0 = 0:=rfl
  clear q0 bn
  go_wp2_with fail
  go_region_law ((go_simp;go_at_call 153;refine (HS.out _).mono ?_;rintro e w2 ⟨rfl,hT,hG,hx2⟩;have HT:=Lib.hid hT;have HG:=Lib.hid hG;have HX:=Lib.hid hx2;clear hT hG hx2))
  all_goals (
   go_wp2_with fail
   try rw [Exit.noGoto_ret]
   go_ret
   exact ⟨rfl,HT.out,HG.out,HE0.out.trans_ HX.out⟩)
def DidB (s:Sys) (w:World) (r:Bool × Nat × V) (e:Ending) (w':World):Prop:=e = .returned (.tuple #[.bool r.1,.int .i64 (r.2.1:Int)]) ∧ TxAt w' s r.2.2 ∧ r.2.2.Good ∧ Ext s.F w w'
structure Lst (w w2:World) (ws:List Stp) (m:Nat) (key:Bs) (st:Stp) (ad:Adr) (b o cap:Nat) (l:List (Stp × Adr)):Prop where
 hl:l.map (·.1) = ws
 lf:st.n.leaf = true
 ok:st.n.ok = true
 ile:st.i ≤ st.n.cells.length
 q0:w2.cell? ⟨b,o + m * 6,none⟩ = some (.int .i64 (st.id:Int))
 q1:w2.cell? ⟨b,o + m * 6 + 1,none⟩ = some (.bool true)
 q2:w2.cell? ⟨b,o + m * 6 + 2,none⟩ = some (.slice ad.A1 st.n.cells.length ad.c1)
 q3:w2.cell? ⟨b,o + m * 6 + 3,none⟩ = some (.slice ad.A2 st.n.keys.length ad.c2)
 q4:w2.cell? ⟨b,o + m * 6 + 4,none⟩ = some (.slice ad.A3 st.n.kids.length ad.c3)
 q5:w2.cell? ⟨b,o + m * 6 + 5,none⟩ = some (.int .i64 (st.i:Int))
 lb:b < w2.heap.size
 hcap:m + 1 ≤ cap
 hcl1:st.n.cells.length ≤ ad.c1
 hb1:st.n.cells.length < 65536
 node:NodeIn w2 (Old w) ad st.n
 way:WayAt w2 (Old w) (some ⟨b,o,none⟩) cap l
theorem Lst.of {v:V} {key:Bs} {w w2:World} {ws:List Stp} {m:Nat} {st:Stp} {A:Option Addr} {cap:Nat} {l:List (Stp × Adr)} (hWO:WayOk v key ws) (hwl:ws.length = m + 1) (hst:ws.getLast? = some st) (hl:l.map (·.1) = ws)
  (hWA:WayAt w2 (Old w) A cap l):∃ ad b o,A = some ⟨b,o,none⟩ ∧ Lst w w2 ws m key st ad b o cap l:=by
 obtain ⟨p,hp,hlast⟩:=last_of hl hwl
 obtain ⟨st',ad⟩:=p
 have:st' = st:=by rw [hlast] at hst;simpa using hst
 subst this
 obtain ⟨b,o,hA,hbF,q0,q1,q2,q3,q4,q5⟩:=hWA.at hp
 have hnode:=hWA.nodes (st',ad) (List.mem_of_getElem? hp)
 simp only at q0 q1 q2 q3 q4 q5 hnode
 have hlf:=hWO.last st' hlast
 obtain ⟨hnd,hsi⟩:=hWO.all st' (List.mem_of_getLast? hlast)
 have hok:=V.node_ok hnd
 have hile:st'.i ≤ st'.n.cells.length:=by rw [hsi];exact (Nd.find_le hok key).1 hlf
 rw [hlf] at q1
 subst hA
 refine ⟨ad,b,o,rfl,hl,hlf,hok,hile,q0,q1,q2,q3,q4,q5,World.block_lt_of_cell? w2 _ q0,?_,hnode.l1,hnode.b1,hnode,hWA⟩
 have:=hWA.cap
 have h2:l.length = m + 1:=by rw [← hwl,← hl,List.length_map]
 omega
theorem Nd.cut_fits {n:Nd} {i:Nat} (h:n.fits):(n.cut i).fits:=by
 refine ⟨fun d hd=>?_,h.k,h.i⟩
 simp only [Nd.cut] at hd
 rcases List.mem_append.1 hd with hd | hd
 ·exact h.c d (List.mem_of_mem_take hd)
 ·exact h.c d (List.mem_of_mem_drop hd)
theorem shrink_cut (s:Sys) (hs:s.Ok) (w wT:World) (v:V) (hT:TxAt wT s v) (hg:v.Good) (gx i:Nat) (hx:Blk wT gx 70 (treeCells s i)) (ws:List Stp) (st:Stp) (j:Nat) (hj:j < st.n.cells.length)
  (A:Option Addr) (cap:Nat) (l:List (Stp × Adr)) (hl:l.map (·.1) = ws) (hWA:WayAt wT (Old w) A cap l) (ad:Adr) (hn:NodeIn wT (Old w) ad st.n) (hok:st.n.ok = true) (hlf:st.n.leaf = true) (hO:∀ b,s.F b → Old w b) (hE:Ext s.F w wT)
  (hG:ShrinkOk s i v ws (st.n.cut j)) :
  Calls Tryz.prog 103 #[st.n.value ad.A1 ad.c1 ad.A2 ad.c2 ad.A3 ad.c3,.int .i64 (j:Int)] wT fun e w8=>∃ a:Adr,e = .returned ((st.n.cut j).value a.A1 a.c1 a.A2 a.c2 a.A3 a.c3) ∧
   Calls Tryz.prog 102 #[.pointer (some ⟨gx,0,none⟩),.slice A ws.length cap,(st.n.cut j).value a.A1 a.c1 a.A2 a.c2 a.A3 a.c3] w8 (Did s w (V.shrink s.cap i ws.reverse (st.n.cut j) v)):=by
 have hOk:=Nd.Ok.of hok
 obtain ⟨h1,h2⟩:=hOk.lf hlf
 refine (cut_any st.n j wT (Old w) _ _ _ _ _ _ hn hlf h1 h2 hj (by have:=hOk.a1;omega)).mono ?_
 rintro e w8 ⟨hx8,A1,c1,A2,c2,A3,c3,rfl,hn8⟩
 have hsz:=hE.size
 refine ⟨⟨A1,c1,A2,c2,A3,c3⟩,rfl,?_⟩
 refine (hG w8 gx (Old w) A cap l ⟨A1,c1,A2,c2,A3,c3⟩ (hT.no hs hx8) hg (hx.ext hx8 (fun h=>h)) hO (hWA.ext hx8.of_no) hl (hn8.mono (fun b _ hb=>Nat.lt_of_lt_of_le hb hsz)) (Nd.cut_fits (Nd.Ok.fits hOk))).mono ?_
 rintro e w9 ⟨he,hT9,hG9,hx9⟩
 exact ⟨he,hT9,hG9,(hE.trans_ hx8.of_no).trans_ hx9⟩
theorem del0_hit (s:Sys) (hs:s.Ok) (w:World) (v:V) (h:TxAt w s v) (hg:v.Good) (gx i:Nat) (hx:Blk w gx 70 (treeCells s i)) (hi:i < 4) (key:Bs) (ws:List Stp) (hw:v.way i key = some ws) (st:Stp) (hst:ws.getLast? = some st) (c:Cell) (hh:hit ws key = some c)
  (hSh:(v.letGo c).1 = 0 → ShrinkOk s i (v.letGo c).2 ws (st.n.cut st.i)) :
  Calls Tryz.prog 63 #[.pointer (some ⟨gx,0,none⟩),.string (str key)] w (DidB s w (if (v.letGo c).1 ≠ 0 then (false,v.letGo c) else (true,V.shrink s.cap i ws.reverse (st.n.cut st.i) (v.letGo c).2))):=by
 have HW:=Lib.hid (way_any s hs w v h hg gx i hx hi key)
 have HLG:=Lib.hid (fun w' (e:Ext No w w')=>letgo_any s hs w' v (h.no hs e) hg gx i (hx.ext e (fun h=>h)) c)
 have HX0:=Lib.hid (fun (w':World) (e:Ext s.F w w')=>tree_ext h hx e)
 have HO:=Lib.hid (Old.of h)
 have HSH:=Lib.hid hSh
 have HWO:=Lib.hid (way_ok hw)
 have HST:=Lib.hid hst
 rw [hw] at HW
 have hwl:∃ m,ws.length = m + 1:=by cases hz:ws.length <;> simp_all
 obtain ⟨m,hwl⟩:=hwl
 have hm41:m ≤ 40:=by have:=HWO.out.len;omega
 have HWL:=Lib.hid hwl
 have hhit:=hit_eq hst key
 rw [hh] at hhit
 have hlt:st.i < st.n.cells.length:=by
  rcases Nat.lt_or_ge st.i st.n.cells.length with h | h
  ·exact h
  ·rw [List.getElem?_eq_none h] at hhit;cases hhit
 obtain ⟨d,hd⟩:∃ d,st.n.cells[st.i]? = some d:=⟨_,List.getElem?_eq_getElem hlt⟩
 rw [hd] at hhit
 simp only at hhit
 have hdk:d = c ∧ d.key = key:=by
  by_cases hk:d.key = key
  ·rw [if_pos hk] at hhit;exact ⟨by injection hhit with h;exact h.symm,hk⟩
  ·rw [if_neg hk] at hhit;cases hhit
 obtain ⟨rfl,hk⟩:=hdk
 have hbk:(d.key == key) = true:=by simpa using hk
 have hnei:¬ ((st.i:Int) = (st.n.cells.length:Int)):=by omega
 have HD:=Lib.hid hd;have HLT:=Lib.hid hlt
 obtain ⟨r,hr⟩:∃ r,r = v.letGo d:=⟨_,rfl⟩
 rw [← hr] at HSH HLG ⊢
 obtain ⟨k,v2⟩:=r
 simp only [Cell.agg] at HLG HSH ⊢
 clear h hg hx hw hSh hst hh hwl hhit hd hlt hk hr
 by_cases hk0:k = 0
 ·subst hk0
  rw [if_neg (by simp)]
  go_enter Tryz.func63,Tryz.ntmps63
  go_wp2_with fail
  refine (HW.out).mono ?_
  rintro e' w2 ⟨hx2,A,cap,l,hl,rfl,hWA⟩
  rw [HWL.out]
  obtain ⟨ad,b,o,rfl,hL⟩:=Lst.of HWO.out HWL.out HST.out hl hWA
  obtain ⟨q0,q1,q2,q3,q4,q5⟩:=And.intro hL.q0 (And.intro hL.q1 (And.intro hL.q2 (And.intro hL.q3 (And.intro hL.q4 hL.q5))))
  have lb:=hL.lb
  have hcap:=hL.hcap
  have hcl1:=hL.hcl1
  have hb1:=hL.hb1
  have hnode:=hL.node
  obtain ⟨cb,co,hA1,hcF,k0,k1,k2,k3⟩:=hnode.cells.cellAt HD.out
  have lc:=World.block_lt_of_cell? w2 _ k0
  simp only at lc
  have HX2:=Lib.hid hx2;have HL:=Lib.hid hL;have HA1:=Lib.hid hA1;have HWA:=Lib.hid hWA;have HLL:=Lib.hid hl
  have HN:=Lib.hid hnode
  rw [hA1] at q2
  have hlt':(st.i:Int) < (st.n.cells.length:Int):=by have:=HLT.out;omega
  have hlt'':st.i < ad.c1:=by have:=HLT.out;omega
  obtain ⟨kk0,kk1,kk2,kk3⟩:=And.intro k0 (And.intro k1 (And.intro k2 k3))
  clear hl hWA hL hx2 hnode hA1
  obtain ⟨nl,hnl⟩:∃ nl,nl = st.n.cells.length:=⟨_,rfl⟩
  obtain ⟨si,hsi⟩:∃ si,si = st.i:=⟨_,rfl⟩
  rw [← hnl] at q2 hlt' hnei hb1 hcl1
  rw [← hsi] at q5 k0 k1 k2 k3 hlt' hlt'' hnei
  have HNL:=Lib.hid hnl;have HSI:=Lib.hid hsi
  clear hnl hsi kk0 kk1 kk2 kk3
  go_wp2_with fail
  refine (HLG.out _ (HX2.out.alloc _)).mono ?_
  rintro e w5 ⟨rfl,hT5,hG5,hx5⟩
  have hEa:Ext No w2 (w2.alloc (.cells #[.int .i64 (st.id:Int),.bool true,.slice (some ⟨cb,co,none⟩) nl ad.c1,.slice ad.A2 st.n.keys.length ad.c2,.slice ad.A3 st.n.kids.length ad.c3,.int .i64 (si:Int)] 125)):=(Ext.refl No w2).alloc _
  have hE5:=(HX2.out.trans_ hEa).of_no.trans_ hx5
  have hx5':Ext (Old w) _ w5:=hx5.mono fun b _ hb=>HO.out b hb
  have hPUT:=shrink_cut s hs w w5 v2 hT5 hG5 gx i (HX0.out _ hE5) ws st st.i HLT.out _ cap l HLL.out ((HWA.out.ext hEa.of_no).ext hx5') ad ((HN.out.ext hEa.of_no).ext hx5') HL.out.ok HL.out.lf HO.out hE5 (HSH.out (by trivial))
  have hPV:st.n.value ad.A1 ad.c1 ad.A2 ad.c2 ad.A3 ad.c3 = .agg #[.bool true,.slice (some ⟨cb,co,none⟩) nl ad.c1,.slice ad.A2 st.n.keys.length ad.c2,.slice ad.A3 st.n.kids.length ad.c3]:=by
   rw [HNL.out,← HA1.out,← HL.out.lf];rfl
  rw [hPV,HWL.out,← HSI.out] at hPUT
  have HPUT:=Lib.hid hPUT
  have bn5:=(Blk.new w2 125 #[.int .i64 (st.id:Int),.bool true,.slice (some ⟨cb,co,none⟩) nl ad.c1,.slice ad.A2 st.n.keys.length ad.c2,.slice ad.A3 st.n.kids.length ad.c3,.int .i64 (si:Int)]).ext hx5 (fun h=>by
   have h1:w2.heap.size < w.heap.size:=HO.out _ h
   have:=HX2.out.size
   omega)
  obtain ⟨z0,z1,z2,z3,z4,z5,lz⟩:=bn5.p6
  clear hT5 hG5 hx5 hEa hE5 hx5' hPUT hPV bn5
  go_wp2_with fail
  refine HPUT.out.mono ?_
  rintro e w8 ⟨a,rfl,HG8⟩
  have HG8:=Lib.hid HG8
  go_wp2_with fail
  refine HG8.out.mono ?_
  rintro e w9 ⟨rfl,hT9,hG9,hx9⟩
  go_wp2_with fail
  go_ret2
  rw [← HSI.out]
  exact ⟨rfl,hT9,hG9,hx9⟩
 ·have hk':((k:Int) != 0) = true:=by simpa using (by omega:¬ (k:Int) = 0)
  rw [if_pos hk0]
  clear hk0
  go_enter Tryz.func63,Tryz.ntmps63
  go_wp2_with fail
  refine (HW.out).mono ?_
  rintro e' w2 ⟨hx2,A,cap,l,hl,rfl,hWA⟩
  rw [HWL.out]
  obtain ⟨ad,b,o,rfl,hL⟩:=Lst.of HWO.out HWL.out HST.out hl hWA
  obtain ⟨q0,q1,q2,q3,q4,q5⟩:=And.intro hL.q0 (And.intro hL.q1 (And.intro hL.q2 (And.intro hL.q3 (And.intro hL.q4 hL.q5))))
  have lb:=hL.lb
  have hcap:=hL.hcap
  have hcl1:=hL.hcl1
  have hb1:=hL.hb1
  have hnode:=hL.node
  obtain ⟨cb,co,hA1,hcF,k0,k1,k2,k3⟩:=hnode.cells.cellAt HD.out
  have lc:=World.block_lt_of_cell? w2 _ k0
  simp only at lc
  have HX2:=Lib.hid hx2;have HL:=Lib.hid hL;have HA1:=Lib.hid hA1;have HWA:=Lib.hid hWA;have HLL:=Lib.hid hl
  have HN:=Lib.hid hnode
  rw [hA1] at q2
  have hlt':(st.i:Int) < (st.n.cells.length:Int):=by have:=HLT.out;omega
  have hlt'':st.i < ad.c1:=by have:=HLT.out;omega
  obtain ⟨kk0,kk1,kk2,kk3⟩:=And.intro k0 (And.intro k1 (And.intro k2 k3))
  clear hl hWA hL hx2 hnode hA1
  obtain ⟨nl,hnl⟩:∃ nl,nl = st.n.cells.length:=⟨_,rfl⟩
  obtain ⟨si,hsi⟩:∃ si,si = st.i:=⟨_,rfl⟩
  rw [← hnl] at q2 hlt' hnei hb1 hcl1
  rw [← hsi] at q5 k0 k1 k2 k3 hlt' hlt'' hnei
  have HNL:=Lib.hid hnl;have HSI:=Lib.hid hsi
  clear hnl hsi kk0 kk1 kk2 kk3
  go_wp2_with fail
  refine (HLG.out _ (HX2.out.alloc _)).mono ?_
  rintro e w5 ⟨rfl,hT5,hG5,hx5⟩
  go_wp2_with fail
  go_ret2
  exact ⟨rfl,hT5,hG5,(HX2.out.alloc _).of_no.trans_ hx5⟩
theorem Del_of (s:Sys) (hs:s.Ok) (w:World) (v:V) (h:TxAt w s v) (gx i:Nat) (hx:Blk w gx 70 (treeCells s i)) (key:Bs) (hm:may key [] = 0)
  (hP:∀ w',Ext No w w' → Calls Tryz.prog 63 #[.pointer (some ⟨gx,0,none⟩),.string (str key)] w' (DidB s w' (v.del0 s.cap i key))) :
  Calls Tryz.prog 27 #[.pointer (some ⟨gx,0,none⟩),.string (str key)] w (DidB s w (v.Del s.cap i key)):=by
 have HM:=Lib.hid (may_any s hs w v h gx i hx key [])
 have HP:=Lib.hid hP
 have HX:=Lib.hid (fun (w':World) (e:Ext s.F w w')=>tree_ext h hx e)
 have e:v.Del s.cap i key = if (v.del0 s.cap i key).2.1 = 0 then v.del0 s.cap i key else (false,(v.del0 s.cap i key).2.1,(v.del0 s.cap i key).2.2.spoil):=by simp [V.Del,hm,V.spoil]
 rw [e]
 rw [hm] at HM
 obtain ⟨r,hr⟩:∃ r,r = v.del0 s.cap i key:=⟨_,rfl⟩
 rw [← hr] at HP ⊢
 clear h hx hm hP e hr
 obtain ⟨b,k,v2⟩:=r
 by_cases hk:k = 0
 ·subst hk
  rw [if_pos rfl]
  have HS:=Lib.hid (sure_ok (.pointer (some ⟨gx,0,none⟩)))
  go_enter Tryz.func27,Tryz.ntmps27
  go_wp2_with fail
  refine (HM.out).mono ?_
  rintro e' w1 ⟨rfl,hx1⟩
  go_wp2_with fail
  refine (HP.out _ hx1).mono ?_
  rintro e' w2 ⟨rfl,hT,hG,hx2⟩
  go_wp2_with fail
  refine (HS.out _).mono ?_
  rintro e' w3 ⟨rfl,rfl⟩
  go_wp2_with fail
  go_ret2
  exact ⟨rfl,hT,hG,hx1.of_no.trans_ hx2⟩
 ·rw [if_neg hk]
  have hk':((k:Int) != 0) = true:=by simpa using (by omega:¬ (k:Int) = 0)
  have HS:=Lib.hid (fun w' (hT:TxAt w' s v2) hX=>sure_bad s hs w' v2 hT gx i hX k hk)
  clear hk
  go_enter Tryz.func27,Tryz.ntmps27
  go_wp2_with fail
  refine (HM.out).mono ?_
  rintro e' w1 ⟨rfl,hx1⟩
  go_wp2_with fail
  refine (HP.out _ hx1).mono ?_
  rintro e' w2 ⟨rfl,hT,hG,hx2⟩
  go_wp2_with fail
  refine (HS.out _ hT (HX.out _ (hx1.of_no.trans_ hx2))).mono ?_
  rintro e' w3 ⟨rfl,hT3,hx3⟩
  go_wp2_with fail
  go_ret2
  exact ⟨rfl,hT3,hG.spoil,(hx1.of_no.trans_ hx2).trans_ hx3⟩
theorem in_any (k low high:Bs) (w:World) (bl bh:Nat) (h1:w.cell? ⟨bl,0,none⟩ = some (.string (str low))) (h2:w.cell? ⟨bh,0,none⟩ = some (.string (str high))) :
  Calls Tryz.prog 134 #[.string (str k),.pointer (some ⟨bl,0,none⟩),.pointer (some ⟨bh,0,none⟩)] w fun e w'=>e = .returned (.bool (inB low high k)) ∧ w = w':=by
 unfold inB
 cases ha:klt k low
 ·cases high with
  | nil =>
   go_enter Tryz.func134,Tryz.ntmps134
   go_wp2_with fail
   go_ret
   exact ⟨rfl,rfl⟩
  | cons x high =>
   have hne:(x :: high).isEmpty = false:=rfl
   generalize x :: high = hh at *
   go_enter Tryz.func134,Tryz.ntmps134
   go_wp2_with fail
   go_ret
   exact ⟨ret_bool (by simp [hne]),rfl⟩
 ·go_enter Tryz.func134,Tryz.ntmps134
  go_wp2_with fail
  go_ret
  exact ⟨rfl,rfl⟩
theorem look_small (s:Sys) (hs:s.Ok) (wz w:World) (v:V) (hz:TxAt wz s v) (hg:v.Good) (gx i:Nat) (hxz:Blk wz gx 70 (treeCells s i)) (hez:Ext No wz w) (gs id:Nat) (hgs:wz.heap.size ≤ gs) (hsv:Blk w gs 118 #[.int .i64 0,.int .i64 (-1)]) (n:Nd) (hn:v.node id = some n)
  (hlf:n.leaf = true) (hc0:n.cells ≠ []) (hc:∀ c ∈ n.cells,c.over = 0) :
  Calls Tryz.prog 94 #[.pointer (some ⟨gx,0,none⟩),.pointer (some ⟨gs,0,none⟩),.int .i64 (id:Int),.int .i64 0,.string (str []),.string (str [])] w fun e w'=>e = .returned (.int .i64 0) ∧
   Blk w' gs 118 #[.int .i64 1,.int .i64 0] ∧ Ext (On gs) w w':=by
 have h:=hz.no hs hez
 have hx:=hxz.ext hez (fun h=>h)
 have HN:=Lib.hid (fun w' (e:Ext No w w')=>node_any s hs w' v (h.no hs e) hg gx i (hx.ext e (fun h=>h)) id)
 have HIN:=Lib.hid (fun k w bl bh h1 h2=>in_any k [] [] w bl bh h1 h2)
 have hin:∀ k,inB [] [] k = true:=by intro k;simp [inB,klt_nil_right]
 have HV:=Lib.hid (fun c (hc1:c ∈ n.cells) w' (hT:TxAt w' s v) (hX:Blk w' gx 70 (treeCells s i))=>value_small s v c (hc c hc1) w' gx i hT hX)
 have hpos:(0:Int) < (n.cells.length:Int):=by have:=List.length_pos_iff.2 hc0;omega
 have hok:=V.node_ok hn
 have hOk:=Nd.Ok.of hok
 have hb255:=hOk.a1
 have hofft:¬ (gs = s.t):=fun e=>(hsv.ne_ h.tx (by decide)) e
 rw [hn] at HN
 have HT:=Lib.hid (fun w' (e:Ext No w w')=>h.no hs e)
 have HX:=Lib.hid (fun w' (e:Ext No w w')=>hx.ext e (fun h=>h))
 have HSV:=Lib.hid hsv
 have HC:=Lib.hid hc
 have HLF:=Lib.hid hlf
 simp only [hin] at HIN
 clear h hg hx hn hc hc0 hok hOk hsv
 go_enter Tryz.func94,Tryz.ntmps94
 go_wp2_with fail
 refine (HN.out _ (by (repeat' (first | exact Ext.refl _ _ | assumption | apply Ext.alloc | apply Ext.drewN | apply Ext.drew | refine Ext.setNew ?_ (by first | omega | (simp;omega) | simp) _ _ | refine Ext.setF ?_ (by first | exact Or.inl rfl | exact Or.inr rfl | rfl) _ _ | refine Ext.trans_ ?_ (by assumption) | refine Ext.trans_ ?_ (Ext.of_no (by assumption)))))).mono ?_
 rintro e w1 ⟨hx1,A1,c1,A2,c2,A3,c3,rfl,hnode⟩
 have hE1:Ext No w w1:=(((Ext.refl No w).alloc _).alloc _).trans_ hx1
 have hsv1:=HSV.out.ext hE1 (fun h=>h)
 have s0:=hsv1.cell 0
 have s1:=hsv1.cell 1
 have sf:=hsv1.frozen
 have sl:=hsv1.lt
 simp at s0 s1
 have hlow:=(Blk.new w 9 #[.string (str [])]).alloc (.cells #[.string (str [])] 9)
 have hlow1:=hlow.ext hx1 (fun h=>h)
 have hhigh1:=(Blk.new_at (b:=w.heap.size + 1) (w.alloc (.cells #[.string (str [])] 9)) 9 #[.string (str [])] (by simp)).ext hx1 (fun h=>h)
 simp only [Nd.value,hlf]
 go_wp2_with fail
 obtain ⟨W1,hW1⟩:∃ W1,W1 = w1.setCell ⟨gs,0,none⟩ (.int .i64 1):=⟨_,rfl⟩
 have hWs:W1.heap.size = w1.heap.size:=by rw [hW1];simp [World.setCell]
 have hEg:Ext (On gs) w1 W1:=by rw [hW1];exact (Ext.refl (On gs) w1).setF (b:=gs) rfl _ _
 have gold:gs < w.heap.size:=HSV.out.lt
 have hoff:∀ b,w.heap.size ≤ b → ¬ On gs b:=fun b hb e=>by
  have e':b = gs:=e
  omega
 obtain ⟨o,ho⟩:∃ o,o = Obj.cells #[.bool true,.slice A1 n.cells.length c1,.slice A2 n.keys.length c2,.slice A3 n.kids.length c3] 40:=⟨_,rfl⟩
 have hEa:Ext No W1 (W1.alloc o):=(Ext.refl No W1).alloc o
 have hb2:Blk (W1.alloc o) gs 118 #[.int .i64 1,.int .i64 (-1)]:=by rw [hW1];exact (hsv1.set_ 0 _).alloc _
 have hl2:=(hlow1.ext hEg (hoff _ (Nat.le_refl _))).ext hEa (fun h=>h)
 have hh2:=(hhigh1.ext hEg (hoff _ (Nat.le_succ _))).ext hEa (fun h=>h)
 have hbn2:Blk (W1.alloc o) w1.heap.size 40 #[.bool true,.slice A1 n.cells.length c1,.slice A2 n.keys.length c2,.slice A3 n.kids.length c3]:=by rw [ho,← hWs];exact Blk.new W1 40 _
 have hno2:NodeAt (W1.alloc o) (On gs) A1 c1 A2 c2 A3 c3 n:=((hnode.mono (G:=On gs) (fun b _ hb=>by
  have e':b = gs:=hb
  show b < _
  simp
  omega)).ext hEg).ext hEa.of_no
 have hE2:Ext (On gs) w (W1.alloc o):=(hE1.of_no.trans_ hEg).trans_ hEa.of_no
 have HB2:=Lib.hid hb2;have HL2:=Lib.hid hl2;have HH2:=Lib.hid hh2;have HBN2:=Lib.hid hbn2;have HNO2:=Lib.hid hno2;have HE2:=Lib.hid hE2
 have hEz:=((hez.trans_ hE1).on_new hEg hgs).trans_ hEa
 have HXT:Hid (∀ wr,Ext No (W1.alloc o) wr → TxAt wr s v ∧ Blk wr gx 70 (treeCells s i)):=Lib.hid (fun wr e=>⟨hz.no hs (hEz.trans_ e),hxz.ext (hEz.trans_ e) (fun h=>h)⟩)
 rw [← hW1,← ho]
 have hsz0:=hE1.size
 clear hz hxz hez hEz hW1 hEg hEa hb2 hl2 hh2 hbn2 hno2 hE2 hlow hlow1 hhigh1 hnode hsv1 s0 s1 sf sl hE1 hx1
 go_loopg [53] n.cells.length (fun gk k wr=>∃ K:Nat,K + gk = n.cells.length ∧ k = .int .i64 (K:Int) ∧ Ext No (W1.alloc o) wr)
 case atStart=>exact ⟨0,by omega,rfl,Ext.refl _ _⟩
 case round =>
  obtain ⟨K,hK,rfl,hE⟩:=hrel
  have lo:=(HL2.out.ext hE (fun h=>h)).cell 0
  have hi:=(HH2.out.ext hE (fun h=>h)).cell 0
  obtain ⟨p0,p1,p2,p3,g0,g1,g2,g3,ln⟩:=(HBN2.out.ext hE (fun h=>h)).p4
  have hl0:=World.block_lt_of_cell? wr _ lo
  have hh0:=World.block_lt_of_cell? wr _ hi
  simp at lo hi hl0 hh0
  have HE:=Lib.hid hE
  have HKK:=Lib.hid hK
  by_cases hlt:K < n.cells.length
  ·obtain ⟨c,hc⟩:∃ c,n.cells[K]? = some c:=⟨_,List.getElem?_eq_getElem hlt⟩
   obtain ⟨cb,co,hA1,_,k0,k1,k2,k3⟩:=(HNO2.out.ext hE.of_no).cells.cellAt hc
   have lc:=World.block_lt_of_cell? wr _ k0
   simp only at lc
   subst hA1
   have hcl1:=HNO2.out.l1
   have hlt':(K:Int) < (n.cells.length:Int):=by omega
   have HVC:=Lib.hid (fun w' (e:Ext No (W1.alloc o) w')=>HV.out c (List.mem_of_getElem? hc) w' (HXT.out w' e).1 (HXT.out w' e).2)
   have HCK:=Lib.hid hc
   clear hE hK hc
   generalize n.cells.length = cl at *
   simp only [Cell.agg] at HVC
   have HC0:=Lib.hid (HC.out c (List.mem_of_getElem? HCK.out))
   have HIN1:=Lib.hid (HIN.out c.key _ w.heap.size (w.heap.size + 1) (((HL2.out.ext HE.out (fun h=>h)).alloc (.cells #[.string (str c.key),.string (str c.val),.int .i64 (c.over:Int),.int .i64 (c.len:Int)] 45)).cell 0) (((HH2.out.ext HE.out (fun h=>h)).alloc _).cell 0))
   rw [HC0.out] at k2 HVC HIN1
   have hvv:v.value c = some c.val:=by simp [V.value,HC0.out]
   rw [hvv] at HVC
   simp only [valOut] at HVC
   clear hvv
   go_wp2_with fail
   refine HIN1.out.mono ?_
   rintro e w5 ⟨rfl,rfl⟩
   go_wp2_with fail
   refine (HVC.out _ (HE.out.alloc _)).mono ?_
   rintro e w6 ⟨rfl,hx6⟩
   have bc:=(Blk.new wr 45 #[.string (str c.key),.string (str c.val),.int .i64 ((0:Nat):Int),.int .i64 (c.len:Int)]).ext hx6 (fun h=>h)
   obtain ⟨z0,z1,z2,z3,_,_,_,_,lz⟩:=bc.p4
   have hE6:=Lib.hid ((HE.out.alloc _).trans_ hx6)
   clear bc hx6
   go_wp2_with fail
   go_roundg (gk - 1)
   case rel=>exact ⟨K + 1,by have:=HKK.out;omega,by go_num,hE6.out⟩
   case measure=>have:=HKK.out;omega
  ·have hK':K = n.cells.length:=by omega
   subst hK'
   have gb:=HB2.out.ext hE (fun h=>h)
   have y0:=gb.cell 0
   have y1:=gb.cell 1
   have yf:=gb.frozen
   have yl:=gb.lt
   simp at y0 y1
   have HGB:=Lib.hid gb
   clear hE hK gb
   generalize n.cells.length = cl at *
   go_wp2_with fail
   go_ret
   refine ⟨rfl,HGB.out.set_ 1 _,(HE2.out.trans_ HE.out.of_no).setF (b:=gs) rfl _ _⟩
theorem survey_zero (s:Sys) (hs:s.Ok) (w:World) (v:V) (h:TxAt w s v) (gx i:Nat) (hx:Blk w gx 70 (treeCells s i)) (hi:i < 4) (h0:v.r i = 0) :
  Calls Tryz.prog 58 #[.pointer (some ⟨gx,0,none⟩)] w fun e w'=>e = .returned (.tuple #[.agg #[.int .i64 0,.int .i64 (-1)],.int .i64 0]) ∧ Ext No w w':=by
 have HN:=Lib.hid (fun w' (e:Ext No w w')=>none_no ⟨s.t,0,none⟩ (.int .i64 (i:Int)) gx w' (hx.ext e (fun h=>h)))
 have HA:=Lib.hid (fun w' (e:Ext No w w')=>alive_any s hs w' v (h.no hs e) gx i (hx.ext e (fun h=>h)))
 have HR:=Lib.hid (fun w' (e:Ext No w w')=>treeroot_any s hs w' v (h.no hs e) gx i (hx.ext e (fun h=>h)) hi)
 rw [h0] at HR
 clear h hx h0
 go_enter Tryz.func58,Tryz.ntmps58
 go_wp2_with fail
 have hE0:Ext No w ((w.alloc (.cells #[.int .i64 0,.int .i64 0] 118)).alloc (.cells #[.int .i64 0,.int .i64 (-1)] 118)):=((Ext.refl No w).alloc _).alloc _
 refine (HN.out _ (by (repeat' (first | exact Ext.refl _ _ | assumption | apply Ext.alloc | apply Ext.drewN | apply Ext.drew | refine Ext.setNew ?_ (by first | omega | (simp;omega) | simp) _ _ | refine Ext.setF ?_ (by first | exact Or.inl rfl | exact Or.inr rfl | rfl) _ _ | refine Ext.trans_ ?_ (by assumption) | refine Ext.trans_ ?_ (Ext.of_no (by assumption)))))).mono ?_
 rintro e w1 ⟨rfl,rfl⟩
 go_wp2_with fail
 refine (HA.out _ (by (repeat' (first | exact Ext.refl _ _ | assumption | apply Ext.alloc | apply Ext.drewN | apply Ext.drew | refine Ext.setNew ?_ (by first | omega | (simp;omega) | simp) _ _ | refine Ext.setF ?_ (by first | exact Or.inl rfl | exact Or.inr rfl | rfl) _ _ | refine Ext.trans_ ?_ (by assumption) | refine Ext.trans_ ?_ (Ext.of_no (by assumption)))))).mono ?_
 rintro e w2 ⟨rfl,hx2⟩
 go_wp2_with fail
 have hE2:=hE0.trans_ hx2
 have ba:=((Blk.new w 118 #[.int .i64 0,.int .i64 0]).alloc (.cells #[.int .i64 0,.int .i64 (-1)] 118)).ext hx2 (fun h=>h)
 have bb:=(Blk.new_at (b:=w.heap.size + 1) (w.alloc (.cells #[.int .i64 0,.int .i64 0] 118)) 118 #[.int .i64 0,.int .i64 (-1)] (by simp)).ext hx2 (fun h=>h)
 refine (HR.out _ hE2).mono ?_
 rintro e w3 ⟨rfl,hx3⟩
 have ba3:=ba.ext hx3 (fun h=>h)
 have bb3:=bb.ext hx3 (fun h=>h)
 have a0:=ba3.cell 0
 have a1:=ba3.cell 1
 have af:=ba3.frozen
 have al:=ba3.lt
 have b0:=bb3.cell 0
 have b1:=bb3.cell 1
 simp at a0 a1 b0 b1
 have BA:=Lib.hid ba3;have HE3:=Lib.hid (hE2.trans_ hx3)
 clear ba bb ba3 bb3 hx2 hx3 hE0 hE2
 go_wp2_with fail
 exact survey_back w.heap.size _ ((BA.out.set_ 0 (.int .i64 0)).set_ 1 (.int .i64 (-1))) rfl rfl rfl rfl ⟨rfl,(HE3.out.setNew (Nat.le_refl _) _ _).setNew (Nat.le_refl _) _ _⟩
theorem survey_leaf (s:Sys) (hs:s.Ok) (w:World) (v:V) (h:TxAt w s v) (hg:v.Good) (gx i:Nat) (hx:Blk w gx 70 (treeCells s i)) (hi:i < 4) (h0:v.r i ≠ 0) (n:Nd) (hn:v.node (v.r i) = some n)
  (hlf:n.leaf = true) (hc0:n.cells ≠ []) (hc:∀ c ∈ n.cells,c.over = 0) :
  Calls Tryz.prog 58 #[.pointer (some ⟨gx,0,none⟩)] w fun e w'=>e = .returned (.tuple #[.agg #[.int .i64 1,.int .i64 0],.int .i64 0]) ∧ Ext No w w':=by
 have HN:=Lib.hid (fun w' (e:Ext No w w')=>none_no ⟨s.t,0,none⟩ (.int .i64 (i:Int)) gx w' (hx.ext e (fun h=>h)))
 have HA:=Lib.hid (fun w' (e:Ext No w w')=>alive_any s hs w' v (h.no hs e) gx i (hx.ext e (fun h=>h)))
 have HR:=Lib.hid (fun w' (e:Ext No w w')=>treeroot_any s hs w' v (h.no hs e) gx i (hx.ext e (fun h=>h)) hi)
 have HLK:=Lib.hid (fun w' (e:Ext No w w') (hsv:Blk w' (w.heap.size + 1) 118 #[.int .i64 0,.int .i64 (-1)])=>look_small s hs w w' v h hg gx i hx e (w.heap.size + 1) (v.r i) (Nat.le_succ _) hsv n hn hlf hc0 hc)
 have h0':((v.r i:Int) == 0) = false:=by simpa using (by omega:¬ (v.r i:Int) = 0)
 obtain ⟨rt,hrt⟩:∃ rt,rt = v.r i:=⟨_,rfl⟩
 rw [← hrt] at HR HLK h0'
 clear h hg hx h0 hn hlf hc0 hc hrt
 go_enter Tryz.func58,Tryz.ntmps58
 go_wp2_with fail
 have hE0:Ext No w ((w.alloc (.cells #[.int .i64 0,.int .i64 0] 118)).alloc (.cells #[.int .i64 0,.int .i64 (-1)] 118)):=((Ext.refl No w).alloc _).alloc _
 refine (HN.out _ (by (repeat' (first | exact Ext.refl _ _ | assumption | apply Ext.alloc | apply Ext.drewN | apply Ext.drew | refine Ext.setNew ?_ (by first | omega | (simp;omega) | simp) _ _ | refine Ext.setF ?_ (by first | exact Or.inl rfl | exact Or.inr rfl | rfl) _ _ | refine Ext.trans_ ?_ (by assumption) | refine Ext.trans_ ?_ (Ext.of_no (by assumption)))))).mono ?_
 rintro e w1 ⟨rfl,rfl⟩
 go_wp2_with fail
 refine (HA.out _ (by (repeat' (first | exact Ext.refl _ _ | assumption | apply Ext.alloc | apply Ext.drewN | apply Ext.drew | refine Ext.setNew ?_ (by first | omega | (simp;omega) | simp) _ _ | refine Ext.setF ?_ (by first | exact Or.inl rfl | exact Or.inr rfl | rfl) _ _ | refine Ext.trans_ ?_ (by assumption) | refine Ext.trans_ ?_ (Ext.of_no (by assumption)))))).mono ?_
 rintro e w2 ⟨rfl,hx2⟩
 have hE2:=hE0.trans_ hx2
 have ba:=((Blk.new w 118 #[.int .i64 0,.int .i64 0]).alloc (.cells #[.int .i64 0,.int .i64 (-1)] 118)).ext hx2 (fun h=>h)
 have bb:=(Blk.new_at (b:=w.heap.size + 1) (w.alloc (.cells #[.int .i64 0,.int .i64 0] 118)) 118 #[.int .i64 0,.int .i64 (-1)] (by simp)).ext hx2 (fun h=>h)
 have HE2:=Lib.hid hE2;have BA:=Lib.hid ba;have BB:=Lib.hid bb
 clear hE0 hx2 hE2 ba bb
 go_wp2_with fail
 refine (HR.out _ HE2.out).mono ?_
 rintro e w3 ⟨rfl,hx3⟩
 go_wp2_with fail
 refine (HR.out _ (HE2.out.trans_ hx3)).mono ?_
 rintro e w4 ⟨rfl,hx4⟩
 have hE4:=(HE2.out.trans_ hx3).trans_ hx4
 have bb4:=(BB.out.ext hx3 (fun h=>h)).ext hx4 (fun h=>h)
 have ba4:=(BA.out.ext hx3 (fun h=>h)).ext hx4 (fun h=>h)
 have HL:=Lib.hid (HLK.out w4 hE4 bb4)
 have HE4:=Lib.hid hE4;have BA4:=Lib.hid ba4
 clear hx3 hx4 hE4 bb4 ba4
 go_wp2_with fail
 refine (HL.out).mono ?_
 rintro e w5 ⟨rfl,bb5,hx5⟩
 have ba5:=BA4.out.ext hx5 (fun h=>by
  have h':w.heap.size = w.heap.size + 1:=h
  omega)
 have hE5:=HE4.out.on_new hx5 (Nat.le_succ _)
 have a0:=ba5.cell 0
 have a1:=ba5.cell 1
 have af:=ba5.frozen
 have al:=ba5.lt
 have b0:=bb5.cell 0
 have b1:=bb5.cell 1
 simp at a0 a1 b0 b1
 have BA5:=Lib.hid ba5;have HE5:=Lib.hid hE5
 clear bb5 hx5 ba5 hE5
 go_wp2_with fail
 exact survey_back w.heap.size _ ((BA5.out.set_ 0 (.int .i64 1)).set_ 1 (.int .i64 0)) rfl rfl rfl rfl ⟨rfl,(HE5.out.setNew (Nat.le_refl _) _ _).setNew (Nat.le_refl _) _ _⟩
theorem pages_of (x:Value) (w:World) (p:Int) (d:Int) (hS:Calls Tryz.prog 58 #[x] w fun e w'=>e = .returned (.tuple #[.agg #[.int .i64 p,.int .i64 d],.int .i64 0]) ∧ Ext No w w') :
  Calls Tryz.prog 24 #[x] w fun e w'=>e = .returned (.tuple #[.int .i64 p,.int .i64 0]) ∧ Ext No w w':=by
 have HS:=Lib.hid hS
 clear hS
 go_enter Tryz.func24,Tryz.ntmps24
 go_wp2_with fail
 refine (HS.out).mono ?_
 rintro e w1 ⟨rfl,hx1⟩
 go_wp2_with fail
 go_ret2
 exact ⟨rfl,by (repeat' (first | exact Ext.refl _ _ | assumption | apply Ext.alloc | apply Ext.drewN | apply Ext.drew | refine Ext.setNew ?_ (by first | omega | (simp;omega) | simp) _ _ | refine Ext.setF ?_ (by first | exact Or.inl rfl | exact Or.inr rfl | rfl) _ _ | refine Ext.trans_ ?_ (by assumption) | refine Ext.trans_ ?_ (Ext.of_no (by assumption))))⟩
theorem mk_small_eq {cap:Nat} {v:V} {key val:Bs} (hl:3 + key.length + val.length ≤ 160):v.mkCell cap key val = (⟨key,val,0,0⟩,0,v):=by unfold V.mkCell;rw [if_pos hl]
theorem Put_room (s:Sys) (hs:s.Ok) (w:World) (v:V) (h:TxAt w s v) (hg:v.Good) (gx i:Nat) (hx:Blk w gx 70 (treeCells s i)) (hi:i < 4) (key val:Bs) (hm:may key val = 0) (hl:3 + key.length + val.length ≤ 160)
  (ws:List Stp) (hw:v.way i key = some ws) (hh:hit ws key = none) (hr:∀ st,ws.getLast? = some st → (v.wr st.id (st.n.put ⟨key,val,0,0⟩)).1 ≠ 3) :
  Calls Tryz.prog 25 #[.pointer (some ⟨gx,0,none⟩),.string (str key),.string (str val)] w (Did s w (v.Put s.cap i key val)):=by
 have hM:=mk_small s hs v key val hl
 have he:=mk_small_eq (cap:=s.cap) (v:=v) hl
 refine Put_of s hs w v h hg gx i hx key val hm fun w' e=>?_
 have h':=h.no hs e
 have hx':=hx.ext e (fun h=>h)
 match ws,hw,hh,hr with
 | [],hw,_,_=>exact put0_first s hs w' v h' hg gx i hx' hi key val hw hM (by rw [he])
 | a :: l,hw,hh,hr =>
  obtain ⟨st,hst⟩:∃ st,(a :: l).getLast? = some st:=⟨_,List.getLast?_eq_some_getLast (by simp)⟩
  have hG:GrowOk s i v (a :: l) (st.n.put ⟨key,val,0,0⟩):=grow_one s hs i v (a :: l) _ st hst (hr st hst)
  have hp:v.put0 s.cap i key val = V.grow s.cap i (a :: l).reverse (st.n.put ⟨key,val,0,0⟩) v:=by
   unfold V.put0
   rw [hw,he]
   simp only [ne_eq,not_true,if_false,hst,hh]
  rw [hp]
  have:=put0_new s hs w' v h' hg gx i hx' hi key val (a :: l) hw st hst hM (by rw [he]) hh (by rw [he];exact hG)
  rw [he] at this
  exact this
theorem letGo_small {v:V} {c:Cell} (h:c.over = 0):v.letGo c = (0,v):=by unfold V.letGo;rw [h];exact drop_stop _ _
theorem Del_room (s:Sys) (hs:s.Ok) (w:World) (v:V) (h:TxAt w s v) (hg:v.Good) (gx i:Nat) (hx:Blk w gx 70 (treeCells s i)) (hi:i < 4) (key:Bs) (hm:may key [] = 0)
  (st:Stp) (hw:v.way i key = some [st]) (c:Cell) (hh:hit [st] key = some c) (hc:c.over = 0) (hlf:st.n.leaf = true) (hks:st.n.keys = []) :
  Calls Tryz.prog 27 #[.pointer (some ⟨gx,0,none⟩),.string (str key)] w (DidB s w (v.Del s.cap i key)):=by
 refine Del_of s hs w v h gx i hx key hm fun w' e=>?_
 have h':=h.no hs e
 have hx':=hx.ext e (fun h=>h)
 have hlg:=letGo_small (v:=v) hc
 have:=del0_hit s hs w' v h' hg gx i hx' hi key [st] hw st rfl c hh (by rw [hlg];exact fun _=>shrink_one s hs i hi v st (st.n.cut st.i) hlf hks)
 have hp:v.del0 s.cap i key = if (v.letGo c).1 ≠ 0 then (false,v.letGo c) else (true,V.shrink s.cap i [st].reverse (st.n.cut st.i) (v.letGo c).2):=by
  unfold V.del0
  rw [hw]
  simp only [hh]
  rfl
 rw [hp]
 exact this
def ka:Bs:=[97]
def kb:Bs:=[98]
def vx:Bs:=[120]
def vy:Bs:=[121]
def e1:V:=(v0.Put 20 0 ka vx).2
def e2:V:=(e1.Put 20 0 kb vy).2
def e3:V:=(e2.Del 20 0 ka).2.2
def e4:V:=(e3.Del 20 0 kb).2.2
def cA:Cell:=⟨ka,vx,0,0⟩
def cB:Cell:=⟨kb,vy,0,0⟩
theorem f1:v0.way 0 ka = some []:=by kernel_rfl
theorem f1e:(v0.Put 20 0 ka vx).1 = 0:=by kernel_rfl
theorem f2:e1.way 0 kb = some [⟨1,⟨true,[cA],[],[]⟩,1⟩]:=by kernel_rfl
theorem f2e:(e1.Put 20 0 kb vy).1 = 0:=by kernel_rfl
theorem f2w:(e1.wr 1 ((⟨true,[cA],[],[]⟩:Nd).put cB)).1 = 0:=by kernel_rfl
theorem f2h:e2.height 0 = (1,0):=by kernel_rfl
theorem f2r:e2.r 0 = 1:=by kernel_rfl
theorem f2n:e2.node 1 = some ⟨true,[cA,cB],[],[]⟩:=by kernel_rfl
theorem f2g:e2.get 0 kb = (vy,true,0):=by kernel_rfl
theorem f2y:e2.way 0 kb = some [⟨1,⟨true,[cA,cB],[],[]⟩,1⟩]:=by kernel_rfl
theorem f3:e2.way 0 ka = some [⟨1,⟨true,[cA,cB],[],[]⟩,0⟩]:=by kernel_rfl
theorem f3e:(e2.Del 20 0 ka).1 = true ∧ (e2.Del 20 0 ka).2.1 = 0:=⟨by kernel_rfl,by kernel_rfl⟩
theorem f4:e3.way 0 kb = some [⟨1,⟨true,[cB],[],[]⟩,0⟩]:=by kernel_rfl
theorem f4e:(e3.Del 20 0 kb).1 = true ∧ (e3.Del 20 0 kb).2.1 = 0:=⟨by kernel_rfl,by kernel_rfl⟩
theorem f5h:e4.height 0 = (0,0):=by kernel_rfl
theorem f5r:e4.r 0 = 0:=by kernel_rfl
end Go.Proofs.YtccnemmlkcmceaaGreatDoor
