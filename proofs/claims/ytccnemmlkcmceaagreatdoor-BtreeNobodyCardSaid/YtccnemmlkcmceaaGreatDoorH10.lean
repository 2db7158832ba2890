/- Proofs about the given program, joined out of the texts X2, X3, X4, X5, X6, X7, X8. -/
import Derived.Test.YtccnemmlkcmceaaGreatDoorH9
/- The tree's calls: put. -/
set_option linter.unusedVariables false
set_option linter.unusedSimpArgs false
namespace Go.Proofs.YtccnemmlkcmceaaGreatDoor
open Go.RowKit 

/-- cell's contract. -/
def MkOk (s : Sys) (v : V) (key val : Bs) : Prop :=
  (v.mkCell s.cap key val).1.fits ∧ ∀ (w : World) (gx root : Nat), TxAt w s v → v.Good → Blk w gx 70 (treeCells s root) →
    Calls Tryz.prog 97 #[.pointer (some ⟨gx, 0, none⟩), .string (str key), .string (str val)] w fun e w' => e = .returned (.tuple #[(v.mkCell s.cap key val).1.agg, .int .i64 ((v.mkCell s.cap key val).2.1 : Int)]) ∧
      TxAt w' s (v.mkCell s.cap key val).2.2 ∧ (v.mkCell s.cap key val).2.2.Good ∧ Ext s.F w w'

theorem mk_small (s : Sys) (hs : s.Ok) (v : V) (key val : Bs) (hl : 3 + key.length + val.length ≤ 160) : MkOk s v key val := by
  have e : v.mkCell s.cap key val = (⟨key, val, 0, 0⟩, 0, v) := by unfold V.mkCell; rw [if_pos hl]
  unfold MkOk
  rw [e]
  refine ⟨⟨by simp only; omega, by simp only; omega, by simp, by simp⟩, fun w gx root h hg hx => ?_⟩
  exact (cell_small key val _ w hl).mono fun e w' ⟨h1, h2⟩ => ⟨h1, h.no hs h2, hg, h2.of_no⟩

theorem V.alloc_id {v : V} (h : v.Good) {cap : Nat} (h1 : v.high ≤ cap) (h2 : cap ≤ 65536) : (v.alloc cap).1 ≤ 65536 := by
  obtain ⟨l, h⟩ := h
  unfold V.alloc
  split
  · split
    · simp
    · simp only; omega
  · rename_i hf
    obtain ⟨l', rfl⟩ := h.cons hf
    have := (h.mem v.free).2 (by simp)
    simp only; omega
theorem V.fresh_id {v : V} (h : v.Good) {cap : Nat} (h1 : v.high ≤ cap) (h2 : cap ≤ 65536) (n : Nd) : (v.fresh cap n).1 ≤ 65536 := by
  have := V.alloc_id h h1 h2
  unfold V.fresh
  split
  · exact this
  · simp

theorem Nd.put_fits {n : Nd} {c : Cell} (h : n.fits) (hc : c.fits) : (n.put c).fits := by
  refine ⟨fun d hd => ?_, h.k, h.i⟩
  simp only [Nd.put] at hd
  rcases List.mem_append.1 hd with hd | hd
  · exact h.c d (List.mem_of_mem_take hd)
  · rcases List.mem_cons.1 hd with rfl | hd
    · exact hc
    · exact h.c d (List.mem_of_mem_drop hd)

theorem Old.of {w : World} {s : Sys} {v : V} (h : TxAt w s v) : ∀ b, s.F b → Old w b := fun b hb => h.old hb

set_option maxRecDepth 100000 in
set_option maxHeartbeats 1600000 in
theorem put0_none (s : Sys) (hs : s.Ok) (w : World) (v : V) (h : TxAt w s v) (hg : v.Good) (gx i : Nat) (hx : Blk w gx 70 (treeCells s i)) (hi : i < 4) (key val : Bs) (hw : v.way i key = none) :
    Calls Tryz.prog 62 #[.pointer (some ⟨gx, 0, none⟩), .string (str key), .string (str val)] w (Did s w (5, v)) := by
  have HW := Lib.hid (way_any s hs w v h hg gx i hx hi key)
  have HT := Lib.hid (fun (w' : World) (e : Ext No w w') => h.no hs e)
  have HG := Lib.hid hg
  rw [hw] at HW
  clear h hg hx hw
  go_enter Tryz.func62, Tryz.ntmps62
  go_wp2_with fail
  refine (HW.out).mono ?_
  rintro e' w2 ⟨hx2, rfl⟩
  go_wp2_with fail
  go_ret
  exact ⟨rfl, HT.out _ hx2, HG.out, hx2.of_no⟩

set_option maxRecDepth 100000 in
set_option maxHeartbeats 1600000 in
theorem put0_mk (s : Sys) (hs : s.Ok) (w : World) (v : V) (h : TxAt w s v) (hg : v.Good) (gx i : Nat) (hx : Blk w gx 70 (treeCells s i)) (hi : i < 4) (key val : Bs) (ws : List Stp) (hw : v.way i key = some ws)
    (hM : MkOk s v key val) (he : (v.mkCell s.cap key val).2.1 ≠ 0) :
    Calls Tryz.prog 62 #[.pointer (some ⟨gx, 0, none⟩), .string (str key), .string (str val)] w (Did s w (v.mkCell s.cap key val).2) := by
  have HW := Lib.hid (way_any s hs w v h hg gx i hx hi key)
  have HM := Lib.hid (fun w' (e : Ext No w w') => hM.2 w' gx i (h.no hs e) hg (hx.ext e (fun h => h)))
  rw [hw] at HW
  generalize v.mkCell s.cap key val = r at *
  obtain ⟨c, k, v1⟩ := r
  simp only at he HM ⊢
  have he' : ((k : Int) != 0) = true := by simpa using (by omega : ¬ (k : Int) = 0)
  simp only [Cell.agg] at HM
  clear h hg hx hw hM he
  go_enter Tryz.func62, Tryz.ntmps62
  go_wp2_with fail
  refine (HW.out).mono ?_
  rintro e' w2 ⟨hx2, A, cap, l, hl, rfl, hWA⟩
  clear hl
  go_wp2_with fail
  refine (HM.out _ hx2).mono ?_
  rintro e' w3 ⟨rfl, hT, hG, hx3⟩
  go_wp2_with fail
  go_ret
  exact ⟨rfl, hT.no hs ((Ext.refl _ _).alloc _), hG, (hx2.of_no.trans_ hx3).alloc _⟩

theorem one_cell_node {w : World} {b : Nat} {c : Cell} {F : Nat → Prop} (h : Blk w b 45 #[.string (str c.key), .string (str c.val), .int .i64 (c.over : Int), .int .i64 (c.len : Int)]) (hb : ¬ F b) :
    NodeAt w F (some ⟨b, 0, none⟩) 1 none 0 none 0 ⟨true, [c], [], []⟩ := by
  refine ⟨⟨rfl, fun _ => ⟨b, 0, rfl, hb, fun j u hu => ?_⟩⟩, Rd.nil_ _, Rd.nil_ _, by simp, by simp, by simp, by simp, by simp, by simp, (fun h => by cases h), (fun _ => rfl), (fun _ => rfl)⟩
  rw [Nat.zero_add, h.cell j]
  simpa [cellVals, Cell.vals] using hu

set_option maxRecDepth 100000 in
set_option maxHeartbeats 1600000 in
theorem put0_first (s : Sys) (hs : s.Ok) (w : World) (v : V) (h : TxAt w s v) (hg : v.Good) (gx i : Nat) (hx : Blk w gx 70 (treeCells s i)) (hi : i < 4) (key val : Bs) (hw : v.way i key = some [])
    (hM : MkOk s v key val) (he : (v.mkCell s.cap key val).2.1 = 0) :
    Calls Tryz.prog 62 #[.pointer (some ⟨gx, 0, none⟩), .string (str key), .string (str val)] w (Did s w (v.put0 s.cap i key val)) := by
  have HW := Lib.hid (way_any s hs w v h hg gx i hx hi key)
  have HM := Lib.hid (fun w' (e : Ext No w w') => hM.2 w' gx i (h.no hs e) hg (hx.ext e (fun h => h)))
  have hcf := hM.1
  obtain ⟨D, hD⟩ : ∃ D, D = v.put0 s.cap i key val := ⟨_, rfl⟩
  rw [← hD]
  unfold V.put0 at hD
  rw [hw] at HW hD
  simp only [he, ne_eq, not_true, if_false, List.getLast?_nil] at hD
  have HX0 := Lib.hid (fun (w' : World) (e : Ext s.F w w') => tree_ext h hx e)
  generalize v.mkCell s.cap key val = r at *
  obtain ⟨c, k, v1⟩ := r
  simp only at he HM hD hcf
  subst he
  simp only [Cell.agg] at HM
  have HCF := Lib.hid hcf
  have HD := Lib.hid hD
  have hgl := hx.lt
  clear h hg hx hw hM hD hcf
  go_enter Tryz.func62, Tryz.ntmps62
  go_wp2_with fail
  refine (HW.out).mono ?_
  rintro e' w2 ⟨hx2, A, cap, l, hl, rfl, hWA⟩
  clear hl hWA
  simp only [List.length_nil]
  go_wp2_with fail
  refine (HM.out _ hx2).mono ?_
  rintro e' w3 ⟨rfl, hT, hG, hx3⟩
  have HE3 := Lib.hid (hx2.of_no.trans_ hx3)
  have HT := Lib.hid hT; have HG := Lib.hid hG
  clear hT hG hx2 hx3
  have hE5 : Ext No w3 ((w3.alloc (.cells #[.string (str c.key), .string (str c.val), .int .i64 (c.over : Int), .int .i64 (c.len : Int)] 45)).alloc (.cells #[.string (str c.key), .string (str c.val), .int .i64 (c.over : Int), .int .i64 (c.len : Int)] 45)) := ((Ext.refl No w3).alloc _).alloc _
  have hT5 := HT.out.no hs hE5
  have hx5 := HX0.out _ (HE3.out.trans_ hE5.of_no)
  have hb5 : Blk ((w3.alloc (.cells #[.string (str c.key), .string (str c.val), .int .i64 (c.over : Int), .int .i64 (c.len : Int)] 45)).alloc (.cells #[.string (str c.key), .string (str c.val), .int .i64 (c.over : Int), .int .i64 (c.len : Int)] 45)) (w3.heap.size + 1) 45 #[.string (str c.key), .string (str c.val), .int .i64 (c.over : Int), .int .i64 (c.len : Int)] :=
    Blk.new_at (b := w3.heap.size + 1) (w3.alloc _) 45 _ (by simp)
  have hn5 := one_cell_node (F := s.F) hb5 (fun h => by have := HT.out.old h; omega)
  have HFR := Lib.hid (fresh_any s hs _ v1 hT5 HG.out gx i hx5 ⟨true, [c], [], []⟩ s.F _ _ _ _ _ _ hn5 ⟨by simpa using HCF.out, by simp, by simp⟩ (fun _ h => h))
  have hid := V.fresh_id HG.out HT.out.h2 (Sys.cap_le hs) ⟨true, [c], [], []⟩
  have HE5 := Lib.hid (HE3.out.trans_ hE5.of_no)
  clear hE5 hT5 hx5 hb5 hn5
  simp only [Nd.value, List.length_cons, List.length_nil] at HFR
  obtain ⟨R, hR⟩ : ∃ R, R = v1.fresh s.cap ⟨true, [c], [], []⟩ := ⟨_, rfl⟩
  rw [← hR] at HFR hid
  have hD := HD.out
  rw [← hR] at hD
  clear HD hR
  obtain ⟨id, k2, v2⟩ := R
  simp only at HFR hid hD
  by_cases hk2 : k2 = 0
  · subst hk2
    simp only [ne_eq, not_true, if_false] at hD
    have HD := Lib.hid hD
    have HID := Lib.hid hid
    clear hD hid
    go_wp2_with fail
    refine (HFR.out).mono ?_
    rintro e' w6 ⟨rfl, hT6, hG6, hx6⟩
    have hE6 := HE5.out.trans_ hx6
    have hx7 := HX0.out _ hE6
    have c0 := hx7.cell 0
    have c1 := hx7.cell 1
    simp [treeCells] at c0 c1
    have HSR := Lib.hid (setroot_any s hs w6.drew v2 (hT6.no hs (Ext.refl No w6).drew) i id hi (by have := HID.out; omega))
    have HG6 := Lib.hid hG6; have HE6 := Lib.hid hE6
    clear hT6 hG6 hx6 hE6 hx7
    go_wp2_with fail
    go_region_law ((go_simp; go_at_call 21; refine (HSR.out).mono ?_; rintro e w7 ⟨rfl, hT7, hx7⟩; have HT7 := Lib.hid hT7; have HX7 := Lib.hid hx7; clear hT7 hx7))
    all_goals (
      go_wp2_with fail
      go_ret
      rw [HD.out]
      exact ⟨rfl, HT7.out, HG6.out.setR _ _, HE6.out.drew.trans_ HX7.out⟩)
  · simp only [ne_eq, hk2, not_false_eq_true, if_true] at hD
    have HD := Lib.hid hD
    have hk2' : ((k2 : Int) != 0) = true := by simpa using (by omega : ¬ (k2 : Int) = 0)
    clear hD hid hk2
    go_wp2_with fail
    refine (HFR.out).mono ?_
    rintro e' w6 ⟨rfl, hT6, hG6, hx6⟩
    go_wp2_with fail
    go_ret
    rw [HD.out]
    exact ⟨rfl, hT6, hG6, HE5.out.trans_ hx6⟩

end Go.Proofs.YtccnemmlkcmceaaGreatDoor

/- The tree's calls: put, where there is a leaf. -/
set_option linter.unusedVariables false
set_option linter.unusedSimpArgs false
namespace Go.Proofs.YtccnemmlkcmceaaGreatDoor
open Go.RowKit 

theorem Blk.p6 {w : World} {b : Nat} {t : TypeId} {a0 a1 a2 a3 a4 a5 : Value} (h : Blk w b t #[a0, a1, a2, a3, a4, a5]) :
    w.cell? ⟨b, 0, none⟩ = some a0 ∧ w.cell? ⟨b, 1, none⟩ = some a1 ∧ w.cell? ⟨b, 2, none⟩ = some a2 ∧ w.cell? ⟨b, 3, none⟩ = some a3 ∧ w.cell? ⟨b, 4, none⟩ = some a4 ∧ w.cell? ⟨b, 5, none⟩ = some a5 ∧ b < w.heap.size :=
  ⟨h.cell 0, h.cell 1, h.cell 2, h.cell 3, h.cell 4, h.cell 5, h.lt⟩

/-- The end of put: the cell is put in, and the way grows. -/
theorem grow_put (s : Sys) (hs : s.Ok) (w wT : World) (v : V) (hT : TxAt wT s v) (hg : v.Good) (gx i : Nat) (hx : Blk wT gx 70 (treeCells s i)) (ws : List Stp) (st : Stp) (hlast : ws.getLast? = some st) (c : Cell) (hcf : c.fits)
    (A : Option Addr) (cap : Nat) (l : List (Stp × Adr)) (hl : l.map (·.1) = ws) (hWA : WayAt wT (Old w) A cap l) (ad : Adr) (hn : NodeIn wT (Old w) ad st.n) (hok : st.n.ok = true) (hlf : st.n.leaf = true) (hO : ∀ b, s.F b → Old w b) (hE : Ext s.F w wT)
    (hG : GrowOk s i v ws (st.n.put c)) :
    Calls Tryz.prog 101 #[st.n.value ad.A1 ad.c1 ad.A2 ad.c2 ad.A3 ad.c3, c.agg] wT fun e w8 => ∃ a : Adr, e = .returned ((st.n.put c).value a.A1 a.c1 a.A2 a.c2 a.A3 a.c3) ∧
      Calls Tryz.prog 100 #[.pointer (some ⟨gx, 0, none⟩), .slice A ws.length cap, (st.n.put c).value a.A1 a.c1 a.A2 a.c2 a.A3 a.c3] w8 (Did s w (V.grow s.cap i ws.reverse (st.n.put c) v)) := by
  have hOk := Nd.Ok.of hok
  obtain ⟨h1, h2⟩ := hOk.lf hlf
  refine (put_any st.n c wT (Old w) _ _ _ _ _ _ hn hlf h1 h2 (Nd.Ok.sortedC hok) (by have := hOk.a1; omega)).mono ?_
  rintro e w8 ⟨hx8, A1, c1, A2, c2, A3, c3, rfl, hn8⟩
  have hsz := hE.size
  refine ⟨⟨A1, c1, A2, c2, A3, c3⟩, rfl, ?_⟩
  refine (hG w8 gx (Old w) A cap l ⟨A1, c1, A2, c2, A3, c3⟩ (hT.no hs hx8) hg (hx.ext hx8 (fun h => h)) hO (hWA.ext hx8.of_no) hl (hn8.mono (fun b _ hb => Nat.lt_of_lt_of_le hb hsz)) (Nd.put_fits (Nd.Ok.fits hOk) hcf)).mono ?_
  rintro e w9 ⟨he, hT9, hG9, hx9⟩
  exact ⟨he, hT9, hG9, (hE.trans_ hx8.of_no).trans_ hx9⟩

set_option maxRecDepth 100000 in
set_option maxHeartbeats 1600000 in
theorem put0_new (s : Sys) (hs : s.Ok) (w : World) (v : V) (h : TxAt w s v) (hg : v.Good) (gx i : Nat) (hx : Blk w gx 70 (treeCells s i)) (hi : i < 4) (key val : Bs) (ws : List Stp) (hw : v.way i key = some ws) (st : Stp) (hst : ws.getLast? = some st)
    (hM : MkOk s v key val) (he : (v.mkCell s.cap key val).2.1 = 0) (hh : hit ws key = none) (hGr : GrowOk s i (v.mkCell s.cap key val).2.2 ws (st.n.put (v.mkCell s.cap key val).1)) :
    Calls Tryz.prog 62 #[.pointer (some ⟨gx, 0, none⟩), .string (str key), .string (str val)] w (Did s w (V.grow s.cap i ws.reverse (st.n.put (v.mkCell s.cap key val).1) (v.mkCell s.cap key val).2.2)) := by
  have HW := Lib.hid (way_any s hs w v h hg gx i hx hi key)
  have HM := Lib.hid (fun w' (e : Ext No w w') => hM.2 w' gx i (h.no hs e) hg (hx.ext e (fun h => h)))
  have HCF := Lib.hid hM.1
  have HX0 := Lib.hid (fun (w' : World) (e : Ext s.F w w') => tree_ext h hx e)
  have HO := Lib.hid (Old.of h)
  have HGR := Lib.hid hGr
  have HWO := Lib.hid (way_ok hw)
  have HST := Lib.hid hst
  have HH := Lib.hid hh
  rw [hw] at HW
  generalize v.mkCell s.cap key val = r at *
  obtain ⟨c, k, v1⟩ := r
  simp only at he HM HCF HGR ⊢
  subst he
  simp only [Cell.agg] at HM
  have hwl : ∃ m, ws.length = m + 1 := by cases hz : ws.length <;> simp_all
  obtain ⟨m, hwl⟩ := hwl
  have hm41 : m ≤ 40 := by have := HWO.out.len; omega
  have HWL := Lib.hid hwl
  clear h hg hx hw hM hGr hst hh hwl
  go_enter Tryz.func62, Tryz.ntmps62
  go_wp2_with fail
  refine (HW.out).mono ?_
  rintro e' w2 ⟨hx2, A, cap, l, hl, rfl, hWA⟩
  have HL := Lib.hid hl
  have HWA := Lib.hid hWA
  rw [HWL.out]
  clear hl hWA
  go_wp2_with fail
  refine (HM.out _ hx2).mono ?_
  rintro e' w3 ⟨rfl, hT, hG, hx3⟩
  have hWA3 := HWA.out.ext (hx3.mono fun b _ hb => HO.out b hb)
  have HE3 := Lib.hid (hx2.of_no.trans_ hx3)
  have HT := Lib.hid hT; have HG := Lib.hid hG
  obtain ⟨p, hp, hlast⟩ := last_of HL.out HWL.out
  obtain ⟨st', ad⟩ := p
  have hsst : st' = st := by have := HST.out; rw [hlast] at this; simpa using this
  subst hsst
  obtain ⟨b, o, rfl, hbF, q0, q1, q2, q3, q4, q5⟩ := hWA3.at hp
  have hnode := hWA3.nodes (st', ad) (List.mem_of_getElem? hp)
  simp only at q0 q1 q2 q3 q4 q5 hnode
  have hlf := HWO.out.last st' hlast
  obtain ⟨hnd, hsi⟩ := HWO.out.all st' (List.mem_of_getLast? hlast)
  have hok := V.node_ok hnd
  have hile : st'.i ≤ st'.n.cells.length := by rw [hsi]; exact (Nd.find_le hok key).1 hlf
  have hhit := hit_eq hlast key
  rw [HH.out] at hhit
  have HN := Lib.hid hnode; have HOK := Lib.hid hok; have HLF := Lib.hid hlf; have HWA3 := Lib.hid hWA3
  have lb := World.block_lt_of_cell? w3 _ q0
  simp only at lb
  have hcap : m + 1 ≤ cap := by
    have := hWA3.cap
    have h2 : l.length = m + 1 := by rw [← HWL.out, ← HL.out, List.length_map]
    omega
  have hcl1 := hnode.l1
  have hb1 := hnode.b1
  have hsz3 : w.heap.size ≤ w3.heap.size := HE3.out.size
  obtain ⟨W, hW⟩ : ∃ W, W = (w3.alloc (.cells #[.string (str c.key), .string (str c.val), .int .i64 (c.over : Int), .int .i64 (c.len : Int)] 45)).alloc (.cells #[.int .i64 (st'.id : Int), .bool st'.n.leaf, .slice ad.A1 st'.n.cells.length ad.c1, .slice ad.A2 st'.n.keys.length ad.c2, .slice ad.A3 st'.n.kids.length ad.c3, .int .i64 (st'.i : Int)] 125) := ⟨_, rfl⟩
  have hEW : Ext No w3 W := by rw [hW]; exact ((Ext.refl No w3).alloc _).alloc _
  have HPUT := Lib.hid (grow_put s hs w W v1 (HT.out.no hs hEW) HG.out gx i (HX0.out _ (HE3.out.trans_ hEW.of_no)) ws st' HST.out c HCF.out _ cap l HL.out (HWA3.out.ext hEW.of_no) ad (HN.out.ext hEW.of_no) HOK.out HLF.out HO.out (HE3.out.trans_ hEW.of_no) HGR.out)
  rw [HWL.out] at HPUT
  have HEW := Lib.hid (HE3.out.trans_ hEW.of_no)
  subst hW
  have HPV : st'.n.value ad.A1 ad.c1 ad.A2 ad.c2 ad.A3 ad.c3 = .agg #[.bool st'.n.leaf, .slice ad.A1 st'.n.cells.length ad.c1, .slice ad.A2 st'.n.keys.length ad.c2, .slice ad.A3 st'.n.kids.length ad.c3] := rfl
  rw [HPV] at HPUT
  simp only [Cell.agg] at HPUT
  rw [hlf] at HPUT q1
  clear HPV hlast hp hx2 hx3 hT hG hWA3 hsi hnd hbF hEW hok hlf
  rcases Nat.lt_or_ge st'.i st'.n.cells.length with hlt | hge
  · obtain ⟨d, hd⟩ : ∃ d, st'.n.cells[st'.i]? = some d := ⟨_, List.getElem?_eq_getElem hlt⟩
    obtain ⟨cb, co, hA1, _, k0, k1, k2, k3⟩ := hnode.cells.cellAt hd
    have lc := World.block_lt_of_cell? w3 _ k0
    simp only at lc
    rw [hA1] at q2 HPUT
    rw [hd] at hhit
    simp only at hhit
    have hbk : (d.key == key) = false := by
      by_cases hk : d.key = key
      · rw [if_pos hk] at hhit; cases hhit
      · simpa using hk
    have hlt' : (st'.i : Int) < (st'.n.cells.length : Int) := by omega
    clear hd hnode hA1 hile hhit
    generalize st'.i = si at *
    generalize st'.n.cells.length = cl at *
    generalize st'.n.keys.length = kl at *
    generalize st'.n.kids.length = il at *
    generalize st'.id = sid at *
    go_wp2_with fail
    refine HPUT.out.mono ?_
    rintro e w8 ⟨a, rfl, HG8⟩
    have HG8 := Lib.hid HG8
    go_wp2_with fail
    refine HG8.out.mono ?_
    rintro e w9 ⟨rfl, hT9, hG9, hx9⟩
    go_wp2_with fail
    go_ret
    exact ⟨rfl, hT9, hG9, hx9⟩
  · have hge' : ¬ ((st'.i : Int) < (st'.n.cells.length : Int)) := by omega
    clear hnode hhit hile hge
    generalize st'.i = si at *
    generalize st'.n.cells.length = cl at *
    generalize st'.n.keys.length = kl at *
    generalize st'.n.kids.length = il at *
    generalize st'.id = sid at *
    go_wp2_with fail
    refine HPUT.out.mono ?_
    rintro e w8 ⟨a, rfl, HG8⟩
    have HG8 := Lib.hid HG8
    go_wp2_with fail
    refine HG8.out.mono ?_
    rintro e w9 ⟨rfl, hT9, hG9, hx9⟩
    go_wp2_with fail
    go_ret
    exact ⟨rfl, hT9, hG9, hx9⟩

end Go.Proofs.YtccnemmlkcmceaaGreatDoor

/- The tree's calls: Put. -/
set_option linter.unusedVariables false
set_option linter.unusedSimpArgs false
namespace Go.Proofs.YtccnemmlkcmceaaGreatDoor
open Go.RowKit 

set_option maxRecDepth 100000 in
set_option maxHeartbeats 800000 in
theorem Put_bad (s : Sys) (hs : s.Ok) (w : World) (v : V) (h : TxAt w s v) (hg : v.Good) (gx i : Nat) (hx : Blk w gx 70 (treeCells s i)) (key val : Bs) (hm : may key val ≠ 0) :
    Calls Tryz.prog 25 #[.pointer (some ⟨gx, 0, none⟩), .string (str key), .string (str val)] w (Did s w (may key val, v)) := by
  have HM := Lib.hid (may_any s hs w v h gx i hx key val)
  have HT := Lib.hid (fun (w' : World) (e : Ext No w w') => h.no hs e)
  have HG := Lib.hid hg
  have hm' : ((may key val : Int) != 0) = true := by simpa using (by omega : ¬ (may key val : Int) = 0)
  generalize may key val = k at *
  clear h hg hx hm
  go_enter Tryz.func25, Tryz.ntmps25
  go_wp2_with fail
  refine (HM.out).mono ?_
  rintro e' w1 ⟨rfl, hx1⟩
  go_wp2_with fail
  go_ret
  exact ⟨rfl, HT.out _ hx1, HG.out, hx1.of_no⟩

set_option maxRecDepth 100000 in
set_option maxHeartbeats 800000 in
theorem Put_of (s : Sys) (hs : s.Ok) (w : World) (v : V) (h : TxAt w s v) (hg : v.Good) (gx i : Nat) (hx : Blk w gx 70 (treeCells s i)) (key val : Bs) (hm : may key val = 0)
    (hP : ∀ w', Ext No w w' → Calls Tryz.prog 62 #[.pointer (some ⟨gx, 0, none⟩), .string (str key), .string (str val)] w' (Did s w' (v.put0 s.cap i key val))) :
    Calls Tryz.prog 25 #[.pointer (some ⟨gx, 0, none⟩), .string (str key), .string (str val)] w (Did s w (v.Put s.cap i key val)) := by
  have HM := Lib.hid (may_any s hs w v h gx i hx key val)
  have HP := Lib.hid hP
  have HX := Lib.hid (fun (w' : World) (e : Ext s.F w w') => tree_ext h hx e)
  have e : v.Put s.cap i key val = V.sure (v.put0 s.cap i key val) := by simp [V.Put, hm]
  rw [e]
  rw [hm] at HM
  obtain ⟨r, hr⟩ : ∃ r, r = v.put0 s.cap i key val := ⟨_, rfl⟩
  rw [← hr] at HP ⊢
  clear h hg hx hm hP e hr
  obtain ⟨k, v2⟩ := r
  by_cases hk : k = 0
  · subst hk
    have e : V.sure (0, v2) = (0, v2) := rfl
    rw [e]
    clear e
    have HS := Lib.hid (sure_ok (.pointer (some ⟨gx, 0, none⟩)))
    go_enter Tryz.func25, Tryz.ntmps25
    go_wp2_with fail
    refine (HM.out).mono ?_
    rintro e' w1 ⟨rfl, hx1⟩
    go_wp2_with fail
    refine (HP.out _ hx1).mono ?_
    rintro e' w2 ⟨rfl, hT, hG, hx2⟩
    go_wp2_with fail
    refine (HS.out _).mono ?_
    rintro e' w3 ⟨rfl, rfl⟩
    go_wp2_with fail
    go_ret
    exact ⟨rfl, hT, hG, hx1.of_no.trans_ hx2⟩
  · have e : V.sure (k, v2) = (k, v2.spoil) := by simp [V.sure, hk]
    rw [e]
    clear e
    have HS := Lib.hid (fun w' (hT : TxAt w' s v2) hX => sure_bad s hs w' v2 hT gx i hX k hk)
    clear hk
    go_enter Tryz.func25, Tryz.ntmps25
    go_wp2_with fail
    refine (HM.out).mono ?_
    rintro e' w1 ⟨rfl, hx1⟩
    go_wp2_with fail
    refine (HP.out _ hx1).mono ?_
    rintro e' w2 ⟨rfl, hT, hG, hx2⟩
    go_wp2_with fail
    refine (HS.out _ hT (HX.out _ (hx1.of_no.trans_ hx2))).mono ?_
    rintro e' w3 ⟨rfl, hT3, hx3⟩
    go_wp2_with fail
    go_ret
    exact ⟨rfl, hT3, hG.spoil, (hx1.of_no.trans_ hx2).trans_ hx3⟩

end Go.Proofs.YtccnemmlkcmceaaGreatDoor

/- The tree's calls: settle. -/
set_option linter.unusedVariables false
set_option linter.unusedSimpArgs false
namespace Go.Proofs.YtccnemmlkcmceaaGreatDoor
open Go.RowKit 

set_option maxRecDepth 100000 in
set_option maxHeartbeats 1600000 in
theorem settle_wr (s : Sys) (hs : s.Ok) (w : World) (v : V) (h : TxAt w s v) (hg : v.Good) (gx i : Nat) (hx : Blk w gx 70 (treeCells s i)) (id : Nat) (n : Nd) (F : Nat → Prop) (a : Adr) (hn : NodeIn w F a n) (hf : n.fits) (first : Bool)
    (hc : first = false ∨ (n.leaf = true ∧ 0 < n.cells.length) ∨ 0 < n.keys.length) :
    Calls Tryz.prog 153 #[.pointer (some ⟨gx, 0, none⟩), .int .i64 (id : Int), n.value a.A1 a.c1 a.A2 a.c2 a.A3 a.c3, .bool first] w (Did s w (v.settle i id n first)) := by
  have HW := Lib.hid (fun o => wr_any s hs (w.alloc o) v (h.no hs ((Ext.refl No w).alloc o)) hg gx i (hx.alloc o) id n F _ _ _ _ _ _ (hn.box o) hf)
  have e : v.settle i id n first = v.wr id n := by unfold V.settle; rw [if_pos hc]
  rw [e]
  generalize v.wr id n = r at *
  simp only [Nd.value] at HW ⊢
  have hc1 : first = false ∨ (n.leaf = true ∧ (0 : Int) < (n.cells.length : Int)) ∨ (0 : Int) < (n.keys.length : Int) := by
    rcases hc with h | ⟨h, h'⟩ | h
    · exact .inl h
    · exact .inr (.inl ⟨h, by omega⟩)
    · exact .inr (.inr (by omega))
  generalize n.cells.length = cl at *
  generalize n.keys.length = kl at *
  generalize n.kids.length = il at *
  generalize n.leaf = lf at *
  clear e hn hf h hg hx hc
  have HC := Lib.hid hc1
  clear hc1
  cases first
  · clear HC
    go_enter Tryz.func153, Tryz.ntmps153
    go_wp2_with fail
    refine (HW.out _).mono ?_
    rintro e w2 ⟨rfl, hT, hG, hx2⟩
    go_wp2_with fail
    go_ret
    exact ⟨rfl, hT, hG, ((Ext.refl s.F w).alloc _).trans_ hx2⟩
  · cases lf
    · have hk : (0 : Int) < kl := by rcases HC.out with h | ⟨h, _⟩ | h; cases h; cases h; exact h
      clear HC
      go_enter Tryz.func153, Tryz.ntmps153
      go_wp2_with fail
      refine (HW.out _).mono ?_
      rintro e w2 ⟨rfl, hT, hG, hx2⟩
      go_wp2_with fail
      go_ret
      exact ⟨rfl, hT, hG, ((Ext.refl s.F w).alloc _).trans_ hx2⟩
    · by_cases hcl : (0 : Int) < cl
      · clear HC
        go_enter Tryz.func153, Tryz.ntmps153
        go_wp2_with fail
        refine (HW.out _).mono ?_
        rintro e w2 ⟨rfl, hT, hG, hx2⟩
        go_wp2_with fail
        go_ret
        exact ⟨rfl, hT, hG, ((Ext.refl s.F w).alloc _).trans_ hx2⟩
      · have hk : (0 : Int) < kl := by rcases HC.out with h | ⟨_, h⟩ | h; cases h; exact absurd h hcl; exact h
        have hc0 : cl = 0 := by omega
        subst hc0
        clear HC hcl
        go_enter Tryz.func153, Tryz.ntmps153
        go_wp2_with fail
        refine (HW.out _).mono ?_
        rintro e w2 ⟨rfl, hT, hG, hx2⟩
        go_wp2_with fail
        go_ret
        exact ⟨rfl, hT, hG, ((Ext.refl s.F w).alloc _).trans_ hx2⟩

set_option maxRecDepth 100000 in
set_option maxHeartbeats 800000 in
theorem settle_leaf (s : Sys) (hs : s.Ok) (w : World) (v : V) (h : TxAt w s v) (hg : v.Good) (gx i : Nat) (hx : Blk w gx 70 (treeCells s i)) (hi : i < 4) (id : Nat) (n : Nd) (a : Adr)
    (hlf : n.leaf = true) (hc : n.cells = []) (hk : n.keys = []) :
    Calls Tryz.prog 153 #[.pointer (some ⟨gx, 0, none⟩), .int .i64 (id : Int), n.value a.A1 a.c1 a.A2 a.c2 a.A3 a.c3, .bool true] w (Did s w (v.settle i id n true)) := by
  have HF := Lib.hid (fun o => free_any s hs (w.alloc o) v (h.no hs ((Ext.refl No w).alloc o)) hg id)
  have HG := Lib.hid (hg.drop id)
  have HX := Lib.hid (fun (w' : World) (e : Ext s.F w w') => tree_ext h hx e)
  have HS := Lib.hid (fun w h => setroot_any s hs w (v.drop id).2 h i 0 hi (by omega))
  have e : v.settle i id n true = if (v.drop id).1 ≠ 0 then v.drop id else (0, (v.drop id).2.setR i 0) := by
    unfold V.settle; rw [if_neg (by simp [hc, hk])]; simp [hlf]
  rw [e]
  have c0 := hx.cell 0
  simp [treeCells] at c0
  have hgl := hx.lt
  generalize v.drop id = r at *
  obtain ⟨k, v2⟩ := r
  simp only [Nd.value, hlf, hc, hk, List.length_nil] at HF HG HS ⊢
  generalize n.kids.length = il at *
  clear e h hg hx hlf hc hk
  by_cases hk : k = 0
  · subst hk
    rw [if_neg (by simp)]
    go_enter Tryz.func153, Tryz.ntmps153
    go_wp2_with fail
    refine (HF.out _).mono ?_
    rintro e w2 ⟨rfl, hT, hx2⟩
    have hE2 := ((Ext.refl s.F w).alloc (.cells #[.bool true, .slice a.A1 0 a.c1, .slice a.A2 0 a.c2, .slice a.A3 il a.c3] 40)).trans_ hx2
    have hX2 := HX.out _ hE2
    have d0 := hX2.cell 0
    have d1 := hX2.cell 1
    simp [treeCells] at d0 d1
    have HSR := Lib.hid (HS.out w2.drew (hT.no hs (Ext.refl No w2).drew))
    have HE2 := Lib.hid hE2
    clear hT hx2 hE2 hX2
    go_wp2_with fail
    go_region_law ((go_simp; go_at_call 21; refine (HSR.out).mono ?_; rintro e w7 ⟨rfl, hT7, hx7⟩; have HT7 := Lib.hid hT7; have HX7 := Lib.hid hx7; clear hT7 hx7))
    all_goals (
      go_wp2_with fail
      go_ret
      exact ⟨rfl, HT7.out, HG.out.setR _ _, HE2.out.drew.trans_ HX7.out⟩)
  · rw [if_pos hk]
    have hk' : ((k : Int) != 0) = true := by simpa using (by omega : ¬ (k : Int) = 0)
    clear hk
    go_enter Tryz.func153, Tryz.ntmps153
    go_wp2_with fail
    refine (HF.out _).mono ?_
    rintro e w2 ⟨rfl, hT, hx2⟩
    go_wp2_with fail
    go_ret
    exact ⟨rfl, hT, HG.out, ((Ext.refl s.F w).alloc _).trans_ hx2⟩

set_option maxRecDepth 100000 in
set_option maxHeartbeats 800000 in
theorem settle_branch (s : Sys) (hs : s.Ok) (w : World) (v : V) (h : TxAt w s v) (hg : v.Good) (gx i : Nat) (hx : Blk w gx 70 (treeCells s i)) (hi : i < 4) (id : Nat) (n : Nd) (a : Adr)
    (hlf : n.leaf = false) (hk : n.keys = []) (hn : NodeIn w s.F a n) (kid : Nat) (hkid : n.kids[0]? = some kid) (hk31 : kid < 2147483648) :
    Calls Tryz.prog 153 #[.pointer (some ⟨gx, 0, none⟩), .int .i64 (id : Int), n.value a.A1 a.c1 a.A2 a.c2 a.A3 a.c3, .bool true] w (Did s w (v.settle i id n true)) := by
  have HF := Lib.hid (fun o => free_any s hs (w.alloc o) v (h.no hs ((Ext.refl No w).alloc o)) hg id)
  have HG := Lib.hid (hg.drop id)
  have HX := Lib.hid (fun (w' : World) (e : Ext s.F w w') => tree_ext h hx e)
  have HS := Lib.hid (fun w h => setroot_any s hs w (v.drop id).2 h i kid hi hk31)
  have hkd : n.kids.getD 0 0 = kid := by simp [List.getD, hkid]
  have e : v.settle i id n true = if (v.drop id).1 ≠ 0 then v.drop id else (0, (v.drop id).2.setR i kid) := by
    unfold V.settle; rw [if_neg (by simp [hlf, hk])]; simp only [hlf, Bool.false_eq_true, if_false, hkd]
  rw [e]
  obtain ⟨kb, ko, hA3, hbF, q0⟩ := hn.kids.kidAt hkid
  simp only [Nat.add_zero] at q0
  have lq := World.block_lt_of_cell? w _ q0
  simp only at lq
  have hil : 0 < n.kids.length := (List.getElem?_eq_some_iff.1 hkid).1
  have hil' : (0 : Int) < n.kids.length := by omega
  have c0 := hx.cell 0
  simp [treeCells] at c0
  have hgl := hx.lt
  generalize v.drop id = r at *
  obtain ⟨k, v2⟩ := r
  simp only [Nd.value, hlf, hk, List.length_nil, hA3] at HF HG HS ⊢
  generalize n.kids.length = il at *
  generalize n.cells.length = cl at *
  clear e h hg hx hlf hk hn hkid hkd hA3 hbF
  by_cases hk : k = 0
  · subst hk
    rw [if_neg (by simp)]
    go_enter Tryz.func153, Tryz.ntmps153
    go_wp2_with fail
    refine (HF.out _).mono ?_
    rintro e w2 ⟨rfl, hT, hx2⟩
    have hE2 := ((Ext.refl s.F w).alloc (.cells #[.bool false, .slice a.A1 cl a.c1, .slice a.A2 0 a.c2, .slice (some ⟨kb, ko, none⟩) il a.c3] 40)).trans_ hx2
    have hX2 := HX.out _ hE2
    have d0 := hX2.cell 0
    have d1 := hX2.cell 1
    simp [treeCells] at d0 d1
    have HSR := Lib.hid (HS.out w2.drew (hT.no hs (Ext.refl No w2).drew))
    have HE2 := Lib.hid hE2
    clear hT hx2 hE2 hX2
    go_wp2_with fail
    go_region_law ((go_simp; go_at_call 21; refine (HSR.out).mono ?_; rintro e w7 ⟨rfl, hT7, hx7⟩; have HT7 := Lib.hid hT7; have HX7 := Lib.hid hx7; clear hT7 hx7))
    all_goals (
      go_wp2_with fail
      go_ret
      exact ⟨rfl, HT7.out, HG.out.setR _ _, HE2.out.drew.trans_ HX7.out⟩)
  · rw [if_pos hk]
    have hk' : ((k : Int) != 0) = true := by simpa using (by omega : ¬ (k : Int) = 0)
    clear hk
    go_enter Tryz.func153, Tryz.ntmps153
    go_wp2_with fail
    refine (HF.out _).mono ?_
    rintro e w2 ⟨rfl, hT, hx2⟩
    go_wp2_with fail
    go_ret
    exact ⟨rfl, hT, HG.out, ((Ext.refl s.F w).alloc _).trans_ hx2⟩

end Go.Proofs.YtccnemmlkcmceaaGreatDoor

/- The tree's calls: shrink of a way of one node; delete, Delete. -/
set_option linter.unusedVariables false
set_option linter.unusedSimpArgs false
namespace Go.Proofs.YtccnemmlkcmceaaGreatDoor
open Go.RowKit 

/-- shrink's contract. -/
def ShrinkOk (s : Sys) (root : Nat) (v : V) (ws : List Stp) (n : Nd) : Prop :=
  ∀ (w : World) (gx : Nat) (F : Nat → Prop) (A : Option Addr) (cap : Nat) (l : List (Stp × Adr)) (a : Adr), TxAt w s v → v.Good → Blk w gx 70 (treeCells s root) → (∀ b, s.F b → F b) → WayAt w F A cap l → l.map (·.1) = ws → NodeIn w F a n → n.fits →
    Calls Tryz.prog 102 #[.pointer (some ⟨gx, 0, none⟩), .slice A ws.length cap, n.value a.A1 a.c1 a.A2 a.c2 a.A3 a.c3] w (Did s w (V.shrink s.cap root ws.reverse n v))

set_option maxRecDepth 100000 in
set_option maxHeartbeats 1600000 in
theorem shrink_one (s : Sys) (hs : s.Ok) (root : Nat) (hroot : root < 4) (v : V) (st : Stp) (n : Nd) (hlf : n.leaf = true) (hks : n.keys = []) : ShrinkOk s root v [st] n := by
  intro w gx F A cap l a h hg hx hF hWA hlw hn hf
  have e : V.shrink s.cap root [st].reverse n v = v.settle root st.id n true := rfl
  rw [e]
  obtain ⟨p, hp, hlast⟩ := last_of (m := 0) hlw rfl
  obtain ⟨st', ad⟩ := p
  have : st' = st := by simpa using hlast.symm
  subst this
  obtain ⟨b, o, hA, hbF, q0, q1, q2, q3, q4, q5⟩ := hWA.at hp
  simp only [Nat.zero_mul, Nat.add_zero] at q0
  subst hA
  have lb := World.block_lt_of_cell? w _ q0
  simp only at lb
  have hcap : 1 ≤ cap := by
    have := hWA.cap
    have h2 : l.length = 1 := by have := congrArg List.length hlw; simpa using this
    omega
  have HS : Hid (∀ o, Calls Tryz.prog 153 #[.pointer (some ⟨gx, 0, none⟩), .int .i64 (st'.id : Int), n.value a.A1 a.c1 a.A2 a.c2 a.A3 a.c3, .bool true] (w.alloc o).drew (Did s (w.alloc o).drew (v.settle root st'.id n true))) := Lib.hid (fun o => by
    have hE : Ext No w (w.alloc o).drew := ((Ext.refl No w).alloc o).drew
    by_cases hc : n.cells = []
    · exact settle_leaf s hs _ v (h.no hs hE) hg gx root (hx.ext hE (fun h => h)) hroot st'.id n a hlf hc hks
    · exact settle_wr s hs _ v (h.no hs hE) hg gx root (hx.ext hE (fun h => h)) st'.id n F a (hn.ext hE.of_no) hf true (.inr (.inl ⟨hlf, List.length_pos_iff.2 hc⟩)))
  generalize v.settle root st'.id n true = r at *
  simp only [Nd.value, List.length_singleton] at HS ⊢
  generalize n.cells.length = cl at *
  generalize n.keys.length = kl at *
  generalize n.kids.length = il at *
  generalize n.leaf = lf at *
  generalize st'.id = sid at *
  clear e hlast hp hWA hlw hn hf hx hg h q1 q2 q3 q4 q5 hbF hlf hks
  go_enter Tryz.func102, Tryz.ntmps102
  go_wp2_with fail
  go_step3
  go_wp2_with fail
  go_step3
  go_wp2_with fail
  go_loopg [1, 7] 0 (fun gk ww k wr => ww = .slice (some ⟨b, o, none⟩) 1 cap ∧ k = .int .i64 0 ∧ wr = w.alloc (.cells #[.bool lf, .slice a.A1 cl a.c1, .slice a.A2 kl a.c2, .slice a.A3 il a.c3] 40))
  case atStart => exact ⟨rfl, by go_num, rfl⟩
  case round =>
    obtain ⟨rfl, rfl, rfl⟩ := hrel
    have bn := Blk.new w 40 #[.bool lf, .slice a.A1 cl a.c1, .slice a.A2 kl a.c2, .slice a.A3 il a.c3]
    obtain ⟨p0, p1, p2, p3, g0, g1, g2, g3, ln⟩ := bn.p4
    have q0' := cell_ext ((Ext.refl No w).alloc (.cells #[.bool lf, .slice a.A1 cl a.c1, .slice a.A2 kl a.c2, .slice a.A3 il a.c3] 40)) q0 (fun h => h)
    have HE0 := Lib.hid (((Ext.refl s.F w).alloc (.cells #[.bool lf, .slice a.A1 cl a.c1, .slice a.A2 kl a.c2, .slice a.A3 il a.c3] 40)).drew)
    have hw0 : IntKind.i64.wrap 0 = 0 := rfl
    clear q0 bn
    go_wp2_with fail
    go_region_law ((go_simp; go_at_call 153; refine (HS.out _).mono ?_; rintro e w2 ⟨rfl, hT, hG, hx2⟩; have HT := Lib.hid hT; have HG := Lib.hid hG; have HX := Lib.hid hx2; clear hT hG hx2))
    all_goals (
      go_wp2_with fail
      try rw [Exit.noGoto_ret]
      go_ret
      exact ⟨rfl, HT.out, HG.out, HE0.out.trans_ HX.out⟩)

end Go.Proofs.YtccnemmlkcmceaaGreatDoor

/- The tree's calls: delete. -/
set_option linter.unusedVariables false
set_option linter.unusedSimpArgs false
namespace Go.Proofs.YtccnemmlkcmceaaGreatDoor
open Go.RowKit 

/-- The ending of a delete. -/
def DidB (s : Sys) (w : World) (r : Bool × Nat × V) (e : Ending) (w' : World) : Prop := e = .returned (.tuple #[.bool r.1, .int .i64 (r.2.1 : Int)]) ∧ TxAt w' s r.2.2 ∧ r.2.2.Good ∧ Ext s.F w w'

set_option maxRecDepth 100000 in
set_option maxHeartbeats 1600000 in
theorem del0_none (s : Sys) (hs : s.Ok) (w : World) (v : V) (h : TxAt w s v) (hg : v.Good) (gx i : Nat) (hx : Blk w gx 70 (treeCells s i)) (hi : i < 4) (key : Bs) (hw : v.way i key = none) :
    Calls Tryz.prog 63 #[.pointer (some ⟨gx, 0, none⟩), .string (str key)] w (DidB s w (false, 5, v)) := by
  have HW := Lib.hid (way_any s hs w v h hg gx i hx hi key)
  have HT := Lib.hid (fun (w' : World) (e : Ext No w w') => h.no hs e)
  have HG := Lib.hid hg
  rw [hw] at HW
  clear h hg hx hw
  go_enter Tryz.func63, Tryz.ntmps63
  go_wp2_with fail
  refine (HW.out).mono ?_
  rintro e' w2 ⟨hx2, rfl⟩
  go_wp2_with fail
  go_ret2
  exact ⟨rfl, HT.out _ hx2, HG.out, hx2.of_no⟩

/-- What delete knows behind the way. -/
structure Lst (w w2 : World) (ws : List Stp) (m : Nat) (key : Bs) (st : Stp) (ad : Adr) (b o cap : Nat) (l : List (Stp × Adr)) : Prop where
  hl : l.map (·.1) = ws
  lf : st.n.leaf = true
  ok : st.n.ok = true
  ile : st.i ≤ st.n.cells.length
  q0 : w2.cell? ⟨b, o + m * 6, none⟩ = some (.int .i64 (st.id : Int))
  q1 : w2.cell? ⟨b, o + m * 6 + 1, none⟩ = some (.bool true)
  q2 : w2.cell? ⟨b, o + m * 6 + 2, none⟩ = some (.slice ad.A1 st.n.cells.length ad.c1)
  q3 : w2.cell? ⟨b, o + m * 6 + 3, none⟩ = some (.slice ad.A2 st.n.keys.length ad.c2)
  q4 : w2.cell? ⟨b, o + m * 6 + 4, none⟩ = some (.slice ad.A3 st.n.kids.length ad.c3)
  q5 : w2.cell? ⟨b, o + m * 6 + 5, none⟩ = some (.int .i64 (st.i : Int))
  lb : b < w2.heap.size
  hcap : m + 1 ≤ cap
  hcl1 : st.n.cells.length ≤ ad.c1
  hb1 : st.n.cells.length < 65536
  node : NodeIn w2 (Old w) ad st.n
  way : WayAt w2 (Old w) (some ⟨b, o, none⟩) cap l

theorem Lst.of {v : V} {key : Bs} {w w2 : World} {ws : List Stp} {m : Nat} {st : Stp} {A : Option Addr} {cap : Nat} {l : List (Stp × Adr)} (hWO : WayOk v key ws) (hwl : ws.length = m + 1) (hst : ws.getLast? = some st) (hl : l.map (·.1) = ws)
    (hWA : WayAt w2 (Old w) A cap l) : ∃ ad b o, A = some ⟨b, o, none⟩ ∧ Lst w w2 ws m key st ad b o cap l := by
  obtain ⟨p, hp, hlast⟩ := last_of hl hwl
  obtain ⟨st', ad⟩ := p
  have : st' = st := by rw [hlast] at hst; simpa using hst
  subst this
  obtain ⟨b, o, hA, hbF, q0, q1, q2, q3, q4, q5⟩ := hWA.at hp
  have hnode := hWA.nodes (st', ad) (List.mem_of_getElem? hp)
  simp only at q0 q1 q2 q3 q4 q5 hnode
  have hlf := hWO.last st' hlast
  obtain ⟨hnd, hsi⟩ := hWO.all st' (List.mem_of_getLast? hlast)
  have hok := V.node_ok hnd
  have hile : st'.i ≤ st'.n.cells.length := by rw [hsi]; exact (Nd.find_le hok key).1 hlf
  rw [hlf] at q1
  subst hA
  refine ⟨ad, b, o, rfl, hl, hlf, hok, hile, q0, q1, q2, q3, q4, q5, World.block_lt_of_cell? w2 _ q0, ?_, hnode.l1, hnode.b1, hnode, hWA⟩
  have := hWA.cap
  have h2 : l.length = m + 1 := by rw [← hwl, ← hl, List.length_map]
  omega

set_option maxRecDepth 100000 in
set_option maxHeartbeats 1600000 in
theorem del0_miss (s : Sys) (hs : s.Ok) (w : World) (v : V) (h : TxAt w s v) (hg : v.Good) (gx i : Nat) (hx : Blk w gx 70 (treeCells s i)) (hi : i < 4) (key : Bs) (ws : List Stp) (hw : v.way i key = some ws) (hh : hit ws key = none) :
    Calls Tryz.prog 63 #[.pointer (some ⟨gx, 0, none⟩), .string (str key)] w (DidB s w (false, 0, v)) := by
  have HW := Lib.hid (way_any s hs w v h hg gx i hx hi key)
  have HT := Lib.hid (fun (w' : World) (e : Ext No w w') => h.no hs e)
  have HG := Lib.hid hg
  have HWO := Lib.hid (way_ok hw)
  rw [hw] at HW
  clear h hg hx hw
  have HH := Lib.hid hh
  clear hh
  rcases Nat.eq_zero_or_pos ws.length with hwl | hwl
  · have hn : ws = [] := List.eq_nil_of_length_eq_zero hwl
    subst hn
    clear hwl
    go_enter Tryz.func63, Tryz.ntmps63
    go_wp2_with fail
    refine (HW.out).mono ?_
    rintro e' w2 ⟨hx2, A, cap, l, hl, rfl, _⟩
    clear hl
    simp only [List.length_nil]
    go_wp2_with fail
    go_ret2
    exact ⟨rfl, HT.out _ hx2, HG.out, hx2.of_no⟩
  · obtain ⟨m, hwl⟩ : ∃ m, ws.length = m + 1 := by cases hz : ws.length <;> simp_all
    have hst : ∃ st, ws.getLast? = some st := by cases hz : ws.getLast? <;> simp_all
    obtain ⟨st, hst⟩ := hst
    have HST := Lib.hid hst
    have hm41 : m ≤ 40 := by have := HWO.out.len; omega
    have HWL := Lib.hid hwl
    have hhit := hit_eq hst key
    rw [HH.out] at hhit
    have HHIT := Lib.hid hhit
    clear hst hwl hhit
    go_enter Tryz.func63, Tryz.ntmps63
    go_wp2_with fail
    refine (HW.out).mono ?_
    rintro e' w2 ⟨hx2, A, cap, l, hl, rfl, hWA⟩
    rw [HWL.out]
    obtain ⟨ad, b, o, rfl, hL⟩ := Lst.of HWO.out HWL.out HST.out hl hWA
    obtain ⟨q0, q1, q2, q3, q4, q5⟩ := And.intro hL.q0 (And.intro hL.q1 (And.intro hL.q2 (And.intro hL.q3 (And.intro hL.q4 hL.q5))))
    have lb := hL.lb
    have hcap := hL.hcap
    have hcl1 := hL.hcl1
    have hb1 := hL.hb1
    have hile := hL.ile
    have hnode := hL.node
    have HX2 := Lib.hid hx2
    clear hl hWA hL hx2
    rcases Nat.lt_or_ge st.i st.n.cells.length with hlt | hge
    · obtain ⟨d, hd⟩ : ∃ d, st.n.cells[st.i]? = some d := ⟨_, List.getElem?_eq_getElem hlt⟩
      obtain ⟨cb, co, hA1, _, k0, k1, k2, k3⟩ := hnode.cells.cellAt hd
      have lc := World.block_lt_of_cell? w2 _ k0
      simp only at lc
      rw [hA1] at q2
      have hhit := HHIT.out
      rw [hd] at hhit
      simp only at hhit
      have hbk : (d.key == key) = false := by
        by_cases hk : d.key = key
        · rw [if_pos hk] at hhit; cases hhit
        · simpa using hk
      have hnei : ¬ ((st.i : Int) = (st.n.cells.length : Int)) := by omega
      clear hd hnode hA1 hile hhit
      generalize st.i = si at *
      generalize st.n.cells.length = cl at *
      generalize st.n.keys.length = kl at *
      generalize st.n.kids.length = il at *
      generalize st.id = sid at *
      go_wp2_with fail
      go_ret2
      exact ⟨rfl, HT.out _ (HX2.out.alloc _), HG.out, (HX2.out.alloc _).of_no⟩
    · have hieq : (st.i : Int) = (st.n.cells.length : Int) := by omega
      clear hnode hile hge
      generalize st.i = si at *
      generalize st.n.cells.length = cl at *
      generalize st.n.keys.length = kl at *
      generalize st.n.kids.length = il at *
      generalize st.id = sid at *
      have hse : si = cl := by omega
      subst hse
      clear hieq
      go_wp2_with fail
      go_ret2
      exact ⟨rfl, HT.out _ (HX2.out.alloc _), HG.out, (HX2.out.alloc _).of_no⟩

end Go.Proofs.YtccnemmlkcmceaaGreatDoor

/- The tree's calls: delete of a key that is there; Delete. -/
set_option linter.unusedVariables false
set_option linter.unusedSimpArgs false
namespace Go.Proofs.YtccnemmlkcmceaaGreatDoor
open Go.RowKit 

theorem Nd.cut_fits {n : Nd} {i : Nat} (h : n.fits) : (n.cut i).fits := by
  refine ⟨fun d hd => ?_, h.k, h.i⟩
  simp only [Nd.cut] at hd
  rcases List.mem_append.1 hd with hd | hd
  · exact h.c d (List.mem_of_mem_take hd)
  · exact h.c d (List.mem_of_mem_drop hd)

/-- The end of delete: the cell is cut out, and the way shrinks. -/
theorem shrink_cut (s : Sys) (hs : s.Ok) (w wT : World) (v : V) (hT : TxAt wT s v) (hg : v.Good) (gx i : Nat) (hx : Blk wT gx 70 (treeCells s i)) (ws : List Stp) (st : Stp) (j : Nat) (hj : j < st.n.cells.length)
    (A : Option Addr) (cap : Nat) (l : List (Stp × Adr)) (hl : l.map (·.1) = ws) (hWA : WayAt wT (Old w) A cap l) (ad : Adr) (hn : NodeIn wT (Old w) ad st.n) (hok : st.n.ok = true) (hlf : st.n.leaf = true) (hO : ∀ b, s.F b → Old w b) (hE : Ext s.F w wT)
    (hG : ShrinkOk s i v ws (st.n.cut j)) :
    Calls Tryz.prog 103 #[st.n.value ad.A1 ad.c1 ad.A2 ad.c2 ad.A3 ad.c3, .int .i64 (j : Int)] wT fun e w8 => ∃ a : Adr, e = .returned ((st.n.cut j).value a.A1 a.c1 a.A2 a.c2 a.A3 a.c3) ∧
      Calls Tryz.prog 102 #[.pointer (some ⟨gx, 0, none⟩), .slice A ws.length cap, (st.n.cut j).value a.A1 a.c1 a.A2 a.c2 a.A3 a.c3] w8 (Did s w (V.shrink s.cap i ws.reverse (st.n.cut j) v)) := by
  have hOk := Nd.Ok.of hok
  obtain ⟨h1, h2⟩ := hOk.lf hlf
  refine (cut_any st.n j wT (Old w) _ _ _ _ _ _ hn hlf h1 h2 hj (by have := hOk.a1; omega)).mono ?_
  rintro e w8 ⟨hx8, A1, c1, A2, c2, A3, c3, rfl, hn8⟩
  have hsz := hE.size
  refine ⟨⟨A1, c1, A2, c2, A3, c3⟩, rfl, ?_⟩
  refine (hG w8 gx (Old w) A cap l ⟨A1, c1, A2, c2, A3, c3⟩ (hT.no hs hx8) hg (hx.ext hx8 (fun h => h)) hO (hWA.ext hx8.of_no) hl (hn8.mono (fun b _ hb => Nat.lt_of_lt_of_le hb hsz)) (Nd.cut_fits (Nd.Ok.fits hOk))).mono ?_
  rintro e w9 ⟨he, hT9, hG9, hx9⟩
  exact ⟨he, hT9, hG9, (hE.trans_ hx8.of_no).trans_ hx9⟩

set_option maxRecDepth 100000 in
set_option maxHeartbeats 1600000 in
theorem del0_hit (s : Sys) (hs : s.Ok) (w : World) (v : V) (h : TxAt w s v) (hg : v.Good) (gx i : Nat) (hx : Blk w gx 70 (treeCells s i)) (hi : i < 4) (key : Bs) (ws : List Stp) (hw : v.way i key = some ws) (st : Stp) (hst : ws.getLast? = some st) (c : Cell) (hh : hit ws key = some c)
    (hSh : (v.letGo c).1 = 0 → ShrinkOk s i (v.letGo c).2 ws (st.n.cut st.i)) :
    Calls Tryz.prog 63 #[.pointer (some ⟨gx, 0, none⟩), .string (str key)] w (DidB s w (if (v.letGo c).1 ≠ 0 then (false, v.letGo c) else (true, V.shrink s.cap i ws.reverse (st.n.cut st.i) (v.letGo c).2))) := by
  have HW := Lib.hid (way_any s hs w v h hg gx i hx hi key)
  have HLG := Lib.hid (fun w' (e : Ext No w w') => letgo_any s hs w' v (h.no hs e) hg gx i (hx.ext e (fun h => h)) c)
  have HX0 := Lib.hid (fun (w' : World) (e : Ext s.F w w') => tree_ext h hx e)
  have HO := Lib.hid (Old.of h)
  have HSH := Lib.hid hSh
  have HWO := Lib.hid (way_ok hw)
  have HST := Lib.hid hst
  rw [hw] at HW
  have hwl : ∃ m, ws.length = m + 1 := by cases hz : ws.length <;> simp_all
  obtain ⟨m, hwl⟩ := hwl
  have hm41 : m ≤ 40 := by have := HWO.out.len; omega
  have HWL := Lib.hid hwl
  have hhit := hit_eq hst key
  rw [hh] at hhit
  have hlt : st.i < st.n.cells.length := by
    rcases Nat.lt_or_ge st.i st.n.cells.length with h | h
    · exact h
    · rw [List.getElem?_eq_none h] at hhit; cases hhit
  obtain ⟨d, hd⟩ : ∃ d, st.n.cells[st.i]? = some d := ⟨_, List.getElem?_eq_getElem hlt⟩
  rw [hd] at hhit
  simp only at hhit
  have hdk : d = c ∧ d.key = key := by
    by_cases hk : d.key = key
    · rw [if_pos hk] at hhit; exact ⟨by injection hhit with h; exact h.symm, hk⟩
    · rw [if_neg hk] at hhit; cases hhit
  obtain ⟨rfl, hk⟩ := hdk
  have hbk : (d.key == key) = true := by simpa using hk
  have hnei : ¬ ((st.i : Int) = (st.n.cells.length : Int)) := by omega
  have HD := Lib.hid hd; have HLT := Lib.hid hlt
  obtain ⟨r, hr⟩ : ∃ r, r = v.letGo d := ⟨_, rfl⟩
  rw [← hr] at HSH HLG ⊢
  obtain ⟨k, v2⟩ := r
  simp only [Cell.agg] at HLG HSH ⊢
  clear h hg hx hw hSh hst hh hwl hhit hd hlt hk hr
  by_cases hk0 : k = 0
  · subst hk0
    rw [if_neg (by simp)]
    go_enter Tryz.func63, Tryz.ntmps63
    go_wp2_with fail
    refine (HW.out).mono ?_
    rintro e' w2 ⟨hx2, A, cap, l, hl, rfl, hWA⟩
    rw [HWL.out]
    obtain ⟨ad, b, o, rfl, hL⟩ := Lst.of HWO.out HWL.out HST.out hl hWA
    obtain ⟨q0, q1, q2, q3, q4, q5⟩ := And.intro hL.q0 (And.intro hL.q1 (And.intro hL.q2 (And.intro hL.q3 (And.intro hL.q4 hL.q5))))
    have lb := hL.lb
    have hcap := hL.hcap
    have hcl1 := hL.hcl1
    have hb1 := hL.hb1
    have hnode := hL.node
    obtain ⟨cb, co, hA1, hcF, k0, k1, k2, k3⟩ := hnode.cells.cellAt HD.out
    have lc := World.block_lt_of_cell? w2 _ k0
    simp only at lc
    have HX2 := Lib.hid hx2; have HL := Lib.hid hL; have HA1 := Lib.hid hA1; have HWA := Lib.hid hWA; have HLL := Lib.hid hl
    have HN := Lib.hid hnode
    rw [hA1] at q2
    have hlt' : (st.i : Int) < (st.n.cells.length : Int) := by have := HLT.out; omega
    have hlt'' : st.i < ad.c1 := by have := HLT.out; omega
    obtain ⟨kk0, kk1, kk2, kk3⟩ := And.intro k0 (And.intro k1 (And.intro k2 k3))
    clear hl hWA hL hx2 hnode hA1
    obtain ⟨nl, hnl⟩ : ∃ nl, nl = st.n.cells.length := ⟨_, rfl⟩
    obtain ⟨si, hsi⟩ : ∃ si, si = st.i := ⟨_, rfl⟩
    rw [← hnl] at q2 hlt' hnei hb1 hcl1
    rw [← hsi] at q5 k0 k1 k2 k3 hlt' hlt'' hnei
    have HNL := Lib.hid hnl; have HSI := Lib.hid hsi
    clear hnl hsi kk0 kk1 kk2 kk3
    go_wp2_with fail
    refine (HLG.out _ (HX2.out.alloc _)).mono ?_
    rintro e w5 ⟨rfl, hT5, hG5, hx5⟩
    have hEa : Ext No w2 (w2.alloc (.cells #[.int .i64 (st.id : Int), .bool true, .slice (some ⟨cb, co, none⟩) nl ad.c1, .slice ad.A2 st.n.keys.length ad.c2, .slice ad.A3 st.n.kids.length ad.c3, .int .i64 (si : Int)] 125)) := (Ext.refl No w2).alloc _
    have hE5 := (HX2.out.trans_ hEa).of_no.trans_ hx5
    have hx5' : Ext (Old w) _ w5 := hx5.mono fun b _ hb => HO.out b hb
    have hPUT := shrink_cut s hs w w5 v2 hT5 hG5 gx i (HX0.out _ hE5) ws st st.i HLT.out _ cap l HLL.out ((HWA.out.ext hEa.of_no).ext hx5') ad ((HN.out.ext hEa.of_no).ext hx5') HL.out.ok HL.out.lf HO.out hE5 (HSH.out (by trivial))
    have hPV : st.n.value ad.A1 ad.c1 ad.A2 ad.c2 ad.A3 ad.c3 = .agg #[.bool true, .slice (some ⟨cb, co, none⟩) nl ad.c1, .slice ad.A2 st.n.keys.length ad.c2, .slice ad.A3 st.n.kids.length ad.c3] := by
      rw [HNL.out, ← HA1.out, ← HL.out.lf]; rfl
    rw [hPV, HWL.out, ← HSI.out] at hPUT
    have HPUT := Lib.hid hPUT
    have bn5 := (Blk.new w2 125 #[.int .i64 (st.id : Int), .bool true, .slice (some ⟨cb, co, none⟩) nl ad.c1, .slice ad.A2 st.n.keys.length ad.c2, .slice ad.A3 st.n.kids.length ad.c3, .int .i64 (si : Int)]).ext hx5 (fun h => by
      have h1 : w2.heap.size < w.heap.size := HO.out _ h
      have := HX2.out.size
      omega)
    obtain ⟨z0, z1, z2, z3, z4, z5, lz⟩ := bn5.p6
    clear hT5 hG5 hx5 hEa hE5 hx5' hPUT hPV bn5
    go_wp2_with fail
    refine HPUT.out.mono ?_
    rintro e w8 ⟨a, rfl, HG8⟩
    have HG8 := Lib.hid HG8
    go_wp2_with fail
    refine HG8.out.mono ?_
    rintro e w9 ⟨rfl, hT9, hG9, hx9⟩
    go_wp2_with fail
    go_ret2
    rw [← HSI.out]
    exact ⟨rfl, hT9, hG9, hx9⟩
  · have hk' : ((k : Int) != 0) = true := by simpa using (by omega : ¬ (k : Int) = 0)
    rw [if_pos hk0]
    clear hk0
    go_enter Tryz.func63, Tryz.ntmps63
    go_wp2_with fail
    refine (HW.out).mono ?_
    rintro e' w2 ⟨hx2, A, cap, l, hl, rfl, hWA⟩
    rw [HWL.out]
    obtain ⟨ad, b, o, rfl, hL⟩ := Lst.of HWO.out HWL.out HST.out hl hWA
    obtain ⟨q0, q1, q2, q3, q4, q5⟩ := And.intro hL.q0 (And.intro hL.q1 (And.intro hL.q2 (And.intro hL.q3 (And.intro hL.q4 hL.q5))))
    have lb := hL.lb
    have hcap := hL.hcap
    have hcl1 := hL.hcl1
    have hb1 := hL.hb1
    have hnode := hL.node
    obtain ⟨cb, co, hA1, hcF, k0, k1, k2, k3⟩ := hnode.cells.cellAt HD.out
    have lc := World.block_lt_of_cell? w2 _ k0
    simp only at lc
    have HX2 := Lib.hid hx2; have HL := Lib.hid hL; have HA1 := Lib.hid hA1; have HWA := Lib.hid hWA; have HLL := Lib.hid hl
    have HN := Lib.hid hnode
    rw [hA1] at q2
    have hlt' : (st.i : Int) < (st.n.cells.length : Int) := by have := HLT.out; omega
    have hlt'' : st.i < ad.c1 := by have := HLT.out; omega
    obtain ⟨kk0, kk1, kk2, kk3⟩ := And.intro k0 (And.intro k1 (And.intro k2 k3))
    clear hl hWA hL hx2 hnode hA1
    obtain ⟨nl, hnl⟩ : ∃ nl, nl = st.n.cells.length := ⟨_, rfl⟩
    obtain ⟨si, hsi⟩ : ∃ si, si = st.i := ⟨_, rfl⟩
    rw [← hnl] at q2 hlt' hnei hb1 hcl1
    rw [← hsi] at q5 k0 k1 k2 k3 hlt' hlt'' hnei
    have HNL := Lib.hid hnl; have HSI := Lib.hid hsi
    clear hnl hsi kk0 kk1 kk2 kk3
    go_wp2_with fail
    refine (HLG.out _ (HX2.out.alloc _)).mono ?_
    rintro e w5 ⟨rfl, hT5, hG5, hx5⟩
    go_wp2_with fail
    go_ret2
    exact ⟨rfl, hT5, hG5, (HX2.out.alloc _).of_no.trans_ hx5⟩

set_option maxRecDepth 100000 in
set_option maxHeartbeats 800000 in
theorem Del_bad (s : Sys) (hs : s.Ok) (w : World) (v : V) (h : TxAt w s v) (hg : v.Good) (gx i : Nat) (hx : Blk w gx 70 (treeCells s i)) (key : Bs) (hm : may key [] ≠ 0) :
    Calls Tryz.prog 27 #[.pointer (some ⟨gx, 0, none⟩), .string (str key)] w (DidB s w (false, may key [], v)) := by
  have HM := Lib.hid (may_any s hs w v h gx i hx key [])
  have HT := Lib.hid (fun (w' : World) (e : Ext No w w') => h.no hs e)
  have HG := Lib.hid hg
  have hm' : ((may key [] : Int) != 0) = true := by simpa using (by omega : ¬ (may key [] : Int) = 0)
  generalize may key [] = k at *
  clear h hg hx hm
  go_enter Tryz.func27, Tryz.ntmps27
  go_wp2_with fail
  refine (HM.out).mono ?_
  rintro e' w1 ⟨rfl, hx1⟩
  go_wp2_with fail
  go_ret2
  exact ⟨rfl, HT.out _ hx1, HG.out, hx1.of_no⟩

set_option maxRecDepth 100000 in
set_option maxHeartbeats 800000 in
theorem Del_of (s : Sys) (hs : s.Ok) (w : World) (v : V) (h : TxAt w s v) (gx i : Nat) (hx : Blk w gx 70 (treeCells s i)) (key : Bs) (hm : may key [] = 0)
    (hP : ∀ w', Ext No w w' → Calls Tryz.prog 63 #[.pointer (some ⟨gx, 0, none⟩), .string (str key)] w' (DidB s w' (v.del0 s.cap i key))) :
    Calls Tryz.prog 27 #[.pointer (some ⟨gx, 0, none⟩), .string (str key)] w (DidB s w (v.Del s.cap i key)) := by
  have HM := Lib.hid (may_any s hs w v h gx i hx key [])
  have HP := Lib.hid hP
  have HX := Lib.hid (fun (w' : World) (e : Ext s.F w w') => tree_ext h hx e)
  have e : v.Del s.cap i key = if (v.del0 s.cap i key).2.1 = 0 then v.del0 s.cap i key else (false, (v.del0 s.cap i key).2.1, (v.del0 s.cap i key).2.2.spoil) := by simp [V.Del, hm, V.spoil]
  rw [e]
  rw [hm] at HM
  obtain ⟨r, hr⟩ : ∃ r, r = v.del0 s.cap i key := ⟨_, rfl⟩
  rw [← hr] at HP ⊢
  clear h hx hm hP e hr
  obtain ⟨b, k, v2⟩ := r
  by_cases hk : k = 0
  · subst hk
    rw [if_pos rfl]
    have HS := Lib.hid (sure_ok (.pointer (some ⟨gx, 0, none⟩)))
    go_enter Tryz.func27, Tryz.ntmps27
    go_wp2_with fail
    refine (HM.out).mono ?_
    rintro e' w1 ⟨rfl, hx1⟩
    go_wp2_with fail
    refine (HP.out _ hx1).mono ?_
    rintro e' w2 ⟨rfl, hT, hG, hx2⟩
    go_wp2_with fail
    refine (HS.out _).mono ?_
    rintro e' w3 ⟨rfl, rfl⟩
    go_wp2_with fail
    go_ret2
    exact ⟨rfl, hT, hG, hx1.of_no.trans_ hx2⟩
  · rw [if_neg hk]
    have hk' : ((k : Int) != 0) = true := by simpa using (by omega : ¬ (k : Int) = 0)
    have HS := Lib.hid (fun w' (hT : TxAt w' s v2) hX => sure_bad s hs w' v2 hT gx i hX k hk)
    clear hk
    go_enter Tryz.func27, Tryz.ntmps27
    go_wp2_with fail
    refine (HM.out).mono ?_
    rintro e' w1 ⟨rfl, hx1⟩
    go_wp2_with fail
    refine (HP.out _ hx1).mono ?_
    rintro e' w2 ⟨rfl, hT, hG, hx2⟩
    go_wp2_with fail
    refine (HS.out _ hT (HX.out _ (hx1.of_no.trans_ hx2))).mono ?_
    rintro e' w3 ⟨rfl, hT3, hx3⟩
    go_wp2_with fail
    go_ret2
    exact ⟨rfl, hT3, hG.spoil, (hx1.of_no.trans_ hx2).trans_ hx3⟩

end Go.Proofs.YtccnemmlkcmceaaGreatDoor
