/- BtreeNobody: for every root and every act, in whatever memory, the law returns true, and its arguments read as before. Conditions: the listed package variables hold what the program's text lays. -/
import Derived.Test.YtccnemmlkcmceaaGreatDoorH11
import Derived.Test.YtccnemmlkcmceaaGreatDoorCards
import Derived.Test.YtccnemmlkcmceaaGreatDoorTie
import Derived.WalkKit
import Derived.ProofKit
import Derived.OpenShut
import Derived.Deep.DeepHandedRow
import Derived.Lib.LaidTab
import Derived.Lib.SmallJoins
/- The example: works. -/
set_option linter.unusedVariables false
set_option linter.unusedSimpArgs false
namespace Go.Proofs.YtccnemmlkcmceaaGreatDoor
open Go.RowKit 

section
variable {s : Sys} {w : World} {gx : Nat}

theorem ex1 (hs : s.Ok) (hc : s.cap = 20) (h : TxAt w s v0) (hx : Blk w gx 70 (treeCells s 0)) :
    Calls Tryz.prog 25 #[.pointer (some ⟨gx, 0, none⟩), .string ⟨#[97]⟩, .string ⟨#[120]⟩] w (Did s w (0, e1)) := by
  have := Put_room s hs w v0 h v0_good gx 0 hx (by decide) ka vx (by decide) (by decide) [] f1 rfl (fun st h => by cases h)
  rw [hc] at this
  exact (show v0.Put 20 0 ka vx = (0, e1) from Prod.ext f1e rfl) ▸ this
theorem ex2 (hs : s.Ok) (hc : s.cap = 20) (h : TxAt w s e1) (hg : e1.Good) (hx : Blk w gx 70 (treeCells s 0)) :
    Calls Tryz.prog 25 #[.pointer (some ⟨gx, 0, none⟩), .string ⟨#[98]⟩, .string ⟨#[121]⟩] w (Did s w (0, e2)) := by
  have := Put_room s hs w e1 h hg gx 0 hx (by decide) kb vy (by decide) (by decide) _ f2 (by kernel_rfl) (fun st h => by
    simp at h
    subst h
    have := f2w
    intro e
    rw [show (⟨kb, vy, 0, 0⟩ : Cell) = cB from rfl, f2w] at e
    cases e)
  rw [hc] at this
  exact (show e1.Put 20 0 kb vy = (0, e2) from Prod.ext f2e rfl) ▸ this
theorem ex3 (hs : s.Ok) (h : TxAt w s e2) (hg : e2.Good) (hx : Blk w gx 70 (treeCells s 0)) :
    Calls Tryz.prog 28 #[.pointer (some ⟨gx, 0, none⟩)] w fun e w' => e = .returned (.tuple #[.int .i64 1, .int .i64 0]) ∧ Ext No w w' := by
  have := height_any s hs w e2 h hg gx 0 hx (by decide)
  rw [f2h] at this
  exact this
theorem ex4 (hs : s.Ok) (h : TxAt w s e2) (hg : e2.Good) (hx : Blk w gx 70 (treeCells s 0)) :
    Calls Tryz.prog 24 #[.pointer (some ⟨gx, 0, none⟩)] w fun e w' => e = .returned (.tuple #[.int .i64 1, .int .i64 0]) ∧ Ext No w w' := by
  refine pages_of _ w 1 0 (survey_leaf s hs w e2 h hg gx 0 hx (by decide) (by rw [f2r]; decide) ⟨true, [cA, cB], [], []⟩ (by rw [f2r]; exact f2n) rfl (by simp) (fun c hc => ?_))
  simp at hc
  rcases hc with rfl | rfl <;> rfl
theorem ex5 (hs : s.Ok) (h : TxAt w s e2) (hg : e2.Good) (hx : Blk w gx 70 (treeCells s 0)) :
    Calls Tryz.prog 23 #[.pointer (some ⟨gx, 0, none⟩), .string ⟨#[98]⟩] w fun e w' => e = .returned (.tuple #[.string (str vy), .bool true, .int .i64 0]) ∧ Ext No w w' := by
  have := get_any' s hs w e2 h hg gx 0 hx (by decide) kb (fun ws c h1 h2 => value_small s e2 c (by
    rw [f2y] at h1
    injection h1 with h1
    subst h1
    have : hit [⟨1, ⟨true, [cA, cB], [], []⟩, 1⟩] kb = some cB := by kernel_rfl
    rw [this] at h2
    injection h2 with h2
    subst h2
    rfl))
  rw [f2g] at this
  exact this
theorem ex6 (hs : s.Ok) (hc : s.cap = 20) (h : TxAt w s e2) (hg : e2.Good) (hx : Blk w gx 70 (treeCells s 0)) :
    Calls Tryz.prog 27 #[.pointer (some ⟨gx, 0, none⟩), .string ⟨#[97]⟩] w (DidB s w (true, 0, e3)) := by
  have := Del_room s hs w e2 h hg gx 0 hx (by decide) ka (by decide) _ f3 cA (by kernel_rfl) rfl rfl rfl
  rw [hc] at this
  exact (show e2.Del 20 0 ka = (true, 0, e3) from Prod.ext f3e.1 (Prod.ext f3e.2 rfl)) ▸ this
theorem ex7 (hs : s.Ok) (hc : s.cap = 20) (h : TxAt w s e3) (hg : e3.Good) (hx : Blk w gx 70 (treeCells s 0)) :
    Calls Tryz.prog 27 #[.pointer (some ⟨gx, 0, none⟩), .string ⟨#[98]⟩] w (DidB s w (true, 0, e4)) := by
  have := Del_room s hs w e3 h hg gx 0 hx (by decide) kb (by decide) _ f4 cB (by kernel_rfl) rfl rfl rfl
  rw [hc] at this
  exact (show e3.Del 20 0 kb = (true, 0, e4) from Prod.ext f4e.1 (Prod.ext f4e.2 rfl)) ▸ this
theorem ex8 (hs : s.Ok) (h : TxAt w s e4) (hg : e4.Good) (hx : Blk w gx 70 (treeCells s 0)) :
    Calls Tryz.prog 28 #[.pointer (some ⟨gx, 0, none⟩)] w fun e w' => e = .returned (.tuple #[.int .i64 0, .int .i64 0]) ∧ Ext No w w' := by
  have := height_any s hs w e4 h hg gx 0 hx (by decide)
  rw [f5h] at this
  exact this
theorem ex9 (hs : s.Ok) (h : TxAt w s e4) (hx : Blk w gx 70 (treeCells s 0)) :
    Calls Tryz.prog 24 #[.pointer (some ⟨gx, 0, none⟩)] w fun e w' => e = .returned (.tuple #[.int .i64 0, .int .i64 0]) ∧ Ext No w w' :=
  pages_of _ w 0 (-1) (survey_zero s hs w e4 h gx 0 hx (by decide) f5r)
end

theorem Ext.more {s : Sys} {w w1 w2 : World} (h : Ext No w w1) (hx : Ext s.F w1 w2) (hF : ∀ b, s.F b → w.heap.size ≤ b) : Ext No w w2 :=
  h.trans hx fun i hi hf => absurd (hF i hf) (by omega)

set_option maxRecDepth 100000 in
set_option maxHeartbeats 1600000 in
theorem works_any (w : World) : Calls Tryz.prog 18 #[] w fun e w' => e = .returned (.bool true) ∧ Ext No w w' := by
  have HB := Lib.hid (begin_any 20 (by decide) (by decide) w)
  go_enter Tryz.func18, Tryz.ntmps18
  go_wp2_with fail
  refine HB.out.mono ?_
  rintro e w1 ⟨s, hF, rfl, hx1, ht, hm, _, _⟩
  have hs := hF.ok
  have hc := hF.cap
  have HS := Lib.hid hs; have HC := Lib.hid hc
  have HT1 := Lib.hid hF.tx
  have HE1 := Lib.hid hx1
  have HFF : Hid (∀ b, s.F b → w.heap.size ≤ b) := Lib.hid (fun b hb => by
    rcases hb with rfl | rfl
    · exact ht
    · exact hm)
  have HOF := Lib.hid (of_any (some ⟨s.t, 0, none⟩) 0 (by decide) w1)
  have hTa : TxAt (w1.alloc (.cells (treeCells s 0) 70)) s v0 := hF.tx.no hs ((Ext.refl No w1).alloc _)
  have hXa : Blk (w1.alloc (.cells (treeCells s 0) 70)) w1.heap.size 70 (treeCells s 0) := Blk.new w1 70 _
  have HXa := Lib.hid hXa
  have H1 := Lib.hid (ex1 hs hc hTa hXa)
  have HEa := Lib.hid (hx1.alloc (.cells (treeCells s 0) 70))
  have HTa := Lib.hid hTa
  clear hF hs hc hx1 ht hm hTa hXa
  go_wp2_with fail
  refine HOF.out.mono ?_
  rintro e w2 ⟨rfl, rfl⟩
  go_wp2_with fail
  refine H1.out.mono ?_
  rintro e w3 ⟨rfl, hT3, hG3, hx3⟩
  have hX3 := tree_ext HTa.out HXa.out hx3
  have HX3 := Lib.hid hX3; have HT3 := Lib.hid hT3
  have HE3 := Lib.hid (HEa.out.more hx3 HFF.out)
  have H2 := Lib.hid (ex2 HS.out HC.out hT3 hG3 hX3)
  clear hT3 hG3 hx3 hX3
  go_wp2_with fail
  refine H2.out.mono ?_
  rintro e w4 ⟨rfl, hT4, hG4, hx4⟩
  have hX4 := tree_ext HT3.out HX3.out hx4
  have HX4 := Lib.hid hX4; have HT4 := Lib.hid hT4; have HG4 := Lib.hid hG4
  have HE4 := Lib.hid (HE3.out.more hx4 HFF.out)
  have H3 := Lib.hid (ex3 HS.out hT4 hG4 hX4)
  clear hT4 hG4 hx4 hX4
  go_wp2_with fail
  refine H3.out.mono ?_
  rintro e w5 ⟨rfl, hx5⟩
  have HX5 := Lib.hid (HX4.out.ext hx5 (fun h => h)); have HT5 := Lib.hid (HT4.out.no HS.out hx5)
  have HE5 := Lib.hid (HE4.out.trans_ hx5)
  have H4 := Lib.hid (ex4 HS.out HT5.out HG4.out HX5.out)
  clear hx5
  go_wp2_with fail
  refine H4.out.mono ?_
  rintro e w6 ⟨rfl, hx6⟩
  have HX6 := Lib.hid (HX5.out.ext hx6 (fun h => h)); have HT6 := Lib.hid (HT5.out.no HS.out hx6)
  have HE6 := Lib.hid (HE5.out.trans_ hx6)
  have H5 := Lib.hid (ex5 HS.out HT6.out HG4.out HX6.out)
  clear hx6
  go_wp2_with fail
  refine H5.out.mono ?_
  rintro e w7 ⟨rfl, hx7⟩
  have HX7 := Lib.hid (HX6.out.ext hx7 (fun h => h)); have HT7 := Lib.hid (HT6.out.no HS.out hx7)
  have HE7 := Lib.hid (HE6.out.trans_ hx7)
  have H6 := Lib.hid (ex6 HS.out HC.out HT7.out HG4.out HX7.out)
  clear hx7
  simp only [vy]
  go_wp2_with fail
  refine H6.out.mono ?_
  rintro e w8 ⟨rfl, hT8, hG8, hx8⟩
  have hX8 := tree_ext HT7.out HX7.out hx8
  have HX8 := Lib.hid hX8; have HT8 := Lib.hid hT8
  have HE8 := Lib.hid (HE7.out.more hx8 HFF.out)
  have H7 := Lib.hid (ex7 HS.out HC.out hT8 hG8 hX8)
  clear hT8 hG8 hx8 hX8
  go_wp2_with fail
  refine H7.out.mono ?_
  rintro e w9 ⟨rfl, hT9, hG9, hx9⟩
  have hX9 := tree_ext HT8.out HX8.out hx9
  have HX9 := Lib.hid hX9; have HT9 := Lib.hid hT9
  have HE9 := Lib.hid (HE8.out.more hx9 HFF.out)
  have H8 := Lib.hid (ex8 HS.out hT9 hG9 hX9)
  clear hT9 hG9 hx9 hX9
  go_wp2_with fail
  refine H8.out.mono ?_
  rintro e w10 ⟨rfl, hx10⟩
  have HX10 := Lib.hid (HX9.out.ext hx10 (fun h => h)); have HT10 := Lib.hid (HT9.out.no HS.out hx10)
  have HE10 := Lib.hid (HE9.out.trans_ hx10)
  have H9 := Lib.hid (ex9 HS.out HT10.out HX10.out)
  clear hx10
  go_wp2_with fail
  refine H9.out.mono ?_
  rintro e w11 ⟨rfl, hx11⟩
  go_wp2_with fail
  go_ret
  exact ⟨rfl, HE10.out.trans_ hx11⟩

end Go.Proofs.YtccnemmlkcmceaaGreatDoor

/- A transaction that was aborted: its calls. -/
set_option linter.unusedVariables false
set_option linter.unusedSimpArgs false
namespace Go.Proofs.YtccnemmlkcmceaaGreatDoor
open Go.RowKit 

/-- The transaction is no longer open. -/
structure Shut (w : World) (s : Sys) : Prop where
  t0 : w.cell? ⟨s.t, 0, none⟩ = some (.pointer (some ⟨s.x, 0, none⟩))
  x10 : w.cell? ⟨s.x, 10, none⟩ = some (.pointer none)

theorem Shut.ext {w w' : World} {s : Sys} (h : Shut w s) (he : Ext No w w') : Shut w' s := ⟨cell_ext he h.t0 (fun h => h), cell_ext he h.x10 (fun h => h)⟩

theorem eql_tx_same (a : Addr) (w : World) : (binOp .eql 25 (.pointer (some a)) (.pointer (some a))).run Tryz.prog w = .ok (.bool true) w := by
  obtain ⟨j, hj⟩ : ∃ j, Tryz.prog.info? 111 = some j := by
    have h : (Tryz.prog.info? 111).isSome = true := by kernel_rfl
    exact Option.isSome_iff_exists.1 h
  exact Go.run_eql_ptr_same w a Tryz.underlying25 hj

set_option maxHeartbeats 400000 in
theorem end_any (s : Sys) (hs : s.Ok) (w : World) (v : V) (h : TxAt w s v) (hf : w.frozen? ⟨s.x, 10, none⟩ = false) :
    Calls Tryz.prog 66 #[.pointer (some ⟨s.t, 0, none⟩)] w fun e w' => e = .returned (.tuple #[]) ∧ w' = w.setCell ⟨s.x, 10, none⟩ (.pointer none) := by
  have t0 := h.c0
  have x10 := hs.x10 w h.db
  go_enter Tryz.func66, Tryz.ntmps66
  go_wp2_with fail
  go_end0
  exact ⟨rfl, rfl⟩

set_option maxHeartbeats 400000 in
theorem abort_any (s : Sys) (hs : s.Ok) (w : World) (v : V) (h : TxAt w s v) (hf : w.frozen? ⟨s.x, 10, none⟩ = false) :
    Calls Tryz.prog 31 #[.pointer (some ⟨s.t, 0, none⟩)] w fun e w' => e = .returned (.tuple #[]) ∧ w' = w.setCell ⟨s.x, 10, none⟩ (.pointer none) := by
  have t0 := h.c0
  have x10 := hs.x10 w h.db
  have k := fun w => eql_tx_same ⟨s.t, 0, none⟩ w
  have HE := Lib.hid (end_any s hs w v h hf)
  clear h
  go_enter Tryz.func31, Tryz.ntmps31
  go_wp2_with fail
  refine HE.out.mono ?_
  rintro e w1 ⟨rfl, rfl⟩
  go_wp2_with fail
  go_end0
  exact ⟨rfl, rfl⟩

theorem Shut.of {w : World} {s : Sys} {v : V} (hs : s.Ok) (h : TxAt w s v) : Shut (w.setCell ⟨s.x, 10, none⟩ (.pointer none)) s := by
  have hx := hs.x10 w h.db
  refine ⟨?_, ?_⟩
  · have : (w.setCell ⟨s.x, 10, none⟩ (.pointer none)).heap[s.t]? = w.heap[s.t]? := Below.heap_setCell w ⟨s.x, 10, none⟩ _ s.t hs.tx
    exact (World.cell?_of_block this).trans h.c0
  · exact World.cell?_setCell_same w _ _ hx

theorem neq_tx_nil (a : Addr) (w : World) : (binOp .neq 25 (.pointer none) (.pointer (some a))).run Tryz.prog w = .ok (.bool true) w := by
  have h : ∀ d : Nat, (Op.equalIn (d + 1) 25 (.pointer none) (.pointer (some a))).run Tryz.prog w = .ok false w := fun d => by
    simp [Op.equalIn, run_underlying Tryz.underlying25]
  simp only [binOp]
  simp [Op.equal, Op.maxDepth, h 9999]

set_option maxRecDepth 100000 in
set_option maxHeartbeats 400000 in
theorem shut_up (s : Sys) (w : World) (h : Shut w s) :
    Calls Tryz.prog 53 #[.pointer (some ⟨s.t, 0, none⟩)] w fun e w' => e = .returned (.int .i64 1) ∧ w = w' := by
  have t0 := h.t0
  have x10 := h.x10
  have k := fun w => neq_tx_nil ⟨s.t, 0, none⟩ w
  clear h
  go_enter Tryz.func53, Tryz.ntmps53
  go_wp2_with fail
  go_ret
  exact ⟨rfl, rfl⟩

set_option maxRecDepth 100000 in
set_option maxHeartbeats 400000 in
theorem shut_there (s : Sys) (w : World) (h : Shut w s) (id : Value) :
    Calls Tryz.prog 57 #[.pointer (some ⟨s.t, 0, none⟩), id] w fun e w' => e = .returned (.tuple #[.agg #[.int .i64 0, .string (str [])], .int .i64 1]) ∧ Ext No w w' := by
  have HU := Lib.hid (fun o => shut_up s (w.alloc o) (h.ext ((Ext.refl No w).alloc o)))
  clear h
  go_enter Tryz.func57, Tryz.ntmps57
  go_wp2_with fail
  refine (HU.out _).mono ?_
  rintro e w1 ⟨rfl, rfl⟩
  go_wp2_with fail
  have bn := Blk.new w 113 #[.int .i64 0, .string (str [])]
  refine bodyPost_ret (v := .tuple #[.agg #[.int .i64 0, .string (str [])], .int .i64 1]) (by simp [results, Tryz.results57, go_sem, str]) rfl ⟨rfl, (Ext.refl No w).alloc _⟩

set_option maxRecDepth 100000 in
set_option maxHeartbeats 400000 in
theorem shut_read (s : Sys) (w : World) (h : Shut w s) (id : Value) :
    Calls Tryz.prog 47 #[.pointer (some ⟨s.t, 0, none⟩), id] w fun e w' => e = .returned (.tuple #[.int .i64 0, .string (str []), .int .i64 1]) ∧ Ext No w w' := by
  have HG := Lib.hid (shut_there s w h id)
  clear h
  go_enter Tryz.func47, Tryz.ntmps47
  go_wp2_with fail
  refine (HG.out).mono ?_
  rintro e w2 ⟨rfl, hb2⟩
  go_wp2_with fail
  go_ret3
  exact ⟨rfl, (hb2.alloc _)⟩

set_option maxRecDepth 100000 in
set_option maxHeartbeats 400000 in
theorem shut_alive (s : Sys) (w : World) (h : Shut w s) (gx i : Nat) (hx : Blk w gx 70 (treeCells s i)) :
    Calls Tryz.prog 64 #[.pointer (some ⟨gx, 0, none⟩)] w fun e w' => e = .returned (.int .i64 1) ∧ Ext No w w' := by
  have HR := Lib.hid (shut_read s w h (.int .i64 1))
  have c0 := hx.cell 0
  simp [treeCells] at c0
  clear h hx
  go_enter Tryz.func64, Tryz.ntmps64
  go_wp2_with fail
  refine (HR.out).mono ?_
  rintro e' w1 ⟨rfl, hx1⟩
  go_wp2_with fail
  go_ret
  exact ⟨rfl, hx1⟩

set_option maxRecDepth 100000 in
set_option maxHeartbeats 400000 in
theorem shut_may (s : Sys) (w : World) (h : Shut w s) (gx i : Nat) (hx : Blk w gx 70 (treeCells s i)) (key val : List UInt8) (hm : may key val = 0) :
    Calls Tryz.prog 59 #[.pointer (some ⟨gx, 0, none⟩), .string (str key), .string (str val)] w fun e w' => e = .returned (.int .i64 1) ∧ Ext No w w' := by
  have HN := Lib.hid (none_no ⟨s.t, 0, none⟩ (.int .i64 (i : Int)) gx w hx)
  have HA := Lib.hid (shut_alive s w h gx i hx)
  have hk := str_size key
  have hv := str_size val
  have h0 : key.isEmpty = false := by
    cases key with
    | nil => simp [may] at hm
    | cons => rfl
  have h12 : ¬ (140 < key.length) ∧ ¬ (16384 < val.length) := by
    unfold may at hm
    split at hm
    · cases hm
    · split at hm
      · cases hm
      · rename_i h1 h2; omega
  obtain ⟨h1, h2⟩ := h12
  clear h hx hm
  go_enter Tryz.func59, Tryz.ntmps59
  go_wp2_with fail
  refine (HN.out).mono ?_
  rintro e' w1 ⟨rfl, rfl⟩
  go_wp2_with fail
  refine (HA.out).mono ?_
  rintro e' w1 ⟨rfl, hx1⟩
  go_wp2_with fail
  go_ret
  exact ⟨rfl, hx1⟩

set_option maxHeartbeats 400000 in
theorem shut_get (s : Sys) (w : World) (h : Shut w s) (gx i : Nat) (hx : Blk w gx 70 (treeCells s i)) (key : List UInt8) (hm : may key [] = 0) :
    Calls Tryz.prog 23 #[.pointer (some ⟨gx, 0, none⟩), .string (str key)] w fun e w' => e = .returned (.tuple #[.string (str []), .bool false, .int .i64 1]) ∧ Ext No w w' := by
  have HN := Lib.hid (shut_may s w h gx i hx key [] hm)
  clear h hx
  go_enter Tryz.func23, Tryz.ntmps23
  go_wp2_with fail
  refine (HN.out).mono ?_
  rintro e w1 ⟨rfl, hx1⟩
  go_wp2_with fail
  go_ret3
  exact ⟨rfl, hx1⟩

set_option maxHeartbeats 400000 in
theorem shut_put (s : Sys) (w : World) (h : Shut w s) (gx i : Nat) (hx : Blk w gx 70 (treeCells s i)) (key val : List UInt8) (hm : may key val = 0) :
    Calls Tryz.prog 25 #[.pointer (some ⟨gx, 0, none⟩), .string (str key), .string (str val)] w fun e w' => e = .returned (.int .i64 1) ∧ Ext No w w' := by
  have HN := Lib.hid (shut_may s w h gx i hx key val hm)
  clear h hx
  go_enter Tryz.func25, Tryz.ntmps25
  go_wp2_with fail
  refine (HN.out).mono ?_
  rintro e w1 ⟨rfl, hx1⟩
  go_wp2_with fail
  go_ret
  exact ⟨rfl, hx1⟩

end Go.Proofs.YtccnemmlkcmceaaGreatDoor

/- BtreeNobody: the walk. -/
set_option linter.unusedVariables false
set_option linter.unusedSimpArgs false
namespace Go.Proofs.YtccnemmlkcmceaaGreatDoor
open Go.RowKit 

set_option maxRecDepth 100000 in
set_option maxHeartbeats 1600000 in
theorem nobody_walk (root k n : Int) (key val : ByteArray) (w : World) :
    Calls Tryz.prog 6 #[.int .i64 root, .agg #[.int .i64 k, .int .i64 n, .string key, .string val]] w fun e w' => e = .returned (.bool true) ∧ Ext No w w' := by
  have HB := Lib.hid (fun o => begin_any 10 (by decide) (by decide) (w.alloc o))
  have HOF : Hid (∀ (t : Addr) (w : World), Calls Tryz.prog 13 #[.pointer (some t), .int .i64 root] w fun e w' => e = .returned (.pointer (if root < 0 ∨ 3 < root then none else some ⟨w.heap.size, 0, none⟩)) ∧ Ext No w w') := Lib.hid (fun t w => by
    by_cases hr : root < 0 ∨ 3 < root
    · rw [if_pos hr]
      exact (of_bad (some t) root (by omega) w).mono fun e w' ⟨h1, h2⟩ => ⟨h1, h2 ▸ Ext.refl _ _⟩
    · rw [if_neg hr]
      obtain ⟨i, hi⟩ : ∃ i : Nat, root = (i : Int) := ⟨root.toNat, by omega⟩
      rw [hi]
      exact (of_any (some t) i (by omega) w).mono fun e w' ⟨h1, h2⟩ => ⟨h1, h2 ▸ (Ext.refl _ _).alloc _⟩)
  go_enter Tryz.func6, Tryz.ntmps6
  go_wp2_with fail
  refine (HB.out _).mono ?_
  rintro e w1 ⟨s, hF, rfl, hx1, ht, hm, hxx, _⟩
  have HF := Lib.hid hF
  have hE1 := ((Ext.refl No w).alloc (.cells #[.int .i64 k, .int .i64 n, .string key, .string val] 53)).trans_ hx1
  have HE1 := Lib.hid hE1
  simp at ht hm hxx
  have HFF : Hid ((∀ b, s.F b → w.heap.size ≤ b) ∧ w.heap.size ≤ s.x) := Lib.hid ⟨fun b hb => by
    rcases hb with rfl | rfl
    · omega
    · omega, by omega⟩
  have ba := (Blk.new w 53 #[.int .i64 k, .int .i64 n, .string key, .string val]).ext hx1 (fun h => h)
  have HBA := Lib.hid ba
  clear hF hx1 hE1 ht hm hxx ba
  by_cases hr : root < 0 ∨ 3 < root
  · have HOF1 := Lib.hid (HOF.out ⟨s.t, 0, none⟩ w1)
    rw [if_pos hr] at HOF1
    have HR := Lib.hid hr
    clear hr
    by_cases hr1 : root < 0
    · clear HR
      have HON := Lib.hid (of_any none 0 (by decide))
      go_wp2_with fail
      refine HOF1.out.mono ?_
      rintro e w2 ⟨rfl, hx2⟩
      go_wp2_with fail
      refine (HON.out _).mono ?_
      rintro e w3 ⟨rfl, rfl⟩
      obtain ⟨W0, hW0⟩ : ∃ W0, W0 = (((w2.alloc (.cells #[.pointer none, .int .i64 0] 70)).alloc (.cells #[.pointer none, .int .i64 0] 70)).alloc (.cells #[.pointer none, .pointer (some ⟨w2.heap.size, 0, none⟩), .pointer (some ⟨w2.heap.size + 1, 0, none⟩)] 28)) := ⟨_, rfl⟩
      have hEW : Ext No w2 W0 := by rw [hW0]; exact (((Ext.refl No w2).alloc _).alloc _).alloc _
      have hb1 : Blk W0 w2.heap.size 70 #[.pointer none, .int .i64 0] := by rw [hW0]; exact ((Blk.new w2 70 _).alloc _).alloc _
      have hb2 : Blk W0 (w2.heap.size + 1) 70 #[.pointer none, .int .i64 0] := by rw [hW0]; exact (Blk.new_at (b := w2.heap.size + 1) (w2.alloc _) 70 _ (by simp)).alloc _
      have hb3 : Blk W0 (w2.heap.size + 2) 28 #[.pointer none, .pointer (some ⟨w2.heap.size, 0, none⟩), .pointer (some ⟨w2.heap.size + 1, 0, none⟩)] := by rw [hW0]; exact Blk.new_at (b := w2.heap.size + 2) _ 28 _ (by simp)
      have hE0 := (HE1.out.trans_ hx2).trans_ hEW
      have HEL : Hid (∀ K, K < 3 → ∃ ev, (∀ wr, Ext No W0 wr → wr.cell? ⟨w2.heap.size + 2, K, none⟩ = some ev ∧ NoTree wr ev)) := Lib.hid (fun K hK => by
        match K, hK with
        | 0, _ => exact ⟨_, fun wr e => ⟨(hb3.ext e (fun h => h)).cell 0, .nil⟩⟩
        | 1, _ => exact ⟨_, fun wr e => ⟨(hb3.ext e (fun h => h)).cell 1, .tx _ _ (hb1.ext e (fun h => h))⟩⟩
        | 2, _ => exact ⟨_, fun wr e => ⟨(hb3.ext e (fun h => h)).cell 2, .tx _ _ (hb2.ext e (fun h => h))⟩⟩)
      have hB3 := hb3.lt
      have HE0 := Lib.hid hE0
      have hba : Blk W0 w.heap.size 53 #[.int .i64 k, .int .i64 n, .string key, .string val] := (HBA.out.ext hx2 (fun h => h)).ext hEW (fun h => h)
      have HBA0 := Lib.hid hba
      have hTX : TxAt W0 s v0 := HF.out.tx.no HF.out.ok (hx2.trans_ hEW)
      have HTX := Lib.hid hTX
      clear hb1 hb2 hb3 hE0 hba hTX hEW hx2
      go_wp2_with fail
      rw [← hW0]
      clear hW0
      go_loopg [48] 3 (fun gk k wr => ∃ K : Nat, K + gk = 3 ∧ k = .int .i64 (K : Int) ∧ Ext No W0 wr)
      case atStart => exact ⟨0, rfl, rfl, Ext.refl _ _⟩
      case round =>
        obtain ⟨K, hK, rfl, hE⟩ := hrel
        have HKK := Lib.hid hK
        by_cases hlt : K < 3
        · obtain ⟨ev, hev⟩ := HEL.out K hlt
          have HEV := Lib.hid hev
          obtain ⟨hce, hne⟩ := hev wr hE
          have hlt' : (K : Int) < 3 := by omega
          have hBw : w2.heap.size + 2 < wr.heap.size := Nat.lt_of_lt_of_le hB3 hE.size
          have HE := Lib.hid hE
          have HNT := Lib.hid hne
          have hav := (HBA0.out.ext hE (fun h => h)).cell 3
          have hal := (HBA0.out.ext hE (fun h => h)).lt
          simp at hav
          have HBW := Lib.hid (HBA0.out.ext hE (fun h => h))
          clear hK hev hne hE
          go_wp2_with fail
          refine (nil_get HNT.out _).mono ?_
          rintro e w4 ⟨rfl, rfl⟩
          go_wp2_with fail
          refine (nil_delete HNT.out _).mono ?_
          rintro e w4 ⟨rfl, rfl⟩
          go_wp2_with fail
          refine (nil_height HNT.out).mono ?_
          rintro e w4 ⟨rfl, rfl⟩
          go_wp2_with fail
          refine (nil_pages HNT.out).mono ?_
          rintro e w4 ⟨rfl, hx4⟩
          have HNT4 := Lib.hid (HNT.out.ext hx4)
          have HE4 := Lib.hid (HE.out.trans_ hx4)
          have HB4 := Lib.hid (HBW.out.ext hx4 (fun h => h))
          have HV := Lib.hid (nil_value HNT4.out ⟨[97], [98], 0, 0⟩)
          simp only [Cell.agg, str] at HV
          clear hx4
          go_wp2_with fail
          refine (HV.out).mono ?_
          rintro e w5 ⟨rfl, hx5⟩
          have HNT5 := Lib.hid (HNT4.out.ext hx5)
          have HE5 := Lib.hid (HE4.out.trans_ hx5)
          have HB5 := Lib.hid (HB4.out.ext hx5 (fun h => h))
          clear hx5
          go_wp2_with fail
          refine (nil_node HNT5.out _).mono ?_
          rintro e w6 ⟨rfl, hx6⟩
          have hE6 : Ext No w6 (w6.alloc (.cells #[.bool false, .slice none 0 0, .slice none 0 0, .slice none 0 0] 40)) := (Ext.refl No w6).alloc _
          have HNT6 := Lib.hid ((HNT5.out.ext hx6).ext hE6)
          have HE6 := Lib.hid ((HE5.out.trans_ hx6).trans_ hE6)
          have hb6 := HB5.out.ext hx6 (fun h => h)
          have HB6 := Lib.hid (hb6.alloc (.cells #[.bool false, .slice none 0 0, .slice none 0 0, .slice none 0 0] 40))
          have hv6 := hb6.cell 3
          have hl6 := hb6.lt
          simp at hv6
          clear hx6 hE6 hb6
          simp only [str]
          go_wp2_with fail
          refine (nil_put HNT6.out _ _).mono ?_
          rintro e w7 ⟨rfl, rfl⟩
          go_wp2_with fail
          refine (nil_check HNT6.out).mono ?_
          rintro e w7 ⟨rfl, hx7⟩
          have HNT7 := Lib.hid (HNT6.out.ext hx7)
          have HE7 := Lib.hid (HE6.out.trans_ hx7)
          clear hx7
          go_wp2_with fail
          refine (nil_root HNT7.out).mono ?_
          rintro e w8 ⟨rfl, rfl⟩
          go_wp2_with fail
          go_roundg (gk - 1)
          case rel => exact ⟨K + 1, by have := HKK.out; omega, by go_num, HE7.out⟩
          case measure => have := HKK.out; omega
        · have hK3 : K = 3 := by omega
          subst hK3
          have HE := Lib.hid hE
          have hOT : Hid (∀ w, Calls Tryz.prog 13 #[.pointer (some ⟨s.t, 0, none⟩), .int .i64 0] w fun e w' => e = .returned (.pointer (some ⟨w.heap.size, 0, none⟩)) ∧ w' = w.alloc (.cells (treeCells s 0) 70)) := Lib.hid (fun w => of_any (some ⟨s.t, 0, none⟩) 0 (by decide) w)
          clear hK hE
          go_wp2_with fail
          refine (hOT.out _).mono ?_
          rintro e w4 ⟨rfl, rfl⟩
          have hT4 : TxAt (wr.alloc (.cells (treeCells s 0) 70)) s v0 := HTX.out.no HF.out.ok (HE.out.alloc _)
          have hX4 : Blk (wr.alloc (.cells (treeCells s 0) 70)) wr.heap.size 70 (treeCells s 0) := Blk.new wr 70 _
          have hfz : (wr.alloc (.cells (treeCells s 0) 70)).frozen? ⟨s.x, 10, none⟩ = false := by
            obtain ⟨kb, d, l, x, t, m, hsy, _⟩ := HF.out.sys
            have := hT4.db
            rw [hsy] at this ⊢
            exact this.db.frozen 10
          have HAB := Lib.hid (abort_any s HF.out.ok _ v0 hT4 hfz)
          have HSH := Lib.hid (Shut.of HF.out.ok hT4)
          have hX5 : Blk ((wr.alloc (.cells (treeCells s 0) 70)).setCell ⟨s.x, 10, none⟩ (.pointer none)) wr.heap.size 70 (treeCells s 0) := hX4.far (fun e => by
            have e' : wr.heap.size = s.x := e
            have h1 := World.block_lt_of_cell? wr _ (HF.out.ok.x0 wr (HTX.out.no HF.out.ok HE.out).db)
            simp only at h1
            omega) _
          have HX5 := Lib.hid hX5
          have HE5 : Hid (Ext No w ((wr.alloc (.cells (treeCells s 0) 70)).setCell ⟨s.x, 10, none⟩ (.pointer none))) := Lib.hid (((HE0.out.trans_ HE.out).alloc _).setNew HFF.out.2 _ _)
          clear hT4 hX4 hfz hX5
          go_wp2_with fail
          refine (HAB.out).mono ?_
          rintro e w5 ⟨rfl, rfl⟩
          have HG := Lib.hid (shut_get s _ HSH.out _ 0 HX5.out [97] (by decide))
          simp only [str] at HG
          go_wp2_with fail
          refine (HG.out).mono ?_
          rintro e w6 ⟨rfl, hx6⟩
          have HP := Lib.hid (shut_put s _ (HSH.out.ext hx6) _ 0 (HX5.out.ext hx6 (fun h => h)) [97] [98] (by decide))
          simp only [str] at HP
          have HE6 := Lib.hid (HE5.out.trans_ hx6)
          clear hx6
          go_wp2_with fail
          refine (HP.out).mono ?_
          rintro e w7 ⟨rfl, hx7⟩
          have HE7 := Lib.hid (HE6.out.trans_ hx7)
          clear hx7
          go_wp2_with fail
          refine (works_any _).mono ?_
          rintro e w8 ⟨rfl, hx8⟩
          go_wp2_with fail
          go_ret
          exact ⟨rfl, HE7.out.trans_ hx8⟩
    · have hr2 : 3 < root := by have := HR.out; omega
      clear HR
      have HON := Lib.hid (of_any none 0 (by decide))
      go_wp2_with fail
      refine HOF1.out.mono ?_
      rintro e w2 ⟨rfl, hx2⟩
      go_wp2_with fail
      refine (HON.out _).mono ?_
      rintro e w3 ⟨rfl, rfl⟩
      obtain ⟨W0, hW0⟩ : ∃ W0, W0 = (((w2.alloc (.cells #[.pointer none, .int .i64 0] 70)).alloc (.cells #[.pointer none, .int .i64 0] 70)).alloc (.cells #[.pointer none, .pointer (some ⟨w2.heap.size, 0, none⟩), .pointer (some ⟨w2.heap.size + 1, 0, none⟩)] 28)) := ⟨_, rfl⟩
      have hEW : Ext No w2 W0 := by rw [hW0]; exact (((Ext.refl No w2).alloc _).alloc _).alloc _
      have hb1 : Blk W0 w2.heap.size 70 #[.pointer none, .int .i64 0] := by rw [hW0]; exact ((Blk.new w2 70 _).alloc _).alloc _
      have hb2 : Blk W0 (w2.heap.size + 1) 70 #[.pointer none, .int .i64 0] := by rw [hW0]; exact (Blk.new_at (b := w2.heap.size + 1) (w2.alloc _) 70 _ (by simp)).alloc _
      have hb3 : Blk W0 (w2.heap.size + 2) 28 #[.pointer none, .pointer (some ⟨w2.heap.size, 0, none⟩), .pointer (some ⟨w2.heap.size + 1, 0, none⟩)] := by rw [hW0]; exact Blk.new_at (b := w2.heap.size + 2) _ 28 _ (by simp)
      have hE0 := (HE1.out.trans_ hx2).trans_ hEW
      have HEL : Hid (∀ K, K < 3 → ∃ ev, (∀ wr, Ext No W0 wr → wr.cell? ⟨w2.heap.size + 2, K, none⟩ = some ev ∧ NoTree wr ev)) := Lib.hid (fun K hK => by
        match K, hK with
        | 0, _ => exact ⟨_, fun wr e => ⟨(hb3.ext e (fun h => h)).cell 0, .nil⟩⟩
        | 1, _ => exact ⟨_, fun wr e => ⟨(hb3.ext e (fun h => h)).cell 1, .tx _ _ (hb1.ext e (fun h => h))⟩⟩
        | 2, _ => exact ⟨_, fun wr e => ⟨(hb3.ext e (fun h => h)).cell 2, .tx _ _ (hb2.ext e (fun h => h))⟩⟩)
      have hB3 := hb3.lt
      have HE0 := Lib.hid hE0
      have hba : Blk W0 w.heap.size 53 #[.int .i64 k, .int .i64 n, .string key, .string val] := (HBA.out.ext hx2 (fun h => h)).ext hEW (fun h => h)
      have HBA0 := Lib.hid hba
      have hTX : TxAt W0 s v0 := HF.out.tx.no HF.out.ok (hx2.trans_ hEW)
      have HTX := Lib.hid hTX
      clear hb1 hb2 hb3 hE0 hba hTX hEW hx2
      go_wp2_with fail
      rw [← hW0]
      clear hW0
      go_loopg [48] 3 (fun gk k wr => ∃ K : Nat, K + gk = 3 ∧ k = .int .i64 (K : Int) ∧ Ext No W0 wr)
      case atStart => exact ⟨0, rfl, rfl, Ext.refl _ _⟩
      case round =>
        obtain ⟨K, hK, rfl, hE⟩ := hrel
        have HKK := Lib.hid hK
        by_cases hlt : K < 3
        · obtain ⟨ev, hev⟩ := HEL.out K hlt
          have HEV := Lib.hid hev
          obtain ⟨hce, hne⟩ := hev wr hE
          have hlt' : (K : Int) < 3 := by omega
          have hBw : w2.heap.size + 2 < wr.heap.size := Nat.lt_of_lt_of_le hB3 hE.size
          have HE := Lib.hid hE
          have HNT := Lib.hid hne
          have hav := (HBA0.out.ext hE (fun h => h)).cell 3
          have hal := (HBA0.out.ext hE (fun h => h)).lt
          simp at hav
          have HBW := Lib.hid (HBA0.out.ext hE (fun h => h))
          clear hK hev hne hE
          go_wp2_with fail
          refine (nil_get HNT.out _).mono ?_
          rintro e w4 ⟨rfl, rfl⟩
          go_wp2_with fail
          refine (nil_delete HNT.out _).mono ?_
          rintro e w4 ⟨rfl, rfl⟩
          go_wp2_with fail
          refine (nil_height HNT.out).mono ?_
          rintro e w4 ⟨rfl, rfl⟩
          go_wp2_with fail
          refine (nil_pages HNT.out).mono ?_
          rintro e w4 ⟨rfl, hx4⟩
          have HNT4 := Lib.hid (HNT.out.ext hx4)
          have HE4 := Lib.hid (HE.out.trans_ hx4)
          have HB4 := Lib.hid (HBW.out.ext hx4 (fun h => h))
          have HV := Lib.hid (nil_value HNT4.out ⟨[97], [98], 0, 0⟩)
          simp only [Cell.agg, str] at HV
          clear hx4
          go_wp2_with fail
          refine (HV.out).mono ?_
          rintro e w5 ⟨rfl, hx5⟩
          have HNT5 := Lib.hid (HNT4.out.ext hx5)
          have HE5 := Lib.hid (HE4.out.trans_ hx5)
          have HB5 := Lib.hid (HB4.out.ext hx5 (fun h => h))
          clear hx5
          go_wp2_with fail
          refine (nil_node HNT5.out _).mono ?_
          rintro e w6 ⟨rfl, hx6⟩
          have hE6 : Ext No w6 (w6.alloc (.cells #[.bool false, .slice none 0 0, .slice none 0 0, .slice none 0 0] 40)) := (Ext.refl No w6).alloc _
          have HNT6 := Lib.hid ((HNT5.out.ext hx6).ext hE6)
          have HE6 := Lib.hid ((HE5.out.trans_ hx6).trans_ hE6)
          have hb6 := HB5.out.ext hx6 (fun h => h)
          have HB6 := Lib.hid (hb6.alloc (.cells #[.bool false, .slice none 0 0, .slice none 0 0, .slice none 0 0] 40))
          have hv6 := hb6.cell 3
          have hl6 := hb6.lt
          simp at hv6
          clear hx6 hE6 hb6
          simp only [str]
          go_wp2_with fail
          refine (nil_put HNT6.out _ _).mono ?_
          rintro e w7 ⟨rfl, rfl⟩
          go_wp2_with fail
          refine (nil_check HNT6.out).mono ?_
          rintro e w7 ⟨rfl, hx7⟩
          have HNT7 := Lib.hid (HNT6.out.ext hx7)
          have HE7 := Lib.hid (HE6.out.trans_ hx7)
          clear hx7
          go_wp2_with fail
          refine (nil_root HNT7.out).mono ?_
          rintro e w8 ⟨rfl, rfl⟩
          go_wp2_with fail
          go_roundg (gk - 1)
          case rel => exact ⟨K + 1, by have := HKK.out; omega, by go_num, HE7.out⟩
          case measure => have := HKK.out; omega
        · have hK3 : K = 3 := by omega
          subst hK3
          have HE := Lib.hid hE
          have hOT : Hid (∀ w, Calls Tryz.prog 13 #[.pointer (some ⟨s.t, 0, none⟩), .int .i64 0] w fun e w' => e = .returned (.pointer (some ⟨w.heap.size, 0, none⟩)) ∧ w' = w.alloc (.cells (treeCells s 0) 70)) := Lib.hid (fun w => of_any (some ⟨s.t, 0, none⟩) 0 (by decide) w)
          clear hK hE
          go_wp2_with fail
          refine (hOT.out _).mono ?_
          rintro e w4 ⟨rfl, rfl⟩
          have hT4 : TxAt (wr.alloc (.cells (treeCells s 0) 70)) s v0 := HTX.out.no HF.out.ok (HE.out.alloc _)
          have hX4 : Blk (wr.alloc (.cells (treeCells s 0) 70)) wr.heap.size 70 (treeCells s 0) := Blk.new wr 70 _
          have hfz : (wr.alloc (.cells (treeCells s 0) 70)).frozen? ⟨s.x, 10, none⟩ = false := by
            obtain ⟨kb, d, l, x, t, m, hsy, _⟩ := HF.out.sys
            have := hT4.db
            rw [hsy] at this ⊢
            exact this.db.frozen 10
          have HAB := Lib.hid (abort_any s HF.out.ok _ v0 hT4 hfz)
          have HSH := Lib.hid (Shut.of HF.out.ok hT4)
          have hX5 : Blk ((wr.alloc (.cells (treeCells s 0) 70)).setCell ⟨s.x, 10, none⟩ (.pointer none)) wr.heap.size 70 (treeCells s 0) := hX4.far (fun e => by
            have e' : wr.heap.size = s.x := e
            have h1 := World.block_lt_of_cell? wr _ (HF.out.ok.x0 wr (HTX.out.no HF.out.ok HE.out).db)
            simp only at h1
            omega) _
          have HX5 := Lib.hid hX5
          have HE5 : Hid (Ext No w ((wr.alloc (.cells (treeCells s 0) 70)).setCell ⟨s.x, 10, none⟩ (.pointer none))) := Lib.hid (((HE0.out.trans_ HE.out).alloc _).setNew HFF.out.2 _ _)
          clear hT4 hX4 hfz hX5
          go_wp2_with fail
          refine (HAB.out).mono ?_
          rintro e w5 ⟨rfl, rfl⟩
          have HG := Lib.hid (shut_get s _ HSH.out _ 0 HX5.out [97] (by decide))
          simp only [str] at HG
          go_wp2_with fail
          refine (HG.out).mono ?_
          rintro e w6 ⟨rfl, hx6⟩
          have HP := Lib.hid (shut_put s _ (HSH.out.ext hx6) _ 0 (HX5.out.ext hx6 (fun h => h)) [97] [98] (by decide))
          simp only [str] at HP
          have HE6 := Lib.hid (HE5.out.trans_ hx6)
          clear hx6
          go_wp2_with fail
          refine (HP.out).mono ?_
          rintro e w7 ⟨rfl, hx7⟩
          have HE7 := Lib.hid (HE6.out.trans_ hx7)
          clear hx7
          go_wp2_with fail
          refine (works_any _).mono ?_
          rintro e w8 ⟨rfl, hx8⟩
          go_wp2_with fail
          go_ret
          exact ⟨rfl, HE7.out.trans_ hx8⟩
  · have hr1 : ¬ (root < 0) := by omega
    have hr2 : ¬ (3 < root) := by omega
    have HOF1 := Lib.hid (HOF.out ⟨s.t, 0, none⟩ w1)
    rw [if_neg hr] at HOF1
    clear hr
    have HON := Lib.hid (of_any none 0 (by decide))
    go_wp2_with fail
    refine HOF1.out.mono ?_
    rintro e w2 ⟨rfl, hx2⟩
    go_wp2_with fail
    refine (HON.out _).mono ?_
    rintro e w3 ⟨rfl, rfl⟩
    obtain ⟨W0, hW0⟩ : ∃ W0, W0 = (((w2.alloc (.cells #[.pointer none, .int .i64 0] 70)).alloc (.cells #[.pointer none, .int .i64 0] 70)).alloc (.cells #[.pointer none, .pointer (some ⟨w2.heap.size, 0, none⟩), .pointer (some ⟨w2.heap.size + 1, 0, none⟩)] 28)) := ⟨_, rfl⟩
    have hEW : Ext No w2 W0 := by rw [hW0]; exact (((Ext.refl No w2).alloc _).alloc _).alloc _
    have hb1 : Blk W0 w2.heap.size 70 #[.pointer none, .int .i64 0] := by rw [hW0]; exact ((Blk.new w2 70 _).alloc _).alloc _
    have hb2 : Blk W0 (w2.heap.size + 1) 70 #[.pointer none, .int .i64 0] := by rw [hW0]; exact (Blk.new_at (b := w2.heap.size + 1) (w2.alloc _) 70 _ (by simp)).alloc _
    have hb3 : Blk W0 (w2.heap.size + 2) 28 #[.pointer none, .pointer (some ⟨w2.heap.size, 0, none⟩), .pointer (some ⟨w2.heap.size + 1, 0, none⟩)] := by rw [hW0]; exact Blk.new_at (b := w2.heap.size + 2) _ 28 _ (by simp)
    have hE0 := (HE1.out.trans_ hx2).trans_ hEW
    have HEL : Hid (∀ K, K < 3 → ∃ ev, (∀ wr, Ext No W0 wr → wr.cell? ⟨w2.heap.size + 2, K, none⟩ = some ev ∧ NoTree wr ev)) := Lib.hid (fun K hK => by
      match K, hK with
      | 0, _ => exact ⟨_, fun wr e => ⟨(hb3.ext e (fun h => h)).cell 0, .nil⟩⟩
      | 1, _ => exact ⟨_, fun wr e => ⟨(hb3.ext e (fun h => h)).cell 1, .tx _ _ (hb1.ext e (fun h => h))⟩⟩
      | 2, _ => exact ⟨_, fun wr e => ⟨(hb3.ext e (fun h => h)).cell 2, .tx _ _ (hb2.ext e (fun h => h))⟩⟩)
    have hB3 := hb3.lt
    have HE0 := Lib.hid hE0
    have hba : Blk W0 w.heap.size 53 #[.int .i64 k, .int .i64 n, .string key, .string val] := (HBA.out.ext hx2 (fun h => h)).ext hEW (fun h => h)
    have HBA0 := Lib.hid hba
    have hTX : TxAt W0 s v0 := HF.out.tx.no HF.out.ok (hx2.trans_ hEW)
    have HTX := Lib.hid hTX
    clear hb1 hb2 hb3 hE0 hba hTX hEW hx2
    go_wp2_with fail
    rw [← hW0]
    clear hW0
    go_loopg [48] 3 (fun gk k wr => ∃ K : Nat, K + gk = 3 ∧ k = .int .i64 (K : Int) ∧ Ext No W0 wr)
    case atStart => exact ⟨0, rfl, rfl, Ext.refl _ _⟩
    case round =>
      obtain ⟨K, hK, rfl, hE⟩ := hrel
      have HKK := Lib.hid hK
      by_cases hlt : K < 3
      · obtain ⟨ev, hev⟩ := HEL.out K hlt
        have HEV := Lib.hid hev
        obtain ⟨hce, hne⟩ := hev wr hE
        have hlt' : (K : Int) < 3 := by omega
        have hBw : w2.heap.size + 2 < wr.heap.size := Nat.lt_of_lt_of_le hB3 hE.size
        have HE := Lib.hid hE
        have HNT := Lib.hid hne
        have hav := (HBA0.out.ext hE (fun h => h)).cell 3
        have hal := (HBA0.out.ext hE (fun h => h)).lt
        simp at hav
        have HBW := Lib.hid (HBA0.out.ext hE (fun h => h))
        clear hK hev hne hE
        go_wp2_with fail
        refine (nil_get HNT.out _).mono ?_
        rintro e w4 ⟨rfl, rfl⟩
        go_wp2_with fail
        refine (nil_delete HNT.out _).mono ?_
        rintro e w4 ⟨rfl, rfl⟩
        go_wp2_with fail
        refine (nil_height HNT.out).mono ?_
        rintro e w4 ⟨rfl, rfl⟩
        go_wp2_with fail
        refine (nil_pages HNT.out).mono ?_
        rintro e w4 ⟨rfl, hx4⟩
        have HNT4 := Lib.hid (HNT.out.ext hx4)
        have HE4 := Lib.hid (HE.out.trans_ hx4)
        have HB4 := Lib.hid (HBW.out.ext hx4 (fun h => h))
        have HV := Lib.hid (nil_value HNT4.out ⟨[97], [98], 0, 0⟩)
        simp only [Cell.agg, str] at HV
        clear hx4
        go_wp2_with fail
        refine (HV.out).mono ?_
        rintro e w5 ⟨rfl, hx5⟩
        have HNT5 := Lib.hid (HNT4.out.ext hx5)
        have HE5 := Lib.hid (HE4.out.trans_ hx5)
        have HB5 := Lib.hid (HB4.out.ext hx5 (fun h => h))
        clear hx5
        go_wp2_with fail
        refine (nil_node HNT5.out _).mono ?_
        rintro e w6 ⟨rfl, hx6⟩
        have hE6 : Ext No w6 (w6.alloc (.cells #[.bool false, .slice none 0 0, .slice none 0 0, .slice none 0 0] 40)) := (Ext.refl No w6).alloc _
        have HNT6 := Lib.hid ((HNT5.out.ext hx6).ext hE6)
        have HE6 := Lib.hid ((HE5.out.trans_ hx6).trans_ hE6)
        have hb6 := HB5.out.ext hx6 (fun h => h)
        have HB6 := Lib.hid (hb6.alloc (.cells #[.bool false, .slice none 0 0, .slice none 0 0, .slice none 0 0] 40))
        have hv6 := hb6.cell 3
        have hl6 := hb6.lt
        simp at hv6
        clear hx6 hE6 hb6
        simp only [str]
        go_wp2_with fail
        refine (nil_put HNT6.out _ _).mono ?_
        rintro e w7 ⟨rfl, rfl⟩
        go_wp2_with fail
        refine (nil_check HNT6.out).mono ?_
        rintro e w7 ⟨rfl, hx7⟩
        have HNT7 := Lib.hid (HNT6.out.ext hx7)
        have HE7 := Lib.hid (HE6.out.trans_ hx7)
        clear hx7
        go_wp2_with fail
        refine (nil_root HNT7.out).mono ?_
        rintro e w8 ⟨rfl, rfl⟩
        go_wp2_with fail
        go_roundg (gk - 1)
        case rel => exact ⟨K + 1, by have := HKK.out; omega, by go_num, HE7.out⟩
        case measure => have := HKK.out; omega
      · have hK3 : K = 3 := by omega
        subst hK3
        have HE := Lib.hid hE
        have hOT : Hid (∀ w, Calls Tryz.prog 13 #[.pointer (some ⟨s.t, 0, none⟩), .int .i64 0] w fun e w' => e = .returned (.pointer (some ⟨w.heap.size, 0, none⟩)) ∧ w' = w.alloc (.cells (treeCells s 0) 70)) := Lib.hid (fun w => of_any (some ⟨s.t, 0, none⟩) 0 (by decide) w)
        clear hK hE
        go_wp2_with fail
        refine (hOT.out _).mono ?_
        rintro e w4 ⟨rfl, rfl⟩
        have hT4 : TxAt (wr.alloc (.cells (treeCells s 0) 70)) s v0 := HTX.out.no HF.out.ok (HE.out.alloc _)
        have hX4 : Blk (wr.alloc (.cells (treeCells s 0) 70)) wr.heap.size 70 (treeCells s 0) := Blk.new wr 70 _
        have hfz : (wr.alloc (.cells (treeCells s 0) 70)).frozen? ⟨s.x, 10, none⟩ = false := by
          obtain ⟨kb, d, l, x, t, m, hsy, _⟩ := HF.out.sys
          have := hT4.db
          rw [hsy] at this ⊢
          exact this.db.frozen 10
        have HAB := Lib.hid (abort_any s HF.out.ok _ v0 hT4 hfz)
        have HSH := Lib.hid (Shut.of HF.out.ok hT4)
        have hX5 : Blk ((wr.alloc (.cells (treeCells s 0) 70)).setCell ⟨s.x, 10, none⟩ (.pointer none)) wr.heap.size 70 (treeCells s 0) := hX4.far (fun e => by
          have e' : wr.heap.size = s.x := e
          have h1 := World.block_lt_of_cell? wr _ (HF.out.ok.x0 wr (HTX.out.no HF.out.ok HE.out).db)
          simp only at h1
          omega) _
        have HX5 := Lib.hid hX5
        have HE5 : Hid (Ext No w ((wr.alloc (.cells (treeCells s 0) 70)).setCell ⟨s.x, 10, none⟩ (.pointer none))) := Lib.hid (((HE0.out.trans_ HE.out).alloc _).setNew HFF.out.2 _ _)
        clear hT4 hX4 hfz hX5
        go_wp2_with fail
        refine (HAB.out).mono ?_
        rintro e w5 ⟨rfl, rfl⟩
        have HG := Lib.hid (shut_get s _ HSH.out _ 0 HX5.out [97] (by decide))
        simp only [str] at HG
        go_wp2_with fail
        refine (HG.out).mono ?_
        rintro e w6 ⟨rfl, hx6⟩
        have HP := Lib.hid (shut_put s _ (HSH.out.ext hx6) _ 0 (HX5.out.ext hx6 (fun h => h)) [97] [98] (by decide))
        simp only [str] at HP
        have HE6 := Lib.hid (HE5.out.trans_ hx6)
        clear hx6
        go_wp2_with fail
        refine (HP.out).mono ?_
        rintro e w7 ⟨rfl, hx7⟩
        have HE7 := Lib.hid (HE6.out.trans_ hx7)
        clear hx7
        go_wp2_with fail
        refine (works_any _).mono ?_
        rintro e w8 ⟨rfl, hx8⟩
        go_wp2_with fail
        go_ret
        exact ⟨rfl, HE7.out.trans_ hx8⟩

end Go.Proofs.YtccnemmlkcmceaaGreatDoor

/- The rows' common parts: a world that holds the listed tables; memory below is as it was. -/
set_option linter.unusedVariables false
set_option linter.unusedSimpArgs false
namespace Go.Proofs.YtccnemmlkcmceaaGreatDoor
open Go.RowKit Go.ChangeShapes Go.WideShapes Go.ChangeAt

theorem Tryz.own : ownKnob Tryz.prog.godebug = none := by kernel_rfl
theorem Tryz.laidOut : laidOutB Tryz.prog = true := by kernel_rfl

theorem ext_kept {w w' : World} (h : Ext No w w') (may : MemPlace → Prop) : w.keptBut w' may := by
  refine ⟨h.os, h.output, fun i hi => ?_⟩
  rw [h.block i hi (fun h => h)]
  exact (World.keptBut_refl w may).2.2 i hi

def flat1 : DataW Unit → List Value
  | .lit (.int k n) => [.int k n]
  | _ => []
def flat2 : DataW Unit → List Value
  | .agg l => l.flatMap flat1
  | d => flat1 d
def flat3 : DataW Unit → List Value
  | .agg l => l.flatMap flat2
  | d => flat1 d

def putCells (cs : List Value) : Obj → Obj
  | .cells _ t frozen => .cells cs.toArray t frozen
  | o => o

theorem gHalf : Tryz.prog.globalNamed "aquifer/castagnoli.half" = some 0 := by kernel_rfl
theorem gFirst : Tryz.prog.globalNamed "unicode/utf8.first" = some 2 := by kernel_rfl
theorem gAccept : Tryz.prog.globalNamed "unicode/utf8.acceptRanges" = some 3 := by kernel_rfl

/-- A WORLD FOR THE WITNESS: the settled one, the tables holding what the row lists. -/
noncomputable def laidWorld (os : Os) : World :=
  { World.holding Tryz.prog os ⟨#[], #[], []⟩ with heap := ((((World.holding Tryz.prog os ⟨#[], #[], []⟩).heap.modify 0 (putCells (flat3 Rows.laid_aquifer_castagnoli_half))).modify 2 (putCells (flat3 Rows.laid_unicode_utf8_first))).modify 3 (putCells (flat3 Rows.laid_unicode_utf8_acceptRanges))) }
theorem laid_met (os : Os) (args : Array Value) : laidMet Tryz.prog [("aquifer/castagnoli.half", Rows.laid_aquifer_castagnoli_half), ("unicode/utf8.acceptRanges", Rows.laid_unicode_utf8_acceptRanges), ("unicode/utf8.first", Rows.laid_unicode_utf8_first)] ((laidWorld os).forCall (fun _ _ => 0) ⟨#[], args, []⟩).memory :=
  laidMet_of_run' 8 (by kernel_rfl) (by kernel_rfl)

end Go.Proofs.YtccnemmlkcmceaaGreatDoor

/- BtreeNobody: for every root and every act, in whatever memory, the law returns true, and its arguments read as before. Conditions: the listed package variables hold what the program's text lays. -/
set_option linter.unusedVariables false
set_option linter.unusedSimpArgs false
namespace Go.Proofs.YtccnemmlkcmceaaGreatDoor
open Go.RowKit Go.ChangeShapes Go.WideShapes Go.ChangeAt

theorem Tryz.cells53 : Tryz.prog.cellsOf 53 = 4 := by kernel_rfl
theorem Tryz.cells3 : Tryz.prog.cellsOf 3 = 1 := by kernel_rfl
theorem Tryz.cells9 : Tryz.prog.cellsOf 9 = 1 := by kernel_rfl


set_option maxRecDepth 100000 in
theorem act_open {H : Type} {enc : TypeId × Value → H} {W : World} {base : Nat} {v : Value} {d : DataW H} {p : List MemPlace}
    (hval : Value.okWide Tryz.prog W .any base 53 v) (h : DataW.Trod enc Tryz.prog W 0 (fun _ => true) true 53 v d p) : ∃ (k n : Int) (key val : ByteArray), v = .agg #[.int .i64 k, .int .i64 n, .string key, .string val] := by
  obtain ⟨cs, rfl, hsz⟩ := okWide_struct (P := Tryz.prog) Tryz.underlying53 hval
  rw [Tryz.cells53] at hsz
  obtain ⟨fuel, hf⟩ := h
  obtain ⟨y0, y1, y2, y3, m, hx, hl, h0, h1, h2, h3⟩ := Go.Joins.trod_struct4 (P := Tryz.prog) Tryz.underlying53 hf
  obtain ⟨n0, e0, _⟩ := DataW.trod_int (P := Tryz.prog) Tryz.underlying3 h0
  obtain ⟨n1, e1, _⟩ := DataW.trod_int (P := Tryz.prog) Tryz.underlying3 h1
  obtain ⟨s2, e2, _⟩ := DataW.trod_string (P := Tryz.prog) Tryz.underlying9 h2
  obtain ⟨s3, e3, _⟩ := DataW.trod_string (P := Tryz.prog) Tryz.underlying9 h3
  refine ⟨n0, n1, s2, s3, ?_⟩
  match cs, hsz with
  | ⟨[a, b, c, d]⟩, _ =>
    have q0 : [a] = [Value.int .i64 n0] := by simpa [Value.cells, Tryz.cells3] using e0
    have q1 : [b] = [Value.int .i64 n1] := by simpa [Value.cells, Tryz.cells3] using e1
    have q2 : [c] = [Value.string s2] := by simpa [Value.cells, Tryz.cells9] using e2
    have q3 : [d] = [Value.string s3] := by simpa [Value.cells, Tryz.cells9] using e3
    injection q0 with q0; injection q1 with q1; injection q2 with q2; injection q3 with q3
    subst q0; subst q1; subst q2; subst q3
    rfl

set_option maxRecDepth 100000 in
/-- WHAT THE WALK GIVES, FOR EVERY ARGUMENT AND EVERY WORLD. -/
theorem nobody_contract (H : Type) (enc : TypeId × Value → H) (W : World) (base : Nat) (args : Array Value) (ds gs : List (DataW H)) (before : List MemPlace)
    (hval : ∀ (j : Nat) t v, Tryz.f6.params[j]? = some t → args[j]? = some v → Value.okWide Tryz.prog W .any base t v)
    (hW : DataW.Whole enc Tryz.prog Tryz.f6.params.toList Rows.btreeNobodySpec.vars false W args.toList ds gs before) :
    Calls Tryz.prog 6 args W fun e W' => ∃ v, e = .returned v ∧ Rows.btreeNobodySpec.post enc Tryz.prog Tryz.f6 false true false false W args v W' := by
  have hW' := hW
  have hlt := fun x hx => hW.lt x hx
  obtain ⟨p, q, hA0, hV, rfl, hfz, hnd⟩ := hW
  have hA : DataW.TrodAll enc Tryz.prog W 0 (fun _ => true) true Tryz.f6.params.toList args.toList ds p := hA0
  rw [Tryz.params6] at hA hval
  obtain ⟨v0, v1, d0, d1, p0, p1, rfl, rfl, rfl, h0, h1⟩ := trodAll_two hA
  obtain ⟨rfl, rfl⟩ := trodVars_none hV
  obtain ⟨root, rfl, hd0, hp0, w0⟩ := open_int (P := Tryz.prog) Tryz.underlying3 (hval 0 3 v0 rfl rfl) h0
  obtain ⟨k, n, key, val, rfl⟩ := act_open (hval 1 53 v1 rfl rfl) h1
  clear hA0
  simp only [List.append_nil] at hW' hlt
  refine (nobody_walk root k n key val W).mono fun e W' ⟨he, hx⟩ => ?_
  subst he
  have hb := hx.below
  refine ⟨_, rfl, _, _, _, [], p0 ++ p1, [], hW', ?_, ?_, ?_, ext_kept hx _, fun h => by cases h⟩
  · exact trodAll_mk1 (shut_bool Tryz.underlying4 true)
  · exact trodAll_mk2 (Below.trod Tryz.laidOut (by kernel_rfl) (of_decide_eq_true (by kernel_rfl)) h0 hb (fun x hx => hlt x (List.mem_append.2 (.inl hx)))) (Below.trod Tryz.laidOut (by kernel_rfl) (of_decide_eq_true (by kernel_rfl)) h1 hb (fun x hx => hlt x (List.mem_append.2 (.inr hx))))
  · exact rfl

theorem nobody_reads (os : Os) {H : Type} (enc : TypeId × Value → H) : ∃ places, DataW.whole enc Tryz.prog ((laidWorld os).forCall (fun _ _ => 0) ⟨#[], #[.int .i64 0, .agg #[.int .i64 0, .int .i64 0, .string ⟨#[]⟩, .string ⟨#[]⟩]], []⟩).memory Tryz.f6.params.toList Rows.btreeNobodySpec.vars false #[Value.int .i64 0, .agg #[.int .i64 0, .int .i64 0, .string ⟨#[]⟩, .string ⟨#[]⟩]].toList 8 = some ([.lit (.int .i64 0), .agg [.lit (.int .i64 0), .lit (.int .i64 0), .lit (.string []), .lit (.string [])]], [], places) :=
  ⟨[], by kernel_rfl⟩

set_option maxRecDepth 100000 in
theorem nobody_lifted (os : Os) (started : os.Started) (H : Type) (enc : TypeId × Value → H) (F : Stop.Interp) :
    ReturnsInHanded {} Tryz.checked os 6 .any ((OpenSpec.ofChange Rows.btreeNobodySpec).preRow enc Tryz.prog Tryz.f6 Rows.btreeNobodyRow.domain false Rows.btreeNobodyRow.laid) (((OpenSpec.ofChange Rows.btreeNobodySpec).at F).post enc Tryz.prog Tryz.f6 false true false false) := by
  obtain ⟨places, hx⟩ := nobody_reads os enc
  refine returnsInHanded_of_row (C := Tryz.checked) (s := OpenSpec.ofChange Rows.btreeNobodySpec) Tryz.own started (by kernel_rfl) Tryz.func6
    (witness_row_at (enc := enc) (C := Tryz.checked) false (laidWorld os) #[.int .i64 0, .agg #[.int .i64 0, .int .i64 0, .string ⟨#[]⟩, .string ⟨#[]⟩]] rfl (by kernel_rfl) (by kernel_rfl) (by kernel_rfl)
      (OpenSpec.preRow_of_cond 8 hx (by kernel_rfl) (fun k hk => by cases hk) (by kernel_rfl) (laid_met os _))) ?_
  intro W base args ds gs before hval hW _ _ _ hL _ _
  exact nobody_contract H enc W base args ds gs before hval hW

set_option maxRecDepth 100000 in
theorem nobody_said : Rows.BtreeNobodySaid :=
  OpenClaim.holds_of_cond 6 Tryz.f6 rfl rfl rfl rfl rfl rfl rfl ⟨rfl, rfl, rfl, rfl, rfl⟩ rfl rfl rfl rfl rfl (by kernel_rfl) Tryz.func6 (by kernel_rfl)
    (of_decide_eq_true (by kernel_rfl)) (by unfold Func.isWrapper; first | (rw [if_pos (by decide +kernel)]; kernel_rfl) | (rw [if_neg (by decide +kernel)]; exact ⟨rfl, rfl⟩))
    (fun os started H enc _ F => by rw [OpenClaim.pre_eq_preRow]; exact nobody_lifted os started H enc F)

/-- No parameter wants a stand-in; the program's own looks are off: what the card asks. -/
theorem nobody_plain (f : FuncId) (fn : Func) (hf : Tryz.pinned.checked.prog.funcNamed "aquifer/aquiferlaw12.BtreeNobody" = some f) (hfn : Tryz.pinned.checked.prog.funcs[f]? = some fn) :
    false = Tryz.pinned.checked.prog.looks [] ∧ ∀ (j : Nat) t, fn.params[j]? = some t → Tryz.pinned.checked.prog.wantsStandIn t = false := by
  obtain rfl : f = 6 := Option.some.inj ((show Tryz.prog.funcNamed "aquifer/aquiferlaw12.BtreeNobody" = some 6 by kernel_rfl).symm.trans hf) |>.symm
  obtain rfl : fn = Tryz.f6 := (Option.some.inj (Tryz.func6.symm.trans hfn)).symm
  refine ⟨by kernel_rfl, fun j t ht => ?_⟩
  rw [Tryz.params6] at ht
  have hm : t = 3 ∨ t = 53 := by simpa using Array.mem_of_getElem? ht
  rcases hm with rfl | rfl
  · exact (show Tryz.prog.wantsStandIn 3 = false by kernel_rfl)
  · exact (show Tryz.prog.wantsStandIn 53 = false by kernel_rfl)

set_option maxRecDepth 100000 in
/-- THE CARD. -/
theorem nobody_card : Rows.BtreeNobodyCardSaid :=
  Claim7.holds_tied_plain_at .later [] _ _ _ _ nobody_said (fun _ h => by cases h) (by kernel_rfl) (fun _ h => by cases h) btreeNobody_row_tie rfl ⟨rfl, rfl⟩ (by kernel_rfl) rfl nobody_plain (by kernel_rfl)
#print axioms nobody_card

end Go.Proofs.YtccnemmlkcmceaaGreatDoor
