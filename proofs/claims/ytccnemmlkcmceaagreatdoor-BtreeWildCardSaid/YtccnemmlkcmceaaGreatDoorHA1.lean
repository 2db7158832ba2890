/- Proofs about the given program, joined out of the texts M, T, T1, T2, T3, N, T4, T5. -/
import Derived.Test.YtccnemmlkcmceaaGreatDoorProg
import Derived.WalkKit
import Derived.WalkSpells
import Derived.WalkLawsBesides
import Derived.KernelRfl
import Derived.Laws.OwnMore
import Derived.Deep.Draws
import Derived.Deep.QuietTactic
import Derived.BigQuiet
import Derived.Lib.Hide
import Derived.LaidEqlPtr
import Derived.Lib.Builder
import Derived.Deep.RegionHeld3
import Derived.StillTactics
import Derived.Laws.BitsAllLaws
import Derived.Laws.BitsLemmas
import Derived.Laws.IdiomStrings
/- Words on memory for the walks of this seat: a block known whole, a world that is another one but for some blocks and new ones. -/
set_option linter.unusedVariables false
set_option linter.unusedSimpArgs false
namespace Go.Proofs.YtccnemmlkcmceaaGreatDoor
open Go.RowKit 

/-- A text as Go's string. -/
def str (l : List UInt8) : ByteArray := ⟨l.toArray⟩
@[simp] theorem str_toList (l : List UInt8) : (str l).data.toList = l := by simp [str]
@[simp] theorem str_size (l : List UInt8) : (str l).size = l.length := by simp [str, ByteArray.size]
@[simp] theorem str_toList' (l : List UInt8) : (str l).toList = l := by rw [ByteArray.toList_eq]; simp
theorem str_of (s : ByteArray) : str s.data.toList = s := by cases s; simp [str]

/-- Block g is just these cells, none frozen. -/
def Blk (w : World) (g : Nat) (t : TypeId) (cs : Array Value) : Prop := w.heap[g]? = some (.cells cs t (0, 0))

/-- w' is w but for blocks of F, and new ones. -/
structure Ext (F : Nat → Prop) (w w' : World) : Prop where
  os : w'.os = w.os
  tape : w'.tape = w.tape
  output : w'.output = w.output
  size : w.heap.size ≤ w'.heap.size
  block : ∀ i, i < w.heap.size → ¬ F i → w'.heap[i]? = w.heap[i]?

/-- No block. -/
def No : Nat → Prop := fun _ => False

section
variable {F G : Nat → Prop} {w w' w1 : World} {g : Nat} {t : TypeId} {cs : Array Value}

theorem Blk.lt (h : Blk w g t cs) : g < w.heap.size := by
  rcases Nat.lt_or_ge g w.heap.size with hlt | hge
  · exact hlt
  · unfold Blk at h; rw [Array.getElem?_eq_none hge] at h; cases h
theorem Blk.cell (h : Blk w g t cs) (i : Nat) : w.cell? ⟨g, i, none⟩ = cs[i]? := cell_of_row w g i cs t (0, 0) h
theorem Blk.frozen (h : Blk w g t cs) (i : Nat) : w.frozen? ⟨g, i, none⟩ = false := by
  unfold Blk at h
  simp [World.frozen?, h]
theorem Blk.new (w : World) (t : TypeId) (cs : Array Value) : Blk (w.alloc (.cells cs t)) w.heap.size t cs := heap_alloc_new w _
theorem Blk.drewN (h : Blk w g t cs) (n : Nat) : Blk (w.drewN n) g t cs := h
theorem Blk.alloc (h : Blk w g t cs) (o : Obj) : Blk (w.alloc o) g t cs := (Below.heap_alloc w o g h.lt).trans h
theorem Blk.set_ (h : Blk w g t cs) (i : Nat) (u : Value) : Blk (w.setCell ⟨g, i, none⟩ u) g t (cs.setIfInBounds i u) := by
  unfold Blk at h ⊢
  simp [World.setCell, Array.getElem?_modify, h]
theorem Blk.far (h : Blk w g t cs) {p : Addr} (hp : g ≠ p.block) (u : Value) : Blk (w.setCell p u) g t cs := (Below.heap_setCell w p u g hp).trans h
theorem Blk.ext (h : Blk w g t cs) (hb : Ext F w w') (hg : ¬ F g) : Blk w' g t cs := (hb.block g h.lt hg).trans h
theorem Blk.ne_ {g' : Nat} {t' : TypeId} {cs' : Array Value} (h : Blk w g t cs) (h' : Blk w g' t' cs') (hne : t ≠ t') : g ≠ g' := by
  rintro rfl
  unfold Blk at h h'
  rw [h] at h'
  injection h' with h'
  injection h' with _ ht
  exact hne ht

theorem Ext.refl (F : Nat → Prop) (w : World) : Ext F w w := ⟨rfl, rfl, rfl, Nat.le_refl _, fun _ _ _ => rfl⟩
theorem Ext.drewN (h : Ext F w w') (n : Nat) : Ext F w (w'.drewN n) := ⟨h.os, h.tape, h.output, h.size, h.block⟩
theorem Ext.drew (h : Ext F w w') : Ext F w w'.drew := ⟨h.os, h.tape, h.output, h.size, h.block⟩
theorem Ext.alloc (h : Ext F w w') (o : Obj) : Ext F w (w'.alloc o) :=
  ⟨h.os, h.tape, h.output, Nat.le_trans h.size (by simp), fun i hi hne => (Below.heap_alloc w' o i (Nat.lt_of_lt_of_le hi h.size)).trans (h.block i hi hne)⟩
theorem Ext.setCell (h : Ext F w w') {p : Addr} (hp : F p.block ∨ w.heap.size ≤ p.block) (u : Value) : Ext F w (w'.setCell p u) :=
  ⟨h.os, h.tape, h.output, by simpa [World.setCell] using h.size, fun i hi hne => (Below.heap_setCell w' p u i (by
    rintro rfl
    rcases hp with hp | hp
    · exact hne hp
    · omega)).trans (h.block i hi hne)⟩
theorem Ext.setNew (h : Ext F w w') {b : Nat} (hb : w.heap.size ≤ b) (o : Nat) (u : Value) : Ext F w (w'.setCell ⟨b, o, none⟩ u) := h.setCell (.inr hb) u
theorem Ext.setF (h : Ext F w w') {b : Nat} (hb : F b) (o : Nat) (u : Value) : Ext F w (w'.setCell ⟨b, o, none⟩ u) := h.setCell (.inl hb) u
theorem Ext.trans (h : Ext F w w1) (h' : Ext G w1 w') (hG : ∀ i, i < w.heap.size → G i → F i) : Ext F w w' :=
  ⟨h'.os.trans h.os, h'.tape.trans h.tape, h'.output.trans h.output, Nat.le_trans h.size h'.size,
    fun i hi hne => (h'.block i (Nat.lt_of_lt_of_le hi h.size) (fun hg => hne (hG i hi hg))).trans (h.block i hi hne)⟩
theorem Ext.trans_ (h : Ext F w w1) (h' : Ext F w1 w') : Ext F w w' := h.trans h' fun _ _ h => h
theorem Ext.mono (h : Ext F w w') (hG : ∀ i, i < w.heap.size → F i → G i) : Ext G w w' :=
  ⟨h.os, h.tape, h.output, h.size, fun i hi hne => h.block i hi (fun hf => hne (hG i hi hf))⟩
theorem Ext.of_no (h : Ext No w w') : Ext F w w' := h.mono fun _ _ h => h.elim
theorem Ext.below (h : Ext No w w') : Below w.heap.size w w' := ⟨h.os, h.tape, h.output, h.size, fun i hi => h.block i hi (fun h => h)⟩
theorem Ext.of_below (h : Below w.heap.size w w') (F : Nat → Prop) : Ext F w w' := ⟨h.os, h.tape, h.output, h.size, fun i hi _ => h.block i hi⟩
end

theorem ret_int {k : IntKind} {a b : Int} (h : a = b) : Ending.returned (.int k a) = .returned (.int k b) := by rw [h]

theorem ret_bool {a b : Bool} (h : a = b) : Ending.returned (.bool a) = .returned (.bool b) := by rw [h]

theorem cell_ext {F : Nat → Prop} {w w' : World} (h : Ext F w w') {g i : Nat} {u : Value} (hc : w.cell? ⟨g, i, none⟩ = some u) (hg : ¬ F g) : w'.cell? ⟨g, i, none⟩ = some u := by
  have hlt := World.block_lt_of_cell? w _ hc
  rw [← hc]
  exact World.cell?_of_block (h.block g hlt hg)

end Go.Proofs.YtccnemmlkcmceaaGreatDoor

/- The transaction of the page database as the walks see it: its cells, its map of pages, and what its calls do. -/
set_option linter.unusedVariables false
set_option linter.unusedSimpArgs false
namespace Go.Proofs.YtccnemmlkcmceaaGreatDoor
open Go.RowKit 

/-- A page: its kind and its body. -/
structure Leaf where
  kind : Nat
  body : List UInt8

/-- A page as Go's struct. -/
def Leaf.val (p : Leaf) : Value := .agg #[.int .i64 (p.kind : Int), .string (str p.body)]

/-- What a transaction shows: roots, marks, pages. -/
structure V where
  r : Nat → Nat
  high : Nat
  free : Nat
  cnt : Nat
  pg : Nat → Leaf
  marked : Bool
  spoilt : Bool

/-- Where the parts lie; what lies behind the transaction. -/
structure Sys where
  d : Nat
  x : Nat
  t : Nat
  m : Nat
  ka : Addr
  nsec : Nat
  log : Nat
  db : World → Prop
  bh : Nat
  base : Nat → Leaf
  img : Nat → ByteArray

/-- The blocks that the transaction's calls write. -/
def Sys.F (s : Sys) : Nat → Prop := fun b => b = s.t ∨ b = s.m

/-- How many pages there can be. -/
def Sys.cap (s : Sys) : Nat := (s.nsec - s.log) / 8

/-- The entries of the map of pages. -/
def entOk (es : Array MapEntry) (ov : List (Nat × Leaf)) : Prop :=
  es.toList.map (fun e => (e.key, e.val)) = ov.map (fun p => (Value.int .i64 (p.1 : Int), p.2.val))

structure MapAt (w : World) (m : Nat) (ov : List (Nat × Leaf)) : Prop where
  nodup : (ov.map (·.1)).Nodup
  obj : ∃ es c, w.heap[m]? = some (.map es c) ∧ entOk es ov

structure Sys.Ok (s : Sys) : Prop where
  keep : ∀ w w', Ext s.F w w' → s.db w → s.db w'
  x0 : ∀ w, s.db w → w.cell? ⟨s.x, 0, none⟩ = some (.pointer (some ⟨s.d, 0, none⟩))
  x2 : ∀ w, s.db w → w.cell? ⟨s.x, 2, none⟩ = some (.int .i64 (s.log : Int))
  x10 : ∀ w, s.db w → w.cell? ⟨s.x, 10, none⟩ = some (.pointer (some ⟨s.t, 0, none⟩))
  x11 : ∀ w, s.db w → w.cell? ⟨s.x, 11, none⟩ = some (.bool false)
  d0 : ∀ w, s.db w → w.cell? ⟨s.d, 0, none⟩ = some (.slice (some s.ka) s.nsec s.nsec)
  d2 : ∀ w, s.db w → w.cell? ⟨s.d, 2, none⟩ = some (.bool false)
  tx : s.t ≠ s.x
  td : s.t ≠ s.d
  n1 : 1 ≤ s.nsec
  n2 : s.nsec ≤ 65536
  ll : s.log ≤ s.nsec
  img : ∀ w (id : Nat), s.db w → 1 ≤ id → id < s.bh →
    Calls Tryz.prog 83 #[.pointer (some ⟨s.x, 0, none⟩), .int .i64 (id : Int)] w (fun e w' => e = .returned (.tuple #[.string (s.img id), .int .i64 0]) ∧ Ext No w w')
  opn : ∀ w (id : Nat), 1 ≤ id → id < s.bh →
    Calls Tryz.prog 85 #[.int .i64 (id : Int), .string (s.img id)] w (fun e w' => e = .returned (.tuple #[.int .i64 ((s.base id).kind : Int), .string (str (s.base id).body), .int .i64 0]) ∧ Ext No w w')

/-- The transaction's cells. -/
def V.cells (v : V) (s : Sys) : Array Value := #[.pointer (some ⟨s.x, 0, none⟩), .int .i64 (v.r 0 : Int), .int .i64 (v.r 1 : Int), .int .i64 (v.r 2 : Int), .int .i64 (v.r 3 : Int),
  .int .i64 (v.high : Int), .int .i64 (v.free : Int), .int .i64 (v.cnt : Int), .map (some s.m), .bool v.marked, .bool v.spoilt]

/-- The transaction lies in w, and shows v. -/
structure TxAt (w : World) (s : Sys) (v : V) : Prop where
  tx : Blk w s.t 111 (v.cells s)
  db : s.db w
  h1 : 1 ≤ v.high
  h2 : v.high ≤ s.cap
  hb : s.bh ≤ v.high
  hc : v.cnt ≤ v.high
  mp : ∃ ov, MapAt w s.m ov ∧ (∀ i p, (i, p) ∈ ov → 1 ≤ i ∧ i < v.high) ∧ (∀ i, 1 ≤ i → i < v.high → (i ∈ ov.map (·.1) ∨ i < s.bh) ∧ v.pg i = (ov.lookup i).getD (s.base i))

theorem MapAt.ext {F : Nat → Prop} {w w' : World} {m : Nat} {ov : List (Nat × Leaf)} (h : MapAt w m ov) (he : Ext F w w') (hm : ¬ F m) : MapAt w' m ov := by
  obtain ⟨hn, es, c, ho, he'⟩ := h
  refine ⟨hn, es, c, ?_, he'⟩
  have hlt : m < w.heap.size := by
    rcases Nat.lt_or_ge m w.heap.size with hlt | hge
    · exact hlt
    · rw [Array.getElem?_eq_none hge] at ho; cases ho
  exact (he.block m hlt hm).trans ho

/-- A map is no row of cells. -/
theorem MapAt.ne {w : World} {m g : Nat} {ov : List (Nat × Leaf)} {t : TypeId} {cs : Array Value} (h : MapAt w m ov) (hb : Blk w g t cs) : g ≠ m := by
  rintro rfl
  obtain ⟨_, es, c, ho, _⟩ := h
  unfold Blk at hb
  rw [ho] at hb
  cases hb

theorem TxAt.no {w w' : World} {s : Sys} {v : V} (h : TxAt w s v) (hs : s.Ok) (he : Ext No w w') : TxAt w' s v := by
  obtain ⟨ov, hm, h1, h2⟩ := h.mp
  exact ⟨h.tx.ext he (fun h => h), hs.keep _ _ he.of_no h.db, h.h1, h.h2, h.hb, h.hc, ov, hm.ext he (fun h => h), h1, h2⟩

theorem neq_tx_same (a : Addr) (w : World) : (binOp .neq 25 (.pointer (some a)) (.pointer (some a))).run Tryz.prog w = .ok (.bool false) w := by
  obtain ⟨j, hj⟩ : ∃ j, Tryz.prog.info? 111 = some j := by
    have h : (Tryz.prog.info? 111).isSome = true := by kernel_rfl
    exact Option.isSome_iff_exists.1 h
  exact Lib.run_neq_ptr_same w a Tryz.underlying25 hj

/-! ### below the transaction -/
set_option maxHeartbeats 400000 in
theorem dnone_no (d n : Nat) (ka : Addr) (w : World) (c0 : w.cell? ⟨d, 0, none⟩ = some (.slice (some ka) n n)) (hn : 1 ≤ n) :
    Calls Tryz.prog 79 #[.pointer (some ⟨d, 0, none⟩)] w fun e w' => e = .returned (.bool false) ∧ w = w' := by
  obtain ⟨n, rfl⟩ : ∃ k, n = k + 1 := ⟨n - 1, by omega⟩
  go_enter Tryz.func79, Tryz.ntmps79
  go_wp2
  go_ret
  exact ⟨rfl, rfl⟩

set_option maxHeartbeats 400000 in
theorem ddown_any (d n : Nat) (ka : Addr) (w : World) (b : Bool) (c0 : w.cell? ⟨d, 0, none⟩ = some (.slice (some ka) n n)) (hn : 1 ≤ n)
  (c2 : w.cell? ⟨d, 2, none⟩ = some (.bool b)) :
    Calls Tryz.prog 40 #[.pointer (some ⟨d, 0, none⟩)] w fun e w' => e = .returned (.bool b) ∧ w = w' := by
  go_enter Tryz.func40, Tryz.ntmps40
  go_wp2_with (go_at_call 79; refine (dnone_no d n ka _ c0 hn).mono ?_; rintro e w' ⟨rfl, rfl⟩)
  go_ret
  exact ⟨rfl, rfl⟩

set_option maxHeartbeats 400000 in
theorem dsize_any (d n : Nat) (ka : Addr) (w : World) (c0 : w.cell? ⟨d, 0, none⟩ = some (.slice (some ka) n n)) (hn : 1 ≤ n) :
    Calls Tryz.prog 93 #[.pointer (some ⟨d, 0, none⟩)] w fun e w' => e = .returned (.int .i64 n) ∧ w = w' := by
  go_enter Tryz.func93, Tryz.ntmps93
  go_wp2_with (go_at_call 79; refine (dnone_no d n ka _ c0 hn).mono ?_; rintro e w' ⟨rfl, rfl⟩)
  go_ret
  exact ⟨rfl, rfl⟩

set_option maxHeartbeats 400000 in
theorem xnone_no (x d : Nat) (w : World) (c0 : w.cell? ⟨x, 0, none⟩ = some (.pointer (some ⟨d, 0, none⟩))) :
    Calls Tryz.prog 76 #[.pointer (some ⟨x, 0, none⟩)] w fun e w' => e = .returned (.bool false) ∧ w = w' := by
  go_enter Tryz.func76, Tryz.ntmps76
  go_wp2
  go_ret
  exact ⟨rfl, rfl⟩

set_option maxHeartbeats 400000 in
theorem xup_any (x d n : Nat) (ka : Addr) (w : World) (b lost : Bool) (c0 : w.cell? ⟨d, 0, none⟩ = some (.slice (some ka) n n)) (hn : 1 ≤ n)
  (c2 : w.cell? ⟨d, 2, none⟩ = some (.bool b)) (x0 : w.cell? ⟨x, 0, none⟩ = some (.pointer (some ⟨d, 0, none⟩))) (x11 : w.cell? ⟨x, 11, none⟩ = some (.bool lost)) :
    Calls Tryz.prog 74 #[.pointer (some ⟨x, 0, none⟩)] w fun e w' => e = .returned (.int .i64 (if lost || b then 10 else 0)) ∧ w = w' := by
  cases lost
  · cases b
    all_goals
    go_enter Tryz.func74, Tryz.ntmps74
    go_wp2_with (first | (go_at_call 76; refine (xnone_no x d _ x0).mono ?_; rintro e w' ⟨rfl, rfl⟩) | (go_at_call 40; refine (ddown_any d n ka _ _ c0 hn c2).mono ?_; rintro e w' ⟨rfl, rfl⟩))
    go_ret
    exact ⟨rfl, rfl⟩
  · go_enter Tryz.func74, Tryz.ntmps74
    go_wp2_with (first | (go_at_call 76; refine (xnone_no x d _ x0).mono ?_; rintro e w' ⟨rfl, rfl⟩) | (go_at_call 40; refine (ddown_any d n ka _ _ c0 hn c2).mono ?_; rintro e w' ⟨rfl, rfl⟩))
    go_ret
    exact ⟨rfl, rfl⟩

set_option maxHeartbeats 400000 in
theorem txup (s : Sys) (hs : s.Ok) (w : World) (hd : s.db w) (t0 : w.cell? ⟨s.t, 0, none⟩ = some (.pointer (some ⟨s.x, 0, none⟩))) :
    Calls Tryz.prog 53 #[.pointer (some ⟨s.t, 0, none⟩)] w fun e w' => e = .returned (.int .i64 0) ∧ w = w' := by
  have k := fun w => neq_tx_same ⟨s.t, 0, none⟩ w
  have x10 := hs.x10 w hd
  go_enter Tryz.func53, Tryz.ntmps53
  go_wp2_with (go_at_call 74; refine (xup_any s.x s.d s.nsec s.ka _ false false (hs.d0 _ hd) hs.n1 (hs.d2 _ hd) (hs.x0 _ hd) (hs.x11 _ hd)).mono ?_; rintro e w' ⟨rfl, rfl⟩)
  go_ret
  exact ⟨rfl, rfl⟩

set_option maxHeartbeats 400000 in
theorem xcount (s : Sys) (hs : s.Ok) (w : World) (hd : s.db w) :
    Calls Tryz.prog 56 #[.pointer (some ⟨s.x, 0, none⟩)] w fun e w' => e = .returned (.int .i64 (s.cap : Int)) ∧ ∃ k, w' = w.drewN k := by
  have x0 := hs.x0 w hd
  have x2 := hs.x2 w hd
  have n2 := hs.n2
  have ll := hs.ll
  go_enter Tryz.func56, Tryz.ntmps56
  go_wp2_with (go_at_call 76; refine (xnone_no s.x s.d _ x0).mono ?_; rintro e w' ⟨rfl, rfl⟩)
  go_quiet ((go_at_call 93; exact Calls.quiet_of_same ((dsize_any s.d s.nsec s.ka _ (by exact hs.d0 w hd) hs.n1).mono fun _ _ ⟨h1, h2⟩ => ⟨h1, h2.symm⟩)))
  go_wp2
  go_ret
  exact ⟨ret_int (by unfold Sys.cap; omega), _, rfl⟩

end Go.Proofs.YtccnemmlkcmceaaGreatDoor

/- The map of pages: looking up, storing. -/
set_option linter.unusedVariables false
set_option linter.unusedSimpArgs false
namespace Go.Proofs.YtccnemmlkcmceaaGreatDoor
open Go.RowKit 

def setOv (ov : List (Nat × Leaf)) (id : Nat) (p : Leaf) : List (Nat × Leaf) :=
  if id ∈ ov.map (·.1) then ov.map (fun q => if q.1 = id then (id, p) else q) else ov ++ [(id, p)]

theorem setOv_keys (ov : List (Nat × Leaf)) (id : Nat) (p : Leaf) : (setOv ov id p).map (·.1) = if id ∈ ov.map (·.1) then ov.map (·.1) else ov.map (·.1) ++ [id] := by
  unfold setOv
  split
  · rw [List.map_map]
    apply List.map_congr_left
    intro q _
    simp only [Function.comp]
    split
    · rename_i h; exact h.symm
    · rfl
  · simp

theorem setOv_nodup {ov : List (Nat × Leaf)} (h : (ov.map (·.1)).Nodup) (id : Nat) (p : Leaf) : ((setOv ov id p).map (·.1)).Nodup := by
  rw [setOv_keys]
  split
  · exact h
  · rename_i hn
    rw [List.nodup_append]
    refine ⟨h, by simp, ?_⟩
    intro a ha b hb e
    simp at hb
    subst hb; subst e
    exact hn ha

theorem lookup_none_iff (ov : List (Nat × Leaf)) (id : Nat) : ov.lookup id = none ↔ id ∉ ov.map (·.1) := by
  induction ov with
  | nil => simp
  | cons q l ih =>
    obtain ⟨a, b⟩ := q
    simp only [List.lookup_cons, List.map_cons, List.mem_cons]
    by_cases h : id = a
    · subst h; simp
    · have : (id == a) = false := by simpa using h
      simp [this, h, ih]

theorem lookup_map_set (ov : List (Nat × Leaf)) (id : Nat) (p : Leaf) (j : Nat) :
    (ov.map (fun q => if q.1 = id then (id, p) else q)).lookup j = if j = id then (if id ∈ ov.map (·.1) then some p else none) else ov.lookup j := by
  induction ov with
  | nil => simp
  | cons q l ih =>
    obtain ⟨a, b⟩ := q
    simp only [List.map_cons, List.lookup_cons, List.mem_cons]
    by_cases h : a = id
    · subst h
      by_cases hj : j = a
      · subst hj; simp
      · have : (j == a) = false := by simpa using hj
        rw [if_pos rfl, List.lookup_cons, this, ih]; simp [hj]
    · by_cases hj : j = id
      · subst hj
        have : (j == a) = false := by simpa using (Ne.symm h)
        have h' : ¬ j = a := Ne.symm h
        rw [if_neg h, List.lookup_cons, this, ih]; simp only [List.map_cons, List.mem_cons, h', false_or, if_true]
      · rw [if_neg h, List.lookup_cons, ih]
        cases hja : (j == a) <;> simp [hj]

theorem setOv_lookup (ov : List (Nat × Leaf)) (id : Nat) (p : Leaf) (j : Nat) : (setOv ov id p).lookup j = if j = id then some p else ov.lookup j := by
  unfold setOv
  split
  · rename_i h
    rw [lookup_map_set, if_pos h]
  · rename_i h
    rw [List.lookup_append]
    by_cases hj : j = id
    · subst hj
      rw [(lookup_none_iff ov j).2 h]
      simp
    · have : (j == id) = false := by simpa using hj
      simp [hj, List.lookup_cons, this]

theorem setOv_mem {ov : List (Nat × Leaf)} {id : Nat} {p : Leaf} {q : Nat × Leaf} (h : q ∈ setOv ov id p) : q.1 = id ∨ q ∈ ov := by
  unfold setOv at h
  split at h
  · obtain ⟨r, hr, he⟩ := List.mem_map.1 h
    split at he
    · exact .inl (by rw [← he])
    · exact .inr (he ▸ hr)
  · rcases List.mem_append.1 h with h | h
    · exact .inr h
    · simp at h; exact .inl (by rw [h])

/-- The search among the entries. -/
theorem findNow_spec (q : IntKind) (id : Nat) (ov : List (Nat × Leaf)) : ∀ (es : List MapEntry) (i : Nat), es.map (fun e => (e.key, e.val)) = ov.map (fun p => (Value.int .i64 (p.1 : Int), p.2.val)) →
    (ov.lookup id = none → Instr.findNow (.int q) (.int .i64 (id : Int)) es i = some none) ∧
    (∀ p, ov.lookup id = some p → ∃ j, Instr.findNow (.int q) (.int .i64 (id : Int)) es i = some (some (i + j, p.val)) ∧ (es[j]?).map (·.key) = some (.int .i64 (id : Int)) ∧
      ((ov.map (·.1)).Nodup → ∀ (k : Nat) (r : Nat × Leaf), ov[k]? = some r → (r.1 = id ↔ k = j))) := by
  induction ov with
  | nil =>
    intro es i h
    have : es = [] := by simpa using h
    subst this
    exact ⟨fun _ => rfl, fun p hp => by simp at hp⟩
  | cons r ov ih =>
    intro es i h
    obtain ⟨a, b⟩ := r
    match es, h with
    | [], h => simp at h
    | e :: es, h =>
      simp only [List.map_cons, List.cons.injEq, Prod.mk.injEq] at h
      obtain ⟨⟨hk, hv⟩, ht⟩ := h
      obtain ⟨ih1, ih2⟩ := ih es (i + 1) ht
      by_cases hid : id = a
      · subst hid
        refine ⟨fun hn => by simp at hn, fun p hp => ?_⟩
        have hbp : b = p := by simpa using hp
        subst hbp
        refine ⟨0, ?_, by simp [hk], ?_⟩
        · simp [Instr.findNow, hk, Instr.sameNow, hv]
        · intro hnd k r hr
          match k with
          | 0 => simp at hr; simp [← hr]
          | k + 1 =>
            simp only [List.getElem?_cons_succ] at hr
            simp only [List.map_cons, List.nodup_cons] at hnd
            constructor
            · intro e1
              exact absurd (List.mem_map.2 ⟨r, List.mem_of_getElem? hr, e1⟩) hnd.1
            · intro e1; omega
      · have hne : ((id : Int) == (a : Int)) = false := by simpa using (by omega : ¬ (id : Int) = (a : Int))
        have hne' : (id == a) = false := by simpa using hid
        refine ⟨fun hn => ?_, fun p hp => ?_⟩
        · have : ov.lookup id = none := by simpa [List.lookup_cons, hne'] using hn
          simp [Instr.findNow, hk, Instr.sameNow, hne, ih1 this]
        · have hp' : ov.lookup id = some p := by simpa [List.lookup_cons, hne'] using hp
          obtain ⟨j, h1, h2, h3⟩ := ih2 p hp'
          refine ⟨j + 1, ?_, by simpa using h2, ?_⟩
          · simp [Instr.findNow, hk, Instr.sameNow, hne, h1, Nat.add_assoc, Nat.add_comm 1 j]
          · intro hnd k r hr
            simp only [List.map_cons, List.nodup_cons] at hnd
            match k with
            | 0 =>
              simp at hr
              constructor
              · intro e1; rw [← hr] at e1; exact absurd e1.symm hid
              · intro e1; omega
            | k + 1 =>
              simp only [List.getElem?_cons_succ] at hr
              rw [h3 hnd.2 k r hr]
              omega

theorem chk_int (b : Bool) (i : Int) (w : World) : (Instr.checkKey b 10000 3 (.int .i64 i)).run Tryz.prog w = .ok () w := MapKept.run_checkKey (k := .int .i64 i) Tryz.underlying3 (by simp [MapKept.IsKey]) b 9999

theorem Tryz.info113 : (Tryz.prog.info? 113).map (fun i => (i.zero, i.size, i.bytes)) = some (some (.agg #[.int .i64 0, .string (str [])]), 2, 24) := by kernel_rfl

theorem run_look_hit {w : World} {m : Nat} {ov : List (Nat × Leaf)} (h : MapAt w m ov) {id : Nat} {p : Leaf} (hp : ov.lookup id = some p) :
    (Instr.lookup 109 (.map (some m)) (.int .i64 (id : Int)) true).run Tryz.prog w = .ok (.tuple #[p.val, .bool true]) w := by
  obtain ⟨_, es, c, ho, he⟩ := h
  obtain ⟨j, h1, _, _⟩ := (findNow_spec .i64 id ov es.toList 0 he).2 p hp
  simp [Instr.lookup, run_underlying Tryz.underlying109, MapKept.run_getObj_map ho, chk_int, MapKept.run_findKey Tryz.underlying3 h1, Result.andThen]

theorem run_look_miss {w : World} {m : Nat} {ov : List (Nat × Leaf)} (h : MapAt w m ov) {id : Nat} (hp : ov.lookup id = none) :
    (Instr.lookup 109 (.map (some m)) (.int .i64 (id : Int)) true).run Tryz.prog w = .ok (.tuple #[.agg #[.int .i64 0, .string (str [])], .bool false]) w := by
  obtain ⟨_, es, c, ho, he⟩ := h
  have h1 := (findNow_spec .i64 id ov es.toList 0 he).1 hp
  have hz : (zeroValue 113).run Tryz.prog w = .ok (.agg #[.int .i64 0, .string (str [])]) w := by kernel_rfl
  simp [Instr.lookup, run_underlying Tryz.underlying109, MapKept.run_getObj_map ho, chk_int, MapKept.run_findKey Tryz.underlying3 h1, hz, Result.andThen]

/-- The world behind a store into the map of pages. -/
theorem run_mapset {w : World} {m : Nat} {ov : List (Nat × Leaf)} (h : MapAt w m ov) (id : Nat) (p : Leaf) :
    ∃ w', (Instr.mapUpdate 109 (.map (some m)) (.int .i64 (id : Int)) p.val).run Tryz.prog w = .ok () w' ∧ MapAt w' m (setOv ov id p) ∧ Ext (fun b => b = m) w w' ∧ w'.heap.size = w.heap.size := by
  obtain ⟨hnd, es, c, ho, he⟩ := h
  have hm : m < w.heap.size := by
    rcases Nat.lt_or_ge m w.heap.size with hlt | hge
    · exact hlt
    · rw [Array.getElem?_eq_none hge] at ho; cases ho
  have ext : ∀ o, Ext (fun b => b = m) w { w with heap := w.heap.setIfInBounds m o } := fun o => ⟨rfl, rfl, rfl, by simp, fun i hi hne => by
    simp only [Array.getElem?_setIfInBounds]
    rw [if_neg (fun e => hne e.symm)]⟩
  cases hl : ov.lookup id with
  | some q =>
    obtain ⟨j, h1, h2, h3⟩ := (findNow_spec .i64 id ov es.toList 0 he).2 q hl
    have hj : es[j]?.map (·.key) = some (.int .i64 (id : Int)) := by simpa using h2
    refine ⟨{ w with heap := w.heap.setIfInBounds m (.map (es.modify j fun e => { e with key := .int .i64 (id : Int), val := p.val }) c) }, ?_, ?_, ext _, by simp⟩
    · simp only [Nat.zero_add] at h1
      simp [Instr.mapUpdate, run_underlying Tryz.underlying109, MapKept.run_getObj_map ho, MapKept.run_setObj_map _ ho, chk_int, MapKept.run_findKey Tryz.underlying3 h1, Instr.keyThatStays, hj, Instr.sameBits, Result.andThen]
    · refine ⟨setOv_nodup hnd _ _, _, c, by simp only [Array.getElem?_setIfInBounds, if_pos rfl, hm, if_true]; rfl, ?_⟩
      unfold entOk at he ⊢
      have hmem : id ∈ ov.map (·.1) := by
        rcases Classical.em (id ∈ ov.map (·.1)) with h | h
        · exact h
        · rw [(lookup_none_iff ov id).2 h] at hl; cases hl
      rw [setOv, if_pos hmem]
      apply List.ext_getElem?
      intro k
      have hk : (es.toList.map (fun e => (e.key, e.val)))[k]? = (ov.map (fun p => (Value.int .i64 (p.1 : Int), p.2.val)))[k]? := by rw [he]
      simp only [List.getElem?_map, Array.getElem?_toList, Array.getElem?_modify] at hk ⊢
      cases ho' : ov[k]? with
      | none =>
        rw [ho'] at hk
        cases hes : es[k]? with
        | none => simp
        | some e => rw [hes] at hk; simp at hk
      | some r =>
        rw [ho'] at hk
        cases hes : es[k]? with
        | none => rw [hes] at hk; simp at hk
        | some e =>
          rw [hes] at hk
          simp only [Option.map_some, Option.some.injEq, Prod.mk.injEq] at hk
          have hiff := h3 hnd k r ho'
          by_cases hkj : j = k
          · subst hkj
            have hr : r.1 = id := hiff.2 rfl
            simp [hr]
          · have hr : ¬ r.1 = id := fun e => hkj (hiff.1 e).symm
            simp [hkj, hr, hk]
  | none =>
    have h1 := (findNow_spec .i64 id ov es.toList 0 he).1 hl
    refine ⟨{ w with heap := w.heap.setIfInBounds m (.map (es.push { key := .int .i64 (id : Int), val := p.val, born := c }) (c + 1)) }, ?_, ?_, ext _, by simp⟩
    · simp [Instr.mapUpdate, run_underlying Tryz.underlying109, MapKept.run_getObj_map ho, MapKept.run_setObj_map _ ho, chk_int, MapKept.run_findKey Tryz.underlying3 h1, Result.andThen]
    · refine ⟨setOv_nodup hnd _ _, _, c + 1, by simp only [Array.getElem?_setIfInBounds, if_pos rfl, hm, if_true]; rfl, ?_⟩
      unfold entOk at he ⊢
      have hmem : ¬ id ∈ ov.map (·.1) := (lookup_none_iff ov id).1 hl
      rw [setOv, if_neg hmem]
      simp [he]

open Classical in
/-- The world behind a store into the map of pages, named. -/
noncomputable def mset (w : World) (m : Nat) (id : Nat) (p : Leaf) : World :=
  if h : ∃ w', (Instr.mapUpdate 109 (.map (some m)) (.int .i64 (id : Int)) p.val).run Tryz.prog w = .ok () w' ∧ Ext (fun b => b = m) w w' ∧ w'.heap.size = w.heap.size then Classical.choose h else w

theorem mset_ext (w : World) (m id : Nat) (p : Leaf) : Ext (fun b => b = m) w (mset w m id p) := by
  unfold mset
  split
  · rename_i h; exact (Classical.choose_spec h).2.1
  · exact Ext.refl _ _
theorem mset_size (w : World) (m id : Nat) (p : Leaf) : (mset w m id p).heap.size = w.heap.size := by
  unfold mset
  split
  · rename_i h; exact (Classical.choose_spec h).2.2
  · rfl
theorem mset_heap (w : World) (m id : Nat) (p : Leaf) (g : Nat) (hg : g ≠ m) : (mset w m id p).heap[g]? = w.heap[g]? := by
  rcases Nat.lt_or_ge g w.heap.size with h | h
  · exact (mset_ext w m id p).block g h hg
  · rw [Array.getElem?_eq_none h, Array.getElem?_eq_none (by rw [mset_size]; exact h)]
theorem mset_cell (w : World) (m id : Nat) (p : Leaf) (g i : Nat) (hg : g ≠ m) : (mset w m id p).cell? ⟨g, i, none⟩ = w.cell? ⟨g, i, none⟩ := World.cell?_of_block (mset_heap w m id p g hg)
theorem mset_frozen (w : World) (m id : Nat) (p : Leaf) (g i : Nat) (hg : g ≠ m) : (mset w m id p).frozen? ⟨g, i, none⟩ = w.frozen? ⟨g, i, none⟩ := by
  unfold World.frozen?
  simp only [mset_heap w m id p g hg]
theorem mset_run {w : World} {m : Nat} {ov : List (Nat × Leaf)} (h : MapAt w m ov) (id : Nat) (p : Leaf) :
    (Instr.mapUpdate 109 (.map (some m)) (.int .i64 (id : Int)) p.val).run Tryz.prog w = .ok () (mset w m id p) ∧ MapAt (mset w m id p) m (setOv ov id p) := by
  obtain ⟨w', h1, h2, h3, h4⟩ := run_mapset h id p
  have hx : ∃ w', (Instr.mapUpdate 109 (.map (some m)) (.int .i64 (id : Int)) p.val).run Tryz.prog w = .ok () w' ∧ Ext (fun b => b = m) w w' ∧ w'.heap.size = w.heap.size := ⟨w', h1, h3, h4⟩
  have hs := Classical.choose_spec hx
  have e : mset w m id p = Classical.choose hx := by unfold mset; rw [dif_pos hx]
  rw [e]
  refine ⟨hs.1, ?_⟩
  have : w' = Classical.choose hx := by
    have := h1.symm.trans hs.1
    injection this
  rw [← this]
  exact h2

end Go.Proofs.YtccnemmlkcmceaaGreatDoor

/- The transaction's calls: what each does. -/
set_option linter.unusedVariables false
set_option linter.unusedSimpArgs false
namespace Go.Proofs.YtccnemmlkcmceaaGreatDoor
open Go.RowKit 

theorem sysKeepNo {s : Sys} (hs : s.Ok) {w w' : World} (he : Ext No w w') (h : s.db w) : s.db w' := hs.keep _ _ he.of_no h

section
variable {w : World} {s : Sys} {v : V}
theorem TxAt.c0 (h : TxAt w s v) : w.cell? ⟨s.t, 0, none⟩ = some (.pointer (some ⟨s.x, 0, none⟩)) := h.tx.cell 0
theorem TxAt.c1 (h : TxAt w s v) : w.cell? ⟨s.t, 1, none⟩ = some (.int .i64 (v.r 0 : Int)) := h.tx.cell 1
theorem TxAt.c2 (h : TxAt w s v) : w.cell? ⟨s.t, 2, none⟩ = some (.int .i64 (v.r 1 : Int)) := h.tx.cell 2
theorem TxAt.c3 (h : TxAt w s v) : w.cell? ⟨s.t, 3, none⟩ = some (.int .i64 (v.r 2 : Int)) := h.tx.cell 3
theorem TxAt.c4 (h : TxAt w s v) : w.cell? ⟨s.t, 4, none⟩ = some (.int .i64 (v.r 3 : Int)) := h.tx.cell 4
theorem TxAt.c5 (h : TxAt w s v) : w.cell? ⟨s.t, 5, none⟩ = some (.int .i64 (v.high : Int)) := h.tx.cell 5
theorem TxAt.c6 (h : TxAt w s v) : w.cell? ⟨s.t, 6, none⟩ = some (.int .i64 (v.free : Int)) := h.tx.cell 6
theorem TxAt.c7 (h : TxAt w s v) : w.cell? ⟨s.t, 7, none⟩ = some (.int .i64 (v.cnt : Int)) := h.tx.cell 7
theorem TxAt.c8 (h : TxAt w s v) : w.cell? ⟨s.t, 8, none⟩ = some (.map (some s.m)) := h.tx.cell 8
theorem TxAt.c9 (h : TxAt w s v) : w.cell? ⟨s.t, 9, none⟩ = some (.bool v.marked) := h.tx.cell 9
theorem TxAt.c10 (h : TxAt w s v) : w.cell? ⟨s.t, 10, none⟩ = some (.bool v.spoilt) := h.tx.cell 10
theorem TxAt.fz (h : TxAt w s v) (i : Nat) : w.frozen? ⟨s.t, i, none⟩ = false := h.tx.frozen i
end

set_option maxHeartbeats 400000 in
theorem get_any (s : Sys) (hs : s.Ok) (w : World) (v : V) (h : TxAt w s v) (id : Nat) (h1 : 1 ≤ id) (h2 : id < v.high) :
    Calls Tryz.prog 54 #[.pointer (some ⟨s.t, 0, none⟩), .int .i64 (id : Int)] w fun e w' => e = .returned (.tuple #[(v.pg id).val, .int .i64 0]) ∧ Ext No w w' := by
  obtain ⟨ov, hm, _, hv⟩ := h.mp
  obtain ⟨hin, hpg⟩ := hv id h1 h2
  clear hv
  have t5 := h.c5
  have t8 := h.c8
  have t0 := h.c0
  have lt := h.tx.lt
  have g1 : ¬ ((id : Int) < 1) := by omega
  have g2 : ¬ ((v.high : Int) ≤ (id : Int)) := by omega
  cases hl : ov.lookup id with
  | some p =>
    have hpp : v.pg id = p := by rw [hpg, hl]; rfl
    have lk : ∀ o, (Instr.lookup 109 (.map (some s.m)) (.int .i64 (id : Int)) true).run Tryz.prog (w.alloc o) = .ok (.tuple #[p.val, .bool true]) (w.alloc o) := fun o => run_look_hit (hm.ext ((Ext.refl No w).alloc o) (fun h => h)) hl
    simp only [Leaf.val] at lk
    rw [hpp]
    clear hl hpp hpg
    go_enter Tryz.func54, Tryz.ntmps54
    go_wp2
    refine bodyPost_ret (v := .tuple #[p.val, .int .i64 0]) (by simp [results, Tryz.results54, go_sem, Leaf.val]) rfl ⟨rfl, ?_⟩
    exact (((Ext.refl No w).alloc _).alloc _)
  | none =>
    have hlt : id < s.bh := hin.resolve_left ((lookup_none_iff ov id).1 hl)
    have hpp : v.pg id = s.base id := by rw [hpg, hl]; rfl
    have lk : ∀ o, (Instr.lookup 109 (.map (some s.m)) (.int .i64 (id : Int)) true).run Tryz.prog (w.alloc o) = .ok (.tuple #[.agg #[.int .i64 0, .string (str [])], .bool false]) (w.alloc o) := fun o => run_look_miss (hm.ext ((Ext.refl No w).alloc o) (fun h => h)) hl
    rw [hpp]
    generalize hp : s.base id = p
    have HO := Lib.hid (hs.opn · id h1 hlt)
    simp only [hp] at HO
    clear hl hpp hpg hin hp
    have lx := World.block_lt_of_cell? w _ (hs.x0 w h.db)
    go_enter Tryz.func54, Tryz.ntmps54
    go_wp2_with fail
    refine (hs.img _ id (sysKeepNo hs (((Ext.refl No w).alloc _).alloc _) h.db) h1 hlt).mono ?_
    rintro e w1 ⟨rfl, hb1⟩
    have lt1 : s.t < w1.heap.size := Nat.lt_of_lt_of_le (by simp; omega) hb1.size
    have l41 : w.heap.size < w1.heap.size := Nat.lt_of_lt_of_le (by simp; omega) hb1.size
    have b4 := (((Blk.new w 113 #[.int .i64 0, .string (str [])]).alloc (.cells #[.int .i64 0, .string (str [])] 113))).ext hb1 (fun h => h)
    have k0 := b4.cell 0
    have k1 := b4.cell 1
    have f0 := b4.frozen 0
    have f1 := b4.frozen 1
    simp at k0 k1
    go_wp2_with fail
    refine (HO.out _).mono ?_
    rintro e w2 ⟨rfl, hb2⟩
    have l42 : w.heap.size < w2.heap.size := Nat.lt_of_lt_of_le l41 hb2.size
    have b5 := b4.ext hb2 (fun h => h)
    have k0 := b5.cell 0
    have k1 := b5.cell 1
    have f0 := b5.frozen 0
    have f1 := b5.frozen 1
    simp at k0 k1
    go_wp2_with fail
    refine bodyPost_ret (v := .tuple #[p.val, .int .i64 0]) (by simp [results, Tryz.results54, go_sem, Leaf.val, k0, k1, l42]) rfl ⟨rfl, ?_⟩
    exact (((((Ext.refl No w).alloc _).alloc _).trans_ hb1).trans_ hb2).setCell (.inr (by simp)) _ |>.setCell (.inr (by simp)) _

end Go.Proofs.YtccnemmlkcmceaaGreatDoor

/- The transaction's calls, continued: there, Read, Write. -/
set_option linter.unusedVariables false
set_option linter.unusedSimpArgs false
namespace Go.Proofs.YtccnemmlkcmceaaGreatDoor
open Go.RowKit 

/-- Why a page can't be read: 0: it can. -/
def V.err (v : V) (id : Nat) : Nat := if id < 1 ∨ v.high ≤ id then 2 else if (v.pg id).kind = 255 then 8 else 0

theorem V.err_ok {v : V} {id : Nat} (h : v.err id = 0) : 1 ≤ id ∧ id < v.high ∧ (v.pg id).kind ≠ 255 := by
  unfold V.err at h
  split at h
  · omega
  · split at h
    · omega
    · exact ⟨by omega, by omega, by assumption⟩

theorem V.err_cases {v : V} {id : Nat} (h : v.err id ≠ 0) : (v.err id = 2 ∧ (id < 1 ∨ v.high ≤ id)) ∨ (v.err id = 8 ∧ 1 ≤ id ∧ id < v.high ∧ (v.pg id).kind = 255) := by
  unfold V.err at h ⊢
  split
  · exact .inl ⟨rfl, by assumption⟩
  · split
    · exact .inr ⟨rfl, by omega, by omega, by assumption⟩
    · rename_i h1 h2; rw [if_neg h1, if_neg h2] at h; exact absurd rfl h

set_option maxHeartbeats 400000 in
theorem get_out (s : Sys) (hs : s.Ok) (w : World) (v : V) (h : TxAt w s v) (id : Nat) (h1 : id < 1 ∨ v.high ≤ id) :
    Calls Tryz.prog 54 #[.pointer (some ⟨s.t, 0, none⟩), .int .i64 (id : Int)] w fun e w' => e = .returned (.tuple #[.agg #[.int .i64 0, .string (str [])], .int .i64 2]) ∧ Ext No w w' := by
  have t5 := h.c5
  have t0 := h.c0
  have lt := h.tx.lt
  by_cases g1 : (id : Int) < 1
  · go_enter Tryz.func54, Tryz.ntmps54
    go_wp2_with fail
    refine bodyPost_ret (v := .tuple #[.agg #[.int .i64 0, .string (str [])], .int .i64 2]) (by simp [results, Tryz.results54, go_sem, str]) rfl ⟨rfl, ?_⟩
    exact (((Ext.refl No w).alloc _))
  · have g2 : ((v.high : Int) ≤ (id : Int)) := by omega
    go_enter Tryz.func54, Tryz.ntmps54
    go_wp2_with fail
    refine bodyPost_ret (v := .tuple #[.agg #[.int .i64 0, .string (str [])], .int .i64 2]) (by simp [results, Tryz.results54, go_sem, str]) rfl ⟨rfl, ?_⟩
    exact (((Ext.refl No w).alloc _))

set_option maxHeartbeats 400000 in
theorem there_ok (s : Sys) (hs : s.Ok) (w : World) (v : V) (h : TxAt w s v) (id : Nat) (he : v.err id = 0) :
    Calls Tryz.prog 57 #[.pointer (some ⟨s.t, 0, none⟩), .int .i64 (id : Int)] w fun e w' => e = .returned (.tuple #[(v.pg id).val, .int .i64 0]) ∧ Ext No w w' := by
  obtain ⟨h1, h2, h3⟩ := V.err_ok he
  clear he
  have HG := Lib.hid (get_any s hs (w.alloc (.cells #[.int .i64 0, .string (str [])] 113)) v (h.no hs ((Ext.refl No w).alloc _)) id h1 h2)
  generalize v.pg id = p at *
  have h3' : ((p.kind : Int) == 255) = false := by simpa using (by omega : ¬ (p.kind : Int) = 255)
  clear h3
  have t0 := h.c0
  have lt := h.tx.lt
  go_enter Tryz.func57, Tryz.ntmps57
  go_wp2_with fail
  refine (txup s hs _ (sysKeepNo hs (((Ext.refl No w).alloc _)) h.db) (by simpa [World.cell?_alloc_lt, lt] using h.c0)).mono ?_
  rintro e w1 ⟨rfl, rfl⟩
  go_wp2_with fail
  refine (HG.out).mono ?_
  rintro e w2 ⟨rfl, hb2⟩
  have b4 := ((Blk.new w 113 #[.int .i64 0, .string (str [])])).ext hb2 (fun h => h)
  have k0 := b4.cell 0
  have k1 := b4.cell 1
  have f0 := b4.frozen 0
  have f1 := b4.frozen 1
  have l4 := b4.lt
  simp at k0 k1
  simp only [Leaf.val]
  go_wp2_with fail
  refine bodyPost_ret (v := .tuple #[p.val, .int .i64 0]) (by simp [results, Tryz.results57, go_sem, Leaf.val, k0, k1, l4]) rfl ⟨rfl, ?_⟩
  (repeat' (first | exact Ext.refl _ _ | assumption | apply Ext.alloc | apply Ext.drewN | apply Ext.drew | refine Ext.setNew ?_ (by first | omega | (simp; omega) | simp) _ _ | refine Ext.setF ?_ (by first | exact Or.inl rfl | exact Or.inr rfl | rfl) _ _ | refine Ext.trans_ ?_ (by assumption) | refine Ext.trans_ ?_ (Ext.of_no (by assumption))))

set_option maxHeartbeats 400000 in
theorem there_bad (s : Sys) (hs : s.Ok) (w : World) (v : V) (h : TxAt w s v) (id : Nat) (he : v.err id ≠ 0) :
    Calls Tryz.prog 57 #[.pointer (some ⟨s.t, 0, none⟩), .int .i64 (id : Int)] w fun e w' => e = .returned (.tuple #[.agg #[.int .i64 0, .string (str [])], .int .i64 (v.err id : Int)]) ∧ Ext No w w' := by
  have t0 := h.c0
  have lt := h.tx.lt
  rcases V.err_cases he with ⟨e2, h1⟩ | ⟨e8, h1, h2, h3⟩
  · rw [e2]
    clear he
    have HG := Lib.hid (get_out s hs (w.alloc (.cells #[.int .i64 0, .string (str [])] 113)) v (h.no hs ((Ext.refl No w).alloc _)) id h1)
    clear e2 h1
    go_enter Tryz.func57, Tryz.ntmps57
    go_wp2_with fail
    refine (txup s hs _ (sysKeepNo hs (((Ext.refl No w).alloc _)) h.db) (by simpa [World.cell?_alloc_lt, lt] using h.c0)).mono ?_
    rintro e w1 ⟨rfl, rfl⟩
    go_wp2_with fail
    refine (HG.out).mono ?_
    rintro e w2 ⟨rfl, hb2⟩
    have b4 := ((Blk.new w 113 #[.int .i64 0, .string (str [])])).ext hb2 (fun h => h)
    have k0 := b4.cell 0
    have k1 := b4.cell 1
    have f0 := b4.frozen 0
    have f1 := b4.frozen 1
    have l4 := b4.lt
    simp at k0 k1
    go_wp2_with fail
    refine bodyPost_ret (v := .tuple #[.agg #[.int .i64 0, .string (str [])], .int .i64 2]) (by simp [results, Tryz.results57, go_sem, Leaf.val, k0, k1, l4]) rfl ⟨rfl, ?_⟩
    (repeat' (first | exact Ext.refl _ _ | assumption | apply Ext.alloc | apply Ext.drewN | apply Ext.drew | refine Ext.setNew ?_ (by first | omega | (simp; omega) | simp) _ _ | refine Ext.setF ?_ (by first | exact Or.inl rfl | exact Or.inr rfl | rfl) _ _ | refine Ext.trans_ ?_ (by assumption) | refine Ext.trans_ ?_ (Ext.of_no (by assumption))))
  · rw [e8]
    clear he
    have HG := Lib.hid (get_any s hs (w.alloc (.cells #[.int .i64 0, .string (str [])] 113)) v (h.no hs ((Ext.refl No w).alloc _)) id h1 h2)
    clear e8
    generalize v.pg id = p at *
    obtain ⟨pk, pb⟩ := p
    simp only at h3
    subst h3
    go_enter Tryz.func57, Tryz.ntmps57
    go_wp2_with fail
    refine (txup s hs _ (sysKeepNo hs (((Ext.refl No w).alloc _)) h.db) (by simpa [World.cell?_alloc_lt, lt] using h.c0)).mono ?_
    rintro e w1 ⟨rfl, rfl⟩
    go_wp2_with fail
    refine (HG.out).mono ?_
    rintro e w2 ⟨rfl, hb2⟩
    have b4 := ((Blk.new w 113 #[.int .i64 0, .string (str [])])).ext hb2 (fun h => h)
    have k0 := b4.cell 0
    have k1 := b4.cell 1
    have f0 := b4.frozen 0
    have f1 := b4.frozen 1
    have l4 := b4.lt
    simp at k0 k1
    simp only [Leaf.val]
    go_wp2_with fail
    refine bodyPost_ret (v := .tuple #[.agg #[.int .i64 0, .string (str [])], .int .i64 8]) (by simp [results, Tryz.results57, go_sem, Leaf.val, k0, k1, l4, str]) rfl ⟨rfl, ?_⟩
    (repeat' (first | exact Ext.refl _ _ | assumption | apply Ext.alloc | apply Ext.drewN | apply Ext.drew | refine Ext.setNew ?_ (by first | omega | (simp; omega) | simp) _ _ | refine Ext.setF ?_ (by first | exact Or.inl rfl | exact Or.inr rfl | rfl) _ _ | refine Ext.trans_ ?_ (by assumption) | refine Ext.trans_ ?_ (Ext.of_no (by assumption))))

set_option maxHeartbeats 400000 in
theorem read_ok (s : Sys) (hs : s.Ok) (w : World) (v : V) (h : TxAt w s v) (id : Nat) (he : v.err id = 0) :
    Calls Tryz.prog 47 #[.pointer (some ⟨s.t, 0, none⟩), .int .i64 (id : Int)] w fun e w' => e = .returned (.tuple #[.int .i64 ((v.pg id).kind : Int), .string (str (v.pg id).body), .int .i64 0]) ∧ Ext No w w' := by
  have HG := Lib.hid (there_ok s hs w v h id he)
  clear he
  generalize v.pg id = p at *
  go_enter Tryz.func47, Tryz.ntmps47
  go_wp2_with fail
  refine (HG.out).mono ?_
  rintro e w2 ⟨rfl, hb2⟩
  simp only [Leaf.val]
  go_wp2_with fail
  go_quiet (fail)
  go_wp2_with fail
  go_ret3
  exact ⟨rfl, (hb2.alloc _).drewN _⟩

set_option maxHeartbeats 400000 in
theorem read_bad (s : Sys) (hs : s.Ok) (w : World) (v : V) (h : TxAt w s v) (id : Nat) (he : v.err id ≠ 0) :
    Calls Tryz.prog 47 #[.pointer (some ⟨s.t, 0, none⟩), .int .i64 (id : Int)] w fun e w' => e = .returned (.tuple #[.int .i64 0, .string (str []), .int .i64 (v.err id : Int)]) ∧ Ext No w w' := by
  have HG := Lib.hid (there_bad s hs w v h id he)
  have hb : ((v.err id : Int) == 0) = false := by simpa using (by omega : ¬ (v.err id : Int) = 0)
  clear he
  generalize v.err id = p at *
  go_enter Tryz.func47, Tryz.ntmps47
  go_wp2_with fail
  refine (HG.out).mono ?_
  rintro e w2 ⟨rfl, hb2⟩
  go_wp2_with fail
  go_ret3
  exact ⟨rfl, (hb2.alloc _)⟩

end Go.Proofs.YtccnemmlkcmceaaGreatDoor

/- Numbers of four bytes. -/
set_option linter.unusedVariables false
set_option linter.unusedSimpArgs false
namespace Go.Proofs.YtccnemmlkcmceaaGreatDoor
open Go.RowKit 

/-- A byte of a text. -/
def bt (s : ByteArray) (i : Nat) : Nat := (s.data.toList.getD i 0).toNat
theorem bt_lt (s : ByteArray) (i : Nat) : bt s i < 256 := (s.data.toList.getD i 0).toNat_lt

theorem idx9 (s : ByteArray) (i : Nat) (h : i < s.size) (w : World) : (Instr.index 9 (.string s) (.int .i64 (i : Int))).run Tryz.prog w = .ok (.int .u8 (bt s i : Int)) w := by
  rw [run_index_string w 9 s .i64 i Tryz.underlying9, dif_pos ⟨by omega, by omega⟩]
  have h' : i < s.data.size := h
  simp [bt, List.getD, ByteArray.getElem_eq_getElem_data, Array.getElem?_eq_getElem h']

/-- A number's four bytes. -/
def n4 (n : Nat) : List UInt8 := [UInt8.ofNat (n % 256), UInt8.ofNat (n / 256 % 256), UInt8.ofNat (n / 65536 % 256), UInt8.ofNat (n / 16777216 % 256)]
/-- A number out of its four bytes. -/
def v4 (s : ByteArray) : Nat := bt s 0 + 256 * bt s 1 + 65536 * bt s 2 + 16777216 * bt s 3

theorem v4_lt (s : ByteArray) : v4 s < 4294967296 := by
  have := bt_lt s 0; have := bt_lt s 1; have := bt_lt s 2; have := bt_lt s 3
  unfold v4; omega

theorem v4_n4 (n : Nat) (hn : n < 4294967296) (l : List UInt8) : v4 (str (n4 n ++ l)) = n := by
  unfold v4 bt n4
  simp
  omega

theorem n4_len (n : Nat) : (n4 n).length = 4 := rfl

theorem ofNat_lt (n : Nat) (h : n < 256) : ((UInt8.ofNat n).toNat : Int) = n := by
  have : (UInt8.ofNat n).toNat = n := by simp; omega
  rw [this]

set_option maxRecDepth 100000 in
set_option maxHeartbeats 400000 in
theorem number_any (n : Nat) (hn : n < 4294967296) (w : World) :
    Calls Tryz.prog 106 #[.int .i64 (n : Int)] w fun e w' => e = .returned (.string (str (n4 n))) ∧ Ext No w w' := by
  have kc : (convert 98 9 (.slice (some ⟨w.heap.size, 0, none⟩) 4 4)).run Tryz.prog (w.alloc (.cells #[.int .u8 ((n : Int) % 256), .int .u8 ((n : Int) / 256 % 256), .int .u8 ((n : Int) / 65536 % 256), .int .u8 ((n : Int) / 16777216)] 5)) =
      .ok (.string (str (n4 n))) (w.alloc (.cells #[.int .u8 ((n : Int) % 256), .int .u8 ((n : Int) / 256 % 256), .int .u8 ((n : Int) / 65536 % 256), .int .u8 ((n : Int) / 16777216)] 5)) := by
    have := run_convert_bytes_back (P := Tryz.prog) (w.alloc (.cells #[.int .u8 ((n : Int) % 256), .int .u8 ((n : Int) / 256 % 256), .int .u8 ((n : Int) / 65536 % 256), .int .u8 ((n : Int) / 16777216)] 5)) 98 9 5 ⟨w.heap.size, 0, none⟩ 4 (n4 n) Tryz.underlying98 Tryz.underlying5 Tryz.underlying9 (by
      intro j hj
      have hj4 : j < 4 := hj
      have e0 := ofNat_lt (n % 256) (by omega)
      have e1 := ofNat_lt (n / 256 % 256) (by omega)
      have e2 := ofNat_lt (n / 65536 % 256) (by omega)
      have e3 := ofNat_lt (n / 16777216 % 256) (by omega)
      match j, hj4 with
      | 0, _ => simp only [n4, List.getElem_cons_zero, e0]; simp [Addr.add]
      | 1, _ => simp only [n4, List.getElem_cons_succ, List.getElem_cons_zero, e1]; simp [Addr.add]
      | 2, _ => simp only [n4, List.getElem_cons_succ, List.getElem_cons_zero, e2]; simp [Addr.add]
      | 3, _ => simp only [n4, List.getElem_cons_succ, List.getElem_cons_zero, e3]; simp [Addr.add]; omega)
    exact this
  go_enter Tryz.func106, Tryz.ntmps106
  go_wp2
  go_ret
  exact ⟨rfl, (Ext.refl No w).alloc _⟩

theorem ofInt_i64 (a : Nat) (ha : a < 9223372036854775808) : (BitVec.ofInt 64 (a : Int)).toNat = a := by
  rw [BitVec.ofInt_natCast, BitVec.toNat_ofNat]; exact Nat.mod_eq_of_lt (by omega)
theorem i64_or_nat (a b : Nat) (ha : a < 9223372036854775808) (hb : b < 9223372036854775808) : bits .or .i64 (a : Int) (b : Int) = ((a ||| b : Nat) : Int) := by
  have hx : a ||| b < 2 ^ 63 := Nat.or_lt_two_pow (by omega) (by omega)
  show IntKind.i64.wrap ((BitVec.ofInt 64 (a : Int) ||| BitVec.ofInt 64 (b : Int)).toNat : Int) = _
  rw [BitVec.toNat_or, ofInt_i64 a ha, ofInt_i64 b hb, IntKind.wrap_i64]
  omega
theorem or_add (a b i : Nat) (h : a < 2 ^ i) : a ||| (b * 2 ^ i) = a + b * 2 ^ i := by
  rw [Nat.or_comm, Nat.add_comm, ← Nat.shiftLeft_eq, Nat.shiftLeft_add_eq_or_of_lt h]
theorem wrap_small (a : Nat) (h : a < 9223372036854775808) : IntKind.i64.wrap (a : Int) = (a : Int) := by
  rw [IntKind.wrap_i64]; omega

theorem wrapEq (x : Int) : IntKind.i64.wrap x = wrap64 x := by rw [IntKind.wrap_i64]; unfold wrap64; rfl

/-- Four bytes put together, as the walk spells it. -/
theorem or4 (b0 b1 b2 b3 : Nat) (h0 : b0 < 256) (h1 : b1 < 256) (h2 : b2 < 256) (h3 : b3 < 256) :
    bits .or .i64 (bits .or .i64 (bits .or .i64 (IntKind.i64.wrap (b0 : Int)) (IntKind.i64.wrap (IntKind.i64.wrap (b1 : Int) * 256))) (IntKind.i64.wrap (IntKind.i64.wrap (b2 : Int) * 65536))) (IntKind.i64.wrap (IntKind.i64.wrap (b3 : Int) * 16777216)) =
      ((b0 + 256 * b1 + 65536 * b2 + 16777216 * b3 : Nat) : Int) := by
  have e1 : ((b1 : Int) * 256) = ((b1 * 2 ^ 8 : Nat) : Int) := by omega
  have e2 : ((b2 : Int) * 65536) = ((b2 * 2 ^ 16 : Nat) : Int) := by omega
  have e3 : ((b3 : Int) * 16777216) = ((b3 * 2 ^ 24 : Nat) : Int) := by omega
  rw [wrap_small b0 (by omega), wrap_small b1 (by omega), wrap_small b2 (by omega), wrap_small b3 (by omega), e1, e2, e3, wrap_small _ (by omega), wrap_small _ (by omega), wrap_small _ (by omega),
    i64_or_nat _ _ (by omega) (by omega), or_add _ _ 8 (by omega), i64_or_nat _ _ (by omega) (by omega), or_add _ _ 16 (by omega), i64_or_nat _ _ (by omega) (by omega), or_add _ _ 24 (by omega)]
  omega

set_option maxHeartbeats 400000 in
theorem value_any (s : ByteArray) (hn : 4 ≤ s.size) (w : World) :
    Calls Tryz.prog 55 #[.string s] w fun e w' => e = .returned (.int .i64 (v4 s : Int)) ∧ ∃ k, w' = w.drewN k := by
  have i0 : ∀ w, (Instr.index 9 (.string s) (.int .i64 0)).run Tryz.prog w = .ok (.int .u8 (bt s 0 : Int)) w := fun w => idx9 s 0 (by omega) w
  have i1 : ∀ w, (Instr.index 9 (.string s) (.int .i64 1)).run Tryz.prog w = .ok (.int .u8 (bt s 1 : Int)) w := fun w => idx9 s 1 (by omega) w
  have i2 : ∀ w, (Instr.index 9 (.string s) (.int .i64 2)).run Tryz.prog w = .ok (.int .u8 (bt s 2 : Int)) w := fun w => idx9 s 2 (by omega) w
  have i3 : ∀ w, (Instr.index 9 (.string s) (.int .i64 3)).run Tryz.prog w = .ok (.int .u8 (bt s 3 : Int)) w := fun w => idx9 s 3 (by omega) w
  have hor := Lib.hid (or4 (bt s 0) (bt s 1) (bt s 2) (bt s 3) (bt_lt s 0) (bt_lt s 1) (bt_lt s 2) (bt_lt s 3))
  go_enter Tryz.func55, Tryz.ntmps55
  go_wp2
  go_quiet (fail)
  go_wp2
  go_ret
  exact ⟨ret_int (by simp only [← wrapEq]; exact hor.out), _, rfl⟩

end Go.Proofs.YtccnemmlkcmceaaGreatDoor

/- The transaction's calls, continued: Write, Root, SetRoot, Spoil, Alloc, Free. -/
set_option linter.unusedVariables false
set_option linter.unusedSimpArgs false
namespace Go.Proofs.YtccnemmlkcmceaaGreatDoor
open Go.RowKit 

/-- A page is another one. -/
def V.put (v : V) (id : Nat) (p : Leaf) : V := { v with pg := fun j => if j = id then p else v.pg j }

/-- The transaction lies in a later world, one page being another one. -/
theorem TxAt.step {w w' : World} {s : Sys} {v : V} (hs : s.Ok) (h : TxAt w s v) {ov : List (Nat × Leaf)} {id : Nat} {p : Leaf} {v' : V}
    (hk : ∀ i q, (i, q) ∈ ov → 1 ≤ i ∧ i < v.high) (hv : ∀ i, 1 ≤ i → i < v.high → (i ∈ ov.map (·.1) ∨ i < s.bh) ∧ v.pg i = (ov.lookup i).getD (s.base i))
    (hm : MapAt w' s.m (setOv ov id p)) (he : Ext s.F w w') (ht : Blk w' s.t 111 (v'.cells s)) (h1 : 1 ≤ id) (h2 : id < v'.high) (h3 : v'.high = v.high ∨ v'.high = v.high + 1 ∧ id = v.high)
    (h4 : v'.high ≤ s.cap) (h5 : v'.cnt ≤ v'.high) (hp : v'.pg = (v.put id p).pg) : TxAt w' s v' := by
  have hh := h.h1
  have hb := h.hb
  refine ⟨ht, hs.keep _ _ he h.db, by omega, h4, by omega, h5, _, hm, ?_, ?_⟩
  · intro i q hq
    rcases setOv_mem hq with e | hq
    · simp only at e; omega
    · have := hk i q hq; omega
  · intro i hi1 hi2
    rw [setOv_lookup, hp]
    simp only [V.put]
    by_cases hi : i = id
    · subst hi
      refine ⟨.inl ?_, by simp⟩
      rw [setOv_keys]
      split
      · assumption
      · simp
    · obtain ⟨k1, k2⟩ := hv i hi1 (by omega)
      refine ⟨k1.imp (fun hm => ?_) (fun h => h), by simp [hi, k2]⟩
      rw [setOv_keys]
      split
      · exact hm
      · exact List.mem_append.2 (.inl hm)

theorem V.cells_put (v : V) (s : Sys) (id : Nat) (p : Leaf) : (v.put id p).cells s = v.cells s := rfl

theorem Ext.of_m {s : Sys} {w w' : World} (h : Ext (fun b => b = s.m) w w') : Ext s.F w w' := h.mono fun _ _ e => .inr e

set_option maxRecDepth 100000 in
set_option maxHeartbeats 800000 in
theorem write_ok (s : Sys) (hs : s.Ok) (w : World) (v : V) (h : TxAt w s v) (id kind : Nat) (body : List UInt8) (he : v.err id = 0) (hk1 : 1 ≤ kind) (hk2 : kind < 255) (hb : body.length ≤ 500) :
    Calls Tryz.prog 20 #[.pointer (some ⟨s.t, 0, none⟩), .int .i64 (id : Int), .int .i64 (kind : Int), .string (str body)] w fun e w' => e = .returned (.int .i64 0) ∧ TxAt w' s (v.put id ⟨kind, body⟩) ∧ Ext s.F w w' := by
  have HG := Lib.hid (there_ok s hs w v h id he)
  obtain ⟨h1, h2, _⟩ := V.err_ok he
  clear he
  have g1 : ¬ ((kind : Int) < 1) := by omega
  have g2 : ¬ ((255 : Int) ≤ kind) := by omega
  have g3 : ¬ (500 < body.length) := by omega
  have g4 : (str body).size = body.length := str_size body
  go_enter Tryz.func20, Tryz.ntmps20
  go_wp2_with fail
  refine (HG.out).mono ?_
  rintro e w2 ⟨rfl, hb2⟩
  have h' := h.no hs hb2
  obtain ⟨ov, hm, hk, hv⟩ := h'.mp
  have hmt : s.t ≠ s.m := hm.ne h'.tx
  have ms : ∀ o, (Instr.mapUpdate 109 (.map (some s.m)) (.int .i64 (id : Int)) (.agg #[.int .i64 (kind : Int), .string (str body)])).run Tryz.prog (w2.alloc o) = .ok () (mset (w2.alloc o) s.m id ⟨kind, body⟩) := fun o => (mset_run (hm.ext ((Ext.refl No w2).alloc o) (fun h => h)) id ⟨kind, body⟩).1
  have ms2 := fun o => (mset_run (hm.ext ((Ext.refl No w2).alloc o) (fun h => h)) id ⟨kind, body⟩).2
  have t8 := h'.c8
  have lt := h'.tx.lt
  have HK := Lib.hid hk; have HV := Lib.hid hv; have HM := Lib.hid ms2
  clear hk hv ms2
  simp only [Leaf.val]
  go_wp2_with fail
  go_ret
  have hE : Ext s.F w2 (mset (w2.alloc (.cells #[.int .i64 ((v.pg id).kind : Int), .string (str (v.pg id).body)] 113)) s.m id ⟨kind, body⟩) := ((Ext.refl _ _).alloc _).trans_ (mset_ext _ _ _ _).of_m
  refine ⟨rfl, ?_, hb2.of_no.trans_ hE⟩
  refine TxAt.step hs h' HK.out HV.out (HM.out _) hE ?_ h1 h2 (.inl rfl) h'.h2 h'.hc rfl
  rw [V.cells_put]
  exact (mset_heap _ _ _ _ _ hmt).trans (h'.tx.alloc _)

set_option maxRecDepth 100000 in
set_option maxHeartbeats 800000 in
theorem write_bad (s : Sys) (hs : s.Ok) (w : World) (v : V) (h : TxAt w s v) (id kind : Nat) (body : ByteArray) (he : v.err id ≠ 0) :
    Calls Tryz.prog 20 #[.pointer (some ⟨s.t, 0, none⟩), .int .i64 (id : Int), .int .i64 (kind : Int), .string body] w fun e w' => e = .returned (.int .i64 (v.err id : Int)) ∧ Ext No w w' := by
  have HG := Lib.hid (there_bad s hs w v h id he)
  have hb : ((v.err id : Int) == 0) = false := by simpa using (by omega : ¬ (v.err id : Int) = 0)
  clear he
  generalize v.err id = p at *
  go_enter Tryz.func20, Tryz.ntmps20
  go_wp2_with fail
  refine (HG.out).mono ?_
  rintro e w2 ⟨rfl, hb2⟩
  go_wp2_with fail
  go_ret
  exact ⟨rfl, by (repeat' (first | exact Ext.refl _ _ | assumption | apply Ext.alloc | apply Ext.drewN | apply Ext.drew | refine Ext.setNew ?_ (by first | omega | (simp; omega) | simp) _ _ | refine Ext.setF ?_ (by first | exact Or.inl rfl | exact Or.inr rfl | rfl) _ _ | refine Ext.trans_ ?_ (by assumption) | refine Ext.trans_ ?_ (Ext.of_no (by assumption))))⟩

set_option maxHeartbeats 400000 in
theorem root_any (s : Sys) (hs : s.Ok) (w : World) (v : V) (h : TxAt w s v) (i : Nat) (hi : i < 4) :
    Calls Tryz.prog 46 #[.pointer (some ⟨s.t, 0, none⟩), .int .i64 (i : Int)] w fun e w' => e = .returned (.int .i64 (v.r i : Int)) ∧ w = w' := by
  have t0 := h.c0
  have t1 := h.c1
  have t2 := h.c2
  have t3 := h.c3
  have t4 := h.c4
  have HU := Lib.hid (txup s hs w h.db t0)
  match i, hi with
  | 0, _ | 1, _ | 2, _ | 3, _ =>
    go_enter Tryz.func46, Tryz.ntmps46
    go_wp2_with fail
    refine (HU.out).mono ?_
    rintro e w2 ⟨rfl, rfl⟩
    go_wp2_with fail
    go_ret
    exact ⟨rfl, rfl⟩

/-- The transaction's cells are others, its pages the same. -/
theorem TxAt.re {w w' : World} {s : Sys} {v : V} (hs : s.Ok) (h : TxAt w s v) (v' : V) (he : Ext s.F w w') (ht : Blk w' s.t 111 (v'.cells s)) (hm : w'.heap[s.m]? = w.heap[s.m]?)
    (hp : v'.pg = v.pg) (hh : v'.high = v.high) (hc : v'.cnt ≤ v'.high) : TxAt w' s v' := by
  obtain ⟨ov, ⟨hn, es, c, ho, hes⟩, hk, hv⟩ := h.mp
  exact ⟨ht, hs.keep _ _ he h.db, hh ▸ h.h1, hh ▸ h.h2, hh ▸ h.hb, hc, ov, ⟨hn, es, c, hm.trans ho, hes⟩, hh ▸ hk, by rw [hh, hp]; exact hv⟩

theorem TxAt.tm {w : World} {s : Sys} {v : V} (h : TxAt w s v) : s.t ≠ s.m := by
  obtain ⟨ov, hm, _⟩ := h.mp
  exact hm.ne h.tx

theorem heap_set2 (w : World) (t m i j : Nat) (u u' : Value) (h : t ≠ m) : (((w.setCell ⟨t, i, none⟩ u).setCell ⟨t, j, none⟩ u').heap[m]?) = w.heap[m]? :=
  (Below.heap_setCell _ ⟨t, j, none⟩ u' m (Ne.symm h)).trans (Below.heap_setCell _ ⟨t, i, none⟩ u m (Ne.symm h))

/-- A root is another one. -/
def V.setR (v : V) (i n : Nat) : V := { v with r := fun j => if j = i then n else v.r j, marked := true }

set_option maxRecDepth 100000 in
set_option maxHeartbeats 800000 in
theorem setroot_any (s : Sys) (hs : s.Ok) (w : World) (v : V) (h : TxAt w s v) (i n : Nat) (hi : i < 4) (hn : n < 2147483648) :
    Calls Tryz.prog 21 #[.pointer (some ⟨s.t, 0, none⟩), .int .i64 (i : Int), .int .i64 (n : Int)] w fun e w' => e = .returned (.int .i64 0) ∧ TxAt w' s (v.setR i n) ∧ Ext s.F w w' := by
  have t0 := h.c0
  have t1 := h.c1
  have t2 := h.c2
  have t3 := h.c3
  have t4 := h.c4
  have t9 := h.c9
  have f0 := h.fz
  have HU := Lib.hid (txup s hs w h.db t0)
  have g2 : decide ((n : Int) ≥ 2147483648) = false := by simp; omega
  have g3 : decide ((n : Int) < 0) = false := by simp
  clear hn
  match i, hi with
  | 0, _ | 1, _ | 2, _ | 3, _ =>
    go_enter Tryz.func21, Tryz.ntmps21
    go_wp2_with fail
    refine (HU.out).mono ?_
    rintro e w2 ⟨rfl, rfl⟩
    go_wp2_with fail
    go_ret
    refine ⟨rfl, ?_, by (repeat' (first | exact Ext.refl _ _ | assumption | apply Ext.alloc | apply Ext.drewN | apply Ext.drew | refine Ext.setNew ?_ (by first | omega | (simp; omega) | simp) _ _ | refine Ext.setF ?_ (by first | exact Or.inl rfl | exact Or.inr rfl | rfl) _ _ | refine Ext.trans_ ?_ (by assumption) | refine Ext.trans_ ?_ (Ext.of_no (by assumption))))⟩
    exact h.re hs _ (by (repeat' (first | exact Ext.refl _ _ | assumption | apply Ext.alloc | apply Ext.drewN | apply Ext.drew | refine Ext.setNew ?_ (by first | omega | (simp; omega) | simp) _ _ | refine Ext.setF ?_ (by first | exact Or.inl rfl | exact Or.inr rfl | rfl) _ _ | refine Ext.trans_ ?_ (by assumption) | refine Ext.trans_ ?_ (Ext.of_no (by assumption))))) ((h.tx.set_ _ _).set_ _ _) (heap_set2 _ _ _ _ _ _ _ h.tm) rfl rfl h.hc

set_option maxHeartbeats 400000 in
theorem spoil_any (s : Sys) (hs : s.Ok) (w : World) (v : V) (h : TxAt w s v) :
    Calls Tryz.prog 96 #[.pointer (some ⟨s.t, 0, none⟩)] w fun e w' => e = .returned (.tuple #[]) ∧ TxAt w' s { v with spoilt := true } ∧ Ext s.F w w' := by
  have t10 := h.c10
  have f0 := h.fz
  go_enter Tryz.func96, Tryz.ntmps96
  go_wp2_with fail
  go_end0
  refine ⟨rfl, ?_, by (repeat' (first | exact Ext.refl _ _ | assumption | apply Ext.alloc | apply Ext.drewN | apply Ext.drew | refine Ext.setNew ?_ (by first | omega | (simp; omega) | simp) _ _ | refine Ext.setF ?_ (by first | exact Or.inl rfl | exact Or.inr rfl | rfl) _ _ | refine Ext.trans_ ?_ (by assumption) | refine Ext.trans_ ?_ (Ext.of_no (by assumption))))⟩
  exact h.re hs _ (by (repeat' (first | exact Ext.refl _ _ | assumption | apply Ext.alloc | apply Ext.drewN | apply Ext.drew | refine Ext.setNew ?_ (by first | omega | (simp; omega) | simp) _ _ | refine Ext.setF ?_ (by first | exact Or.inl rfl | exact Or.inr rfl | rfl) _ _ | refine Ext.trans_ ?_ (by assumption) | refine Ext.trans_ ?_ (Ext.of_no (by assumption))))) (h.tx.set_ _ _) (Below.heap_setCell _ ⟨_, _, none⟩ _ _ (Ne.symm h.tm)) rfl rfl h.hc

end Go.Proofs.YtccnemmlkcmceaaGreatDoor

/- The transaction's calls, continued: Alloc. -/
set_option linter.unusedVariables false
set_option linter.unusedSimpArgs false
namespace Go.Proofs.YtccnemmlkcmceaaGreatDoor
open Go.RowKit 

def V.allocNew (v : V) : V := V.put { v with high := v.high + 1, marked := true } v.high ⟨1, []⟩
def V.allocFree (v : V) : V := V.put { v with free := v4 (str (v.pg v.free).body), cnt := v.cnt - 1, marked := true } v.free ⟨1, []⟩

set_option maxRecDepth 100000 in
set_option maxHeartbeats 800000 in
theorem alloc_full (s : Sys) (hs : s.Ok) (w : World) (v : V) (h : TxAt w s v) (h1 : v.free = 0) (h2 : v.high = s.cap) :
    Calls Tryz.prog 19 #[.pointer (some ⟨s.t, 0, none⟩)] w fun e w' => e = .returned (.tuple #[.int .i64 0, .int .i64 7]) ∧ Ext No w w' := by
  have t0 := h.c0
  have t5 := h.c5
  have t6 := h.c6
  rw [h1] at t6
  rw [h2] at t5
  have x0 := hs.x0 w h.db
  have HU := Lib.hid (txup s hs w h.db t0)
  have hdb := Lib.hid h.db
  clear h1 h2 h
  go_enter Tryz.func19, Tryz.ntmps19
  go_wp2_with fail
  refine (HU.out).mono ?_
  rintro e w2 ⟨rfl, rfl⟩
  go_wp2_with fail
  go_quiet ((go_at_call 56; exact Calls.quiet_of (xcount s hs _ (by exact sysKeepNo hs ((Ext.refl No w).drewN _) hdb.out))))
  go_wp2_with fail
  go_ret2
  exact ⟨rfl, by (repeat' (first | exact Ext.refl _ _ | assumption | apply Ext.alloc | apply Ext.drewN | apply Ext.drew | refine Ext.setNew ?_ (by first | omega | (simp; omega) | simp) _ _ | refine Ext.setF ?_ (by first | exact Or.inl rfl | exact Or.inr rfl | rfl) _ _ | refine Ext.trans_ ?_ (by assumption) | refine Ext.trans_ ?_ (Ext.of_no (by assumption))))⟩

set_option maxRecDepth 100000 in
set_option maxHeartbeats 800000 in
theorem alloc_new (s : Sys) (hs : s.Ok) (w : World) (v : V) (h : TxAt w s v) (h1 : v.free = 0) (h2 : v.high < s.cap) :
    Calls Tryz.prog 19 #[.pointer (some ⟨s.t, 0, none⟩)] w fun e w' => e = .returned (.tuple #[.int .i64 (v.high : Int), .int .i64 0]) ∧ TxAt w' s v.allocNew ∧ Ext s.F w w' := by
  have t0 := h.c0
  have t5 := h.c5
  have t6 := h.c6
  have t8 := h.c8
  have t9 := h.c9
  have f0 := h.fz
  have x0 := hs.x0 w h.db
  have HU := Lib.hid (txup s hs w h.db t0)
  have hdb := Lib.hid h.db
  have hcap : s.cap ≤ 65536 := by unfold Sys.cap; have := hs.n2; omega
  have hne : ((v.high : Int) == (s.cap : Int)) = false := by simpa using (by omega : ¬ (v.high : Int) = (s.cap : Int))
  obtain ⟨ov, hm, hk, hv⟩ := h.mp
  have hmt : s.t ≠ s.m := hm.ne h.tx
  have hmx : ∀ W, W.heap[s.m]? = w.heap[s.m]? → MapAt W s.m ov := fun W e => by
    obtain ⟨hn, es, c, ho, hes⟩ := hm
    exact ⟨hn, es, c, e.trans ho, hes⟩
  have hmm : ∀ nq u u', MapAt (((w.drewN nq).setCell ⟨s.t, 5, none⟩ u).setCell ⟨s.t, 9, none⟩ u') s.m ov := fun nq u u' => hmx _ (heap_set2 (w.drewN nq) _ _ _ _ _ _ hmt)
  have ms : ∀ nq u u', (Instr.mapUpdate 109 (.map (some s.m)) (.int .i64 (v.high : Int)) (.agg #[.int .i64 1, .string { data := #[] }])).run Tryz.prog (((w.drewN nq).setCell ⟨s.t, 5, none⟩ u).setCell ⟨s.t, 9, none⟩ u') =
    .ok () (mset (((w.drewN nq).setCell ⟨s.t, 5, none⟩ u).setCell ⟨s.t, 9, none⟩ u') s.m v.high ⟨1, []⟩) := fun nq u u' => (mset_run (hmm nq u u') v.high ⟨1, []⟩).1
  have ms2 := fun nq u u' => (mset_run (hmm nq u u') v.high ⟨1, []⟩).2
  have HK := Lib.hid hk; have HV := Lib.hid hv; have HM := Lib.hid ms2; have H1 := Lib.hid h1
  rw [h1] at t6
  clear hk hv ms2 hmm hmx h1
  go_enter Tryz.func19, Tryz.ntmps19
  go_wp2_with fail
  refine (HU.out).mono ?_
  rintro e w2 ⟨rfl, rfl⟩
  go_wp2_with fail
  go_quiet ((go_at_call 56; exact Calls.quiet_of (xcount s hs _ (by exact sysKeepNo hs ((Ext.refl No w).drewN _) hdb.out))))
  go_wp2_with fail
  go_ret2
  have hE : Ext s.F w (mset (((w.drewN nq).setCell ⟨s.t, 5, none⟩ (.int .i64 ((v.high : Int) + 1))).setCell ⟨s.t, 9, none⟩ (.bool true)) s.m v.high ⟨1, []⟩) :=
    ((((Ext.refl _ w).drewN nq).setF (.inl rfl) _ _).setF (.inl rfl) _ _).trans_ (mset_ext _ _ _ _).of_m
  refine ⟨rfl, ?_, hE⟩
  have hc := h.hc
  refine TxAt.step hs h HK.out HV.out (HM.out _ _ _) hE ?_ h.h1 (Nat.lt_succ_self _) (.inr ⟨rfl, rfl⟩) h2 (Nat.le_succ_of_le hc) rfl
  exact (mset_heap _ _ _ _ _ hmt).trans (((h.tx.drewN nq).set_ _ _).set_ _ _)

theorem heap_set3 (w : World) (t m i j k : Nat) (u u' u'' : Value) (h : t ≠ m) : ((((w.setCell ⟨t, i, none⟩ u).setCell ⟨t, j, none⟩ u').setCell ⟨t, k, none⟩ u'').heap[m]?) = w.heap[m]? :=
  (Below.heap_setCell _ ⟨t, k, none⟩ u'' m (Ne.symm h)).trans (heap_set2 w t m i j u u' h)

set_option maxRecDepth 100000 in
set_option maxHeartbeats 800000 in
theorem alloc_free (s : Sys) (hs : s.Ok) (w : World) (v : V) (h : TxAt w s v) (h1 : 0 < v.free) (h2 : v.free < v.high) (h3 : 4 ≤ (v.pg v.free).body.length) (h4 : 1 ≤ v.cnt) :
    Calls Tryz.prog 19 #[.pointer (some ⟨s.t, 0, none⟩)] w fun e w' => e = .returned (.tuple #[.int .i64 (v.free : Int), .int .i64 0]) ∧ TxAt w' s v.allocFree ∧ Ext s.F w w' := by
  have t0 := h.c0
  have t6 := h.c6
  have HU := Lib.hid (txup s hs w h.db t0)
  have HG := Lib.hid (get_any s hs w v h v.free h1 h2)
  have h3' : 4 ≤ (str (v.pg v.free).body).size := by rw [str_size]; exact h3
  have h1' : (0 : Int) < v.free := by omega
  go_enter Tryz.func19, Tryz.ntmps19
  go_wp2_with fail
  refine (HU.out).mono ?_
  rintro e w2 ⟨rfl, rfl⟩
  go_wp2_with fail
  refine (HG.out).mono ?_
  rintro e w1 ⟨rfl, hb1⟩
  have h' := h.no hs hb1
  have t0 := h'.c0
  have t5 := h'.c5
  have t6 := h'.c6
  have t7 := h'.c7
  have t8 := h'.c8
  have t9 := h'.c9
  have f0 := h'.fz
  have lt := h'.tx.lt
  have hne : w1.heap.size ≠ s.t := by omega
  obtain ⟨ov, hm, hk, hv⟩ := h'.mp
  have hmt : s.t ≠ s.m := hm.ne h'.tx
  have hmlt : s.m < w1.heap.size := by
    obtain ⟨_, es, c, ho, _⟩ := hm
    rcases Nat.lt_or_ge s.m w1.heap.size with hlt | hge
    · exact hlt
    · rw [Array.getElem?_eq_none hge] at ho; cases ho
  have hmx : ∀ W, W.heap[s.m]? = w1.heap[s.m]? → MapAt W s.m ov := fun W e => by
    obtain ⟨hn, es, c, ho, hes⟩ := hm
    exact ⟨hn, es, c, e.trans ho, hes⟩
  generalize hp : v.pg v.free = p at h3' h3
  have hmm : ∀ o k u u' u'', MapAt (((((w1.alloc o).drewN k).setCell ⟨s.t, 6, none⟩ u).setCell ⟨s.t, 7, none⟩ u').setCell ⟨s.t, 9, none⟩ u'') s.m ov := fun o k u u' u'' =>
    hmx _ ((heap_set3 ((w1.alloc o).drewN k) _ _ _ _ _ _ _ _ hmt).trans (Below.heap_alloc w1 o s.m hmlt))
  have ms : ∀ o k u u' u'', (Instr.mapUpdate 109 (.map (some s.m)) (.int .i64 (v.free : Int)) (.agg #[.int .i64 1, .string { data := #[] }])).run Tryz.prog (((((w1.alloc o).drewN k).setCell ⟨s.t, 6, none⟩ u).setCell ⟨s.t, 7, none⟩ u').setCell ⟨s.t, 9, none⟩ u'') =
    .ok () (mset (((((w1.alloc o).drewN k).setCell ⟨s.t, 6, none⟩ u).setCell ⟨s.t, 7, none⟩ u').setCell ⟨s.t, 9, none⟩ u'') s.m v.free ⟨1, []⟩) := fun o k u u' u'' => (mset_run (hmm o k u u' u'') v.free ⟨1, []⟩).1
  have ms2 := fun o k u u' u'' => (mset_run (hmm o k u u' u'') v.free ⟨1, []⟩).2
  have HK := Lib.hid hk; have HV := Lib.hid hv; have HM := Lib.hid ms2; have HP := Lib.hid hp
  clear hk hv ms2 hmm hmx hp
  simp only [Leaf.val]
  go_wp2_with fail
  refine (value_any (str p.body) h3' _).mono ?_
  rintro e w3 ⟨rfl, k, rfl⟩
  have g1 : (0:Int) ≤ v.cnt := by omega
  have hcb := h.hc
  have hhb := h.h2
  have hcap : s.cap ≤ 65536 := by unfold Sys.cap; have := hs.n2; omega
  go_wp2_with fail
  go_ret2
  have hE : Ext s.F w1 (mset (((((w1.alloc (.cells #[.int .i64 (p.kind : Int), .string (str p.body)] 113)).drewN k).setCell ⟨s.t, 6, none⟩ (.int .i64 (v4 (str p.body) : Int))).setCell ⟨s.t, 7, none⟩ (.int .i64 ((v.cnt : Int) - 1))).setCell ⟨s.t, 9, none⟩ (.bool true)) s.m v.free ⟨1, []⟩) :=
    ((((((Ext.refl _ w1).alloc _).drewN k).setF (.inl rfl) _ _).setF (.inl rfl) _ _).setF (.inl rfl) _ _).trans_ (mset_ext _ _ _ _).of_m
  refine ⟨rfl, ?_, hb1.of_no.trans_ hE⟩
  refine TxAt.step hs h' HK.out HV.out (HM.out _ _ _ _ _) hE ?_ h1 h2 (.inl rfl) h.h2 (by show v.cnt - 1 ≤ v.high; omega) rfl
  refine (mset_heap _ _ _ _ _ hmt).trans ?_
  have e1 : (v.allocFree.cells s) = ((((v.cells s).setIfInBounds 6 (.int .i64 (v4 (str p.body) : Int))).setIfInBounds 7 (.int .i64 ((v.cnt : Int) - 1))).setIfInBounds 9 (.bool true)) := by
    have e2 : ((v.cnt - 1 : Nat) : Int) = (v.cnt : Int) - 1 := by omega
    simp only [V.allocFree, V.cells, V.put, HP.out, e2]
    rfl
  rw [e1]
  exact (((((h'.tx.alloc _).drewN k).set_ _ _).set_ _ _).set_ _ _)

end Go.Proofs.YtccnemmlkcmceaaGreatDoor
