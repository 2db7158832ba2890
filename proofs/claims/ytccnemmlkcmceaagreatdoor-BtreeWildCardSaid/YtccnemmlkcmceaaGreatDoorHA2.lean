/- Proofs about the given program, joined out of the texts T6, B0, W1, S0, BA, S1, U. -/
import Derived.Test.YtccnemmlkcmceaaGreatDoorHA1
import Derived.Deep.RegionHeld3
/- The transaction's calls, continued: Free. -/
set_option linter.unusedVariables false
set_option linter.unusedSimpArgs false
namespace Go.Proofs.YtccnemmlkcmceaaGreatDoor
open Go.RowKit 

def V.letFree (v : V) (id : Nat) : V := V.put { v with free := id, cnt := v.cnt + 1, marked := true } id ⟨255, n4 v.free⟩

set_option maxRecDepth 100000 in
set_option maxHeartbeats 800000 in
theorem free_ok (s : Sys) (hs : s.Ok) (w : World) (v : V) (h : TxAt w s v) (id : Nat) (he : v.err id = 0) (hfr : v.free < 4294967296) (hcn : v.cnt < v.high) :
    Calls Tryz.prog 142 #[.pointer (some ⟨s.t, 0, none⟩), .int .i64 (id : Int)] w fun e w' => e = .returned (.int .i64 0) ∧ TxAt w' s (v.letFree id) ∧ Ext s.F w w' := by
  have HG := Lib.hid (there_ok s hs w v h id he)
  obtain ⟨h1, h2, _⟩ := V.err_ok he
  clear he
  go_enter Tryz.func142, Tryz.ntmps142
  go_wp2_with fail
  refine (HG.out).mono ?_
  rintro e w1 ⟨rfl, hb1⟩
  have h' := h.no hs hb1
  have t6 := h'.c6
  have t7 := h'.c7
  have t8 := h'.c8
  have t9 := h'.c9
  have f0 := h'.fz
  have lt := h'.tx.lt
  obtain ⟨ov, hm, hk, hv⟩ := h'.mp
  have hmt : s.t ≠ s.m := hm.ne h'.tx
  have HK := Lib.hid hk; have HV := Lib.hid hv; have HM := Lib.hid hm
  clear hk hv hm
  have hmc : ∀ W i, (mset W s.m id ⟨255, n4 v.free⟩).cell? ⟨s.t, i, none⟩ = W.cell? ⟨s.t, i, none⟩ := fun W i => mset_cell W s.m id _ s.t i hmt
  have hmf : ∀ W i, (mset W s.m id ⟨255, n4 v.free⟩).frozen? ⟨s.t, i, none⟩ = W.frozen? ⟨s.t, i, none⟩ := fun W i => mset_frozen W s.m id _ s.t i hmt
  simp only [Leaf.val]
  go_wp2_with fail
  go_region_held3 (fun w' => w'.cell? ⟨s.t, 8, none⟩ = some (.map (some s.m)) ∧ w'.cell? ⟨s.t, 6, none⟩ = some (.int .i64 (v.free : Int))) (go_keep)
    ((go_at_call 106; refine (number_any v.free hfr _).mono ?_; rintro e w3 ⟨rfl, hb3⟩; have hx3 : Ext No w1 w3 := ((Ext.refl No w1).alloc _).drew.trans_ hb3; have h3 := h'.no hs hx3; have k8 := h3.c8; have k6 := h3.c6; have k7 := h3.c7; have k9 := h3.c9; have f3 := h3.fz; have ms : (Instr.mapUpdate 109 (.map (some s.m)) (.int .i64 (id : Int)) (.agg #[.int .i64 255, .string (str (n4 v.free))])).run Tryz.prog w3 = .ok () (mset w3 s.m id ⟨255, n4 v.free⟩) := (mset_run (HM.out.ext hx3 (fun h => h)) id ⟨255, n4 v.free⟩).1))
  have hcb := h.hc
  have hhb := h.h2
  have hcap : s.cap ≤ 65536 := by unfold Sys.cap; have := hs.n2; omega
  go_wp2_with fail
  go_ret
  have hM3 := (mset_run (HM.out.ext hx3 (fun h => h)) id ⟨255, n4 v.free⟩).2
  have hE : Ext s.F w1 ((((mset w3 s.m id ⟨255, n4 v.free⟩).setCell ⟨s.t, 6, none⟩ (.int .i64 (id : Int))).setCell ⟨s.t, 7, none⟩ (.int .i64 ((v.cnt : Int) + 1))).setCell ⟨s.t, 9, none⟩ (.bool true)) :=
    (((hx3.of_no.trans_ (mset_ext _ _ _ _).of_m).setF (.inl rfl) _ _).setF (.inl rfl) _ _).setF (.inl rfl) _ _
  refine ⟨rfl, ?_, hb1.of_no.trans_ hE⟩
  have hM : MapAt ((((mset w3 s.m id ⟨255, n4 v.free⟩).setCell ⟨s.t, 6, none⟩ (.int .i64 (id : Int))).setCell ⟨s.t, 7, none⟩ (.int .i64 ((v.cnt : Int) + 1))).setCell ⟨s.t, 9, none⟩ (.bool true)) s.m (setOv ov id ⟨255, n4 v.free⟩) := by
    obtain ⟨hn, es, c, ho, hes⟩ := hM3
    exact ⟨hn, es, c, (heap_set3 _ _ _ _ _ _ _ _ _ hmt).trans ho, hes⟩
  refine TxAt.step hs h' HK.out HV.out hM hE ?_ h1 h2 (.inl rfl) h.h2 (by show v.cnt + 1 ≤ v.high; omega) rfl
  have b3 : Blk (mset w3 s.m id ⟨255, n4 v.free⟩) s.t 111 (v.cells s) := (mset_heap _ _ _ _ _ hmt).trans h3.tx
  have e1 : ((v.letFree id).cells s) = ((((v.cells s).setIfInBounds 6 (.int .i64 (id : Int))).setIfInBounds 7 (.int .i64 ((v.cnt : Int) + 1))).setIfInBounds 9 (.bool true)) := by
    have e2 : ((v.cnt + 1 : Nat) : Int) = (v.cnt : Int) + 1 := by omega
    simp only [V.letFree, V.cells, V.put, e2]
    rfl
  rw [e1]
  exact (((b3.set_ _ _).set_ _ _).set_ _ _)

set_option maxHeartbeats 400000 in
theorem free_bad (s : Sys) (hs : s.Ok) (w : World) (v : V) (h : TxAt w s v) (id : Nat) (he : v.err id ≠ 0) :
    Calls Tryz.prog 142 #[.pointer (some ⟨s.t, 0, none⟩), .int .i64 (id : Int)] w fun e w' => e = .returned (.int .i64 (v.err id : Int)) ∧ Ext No w w' := by
  have HG := Lib.hid (there_bad s hs w v h id he)
  have hb : ((v.err id : Int) == 0) = false := by simpa using (by omega : ¬ (v.err id : Int) = 0)
  clear he
  generalize v.err id = p at *
  go_enter Tryz.func142, Tryz.ntmps142
  go_wp2_with fail
  refine (HG.out).mono ?_
  rintro e w2 ⟨rfl, hb2⟩
  go_wp2_with fail
  go_ret
  exact ⟨rfl, by (repeat' (first | exact Ext.refl _ _ | assumption | apply Ext.alloc | apply Ext.drewN | apply Ext.drew | refine Ext.setNew ?_ (by first | omega | (simp; omega) | simp) _ _ | refine Ext.setF ?_ (by first | exact Or.inl rfl | exact Or.inr rfl | rfl) _ _ | refine Ext.trans_ ?_ (by assumption) | refine Ext.trans_ ?_ (Ext.of_no (by assumption))))⟩

end Go.Proofs.YtccnemmlkcmceaaGreatDoor

/- The transaction's free pages: a list of them; its calls, each as one plain function. -/
set_option linter.unusedVariables false
set_option linter.unusedSimpArgs false
namespace Go.Proofs.YtccnemmlkcmceaaGreatDoor
open Go.RowKit 

/-- The free pages, as a list. -/
structure V.Fr (v : V) (l : List Nat) : Prop where
  nd : l.Nodup
  cnt : v.cnt = l.length
  hd : v.free = l.headD 0
  mem : ∀ a, (1 ≤ a ∧ a < v.high ∧ (v.pg a).kind = 255) ↔ a ∈ l
  body : ∀ k a, l[k]? = some a → (v.pg a).body = n4 (l.getD (k + 1) 0)
  top : v.high ≤ 65536
  h1 : 1 ≤ v.high
  bd : ∀ a, 1 ≤ a → a < v.high → (v.pg a).body.length ≤ 500

def V.Good (v : V) : Prop := ∃ l, v.Fr l

theorem nodup_len : ∀ (n : Nat) (l : List Nat), l.Nodup → (∀ a ∈ l, 1 ≤ a ∧ a < n) → 1 ≤ n → l.length < n
  | 0, _, _, _, h => absurd h (by omega)
  | 1, [], _, _, _ => by simp
  | 1, a :: l, _, h, _ => by have := h a (by simp); omega
  | n + 2, l, hd, h, _ => by
    by_cases hm : n + 1 ∈ l
    · have he := nodup_len (n + 1) (l.erase (n + 1)) (hd.erase _) (fun a ha => by
        have h1 := h a (List.mem_of_mem_erase ha)
        have h2 : a ≠ n + 1 := (hd.mem_erase_iff.1 ha).1
        omega) (by omega)
      rw [List.length_erase_of_mem hm] at he
      omega
    · have := nodup_len (n + 1) l hd (fun a ha => by
        have h1 := h a ha
        have h2 : a ≠ n + 1 := fun e => hm (e ▸ ha)
        omega) (by omega)
      omega

theorem V.Fr.lt {v : V} {l : List Nat} (h : v.Fr l) : l.length < v.high := nodup_len _ l h.nd (fun a ha => by have := (h.mem a).2 ha; omega) h.h1

/-- A page is another one, which is not free. -/
theorem V.Fr.put {v : V} {l : List Nat} (h : v.Fr l) {id : Nat} {p : Leaf} (he : v.err id = 0) (hp : p.kind ≠ 255) (hq : p.body.length ≤ 500) : (v.put id p).Fr l := by
  obtain ⟨h1, h2, h3⟩ := V.err_ok he
  have hn : id ∉ l := fun hm => h3 ((h.mem id).2 hm).2.2
  refine ⟨h.nd, h.cnt, h.hd, fun a => ?_, fun k a hk => ?_, h.top, h.h1, fun a a1 a2 => by simp only [V.put]; split; exact hq; exact h.bd a a1 a2⟩
  · rw [← h.mem a]
    simp only [V.put]
    by_cases ha : a = id
    · subst ha
      simp only [if_true]
      constructor
      · rintro ⟨_, _, e⟩; exact absurd e hp
      · rintro ⟨_, _, e⟩; exact absurd e h3
    · simp only [if_neg ha]
  · have ha : a ≠ id := by
      rintro rfl
      exact hn (List.mem_of_getElem? hk)
    simp only [V.put, if_neg ha]
    exact h.body k a hk

theorem V.Fr.new {v : V} {l : List Nat} (h : v.Fr l) (hc : v.high < 65536) : v.allocNew.Fr l := by
  refine ⟨h.nd, h.cnt, h.hd, fun a => ?_, fun k a hk => ?_, by show v.high + 1 ≤ 65536; omega, by show 1 ≤ v.high + 1; omega, fun a a1 a2 => by
    simp only [V.allocNew, V.put] at a2 ⊢
    split
    · simp
    · exact h.bd a a1 (by omega)⟩
  · rw [← h.mem a]
    simp only [V.allocNew, V.put]
    by_cases ha : a = v.high
    · subst ha
      simp only [if_true]
      constructor
      · rintro ⟨_, _, e⟩; cases e
      · rintro ⟨_, e, _⟩; omega
    · simp only [if_neg ha]
      constructor
      · rintro ⟨a1, a2, a3⟩; exact ⟨a1, by omega, a3⟩
      · rintro ⟨a1, a2, a3⟩; exact ⟨a1, by omega, a3⟩
  · have ha : a ≠ v.high := by
      have := (h.mem a).2 (List.mem_of_getElem? hk)
      omega
    simp only [V.allocNew, V.put, if_neg ha]
    exact h.body k a hk

theorem V.Fr.cons {v : V} {l : List Nat} (h : v.Fr l) (hf : v.free ≠ 0) : ∃ l', l = v.free :: l' := by
  have := h.hd
  match l, this with
  | [], e => exact absurd e hf
  | a :: l', e => exact ⟨l', by rw [e]; rfl⟩

theorem V.Fr.old {v : V} {l : List Nat} (h : v.Fr (v.free :: l)) : v.allocFree.Fr l := by
  have hb := h.body 0 v.free rfl
  have hnd := List.nodup_cons.1 h.nd
  have hfree : v4 (str (v.pg v.free).body) = l.headD 0 := by
    rw [hb]
    have : (v.free :: l).getD (0 + 1) 0 < 4294967296 := by
      match l with
      | [] => simp
      | b :: l => have := (h.mem b).2 (by simp); have := h.top; simp; omega
    have e := v4_n4 _ this []
    rw [List.append_nil] at e
    rw [e]
    cases l <;> simp
  have hc := h.cnt
  simp at hc
  refine ⟨hnd.2, by show v.cnt - 1 = _; omega, hfree, fun a => ?_, fun k a hk => ?_, h.top, h.h1, fun a a1 a2 => by
    simp only [V.allocFree, V.put]
    split
    · simp
    · exact h.bd a a1 a2⟩
  · simp only [V.allocFree, V.put]
    by_cases ha : a = v.free
    · subst ha
      simp only [if_true]
      constructor
      · rintro ⟨_, _, e⟩; cases e
      · intro hm; exact absurd hm hnd.1
    · simp only [if_neg ha]
      rw [h.mem a]
      simp [ha]
  · have ha : a ≠ v.free := by
      rintro rfl
      exact hnd.1 (List.mem_of_getElem? hk)
    simp only [V.allocFree, V.put, if_neg ha]
    have := h.body (k + 1) a (by simpa using hk)
    rw [this]
    simp

theorem V.Fr.let_ {v : V} {l : List Nat} (h : v.Fr l) {id : Nat} (he : v.err id = 0) : (v.letFree id).Fr (id :: l) := by
  obtain ⟨h1, h2, h3⟩ := V.err_ok he
  have hn : id ∉ l := fun hm => h3 ((h.mem id).2 hm).2.2
  refine ⟨List.nodup_cons.2 ⟨hn, h.nd⟩, by show v.cnt + 1 = _; rw [h.cnt]; rfl, rfl, fun a => ?_, fun k a hk => ?_, h.top, h.h1, fun a a1 a2 => by
    simp only [V.letFree, V.put]
    split
    · simp [n4]
    · exact h.bd a a1 a2⟩
  · simp only [V.letFree, V.put]
    by_cases ha : a = id
    · subst ha
      simp [h1, h2]
    · simp only [if_neg ha]
      rw [h.mem a]
      simp [ha]
  · simp only [V.letFree, V.put]
    match k, hk with
    | 0, hk =>
      have : id = a := by simpa using hk
      subst this
      rw [if_pos rfl]
      simp [h.hd]
      cases l <;> simp
    | k + 1, hk =>
      have hk' : l[k]? = some a := by simpa using hk
      have ha : a ≠ id := by
        rintro rfl
        exact hn (List.mem_of_getElem? hk')
      rw [if_neg ha, h.body k a hk']
      simp

theorem V.Fr.re {v v' : V} {l : List Nat} (h : v.Fr l) (h1 : v'.free = v.free) (h2 : v'.cnt = v.cnt) (h3 : v'.high = v.high) (h4 : v'.pg = v.pg) : v'.Fr l :=
  ⟨h.nd, h2 ▸ h.cnt, h1 ▸ h.hd, fun a => by rw [h3, h4]; exact h.mem a, fun k a hk => by rw [h4]; exact h.body k a hk, h3 ▸ h.top, h3 ▸ h.h1, by rw [h3, h4]; exact h.bd⟩

/-- Alloc: the page, the error, what is then. -/
def V.alloc (cap : Nat) (v : V) : Nat × Nat × V :=
  if v.free = 0 then (if v.high = cap then (0, 7, v) else (v.high, 0, v.allocNew)) else (v.free, 0, v.allocFree)
/-- Free. -/
def V.drop (v : V) (id : Nat) : Nat × V := if v.err id = 0 then (0, v.letFree id) else (v.err id, v)
/-- Write. -/
def V.set (v : V) (id kind : Nat) (body : List UInt8) : Nat × V := if v.err id = 0 then (0, v.put id ⟨kind, body⟩) else (v.err id, v)
/-- Read. -/
def V.read (v : V) (id : Nat) : Nat × List UInt8 × Nat := if v.err id = 0 then ((v.pg id).kind, (v.pg id).body, 0) else (0, [], v.err id)

theorem V.Good.alloc {v : V} (h : v.Good) {cap : Nat} (h1 : v.high ≤ cap) (h2 : cap ≤ 65536) : (v.alloc cap).2.2.Good ∧ (v.alloc cap).2.2.high ≤ cap := by
  obtain ⟨l, h⟩ := h
  unfold V.alloc
  split
  · split
    · exact ⟨⟨l, h⟩, h1⟩
    · exact ⟨⟨l, h.new (by omega)⟩, by show v.high + 1 ≤ cap; omega⟩
  · rename_i hf
    obtain ⟨l', rfl⟩ := h.cons hf
    exact ⟨⟨l', h.old⟩, h1⟩
theorem V.Good.drop {v : V} (h : v.Good) (id : Nat) : (v.drop id).2.Good := by
  obtain ⟨l, h⟩ := h
  unfold V.drop
  split
  · rename_i he; exact ⟨_, h.let_ he⟩
  · exact ⟨l, h⟩
theorem V.Good.set {v : V} (h : v.Good) (id kind : Nat) (body : List UInt8) (hk : kind ≠ 255) (hb : body.length ≤ 500) : (v.set id kind body).2.Good := by
  obtain ⟨l, h⟩ := h
  unfold V.set
  split
  · rename_i he; exact ⟨_, h.put he hk hb⟩
  · exact ⟨l, h⟩
theorem V.Good.setR {v : V} (h : v.Good) (i n : Nat) : (v.setR i n).Good := by
  obtain ⟨l, h⟩ := h
  exact ⟨l, h.re rfl rfl rfl rfl⟩
theorem V.Good.spoil {v : V} (h : v.Good) : ({ v with spoilt := true } : V).Good := by
  obtain ⟨l, h⟩ := h
  exact ⟨l, h.re rfl rfl rfl rfl⟩

theorem alloc_any (s : Sys) (hs : s.Ok) (w : World) (v : V) (h : TxAt w s v) (hg : v.Good) :
    Calls Tryz.prog 19 #[.pointer (some ⟨s.t, 0, none⟩)] w fun e w' => e = .returned (.tuple #[.int .i64 ((v.alloc s.cap).1 : Int), .int .i64 ((v.alloc s.cap).2.1 : Int)]) ∧ TxAt w' s (v.alloc s.cap).2.2 ∧ Ext s.F w w' := by
  unfold V.alloc
  split
  · rename_i h0
    split
    · rename_i h1
      exact (alloc_full s hs w v h h0 h1).mono fun e w' ⟨h1, h2⟩ => ⟨h1, h.no hs h2, h2.of_no⟩
    · rename_i h1
      have := h.h2
      exact alloc_new s hs w v h h0 (by omega)
  · rename_i h0
    obtain ⟨l, hl⟩ := hg
    obtain ⟨l', rfl⟩ := hl.cons h0
    have hm := (hl.mem v.free).2 (by simp)
    have hc := hl.cnt
    have hb := hl.body 0 v.free rfl
    exact alloc_free s hs w v h (by omega) hm.2.1 (by rw [hb]; simp [n4]) (by simp at hc; omega)

theorem free_any (s : Sys) (hs : s.Ok) (w : World) (v : V) (h : TxAt w s v) (hg : v.Good) (id : Nat) :
    Calls Tryz.prog 142 #[.pointer (some ⟨s.t, 0, none⟩), .int .i64 (id : Int)] w fun e w' => e = .returned (.int .i64 ((v.drop id).1 : Int)) ∧ TxAt w' s (v.drop id).2 ∧ Ext s.F w w' := by
  unfold V.drop
  split
  · rename_i h0
    obtain ⟨l, hl⟩ := hg
    have := hl.lt
    have := hl.cnt
    have := hl.top
    refine free_ok s hs w v h id h0 ?_ (by omega)
    have hd := hl.hd
    match l, hl, hd with
    | [], _, hd => simp at hd; omega
    | a :: l, hl, hd =>
      have hm := (hl.mem a).2 (by simp)
      simp at hd
      omega
  · rename_i h0
    exact (free_bad s hs w v h id h0).mono fun e w' ⟨h1, h2⟩ => ⟨h1, h.no hs h2, h2.of_no⟩

theorem write_any (s : Sys) (hs : s.Ok) (w : World) (v : V) (h : TxAt w s v) (id kind : Nat) (body : List UInt8) (hk1 : 1 ≤ kind) (hk2 : kind < 255) (hb : body.length ≤ 500) :
    Calls Tryz.prog 20 #[.pointer (some ⟨s.t, 0, none⟩), .int .i64 (id : Int), .int .i64 (kind : Int), .string (str body)] w fun e w' => e = .returned (.int .i64 ((v.set id kind body).1 : Int)) ∧ TxAt w' s (v.set id kind body).2 ∧ Ext s.F w w' := by
  unfold V.set
  split
  · rename_i h0
    exact write_ok s hs w v h id kind body h0 hk1 hk2 hb
  · rename_i h0
    exact (write_bad s hs w v h id kind _ h0).mono fun e w' ⟨h1, h2⟩ => ⟨h1, h.no hs h2, h2.of_no⟩

theorem read_any (s : Sys) (hs : s.Ok) (w : World) (v : V) (h : TxAt w s v) (id : Nat) :
    Calls Tryz.prog 47 #[.pointer (some ⟨s.t, 0, none⟩), .int .i64 (id : Int)] w fun e w' => e = .returned (.tuple #[.int .i64 ((v.read id).1 : Int), .string (str (v.read id).2.1), .int .i64 ((v.read id).2.2 : Int)]) ∧ Ext No w w' := by
  unfold V.read
  split
  · rename_i h0
    exact read_ok s hs w v h id h0
  · rename_i h0
    exact read_bad s hs w v h id h0

end Go.Proofs.YtccnemmlkcmceaaGreatDoor

/- The tree's calls: Of, none, alive, may, Root. -/
set_option linter.unusedVariables false
set_option linter.unusedSimpArgs false
namespace Go.Proofs.YtccnemmlkcmceaaGreatDoor
open Go.RowKit 

/-- A tree's cells. -/
def treeCells (s : Sys) (i : Nat) : Array Value := #[.pointer (some ⟨s.t, 0, none⟩), .int .i64 (i : Int)]

theorem tree_off {w : World} {s : Sys} {v : V} {gx i : Nat} (ht : TxAt w s v) (h : Blk w gx 70 (treeCells s i)) : ¬ s.F gx := by
  rintro (e | e)
  · exact (h.ne_ ht.tx (by decide)) e
  · obtain ⟨ov, hm, _⟩ := ht.mp
    exact hm.ne h e
theorem tree_ext {w w' : World} {s : Sys} {v : V} {gx i : Nat} (ht : TxAt w s v) (h : Blk w gx 70 (treeCells s i)) (he : Ext s.F w w') : Blk w' gx 70 (treeCells s i) := h.ext he (tree_off ht h)

theorem V.read_err (v : V) (id : Nat) : (v.read id).2.2 = 0 ∨ (v.read id).2.2 = 2 ∨ (v.read id).2.2 = 8 := by
  unfold V.read
  split
  · exact .inl rfl
  · rename_i h
    rcases V.err_cases h with ⟨h, _⟩ | ⟨h, _⟩
    · exact .inr (.inl h)
    · exact .inr (.inr h)

set_option maxHeartbeats 400000 in
theorem of_any (t : Option Addr) (i : Nat) (hi : i < 4) (w : World) :
    Calls Tryz.prog 13 #[.pointer t, .int .i64 (i : Int)] w fun e w' => e = .returned (.pointer (some ⟨w.heap.size, 0, none⟩)) ∧ w' = w.alloc (.cells #[.pointer t, .int .i64 (i : Int)] 70) := by
  have g1 : ¬ ((i : Int) < 0) := by omega
  have g2 : ¬ ((4 : Int) ≤ i) := by omega
  go_enter Tryz.func13, Tryz.ntmps13
  go_wp2_with fail
  go_ret
  exact ⟨rfl, rfl⟩

set_option maxHeartbeats 400000 in
theorem of_bad (t : Option Addr) (i : Int) (hi : i < 0 ∨ 4 ≤ i) (w : World) :
    Calls Tryz.prog 13 #[.pointer t, .int .i64 i] w fun e w' => e = .returned (.pointer none) ∧ w' = w := by
  rcases hi with g1 | g2
  · go_enter Tryz.func13, Tryz.ntmps13
    go_wp2_with fail
    go_ret
    exact ⟨rfl, rfl⟩
  · have g1 : ¬ (i < 0) := by omega
    go_enter Tryz.func13, Tryz.ntmps13
    go_wp2_with fail
    go_ret
    exact ⟨rfl, rfl⟩

set_option maxHeartbeats 400000 in
theorem none_no (t : Addr) (i : Value) (gx : Nat) (w : World) (h : Blk w gx 70 #[.pointer (some t), i]) :
    Calls Tryz.prog 45 #[.pointer (some ⟨gx, 0, none⟩)] w fun e w' => e = .returned (.bool false) ∧ w = w' := by
  have c0 := h.cell 0
  simp at c0
  go_enter Tryz.func45, Tryz.ntmps45
  go_wp2
  go_ret
  exact ⟨rfl, rfl⟩

set_option maxHeartbeats 400000 in
theorem alive_any (s : Sys) (hs : s.Ok) (w : World) (v : V) (h : TxAt w s v) (gx i : Nat) (hx : Blk w gx 70 (treeCells s i)) :
    Calls Tryz.prog 64 #[.pointer (some ⟨gx, 0, none⟩)] w fun e w' => e = .returned (.int .i64 0) ∧ Ext No w w' := by
  have HR := Lib.hid (read_any s hs w v h 1)
  have c0 := hx.cell 0
  simp [treeCells] at c0
  have he := v.read_err 1
  generalize (v.read 1).2.2 = e at HR he
  generalize (v.read 1).1 = k at HR
  generalize (v.read 1).2.1 = b at HR
  go_enter Tryz.func64, Tryz.ntmps64
  go_wp2_with fail
  refine (HR.out).mono ?_
  rintro e' w1 ⟨rfl, hx1⟩
  rcases he with rfl | rfl | rfl
  all_goals
    go_wp2_with fail
    go_ret
    exact ⟨rfl, hx1⟩

def may (key val : List UInt8) : Nat := if key = [] then 2 else if 140 < key.length ∨ 16384 < val.length then 3 else 0

set_option maxHeartbeats 400000 in
theorem may_any (s : Sys) (hs : s.Ok) (w : World) (v : V) (h : TxAt w s v) (gx i : Nat) (hx : Blk w gx 70 (treeCells s i)) (key val : List UInt8) :
    Calls Tryz.prog 59 #[.pointer (some ⟨gx, 0, none⟩), .string (str key), .string (str val)] w fun e w' => e = .returned (.int .i64 (may key val : Int)) ∧ Ext No w w' := by
  have HN := Lib.hid (none_no ⟨s.t, 0, none⟩ (.int .i64 (i : Int)) gx w hx)
  have HA := Lib.hid (alive_any s hs w v h gx i hx)
  have hk := str_size key
  have hv := str_size val
  clear h hs hx
  cases key with
  | nil =>
    go_enter Tryz.func59, Tryz.ntmps59
    go_wp2_with fail
    refine (HN.out).mono ?_
    rintro e' w1 ⟨rfl, rfl⟩
    go_wp2_with fail
    go_ret
    exact ⟨rfl, Ext.refl _ _⟩
  | cons a key =>
    have hne : (a :: key).isEmpty = false := rfl
    have hm : may (a :: key) val = if 140 < (a :: key).length ∨ 16384 < val.length then 3 else 0 := by simp [may]
    rw [hm]
    generalize a :: key = k at *
    have HK := Lib.hid hk; have HV := Lib.hid hv
    clear hm
    by_cases h1 : 140 < k.length
    · rw [if_pos (.inl h1)]
      go_enter Tryz.func59, Tryz.ntmps59
      go_wp2_with fail
      refine (HN.out).mono ?_
      rintro e' w1 ⟨rfl, rfl⟩
      go_wp2_with fail
      go_ret
      exact ⟨rfl, Ext.refl _ _⟩
    · by_cases h2 : 16384 < val.length
      · rw [if_pos (.inr h2)]
        go_enter Tryz.func59, Tryz.ntmps59
        go_wp2_with fail
        refine (HN.out).mono ?_
        rintro e' w1 ⟨rfl, rfl⟩
        go_wp2_with fail
        go_ret
        exact ⟨rfl, Ext.refl _ _⟩
      · rw [if_neg (by omega)]
        go_enter Tryz.func59, Tryz.ntmps59
        go_wp2_with fail
        refine (HN.out).mono ?_
        rintro e' w1 ⟨rfl, rfl⟩
        go_wp2_with fail
        refine (HA.out).mono ?_
        rintro e' w1 ⟨rfl, hx1⟩
        go_wp2_with fail
        go_ret
        exact ⟨rfl, hx1⟩

set_option maxHeartbeats 400000 in
theorem treeroot_any (s : Sys) (hs : s.Ok) (w : World) (v : V) (h : TxAt w s v) (gx i : Nat) (hx : Blk w gx 70 (treeCells s i)) (hi : i < 4) :
    Calls Tryz.prog 15 #[.pointer (some ⟨gx, 0, none⟩)] w fun e w' => e = .returned (.int .i64 (v.r i : Int)) ∧ Ext No w w' := by
  have HN := Lib.hid (none_no ⟨s.t, 0, none⟩ (.int .i64 (i : Int)) gx w hx)
  have HR := Lib.hid (fun w h => root_any s hs w v h i hi)
  have c0 := hx.cell 0
  have c1 := hx.cell 1
  simp [treeCells] at c0 c1
  have HT := Lib.hid h
  clear h
  go_enter Tryz.func15, Tryz.ntmps15
  go_wp2_with fail
  refine (HN.out).mono ?_
  rintro e' w1 ⟨rfl, rfl⟩
  go_wp2_with fail
  go_quiet ((go_at_call 46; exact Calls.quiet_of_same ((HR.out _ (HT.out.no hs ((Ext.refl No w).drewN _))).mono fun _ _ ⟨h1, h2⟩ => ⟨h1, h2.symm⟩)))
  go_wp2_with fail
  go_ret
  exact ⟨rfl, by (repeat' (first | exact Ext.refl _ _ | assumption | apply Ext.alloc | apply Ext.drewN | apply Ext.drew | refine Ext.setNew ?_ (by first | omega | (simp; omega) | simp) _ _ | refine Ext.setF ?_ (by first | exact Or.inl rfl | exact Or.inr rfl | rfl) _ _ | refine Ext.trans_ ?_ (by assumption) | refine Ext.trans_ ?_ (Ext.of_no (by assumption))))⟩

end Go.Proofs.YtccnemmlkcmceaaGreatDoor

/- Nodes: plain data, and how they lie in memory. -/
set_option linter.unusedVariables false
set_option linter.unusedSimpArgs false
namespace Go.Proofs.YtccnemmlkcmceaaGreatDoor
open Go.RowKit 

abbrev Bs := List UInt8

structure Cell where
  key : Bs
  val : Bs
  over : Nat
  len : Nat

structure Nd where
  leaf : Bool
  cells : List Cell
  keys : List Bs
  kids : List Nat

def Cell.vals (c : Cell) : List Value := [.string (str c.key), .string (str c.val), .int .i64 (c.over : Int), .int .i64 (c.len : Int)]
def Cell.agg (c : Cell) : Value := .agg #[.string (str c.key), .string (str c.val), .int .i64 (c.over : Int), .int .i64 (c.len : Int)]

/-- A slice's address and length read as these cells, none in a block of F. -/
def Rd (w : World) (F : Nat → Prop) (sz : Nat) (A : Option Addr) (n : Nat) (xs : List Value) : Prop :=
  xs.length = n * sz ∧ (0 < n → ∃ b o, A = some ⟨b, o, none⟩ ∧ ¬ F b ∧ ∀ j u, xs[j]? = some u → w.cell? ⟨b, o + j, none⟩ = some u)

section
variable {w w' : World} {F G : Nat → Prop} {sz n : Nat} {A : Option Addr} {xs : List Value}
theorem Rd.nil_ (A : Option Addr) : Rd w F sz A 0 [] := ⟨by simp, fun h => absurd h (by omega)⟩
theorem Rd.ext (h : Rd w F sz A n xs) (he : Ext F w w') : Rd w' F sz A n xs :=
  ⟨h.1, fun hn => by
    obtain ⟨b, o, e, hb, hc⟩ := h.2 hn
    refine ⟨b, o, e, hb, fun j u hu => ?_⟩
    have hc' := hc j u hu
    have hlt := World.block_lt_of_cell? w _ hc'
    rw [← hc']
    exact World.cell?_of_block (he.block b hlt hb)⟩
theorem Rd.mono (h : Rd w F sz A n xs) (hs : 0 < sz) (hG : ∀ b, b < w.heap.size → G b → F b) : Rd w G sz A n xs :=
  ⟨h.1, fun hn => by
    obtain ⟨b, o, e, hb, hc⟩ := h.2 hn
    refine ⟨b, o, e, fun hg => hb (hG b ?_ hg), hc⟩
    match xs, h.1, hc with
    | [], hl, _ => have := Nat.mul_pos hn hs; simp at hl; omega
    | u :: xs', _, hc => exact World.block_lt_of_cell? w _ (hc 0 u rfl)⟩
theorem Rd.at1 (h : Rd w F 1 A n xs) {i : Nat} (hi : i < n) : ∃ b o u, A = some ⟨b, o, none⟩ ∧ ¬ F b ∧ xs[i]? = some u ∧ w.cell? ⟨b, o + i, none⟩ = some u := by
  obtain ⟨b, o, e, hb, hc⟩ := h.2 (by omega)
  have hl : i < xs.length := by have := h.1; omega
  exact ⟨b, o, xs[i], e, hb, List.getElem?_eq_getElem hl, hc i _ (List.getElem?_eq_getElem hl)⟩
end

def cellVals (cs : List Cell) : List Value := cs.flatMap Cell.vals
def keyVals (ks : List Bs) : List Value := ks.map fun k => .string (str k)
def kidVals (ks : List Nat) : List Value := ks.map fun (k : Nat) => .int .i64 (k : Int)

theorem cellVals_cons (c : Cell) (cs : List Cell) : cellVals (c :: cs) = c.vals ++ cellVals cs := rfl
theorem cellVals_append (a b : List Cell) : cellVals (a ++ b) = cellVals a ++ cellVals b := by simp [cellVals]
theorem cellVals_len (cs : List Cell) : (cellVals cs).length = cs.length * 4 := by
  induction cs with
  | nil => rfl
  | cons c cs ih => rw [cellVals_cons, List.length_append, ih]; simp [Cell.vals]; omega
theorem cellVals_at (cs : List Cell) (i k : Nat) (c : Cell) (hc : cs[i]? = some c) (hk : k < 4) : (cellVals cs)[i * 4 + k]? = c.vals[k]? := by
  induction cs generalizing i with
  | nil => simp at hc
  | cons d cs ih =>
    rw [cellVals_cons]
    have hl : d.vals.length = 4 := rfl
    match i with
    | 0 =>
      have : d = c := by simpa using hc
      subst this
      rw [List.getElem?_append_left (by omega)]
      simp
    | i + 1 =>
      rw [List.getElem?_append_right (by omega), hl, show (i + 1) * 4 + k - 4 = i * 4 + k from by omega]
      exact ih i (by simpa using hc)
theorem cellVals_drop (cs : List Cell) (k : Nat) : (cellVals cs).drop (k * 4) = cellVals (cs.drop k) := by
  induction cs generalizing k with
  | nil => simp [cellVals]
  | cons c cs ih =>
    match k with
    | 0 => simp
    | k + 1 =>
      rw [cellVals_cons, List.drop_succ_cons, ← ih k, List.drop_append, show (k + 1) * 4 - c.vals.length = k * 4 from by simp [Cell.vals]; omega]
      simp [Cell.vals]; omega
theorem cellVals_take (cs : List Cell) (k : Nat) : (cellVals cs).take (k * 4) = cellVals (cs.take k) := by
  induction cs generalizing k with
  | nil => simp [cellVals]
  | cons c cs ih =>
    match k with
    | 0 => simp [cellVals]
    | k + 1 =>
      rw [cellVals_cons, List.take_succ_cons, cellVals_cons, ← ih k, List.take_append, show (k + 1) * 4 - c.vals.length = k * 4 from by simp [Cell.vals]; omega]
      congr 1
      exact List.take_of_length_le (by simp [Cell.vals]; omega)

/-- A cell of a list of cells, as the walk reads it. -/
theorem Rd.cellAt {w : World} {F : Nat → Prop} {A : Option Addr} {cs : List Cell} (h : Rd w F 4 A cs.length (cellVals cs)) {i : Nat} {c : Cell} (hc : cs[i]? = some c) :
    ∃ b o, A = some ⟨b, o, none⟩ ∧ ¬ F b ∧ w.cell? ⟨b, o + i * 4, none⟩ = some (.string (str c.key)) ∧ w.cell? ⟨b, o + i * 4 + 1, none⟩ = some (.string (str c.val)) ∧
      w.cell? ⟨b, o + i * 4 + 2, none⟩ = some (.int .i64 (c.over : Int)) ∧ w.cell? ⟨b, o + i * 4 + 3, none⟩ = some (.int .i64 (c.len : Int)) := by
  have hi : i < cs.length := (List.getElem?_eq_some_iff.1 hc).1
  obtain ⟨b, o, e, hb, hx⟩ := h.2 (by omega)
  refine ⟨b, o, e, hb, ?_, ?_, ?_, ?_⟩
  · have := hx (i * 4 + 0) _ ((cellVals_at cs i 0 c hc (by omega)).trans rfl)
    exact this
  · have := hx (i * 4 + 1) _ ((cellVals_at cs i 1 c hc (by omega)).trans rfl)
    rw [← Nat.add_assoc] at this; exact this
  · have := hx (i * 4 + 2) _ ((cellVals_at cs i 2 c hc (by omega)).trans rfl)
    rw [← Nat.add_assoc] at this; exact this
  · have := hx (i * 4 + 3) _ ((cellVals_at cs i 3 c hc (by omega)).trans rfl)
    rw [← Nat.add_assoc] at this; exact this

theorem Rd.keyAt {w : World} {F : Nat → Prop} {A : Option Addr} {ks : List Bs} (h : Rd w F 1 A ks.length (keyVals ks)) {i : Nat} {k : Bs} (hc : ks[i]? = some k) :
    ∃ b o, A = some ⟨b, o, none⟩ ∧ ¬ F b ∧ w.cell? ⟨b, o + i, none⟩ = some (.string (str k)) := by
  have hi : i < ks.length := (List.getElem?_eq_some_iff.1 hc).1
  obtain ⟨b, o, e, hb, hx⟩ := h.2 (by omega)
  exact ⟨b, o, e, hb, hx i _ (by simp [keyVals, hc])⟩

theorem Rd.kidAt {w : World} {F : Nat → Prop} {A : Option Addr} {ks : List Nat} (h : Rd w F 1 A ks.length (kidVals ks)) {i : Nat} {k : Nat} (hc : ks[i]? = some k) :
    ∃ b o, A = some ⟨b, o, none⟩ ∧ ¬ F b ∧ w.cell? ⟨b, o + i, none⟩ = some (.int .i64 (k : Int)) := by
  have hi : i < ks.length := (List.getElem?_eq_some_iff.1 hc).1
  obtain ⟨b, o, e, hb, hx⟩ := h.2 (by omega)
  exact ⟨b, o, e, hb, hx i _ (by simp [kidVals, hc])⟩

/-- A value reads as a node. -/
structure NodeAt (w : World) (F : Nat → Prop) (A1 : Option Addr) (c1 : Nat) (A2 : Option Addr) (c2 : Nat) (A3 : Option Addr) (c3 : Nat) (n : Nd) : Prop where
  cells : Rd w F 4 A1 n.cells.length (cellVals n.cells)
  keys : Rd w F 1 A2 n.keys.length (keyVals n.keys)
  kids : Rd w F 1 A3 n.kids.length (kidVals n.kids)
  l1 : n.cells.length ≤ c1
  l2 : n.keys.length ≤ c2
  l3 : n.kids.length ≤ c3
  b1 : n.cells.length < 65536
  b2 : n.keys.length < 65536
  b3 : n.kids.length < 65536
  e1 : A1 = none → c1 = 0
  e2 : A2 = none → c2 = 0
  e3 : A3 = none → c3 = 0

def Nd.value (n : Nd) (A1 : Option Addr) (c1 : Nat) (A2 : Option Addr) (c2 : Nat) (A3 : Option Addr) (c3 : Nat) : Value :=
  .agg #[.bool n.leaf, .slice A1 n.cells.length c1, .slice A2 n.keys.length c2, .slice A3 n.kids.length c3]

theorem NodeAt.ext {w w' : World} {F : Nat → Prop} {A1 : Option Addr} {c1 : Nat} {A2 : Option Addr} {c2 : Nat} {A3 : Option Addr} {c3 : Nat} {n : Nd} (h : NodeAt w F A1 c1 A2 c2 A3 c3 n) (he : Ext F w w') :
    NodeAt w' F A1 c1 A2 c2 A3 c3 n := ⟨h.cells.ext he, h.keys.ext he, h.kids.ext he, h.l1, h.l2, h.l3, h.b1, h.b2, h.b3, h.e1, h.e2, h.e3⟩

/-! ### small functions -/
def keyOk (k : Bs) : Bool := decide (1 ≤ k.length ∧ k.length ≤ 140)
def idOk (n : Nat) : Bool := decide (1 ≤ n ∧ n ≤ 2147483647)
def Cell.size (c : Cell) : Nat := if 0 < c.over then 10 + c.key.length else 3 + c.key.length + c.val.length
def Cell.ok (c : Cell) : Bool :=
  if c.over = 0 then keyOk c.key && decide (c.len = 0) && decide (c.size ≤ 160) else keyOk c.key && idOk c.over && decide (c.len ≤ 16384) && c.val.isEmpty

set_option maxHeartbeats 400000 in
theorem key_any (k : Bs) (w : World) (hk : k.length < 4294967296) : Calls Tryz.prog 131 #[.string (str k)] w fun e w' => e = .returned (.bool (keyOk k)) ∧ w = w' := by
  have h0 := str_size k
  by_cases h1 : 1 ≤ k.length
  · by_cases h2 : k.length ≤ 140
    · have e : keyOk k = true := by simp [keyOk, h1, h2]
      rw [e]
      go_enter Tryz.func131, Tryz.ntmps131
      go_wp2
      go_ret
      exact ⟨ret_bool (by simp; omega), rfl⟩
    · have e : keyOk k = false := by simp [keyOk]; omega
      rw [e]
      go_enter Tryz.func131, Tryz.ntmps131
      go_wp2
      go_ret
      exact ⟨ret_bool (by simp; omega), rfl⟩
  · have e : keyOk k = false := by simp [keyOk]; omega
    rw [e]
    go_enter Tryz.func131, Tryz.ntmps131
    go_wp2
    go_ret
    exact ⟨rfl, rfl⟩

set_option maxHeartbeats 400000 in
theorem id_any (n : Nat) (w : World) : Calls Tryz.prog 132 #[.int .i64 (n : Int)] w fun e w' => e = .returned (.bool (idOk n)) ∧ w = w' := by
  by_cases h1 : 1 ≤ n
  · have h1' : ((n : Int) ≥ 1) := by omega
    by_cases h2 : n ≤ 2147483647
    · have e : idOk n = true := by simp [idOk, h1, h2]
      have h2' : decide ((n : Int) ≤ 2147483647) = true := by simp; omega
      rw [e]
      clear h2
      go_enter Tryz.func132, Tryz.ntmps132
      go_wp2
      go_ret
      exact ⟨rfl, rfl⟩
    · have e : idOk n = false := by simp [idOk]; omega
      have h2' : decide ((n : Int) ≤ 2147483647) = false := by simp; omega
      rw [e]
      clear h2
      go_enter Tryz.func132, Tryz.ntmps132
      go_wp2
      go_ret
      exact ⟨rfl, rfl⟩
  · have e : idOk n = false := by simp [idOk]; omega
    rw [e]
    go_enter Tryz.func132, Tryz.ntmps132
    go_wp2
    go_ret
    exact ⟨rfl, rfl⟩

set_option maxHeartbeats 400000 in
theorem length_any (c : Cell) (w : World) (hk : c.key.length < 4294967296) (hv : c.val.length < 4294967296) :
    Calls Tryz.prog 175 #[c.agg] w fun e w' => e = .returned (.int .i64 (c.size : Int)) ∧ ∃ o, w' = w.alloc o := by
  have h0 := str_size c.key
  have h00 := str_size c.val
  by_cases h1 : (0 : Int) < c.over
  · have e : c.size = 10 + c.key.length := by unfold Cell.size; rw [if_pos (by omega)]
    rw [e]
    go_enter Tryz.func175, Tryz.ntmps175
    simp only [Cell.agg]
    go_wp2
    go_ret
    exact ⟨ret_int (by omega), _, rfl⟩
  · have e : c.size = 3 + c.key.length + c.val.length := by unfold Cell.size; rw [if_neg (by omega)]
    rw [e]
    go_enter Tryz.func175, Tryz.ntmps175
    simp only [Cell.agg]
    go_wp2
    go_ret
    exact ⟨ret_int (by omega), _, rfl⟩

end Go.Proofs.YtccnemmlkcmceaaGreatDoor

/- The tree's calls, each as one plain function on what a transaction shows: values. -/
set_option linter.unusedVariables false
set_option linter.unusedSimpArgs false
namespace Go.Proofs.YtccnemmlkcmceaaGreatDoor
open Go.RowKit 

/-- A page read as a part of a value. -/
def V.link (v : V) (id : Nat) : Option (Nat × Bs) :=
  if v.err id = 0 then (if (v.pg id).kind = 3 ∧ 4 < (v.pg id).body.length then some (v4 (str (v.pg id).body), (v.pg id).body.drop 4) else none) else none
def V.valLoop (v : V) (len : Nat) : Nat → Nat → Bs → Option Bs
  | 0, _, b => some b
  | k + 1, id, b => if id = 0 ∨ len < b.length then some b else match v.link id with
    | none => none
    | some (n, s) => v.valLoop len k n (b ++ s)
/-- A cell's value. -/
def V.value (v : V) (c : Cell) : Option Bs :=
  if c.over = 0 then some c.val else match v.valLoop c.len (c.len + 2) c.over [] with
    | none => none
    | some b => if b.length = c.len then some b else none
def chainLoop (cap : Nat) (val : Bs) : Nat → Nat → V → Nat × Nat × V
  | 0, next, v => (next, 0, v)
  | k + 1, next, v =>
    if (v.alloc cap).2.1 = 0 then
      (if ((v.alloc cap).2.2.set (v.alloc cap).1 3 (n4 next ++ (val.drop (k * 496)).take 496)).1 = 0 then chainLoop cap val k (v.alloc cap).1 ((v.alloc cap).2.2.set (v.alloc cap).1 3 (n4 next ++ (val.drop (k * 496)).take 496)).2
      else (0, ((v.alloc cap).2.2.set (v.alloc cap).1 3 (n4 next ++ (val.drop (k * 496)).take 496)).1, ((v.alloc cap).2.2.set (v.alloc cap).1 3 (n4 next ++ (val.drop (k * 496)).take 496)).2))
    else (0, (v.alloc cap).2.1, (v.alloc cap).2.2)
/-- A value written into pages: the first one, the error, what is then. -/
def V.chain (cap : Nat) (v : V) (val : Bs) : Nat × Nat × V := chainLoop cap val ((val.length - 1) / 496 + 1) 0 v
def V.dropLoop : Nat → Nat → V → Nat × V
  | 0, _, v => (0, v)
  | k + 1, id, v => if id = 0 then (0, v) else match v.link id with
    | none => (5, v)
    | some (n, _) => if (v.drop id).1 = 0 then V.dropLoop k n (v.drop id).2 else v.drop id
/-- A cell's value's pages are free. -/
def V.letGo (v : V) (c : Cell) : Nat × V := V.dropLoop (v.high + 1) c.over v
/-- A cell is made. -/
def V.mkCell (cap : Nat) (v : V) (key val : Bs) : Cell × Nat × V :=
  if 3 + key.length + val.length ≤ 160 then (⟨key, val, 0, 0⟩, 0, v) else (⟨key, [], (v.chain cap val).1, val.length⟩, (v.chain cap val).2.1, (v.chain cap val).2.2)

end Go.Proofs.YtccnemmlkcmceaaGreatDoor

/- slot.cell, slot.size. -/
set_option linter.unusedVariables false
set_option linter.unusedSimpArgs false
namespace Go.Proofs.YtccnemmlkcmceaaGreatDoor
open Go.RowKit 

/-- A cell whose texts are no longer than any text is. -/
def Cell.fits (c : Cell) : Prop := c.key.length < 65536 ∧ c.val.length < 65536 ∧ c.over < 4294967296 ∧ c.len < 4294967296

set_option maxRecDepth 100000 in
set_option maxHeartbeats 800000 in
theorem cell_any (c : Cell) (w : World) (hf : c.fits) :
    Calls Tryz.prog 130 #[c.agg] w fun e w' => e = .returned (.bool c.ok) ∧ Ext No w w' := by
  obtain ⟨hk, hv, ho, hl⟩ := hf
  have HK := Lib.hid (fun w => key_any c.key w (by omega))
  have HI := Lib.hid (fun w => id_any c.over w)
  have HL := Lib.hid (fun w => length_any c w (by omega) (by omega))
  have h0 := str_size c.key
  have h00 := str_size c.val
  by_cases h1 : c.over = 0
  · have e : c.ok = (keyOk c.key && decide (c.len = 0) && decide (c.size ≤ 160)) := by unfold Cell.ok; rw [if_pos h1]
    have h1' : ((c.over : Int) == 0) = true := by simp [h1]
    rw [e]
    clear h1 e
    have b2 : ((c.len : Int) == 0) = decide (c.len = 0) := by rw [Bool.eq_iff_iff]; simp
    generalize keyOk c.key = k1 at *
    generalize hk2 : decide (c.len = 0) = k2 at *
    cases k1
    · go_enter Tryz.func130, Tryz.ntmps130
      simp only [Cell.agg]
      go_wp2_with (go_at_call 131; refine (HK.out _).mono ?_; rintro e w' ⟨rfl, rfl⟩)
      go_ret
      exact ⟨ret_bool (by simp), by (repeat' (first | exact Ext.refl _ _ | assumption | apply Ext.alloc | apply Ext.drewN | apply Ext.drew | refine Ext.setNew ?_ (by first | omega | (simp; omega) | simp) _ _ | refine Ext.setF ?_ (by first | exact Or.inl rfl | exact Or.inr rfl | rfl) _ _ | refine Ext.trans_ ?_ (by assumption) | refine Ext.trans_ ?_ (Ext.of_no (by assumption))))⟩
    · cases k2
      · go_enter Tryz.func130, Tryz.ntmps130
        simp only [Cell.agg]
        go_wp2_with (go_at_call 131; refine (HK.out _).mono ?_; rintro e w' ⟨rfl, rfl⟩)
        go_ret
        exact ⟨ret_bool (by simp), by (repeat' (first | exact Ext.refl _ _ | assumption | apply Ext.alloc | apply Ext.drewN | apply Ext.drew | refine Ext.setNew ?_ (by first | omega | (simp; omega) | simp) _ _ | refine Ext.setF ?_ (by first | exact Or.inl rfl | exact Or.inr rfl | rfl) _ _ | refine Ext.trans_ ?_ (by assumption) | refine Ext.trans_ ?_ (Ext.of_no (by assumption))))⟩
      · simp only [Cell.agg] at HL
        go_enter Tryz.func130, Tryz.ntmps130
        simp only [Cell.agg]
        go_wp2_with (first | (go_at_call 131; refine (HK.out _).mono ?_; rintro e w' ⟨rfl, rfl⟩) | (go_at_call 175; refine (HL.out _).mono ?_; rintro e w' ⟨rfl, o, rfl⟩))
        go_ret
        exact ⟨ret_bool (by simp; omega), by (repeat' (first | exact Ext.refl _ _ | assumption | apply Ext.alloc | apply Ext.drewN | apply Ext.drew | refine Ext.setNew ?_ (by first | omega | (simp; omega) | simp) _ _ | refine Ext.setF ?_ (by first | exact Or.inl rfl | exact Or.inr rfl | rfl) _ _ | refine Ext.trans_ ?_ (by assumption) | refine Ext.trans_ ?_ (Ext.of_no (by assumption))))⟩
  · have e : c.ok = (keyOk c.key && idOk c.over && decide (c.len ≤ 16384) && c.val.isEmpty) := by unfold Cell.ok; rw [if_neg h1]
    have h1' : ((c.over : Int) == 0) = false := by simp; omega
    rw [e]
    clear h1 e
    have b2 : decide ((0 : Int) ≤ c.len) = true := by simp
    have b3 : decide ((c.len : Int) ≤ 16384) = decide (c.len ≤ 16384) := by rw [Bool.eq_iff_iff]; simp; omega
    generalize keyOk c.key = k1 at *
    generalize idOk c.over = k2 at *
    generalize hk3 : decide (c.len ≤ 16384) = k3 at *
    cases k1
    · go_enter Tryz.func130, Tryz.ntmps130
      simp only [Cell.agg]
      go_wp2_with (first | (go_at_call 131; refine (HK.out _).mono ?_; rintro e w' ⟨rfl, rfl⟩) | (go_at_call 132; refine (HI.out _).mono ?_; rintro e w' ⟨rfl, rfl⟩))
      go_ret
      exact ⟨ret_bool (by simp), by (repeat' (first | exact Ext.refl _ _ | assumption | apply Ext.alloc | apply Ext.drewN | apply Ext.drew | refine Ext.setNew ?_ (by first | omega | (simp; omega) | simp) _ _ | refine Ext.setF ?_ (by first | exact Or.inl rfl | exact Or.inr rfl | rfl) _ _ | refine Ext.trans_ ?_ (by assumption) | refine Ext.trans_ ?_ (Ext.of_no (by assumption))))⟩
    · cases k2
      · go_enter Tryz.func130, Tryz.ntmps130
        simp only [Cell.agg]
        go_wp2_with (first | (go_at_call 131; refine (HK.out _).mono ?_; rintro e w' ⟨rfl, rfl⟩) | (go_at_call 132; refine (HI.out _).mono ?_; rintro e w' ⟨rfl, rfl⟩))
        go_ret
        exact ⟨ret_bool (by simp), by (repeat' (first | exact Ext.refl _ _ | assumption | apply Ext.alloc | apply Ext.drewN | apply Ext.drew | refine Ext.setNew ?_ (by first | omega | (simp; omega) | simp) _ _ | refine Ext.setF ?_ (by first | exact Or.inl rfl | exact Or.inr rfl | rfl) _ _ | refine Ext.trans_ ?_ (by assumption) | refine Ext.trans_ ?_ (Ext.of_no (by assumption))))⟩
      · cases k3
        all_goals
          go_enter Tryz.func130, Tryz.ntmps130
          simp only [Cell.agg]
          go_wp2_with (first | (go_at_call 131; refine (HK.out _).mono ?_; rintro e w' ⟨rfl, rfl⟩) | (go_at_call 132; refine (HI.out _).mono ?_; rintro e w' ⟨rfl, rfl⟩))
          go_ret
          exact ⟨ret_bool (by simp), by (repeat' (first | exact Ext.refl _ _ | assumption | apply Ext.alloc | apply Ext.drewN | apply Ext.drew | refine Ext.setNew ?_ (by first | omega | (simp; omega) | simp) _ _ | refine Ext.setF ?_ (by first | exact Or.inl rfl | exact Or.inr rfl | rfl) _ _ | refine Ext.trans_ ?_ (by assumption) | refine Ext.trans_ ?_ (Ext.of_no (by assumption))))⟩

def sumC (cs : List Cell) : Nat := (cs.map Cell.size).sum
def sumK (ks : List Bs) : Nat := (ks.map fun k => 5 + k.length).sum
def Nd.size (n : Nd) : Nat := 2 + sumC n.cells + sumK n.keys + (if n.leaf then 0 else 4)

theorem sumC_take (cs : List Cell) (k : Nat) (c : Cell) (h : cs[k]? = some c) : sumC (cs.take (k + 1)) = sumC (cs.take k) + c.size := by
  rw [List.take_add_one, h]; simp [sumC]
theorem sumK_take (cs : List Bs) (k : Nat) (c : Bs) (h : cs[k]? = some c) : sumK (cs.take (k + 1)) = sumK (cs.take k) + (5 + c.length) := by
  rw [List.take_add_one, h]; simp [sumK]

structure Nd.fits (n : Nd) : Prop where
  c : ∀ c ∈ n.cells, c.fits
  k : ∀ k ∈ n.keys, k.length < 65536
  i : ∀ i ∈ n.kids, i < 4294967296

theorem size_bound {c : Cell} (h : c.fits) : c.size < 131100 := by
  obtain ⟨h1, h2, _, _⟩ := h
  unfold Cell.size; split <;> omega
theorem sumC_bound (cs : List Cell) (h : ∀ c ∈ cs, c.fits) : sumC cs ≤ cs.length * 131100 := by
  induction cs with
  | nil => simp [sumC]
  | cons c cs ih =>
    have h1 := size_bound (h c (by simp))
    have h2 := ih (fun c hc => h c (by simp [hc]))
    simp only [sumC, List.map_cons, List.sum_cons, List.length_cons] at *
    omega
theorem sumK_bound (cs : List Bs) (h : ∀ k ∈ cs, k.length < 65536) : sumK cs ≤ cs.length * 65600 := by
  induction cs with
  | nil => simp [sumK]
  | cons c cs ih =>
    have h1 := h c (by simp)
    have h2 := ih (fun c hc => h c (by simp [hc]))
    simp only [sumK, List.map_cons, List.sum_cons, List.length_cons] at *
    omega

set_option maxRecDepth 100000 in
set_option maxHeartbeats 800000 in
theorem size_any (n : Nd) (w : World) (F : Nat → Prop) (A1 : Option Addr) (c1 : Nat) (A2 : Option Addr) (c2 : Nat) (A3 : Option Addr) (c3 : Nat) (hn : NodeAt w F A1 c1 A2 c2 A3 c3 n) (hf : n.fits) :
    Calls Tryz.prog 181 #[n.value A1 c1 A2 c2 A3 c3] w fun e w' => e = .returned (.int .i64 (n.size : Int)) ∧ Ext No w w' := by
  have HL := Lib.hid (fun c w hk hv => length_any c w hk hv)
  have hb1 := hn.b1
  have hb2 := hn.b2
  go_enter Tryz.func181, Tryz.ntmps181
  simp only [Nd.value]
  go_wp2
  go_loopw [3, 11] (fun s i wr => ∃ k : Nat, k ≤ n.cells.length ∧ i = .int .i64 (k : Int) ∧ s = .int .i64 ((2 + sumC (n.cells.take k) : Nat) : Int) ∧ Ext No (w.alloc (.cells #[.bool n.leaf, .slice A1 n.cells.length c1, .slice A2 n.keys.length c2, .slice A3 n.kids.length c3] 40)) wr) (fun _ i _ => n.cells.length - (intOf i).toNat)
  case atStart => exact ⟨0, Nat.zero_le _, rfl, by simp [sumC], Ext.refl _ _⟩
  case round =>
    obtain ⟨k, hk, rfl, rfl, hE⟩ := hrel
    have bb := (Blk.new w 40 #[.bool n.leaf, .slice A1 n.cells.length c1, .slice A2 n.keys.length c2, .slice A3 n.kids.length c3]).ext hE (fun h => h)
    by_cases hlt : k < n.cells.length
    · obtain ⟨c, hc⟩ : ∃ c, n.cells[k]? = some c := ⟨_, List.getElem?_eq_getElem hlt⟩
      have hcf := hf.c c (List.mem_of_getElem? hc)
      have hst := Lib.hid (sumC_take _ _ _ hc)
      have hsb := sumC_bound _ (fun c hc => hf.c c (List.mem_of_mem_take hc) : ∀ c ∈ n.cells.take k, c.fits)
      have hln : (n.cells.take k).length ≤ k := List.length_take_le _ _
      have hszc := size_bound hcf
      obtain ⟨b, o, hA, _, e0, e1, e2, e3⟩ := (hn.cells.ext (((Ext.refl _ w).alloc _).trans_ hE.of_no)).cellAt hc
      subst hA
      generalize sumC (n.cells.take k) = sk at *
      have lt0 := World.block_lt_of_cell? wr _ e0
      obtain ⟨q1, q2, _, _⟩ := hcf
      go_wp2_with (go_at_call 175; refine (HL.out c _ (by omega) (by omega)).mono ?_; rintro e w' ⟨rfl, o, rfl⟩)
      go_roundw
      case rel => exact ⟨k + 1, by omega, by go_num, by rw [hst.out]; go_num, by (repeat' (first | exact Ext.refl _ _ | assumption | apply Ext.alloc | apply Ext.drewN | apply Ext.drew | refine Ext.setNew ?_ (by first | omega | (simp; omega) | simp) _ _ | refine Ext.setF ?_ (by first | exact Or.inl rfl | exact Or.inr rfl | rfl) _ _ | refine Ext.trans_ ?_ (by assumption) | refine Ext.trans_ ?_ (Ext.of_no (by assumption))))⟩
      case measure => simp [intOf]; omega
    · have hke : k = n.cells.length := by omega
      have k2 := bb.cell 2
      have k0 := bb.cell 0
      simp at k2 k0
      have hsb := sumC_bound _ (fun c hc => hf.c c (List.mem_of_mem_take hc) : ∀ c ∈ n.cells.take k, c.fits)
      have hln : (n.cells.take k).length ≤ k := List.length_take_le _ _
      have hst : sumC (n.cells.take k) = sumC n.cells := by rw [hke, List.take_length]
      rw [hst] at hsb ⊢
      clear hst hke
      generalize hsk : sumC n.cells = sk at *
      have HSK := Lib.hid hsk; clear hsk
      obtain ⟨wo, rfl⟩ : ∃ wo : World, wo = wr := ⟨_, rfl⟩
      go_wp2
      go_loopw [3, 23] (fun s i wr => ∃ k : Nat, k ≤ n.keys.length ∧ i = .int .i64 (k : Int) ∧ s = .int .i64 ((2 + sk + sumK (n.keys.take k) : Nat) : Int) ∧ wo = wr) (fun _ i _ => n.keys.length - (intOf i).toNat)
      case atStart => exact ⟨0, Nat.zero_le _, rfl, by simp [sumK], rfl⟩
      case round =>
        obtain ⟨j, hj, rfl, rfl, rfl⟩ := hrel
        by_cases hlt2 : j < n.keys.length
        · obtain ⟨c, hc⟩ : ∃ c, n.keys[j]? = some c := ⟨_, List.getElem?_eq_getElem hlt2⟩
          have hcf := hf.k c (List.mem_of_getElem? hc)
          have hst := Lib.hid (sumK_take _ _ _ hc)
          have hsb2 := sumK_bound _ (fun c hc => hf.k c (List.mem_of_mem_take hc) : ∀ c ∈ n.keys.take j, c.length < 65536)
          have hln2 : (n.keys.take j).length ≤ j := List.length_take_le _ _
          have hsz := str_size c
          obtain ⟨b, o, hA, _, e0⟩ := (hn.keys.ext (((Ext.refl _ w).alloc _).trans_ hE.of_no)).keyAt hc
          subst hA
          generalize sumK (n.keys.take j) = sk2 at *
          go_wp2
          go_roundw
          case rel => exact ⟨j + 1, by omega, by go_num, by rw [hst.out]; go_num, trivial⟩
          case measure => simp [intOf]; omega
        · have hje : j = n.keys.length := by omega
          have hsb2 := sumK_bound _ hf.k
          have hfin : (2 + sk + sumK (n.keys.take j) : Nat) + (if n.leaf then 0 else 4) = n.size := by rw [hje, List.take_length, ← HSK.out]; unfold Nd.size; rfl
          have hst : sumK (n.keys.take j) = sumK n.keys := by rw [hje, List.take_length]
          have HF := Lib.hid hfin
          clear hfin
          rw [hst] at HF ⊢
          clear hst hje
          generalize sumK n.keys = sk2 at *
          cases hlf : n.leaf
          all_goals
            rw [hlf] at k0 HF
            go_wp2
            go_ret
            refine ⟨ret_int ?_, by (repeat' (first | exact Ext.refl _ _ | assumption | apply Ext.alloc | apply Ext.drewN | apply Ext.drew | refine Ext.setNew ?_ (by first | omega | (simp; omega) | simp) _ _ | refine Ext.setF ?_ (by first | exact Or.inl rfl | exact Or.inr rfl | rfl) _ _ | refine Ext.trans_ ?_ (by assumption) | refine Ext.trans_ ?_ (Ext.of_no (by assumption))))⟩
            have := HF.out
            simp at this ⊢
            omega

end Go.Proofs.YtccnemmlkcmceaaGreatDoor

/- A region that draws its order, whose operations read, and whose callees make new memory alone: one walk. The class of worlds: the world with new blocks. -/
set_option linter.unusedVariables false
set_option linter.unusedSimpArgs false
namespace Go.Proofs.YtccnemmlkcmceaaGreatDoor
open Go.RowKit 

/-- A world with new blocks. -/
structure Upd (w : World) where
  x : World
  h : Ext No w x
instance (w : World) : Nonempty (Upd w) := ⟨⟨w, Ext.refl _ _⟩⟩
/-- It. -/
def up (w : World) (i : Upd w) : World := i.x

@[go_sem] theorem up_cell (w : World) (i : Upd w) (a : Addr) (h : a.block < w.heap.size) : (up w i).cell? a = w.cell? a := World.cell?_of_block (i.h.block a.block h (fun h => h))
@[go_sem] theorem up_frozen (w : World) (i : Upd w) (a : Addr) (h : a.block < w.heap.size) : (up w i).frozen? a = w.frozen? a := by
  have : (up w i).heap[a.block]? = w.heap[a.block]? := i.h.block a.block h (fun h => h)
  unfold World.frozen?
  simp only [this]

theorem wp_region_up {P : Program} {id : Nat} {Q : Exit → Act → World → Prop} {a : Act} {w : World} {l : List Oper} (hm : P.follows .mixedOrders = true) (hB : Region.lexB .any l.toArray = true)
    (h : wpQuiet P l.toArray (fun w' => ∃ i : Upd w, w' = up w i) (fun a' => ∀ w', (∃ i : Upd w, w' = up w i) → Q .normal a' w') l a) : (Code.region id l.toArray true).wp P Q a w :=
  wp_region_quiet (C := fun w' => ∃ i : Upd w, w' = up w i) hm hB ⟨⟨{ w with drawn := w.drawn + 1 }, ⟨rfl, rfl, rfl, Nat.le_refl _, fun _ _ _ => rfl⟩⟩, rfl⟩ (by simpa using h)

theorem Calls.up_of {P : Program} {f : FuncId} {args : Array Value} {w : World} {i : Upd w} {v : Value} (h : Calls P f args (up w i) fun e w' => e = .returned v ∧ Ext No (up w i) w') :
    Calls P f args (up w i) fun e w'' => e = .returned v ∧ ∃ j : Upd w, w'' = up w j :=
  h.mono fun _ w'' ⟨he, hx⟩ => ⟨he, ⟨w'', i.h.trans_ hx⟩, rfl⟩
theorem Calls.up_same {P : Program} {f : FuncId} {args : Array Value} {w : World} {i : Upd w} {v : Value} (h : Calls P f args (up w i) fun e w' => e = .returned v ∧ up w i = w') :
    Calls P f args (up w i) fun e w'' => e = .returned v ∧ ∃ j : Upd w, w'' = up w j :=
  h.mono fun _ w'' ⟨he, hx⟩ => ⟨he, i, hx.symm⟩
theorem Calls.up_drew {P : Program} {f : FuncId} {args : Array Value} {w : World} {i : Upd w} {v : Value} (h : Calls P f args (up w i) fun e w' => e = .returned v ∧ ∃ k, w' = (up w i).drewN k) :
    Calls P f args (up w i) fun e w'' => e = .returned v ∧ ∃ j : Upd w, w'' = up w j :=
  h.mono fun _ w'' ⟨he, k, hx⟩ => ⟨he, ⟨(up w i).drewN k, i.h.drewN k⟩, hx⟩
theorem up_ext (w : World) (i : Upd w) : Ext No w (up w i) := i.h

end Go.Proofs.YtccnemmlkcmceaaGreatDoor
