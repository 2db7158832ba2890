/- Proofs about the given program, joined out of the texts F2, G0, G1, G2, G3, K1, Z1, P1. -/
import Derived.Test.YtccnemmlkcmceaaGreatDoorHA6
import Derived.Lib.AppendZeros
import Derived.Laws.AppendOwnNone
import Derived.Maps.AppendAt
import Derived.Lib.SliceRun
import Derived.Laws.MakeOwn
import Derived.Laws.IdiomStrings
import Derived.Deep.LoopGhost
import Derived.Deep.RegionLaw
/- The order of keys; slot.Find. -/
set_option linter.unusedVariables false
set_option linter.unusedSimpArgs false
namespace Go.Proofs.YtccnemmlkcmceaaGreatDoor
open Go.RowKit 

theorem klt_cons (x y : UInt8) (a b : Bs) : klt (x :: a) (y :: b) = (decide (x < y) || (x == y && klt a b)) := rfl
theorem klt_nil_right (a : Bs) : klt a [] = false := by cases a <;> rfl
theorem klt_nil_left (y : UInt8) (b : Bs) : klt [] (y :: b) = true := rfl
theorem klt_irrefl (a : Bs) : klt a a = false := by
  induction a with
  | nil => rfl
  | cons x a ih => rw [klt_cons, ih]; simp
theorem klt_trans {a b c : Bs} (h1 : klt a b = true) (h2 : klt b c = true) : klt a c = true := by
  induction a generalizing b c with
  | nil =>
    match b, c, h1, h2 with
    | [], _, h1, _ => cases h1
    | _ :: _, [], _, h2 => cases h2
    | _ :: _, _ :: _, _, _ => rfl
  | cons x a ih =>
    match b, c, h1, h2 with
    | [], _, h1, _ => cases h1
    | _ :: _, [], _, h2 => cases h2
    | y :: b, z :: c, h1, h2 =>
      rw [klt_cons] at *
      simp only [Bool.or_eq_true, decide_eq_true_eq, Bool.and_eq_true, beq_iff_eq] at *
      rcases h1 with h1 | ⟨rfl, h1⟩
      · rcases h2 with h2 | ⟨rfl, h2⟩
        · left; rw [UInt8.lt_iff_toNat_lt] at *; omega
        · left; exact h1
      · rcases h2 with h2 | ⟨rfl, h2⟩
        · left; exact h2
        · exact .inr ⟨rfl, ih h1 h2⟩
theorem klt_tri (a b : Bs) (h1 : klt a b = false) (h2 : klt b a = false) : a = b := by
  induction a generalizing b with
  | nil =>
    match b, h1 with
    | [], _ => rfl
    | _ :: _, h1 => cases h1
  | cons x a ih =>
    match b, h1, h2 with
    | [], _, h2 => cases h2
    | y :: b, h1, h2 =>
      rw [klt_cons] at *
      simp only [Bool.or_eq_false_iff, decide_eq_false_iff_not, Bool.and_eq_false_imp, beq_iff_eq] at *
      have := u8_tri x y h1.1 h2.1
      subst this
      rw [ih b (h1.2 rfl) (h2.2 rfl)]
theorem klt_asymm {a b : Bs} (h : klt a b = true) : klt b a = false := by
  cases h2 : klt b a
  · rfl
  · have := klt_trans h h2; rw [klt_irrefl] at this; cases this
theorem klt_ne {a b : Bs} (h : klt a b = true) : a ≠ b := by
  rintro rfl; rw [klt_irrefl] at h; cases h
/-- Not less, less. -/
theorem kle_trans {a b c : Bs} (h1 : klt b a = false) (h2 : klt b c = true) : klt a c = true := by
  cases h : klt a b
  · have := klt_tri a b h h1; subst this; exact h2
  · exact klt_trans h h2

/-- Keys in order. -/
abbrev Sorted (ks : List Bs) : Prop := ks.Pairwise fun a b => klt a b = true

/-- How many keys of an ordered list are ahead of a key. -/
def rank (ks : List Bs) (key : Bs) : Nat := (ks.takeWhile fun k => klt k key).length

theorem rank_le (ks : List Bs) (key : Bs) : rank ks key ≤ ks.length := by
  unfold rank
  exact (List.takeWhile_prefix _).length_le
theorem Place.of_sorted {ks : List Bs} (h : Sorted ks) (key : Bs) : Place ks key (rank ks key) := by
  refine ⟨rank_le _ _, ?_⟩
  induction ks with
  | nil => intro j k hj; simp at hj
  | cons x ks ih =>
    rw [Sorted, List.pairwise_cons] at h
    intro j k hj
    cases hx : klt x key
    · have hr : rank (x :: ks) key = 0 := by simp [rank, hx]
      rw [hr]
      match j, hj with
      | 0, hj => simp at hj; subst hj; rw [hx]; rfl
      | j + 1, hj =>
        have hk := List.mem_of_getElem? (by simpa using hj : ks[j]? = some k)
        have := h.1 k hk
        cases hkk : klt k key
        · rfl
        · have := klt_trans this hkk; rw [hx] at this; cases this
    · have hr : rank (x :: ks) key = rank ks key + 1 := by simp [rank, hx]
      rw [hr]
      match j, hj with
      | 0, hj => simp at hj; subst hj; rw [hx]; simp
      | j + 1, hj =>
        rw [ih h.2 j k (by simpa using hj)]
        simp

theorem sorted_okK (ks : List Bs) : ∀ k, k ≤ ks.length → okK ks k = true → Sorted (ks.take k)
  | 0, _, _ => by simp
  | k + 1, hk, h => by
    simp only [okK, Bool.and_eq_true] at h
    have ih := sorted_okK ks k (by omega) h.1
    obtain ⟨x, hx⟩ : ∃ x, ks[k]? = some x := ⟨_, List.getElem?_eq_getElem (by omega)⟩
    have h2 := h.2
    rw [hx] at h2
    simp only [Bool.and_eq_true] at h2
    rw [List.take_add_one, hx, Sorted, List.pairwise_append]
    refine ⟨ih, by simp, ?_⟩
    intro a ha b hb
    simp at hb
    subst hb
    match k, h2.2, ih, ha with
    | 0, _, _, ha => simp at ha
    | j + 1, h3, ih, ha =>
      obtain ⟨y, hj⟩ : ∃ y, ks[j]? = some y := ⟨_, List.getElem?_eq_getElem (by omega)⟩
      simp only [hj] at h3
      rw [List.take_add_one, hj, Sorted, List.pairwise_append] at ih
      rw [List.take_add_one, hj] at ha
      rcases List.mem_append.1 ha with ha | ha
      · exact klt_trans (ih.2.2 a ha _ (by simp)) h3
      · simp at ha; subst ha; exact h3
theorem sorted_okC (cs : List Cell) : ∀ k, k ≤ cs.length → okC cs k = true → Sorted ((cs.take k).map Cell.key)
  | 0, _, _ => by simp
  | k + 1, hk, h => by
    simp only [okC, Bool.and_eq_true] at h
    have ih := sorted_okC cs k (by omega) h.1
    obtain ⟨x, hx⟩ : ∃ x, cs[k]? = some x := ⟨_, List.getElem?_eq_getElem (by omega)⟩
    have h2 := h.2
    rw [hx] at h2
    simp only [Bool.and_eq_true] at h2
    rw [List.take_add_one, hx, Sorted, List.map_append, List.pairwise_append]
    refine ⟨ih, by simp, ?_⟩
    intro a ha b hb
    simp at hb
    subst hb
    match k, h2.2, ih, ha with
    | 0, _, _, ha => simp at ha
    | j + 1, h3, ih, ha =>
      obtain ⟨y, hj⟩ : ∃ y, cs[j]? = some y := ⟨_, List.getElem?_eq_getElem (by omega)⟩
      simp only [hj] at h3
      rw [List.take_add_one, hj, Sorted, List.map_append, List.pairwise_append] at ih
      rw [List.take_add_one, hj, List.map_append] at ha
      rcases List.mem_append.1 ha with ha | ha
      · exact klt_trans (ih.2.2 a ha _ (by simp)) h3
      · simp at ha; subst ha; exact h3

theorem Nd.Ok.sortedK {n : Nd} (h : n.ok = true) : Sorted n.keys := by
  unfold Nd.ok at h
  simp only [Bool.and_eq_true] at h
  have := sorted_okK n.keys _ (Nat.le_refl _) h.1.2
  rwa [List.take_length] at this
theorem Nd.Ok.sortedC {n : Nd} (h : n.ok = true) : Sorted (n.cells.map Cell.key) := by
  unfold Nd.ok at h
  simp only [Bool.and_eq_true] at h
  have := sorted_okC n.cells _ (Nat.le_refl _) h.1.1.2
  rwa [List.take_length] at this

/-- What Find tells. -/
def Nd.find (n : Nd) (key : Bs) : Nat × Bool :=
  if n.leaf then (rank (n.cells.map Cell.key) key, decide ((n.cells[rank (n.cells.map Cell.key) key]?).map Cell.key = some key))
  else (rank n.keys key + (if n.keys[rank n.keys key]? = some key then 1 else 0), decide (n.keys[rank n.keys key]? = some key))

set_option maxRecDepth 100000 in
set_option maxHeartbeats 800000 in
theorem find_any (n : Nd) (key : Bs) (w : World) (F : Nat → Prop) (A1 : Option Addr) (c1 : Nat) (A2 : Option Addr) (c2 : Nat) (A3 : Option Addr) (c3 : Nat) (hn : NodeAt w F A1 c1 A2 c2 A3 c3 n)
    (h1 : n.leaf = true → Sorted (n.cells.map Cell.key)) (h2 : n.leaf = false → Sorted n.keys) :
    Calls Tryz.prog 95 #[n.value A1 c1 A2 c2 A3 c3, .string (str key)] w fun e w' => e = .returned (.tuple #[.int .i64 ((n.find key).1 : Int), .bool (n.find key).2]) ∧ Ext No w w' := by
  cases hlf : n.leaf
  · have HB := Lib.hid (fun w h => bs_any n.keys key _ (Place.of_sorted (h2 hlf) key) w F A2 c2 h hn.b2 hn.l2)
    have hf : n.find key = (rank n.keys key + (if n.keys[rank n.keys key]? = some key then 1 else 0), decide (n.keys[rank n.keys key]? = some key)) := by simp [Nd.find, hlf]
    rw [hf]
    have hrl := rank_le n.keys key
    have hb2 := hn.b2
    have HK := Lib.hid hn.keys
    generalize rank n.keys key = i at HB hrl
    by_cases he : n.keys[i]? = some key
    · rw [if_pos he]
      have hd : decide (n.keys[i]? = some key) = true := by simpa using he
      rw [hd] at HB ⊢
      simp only [Nd.value, hlf]
      clear he hd hf hlf hn h1 h2
      go_enter Tryz.func95, Tryz.ntmps95
      go_wp2_with fail
      refine (HB.out _ (HK.out.ext ((Ext.refl _ w).alloc _))).mono ?_
      rintro e w1 ⟨rfl, hx⟩
      go_wp2_with fail
      go_ret2
      exact ⟨by go_num, ((Ext.refl No w).alloc _).trans_ hx⟩
    · rw [if_neg he]
      have hd : decide (n.keys[i]? = some key) = false := by simpa using he
      rw [hd] at HB ⊢
      simp only [Nd.value, hlf]
      clear he hd hf hlf hn h1 h2
      go_enter Tryz.func95, Tryz.ntmps95
      go_wp2_with fail
      refine (HB.out _ (HK.out.ext ((Ext.refl _ w).alloc _))).mono ?_
      rintro e w1 ⟨rfl, hx⟩
      go_wp2_with fail
      go_ret2
      exact ⟨rfl, ((Ext.refl No w).alloc _).trans_ hx⟩
  · have HB := Lib.hid (fun w h => bsf_any n.cells key _ (Place.of_sorted (h1 hlf) key) w F A1 c1 h hn.b1 hn.l1)
    have hf : n.find key = (rank (n.cells.map Cell.key) key, decide ((n.cells[rank (n.cells.map Cell.key) key]?).map Cell.key = some key)) := by simp [Nd.find, hlf]
    rw [hf]
    have HK := Lib.hid hn.cells
    generalize rank (n.cells.map Cell.key) key = i at HB
    generalize decide ((n.cells[i]?).map Cell.key = some key) = d at HB
    simp only [Nd.value, hlf]
    clear hf hlf hn h1 h2
    go_enter Tryz.func95, Tryz.ntmps95
    go_wp2_with fail
    refine (HB.out _ (HK.out.ext ((Ext.refl _ w).alloc _))).mono ?_
    rintro e w1 ⟨rfl, hx⟩
    go_wp2_with fail
    go_ret2
    exact ⟨rfl, ((Ext.refl No w).alloc _).trans_ hx⟩

end Go.Proofs.YtccnemmlkcmceaaGreatDoor

/- append of a slice that was there, to a row of the call's own; slices.Grow of nil; slices.Concat. -/
set_option linter.unusedVariables false
set_option linter.unusedSimpArgs false
namespace Go.Proofs.YtccnemmlkcmceaaGreatDoor
open Go.RowKit 

theorem run_append_rd {w : World} (t ty : TypeId) (base : Nat) (e : TypeId) (i : TypeInfo) (z : Value) (size bytes : Nat) (ht : Tryz.prog.underlying t = some (.slice e)) (hi : Tryz.prog.info? e = some i) (hz : i.zero = some z)
    (hsize : i.size = size) (hby : i.bytes = bytes) (hzs : z.cells.size = size) (hsz : 0 < size) (v : Value) (n : Nat) (xs : List Value) (hown : w.ownsRow base e size v n xs)
    (F : Nat → Prop) (A : Option Addr) (m c : Nat) (news : List Value) (hr : Rd w F size A m news) (hnil : A = none → c = 0) (h1 : ∀ u ∈ news, u.oneCell' = true) (h63 : n + m ≤ maxLen) (hbytes : (n + m) * bytes ≤ 140737488355328) (hbase : base ≤ w.heap.size) :
    ∃ v' w', (Builtin.append_ #[t, t] ty #[v, .slice A m c]).run Tryz.prog w = .ok v' w' ∧ w'.ownsRow base e size v' (n + m) (xs ++ news) ∧ w.grownBy w' v.ownBlock := by
  have go : ∀ ad, A = some ad → (∀ j u, news[j]? = some u → w.cell? (ad.add j) = some u) → ∃ v' w', (Builtin.append_ #[t, t] ty #[v, .slice A m c]).run Tryz.prog w = .ok v' w' ∧ w'.ownsRow base e size v' (n + m) (xs ++ news) ∧ w.grownBy w' v.ownBlock := by
    rintro ad rfl hnews
    obtain ⟨v', w', hrun, h2, h3, _, _⟩ := run_append_own_at (P := Tryz.prog) w base t ty e i z size bytes ht hi hz hsize hby hzs hsz v n xs hown ad m c news hr.1 hnews h1 h63 hbytes hbase
    exact ⟨v', w', hrun, h2, h3⟩
  rcases Nat.eq_zero_or_pos m with hm | hm
  · have hn0 : news = [] := List.eq_nil_of_length_eq_zero (by rw [hr.1, hm, Nat.zero_mul])
    cases A with
    | none =>
      have hc := hnil rfl
      subst hm; subst hc; subst hn0
      exact ⟨v, w, run_append_owned_none (P := Tryz.prog) (w := w) base t ty e i size ht hi v n xs hown, by simpa using hown, ⟨rfl, rfl, rfl, Nat.le_refl _, fun _ _ _ => rfl⟩⟩
    | some ad => exact go ad rfl (fun j u hu => by rw [hn0] at hu; simp at hu)
  · obtain ⟨b, o, hA, _, hc⟩ := hr.2 hm
    refine go _ hA (fun j u hu => ?_)
    have hadd : (⟨b, o, none⟩ : Addr).add j = ⟨b, o + j, none⟩ := by
      unfold Addr.add; split
      · rename_i h; have : j = 0 := by simpa using h
        subst this; rfl
      · rfl
    rw [hadd]; exact hc j u hu

theorem own_form {w : World} {base : Nat} {e : TypeId} {sz n : Nat} {v : Value} {xs : List Value} (h : w.ownsRow base e sz v n xs) : ∃ A c, v = .slice A n c := by
  rcases h.2 with ⟨rfl, rfl⟩ | ⟨g, cap, cur, rfl, _⟩
  · exact ⟨none, 0, rfl⟩
  · exact ⟨_, _, rfl⟩
theorem own_bounds {w : World} {base : Nat} {e : TypeId} {sz n : Nat} {v : Value} {xs : List Value} (h : w.ownsRow base e sz v n xs) {F : Nat → Prop} {B : Nat} (hB : B ≤ base) : ∀ g', v.ownBlock = some g' → F g' ∨ B ≤ g' := by
  intro g' e'
  have := h.lt g' e'
  exact .inr (by omega)

/-- What Grow, Concat, Clone hand back: a row of the call's own. -/
def Row (e : TypeId) (sz : Nat) (w : World) (xs : List Value) (n : Nat) (en : Ending) (w' : World) : Prop :=
  ∃ A c, en = .returned (.slice A n c) ∧ w'.ownsRow w.heap.size e sz (.slice A n c) n xs ∧ Ext No w w'

/-- A part of what is joined. -/
structure Part where
  A : Option Addr
  n : Nat
  c : Nat
  xs : List Value
structure Part.Ok (w : World) (sz : Nat) (p : Part) : Prop where
  rd : Rd w No sz p.A p.n p.xs
  e : p.A = none → p.c = 0
  one : ∀ u ∈ p.xs, u.oneCell' = true
  cap : p.n ≤ p.c
def Part.v (p : Part) : Value := .slice p.A p.n p.c
def total (ps : List Part) : Nat := (ps.map Part.n).sum
def joined (ps : List Part) : List Value := ps.flatMap Part.xs
theorem total_take (ps : List Part) (k : Nat) (p : Part) (h : ps[k]? = some p) : total (ps.take (k + 1)) = total (ps.take k) + p.n := by
  rw [List.take_add_one, h]; simp [total]
theorem joined_take (ps : List Part) (k : Nat) (p : Part) (h : ps[k]? = some p) : joined (ps.take (k + 1)) = joined (ps.take k) ++ p.xs := by
  rw [List.take_add_one, h]; simp [joined]
theorem total_le (ps : List Part) : ∀ k, total (ps.take k) ≤ total ps := by
  induction ps with
  | nil => intro k; simp
  | cons p ps ih =>
    intro k
    match k with
    | 0 => simp [total]
    | k + 1 => have := ih k; simp only [total, List.take_succ_cons, List.map_cons, List.sum_cons] at *; omega

end Go.Proofs.YtccnemmlkcmceaaGreatDoor

/- slices.Grow of nil, slices.Concat: of strings. -/
set_option linter.unusedVariables false
set_option linter.unusedSimpArgs false
namespace Go.Proofs.YtccnemmlkcmceaaGreatDoor
open Go.RowKit 

set_option maxRecDepth 100000 in
set_option maxHeartbeats 400000 in
theorem grow_strings (n : Nat) (w : World) (hn : n < 100000) :
    Calls Tryz.prog 176 #[.slice none 0 0, .int .i64 (n : Int)] w (Row 9 1 w [] 0) := by
  obtain ⟨i0, hti, htz0, htz1, htz2⟩ := info_parts Tryz.info9
  by_cases h0 : n = 0
  · subst h0
    go_enter Tryz.func176, Tryz.ntmps176
    go_wp2_with fail
    go_ret
    exact ⟨none, 0, rfl, World.ownsRow_nil _ _ _ _, Ext.refl _ _⟩
  · have hp : 0 < n := by omega
    have hrun := fun (w : World) => Lib.run_append_nil_zeros (P := Tryz.prog) w 38 3 38 9 i0 _ .i64 .i64 Tryz.underlying38 Tryz.underlying3 hti htz0 n hp (by omega) (by omega) (by rw [htz2]; omega)
    have hge := grownCap_ge w n 0 9
    have hle := grownCap_le_maxLen w n 0 9 (by unfold maxLen; omega)
    have HG := Lib.hid hge
    have HR := Lib.hid hrun
    have HL := Lib.hid hle
    unfold maxLen at hle
    clear hrun h0
    generalize hcap : grownCap w n 0 9 = cp at hge hle
    have hcp : (0 : Int) ≤ (cp : Int) := by omega
    go_enter Tryz.func176, Tryz.ntmps176
    go_wp2_with (at_builtin; refine Lib.wpList_append_run _ rfl (.tmp 20) (.tmp 21) 38 3 rfl _ _ rfl rfl _ _ (HR.out _) ?_)
    go_ret
    refine ⟨some ⟨w.heap.size, 0, none⟩, cp, rfl, ⟨by simp, .inr ⟨w.heap.size, cp, _, rfl, Nat.le_refl _, heap_alloc_new w _, by omega, by rw [← hcap]; exact HL.out, ?_, by simp⟩⟩, ((Ext.refl No w).alloc _).drew⟩
    rw [Array.size_append, size_zeroCells, size_zeroCells]
    show n * 1 + (cp - n) * 1 = cp * 1
    omega

set_option maxRecDepth 100000 in
set_option maxHeartbeats 800000 in
theorem concat_strings (ps : List Part) (b m cap : Nat) (w : World) (hm : ps.length = m) (hps : ∀ p ∈ ps, p.Ok w 1) (hsum : total ps < 100000) (hml : m < 100) (hmc : m ≤ cap)
    (hc : ∀ j p, ps[j]? = some p → w.cell? ⟨b, j, none⟩ = some p.v) :
    Calls Tryz.prog 135 #[.slice (some ⟨b, 0, none⟩) m cap] w (Row 9 1 w (joined ps) (total ps)) := by
  obtain ⟨i0, hti, htz0, htz1, htz2⟩ := info_parts Tryz.info9
  have HP := Lib.hid hps; have HC := Lib.hid hc; have HM := Lib.hid hm
  have HGR := Lib.hid (fun w => grow_strings (total ps) w hsum)
  have HT := Lib.hid (fun k => total_le ps k)
  clear hps hc hm
  go_enter Tryz.func135, Tryz.ntmps135
  go_wp2_with fail
  go_loopg [3, 11] m (fun gk s i wr => ∃ (k : Nat), k + gk = m ∧ i = .int .i64 (k : Int) ∧ s = .int .i64 (total (ps.take k) : Int) ∧ w = wr)
  case atStart => exact ⟨0, by omega, rfl, rfl, rfl⟩
  case round =>
    obtain ⟨k, hk0, rfl, rfl, rfl⟩ := hrel
    have HK0 := Lib.hid hk0
    have hk : k ≤ m := by omega
    clear hk0
    have ht := HT.out k
    by_cases hlt : k < m
    · obtain ⟨p, hp⟩ : ∃ p, ps[k]? = some p := ⟨_, List.getElem?_eq_getElem (by rw [HM.out]; exact hlt)⟩
      have e0 := HC.out k p hp
      have HE := Lib.hid (total_take ps k p hp)
      have ht2 := HT.out (k + 1)
      rw [HE.out] at ht2
      generalize total (ps.take k) = s0 at ht ht2 HE ⊢
      clear hp
      unfold Part.v at e0
      go_wp2_with fail
      go_roundg (gk - 1)
      case rel => exact ⟨k + 1, by have := HK0.out; omega, by go_num, by rw [HE.out]; go_num, rfl⟩
      case measure => have := HK0.out; omega
    · have hke : k = m := by omega
      have htk : total (ps.take k) = total ps := by rw [hke, ← HM.out, List.take_length]
      rw [htk]
      clear htk hke ht
      go_wp2_with fail
      refine (HGR.out _).mono ?_
      rintro e w1 ⟨A, c, rfl, hown0, hx⟩
      have HO0 := Lib.hid hown0; have HX := Lib.hid hx
      have hsz := hx.size
      clear hown0 hx
      go_wp2_with fail
      go_loopg [6, 27] m (fun gk v i wr => ∃ (k : Nat), k + gk = m ∧ i = .int .i64 (k : Int) ∧ wr.ownsRow w.heap.size 9 1 v (total (ps.take k)) (joined (ps.take k)) ∧ Ext No w wr)
      case atStart => exact ⟨0, by omega, rfl, by simpa [total, joined] using HO0.out, HX.out⟩
      case round =>
        obtain ⟨k, hk0, rfl, hown, hE⟩ := hrel
        have HK0 := Lib.hid hk0; have HO := Lib.hid hown; have HE := Lib.hid hE
        have hk : k ≤ m := by omega
        have hsz := hE.size
        clear hk0 hown hE
        have ht := HT.out k
        by_cases hlt : k < m
        · obtain ⟨p, hp⟩ : ∃ p, ps[k]? = some p := ⟨_, List.getElem?_eq_getElem (by rw [HM.out]; exact hlt)⟩
          have e0 := cell_ext HE.out (HC.out k p hp) (fun h => h)
          have HE1 := Lib.hid (total_take ps k p hp)
          have HE2 := Lib.hid (joined_take ps k p hp)
          have ht2 := HT.out (k + 1)
          have hpo := HP.out p (List.mem_of_getElem? hp)
          rw [HE1.out] at ht2
          unfold Part.v at e0
          clear hp
          obtain ⟨v', w2, hrun, hown2, hg⟩ := run_append_rd 38 38 w.heap.size 9 i0 _ 1 16 Tryz.underlying38 hti htz0 htz1 htz2 rfl (by decide) _ _ _ HO.out No p.A p.n p.c p.xs (hpo.rd.ext HE.out) hpo.e hpo.one (by unfold maxLen; omega) (by omega) hsz
          have HO2 := Lib.hid hown2; have HG := Lib.hid hg; have HRN := Lib.hid hrun
          clear hown2 hg hpo hrun
          go_wp2_with (at_builtin; refine Lib.wpList_append_run _ rfl (.tmp 31) (.tmp 32) 38 38 rfl _ _ rfl rfl _ _ HRN.out ?_)
          go_wp2_with fail
          go_roundg (gk - 1)
          case rel => exact ⟨k + 1, by have := HK0.out; omega, by go_num, by rw [HE1.out, HE2.out]; exact HO2.out, HE.out.grown HG.out (own_bounds HO.out (Nat.le_refl _))⟩
          case measure => have := HK0.out; omega
        · have hke : k = m := by omega
          have HKE := Lib.hid hke
          obtain ⟨A', c', hv⟩ := own_form HO.out
          subst hv
          clear hke ht
          go_wp2_with fail
          go_ret
          have hT := HO.out
          have e1 : ps.take k = ps := by rw [HKE.out, ← HM.out, List.take_length]
          rw [e1] at hT ⊢
          exact ⟨A', c', rfl, hT, HE.out⟩

end Go.Proofs.YtccnemmlkcmceaaGreatDoor

/- slices.Grow of nil, slices.Concat: of cells. -/
set_option linter.unusedVariables false
set_option linter.unusedSimpArgs false
namespace Go.Proofs.YtccnemmlkcmceaaGreatDoor
open Go.RowKit 

set_option maxRecDepth 100000 in
set_option maxHeartbeats 400000 in
theorem grow_cells (n : Nat) (w : World) (hn : n < 100000) :
    Calls Tryz.prog 187 #[.slice none 0 0, .int .i64 (n : Int)] w (Row 45 4 w [] 0) := by
  obtain ⟨i0, hti, htz0, htz1, htz2⟩ := info_parts Tryz.info45
  by_cases h0 : n = 0
  · subst h0
    go_enter Tryz.func187, Tryz.ntmps187
    go_wp2_with fail
    go_ret
    exact ⟨none, 0, rfl, World.ownsRow_nil _ _ _ _, Ext.refl _ _⟩
  · have hp : 0 < n := by omega
    have hrun := fun (w : World) => Lib.run_append_nil_zeros (P := Tryz.prog) w 37 3 37 45 i0 _ .i64 .i64 Tryz.underlying37 Tryz.underlying3 hti htz0 n hp (by omega) (by omega) (by rw [htz2]; omega)
    have hge := grownCap_ge w n 0 45
    have hle := grownCap_le_maxLen w n 0 45 (by unfold maxLen; omega)
    have HG := Lib.hid hge
    have HR := Lib.hid hrun
    have HL := Lib.hid hle
    unfold maxLen at hle
    clear hrun h0
    generalize hcap : grownCap w n 0 45 = cp at hge hle
    have hcp : (0 : Int) ≤ (cp : Int) := by omega
    go_enter Tryz.func187, Tryz.ntmps187
    go_wp2_with (at_builtin; refine Lib.wpList_append_run _ rfl (.tmp 20) (.tmp 21) 37 3 rfl _ _ rfl rfl _ _ (HR.out _) ?_)
    go_ret
    refine ⟨some ⟨w.heap.size, 0, none⟩, cp, rfl, ⟨by simp, .inr ⟨w.heap.size, cp, _, rfl, Nat.le_refl _, heap_alloc_new w _, by omega, by rw [← hcap]; exact HL.out, ?_, by simp⟩⟩, ((Ext.refl No w).alloc _).drew⟩
    rw [Array.size_append, size_zeroCells, size_zeroCells]
    show n * 4 + (cp - n) * 4 = cp * 4
    omega

set_option maxRecDepth 100000 in
set_option maxHeartbeats 800000 in
theorem concat_cells (ps : List Part) (b m cap : Nat) (w : World) (hm : ps.length = m) (hps : ∀ p ∈ ps, p.Ok w 4) (hsum : total ps < 100000) (hml : m < 100) (hmc : m ≤ cap)
    (hc : ∀ j p, ps[j]? = some p → w.cell? ⟨b, j, none⟩ = some p.v) :
    Calls Tryz.prog 147 #[.slice (some ⟨b, 0, none⟩) m cap] w (Row 45 4 w (joined ps) (total ps)) := by
  obtain ⟨i0, hti, htz0, htz1, htz2⟩ := info_parts Tryz.info45
  have HP := Lib.hid hps; have HC := Lib.hid hc; have HM := Lib.hid hm
  have HGR := Lib.hid (fun w => grow_cells (total ps) w hsum)
  have HT := Lib.hid (fun k => total_le ps k)
  clear hps hc hm
  go_enter Tryz.func147, Tryz.ntmps147
  go_wp2_with fail
  go_loopg [3, 11] m (fun gk s i wr => ∃ (k : Nat), k + gk = m ∧ i = .int .i64 (k : Int) ∧ s = .int .i64 (total (ps.take k) : Int) ∧ w = wr)
  case atStart => exact ⟨0, by omega, rfl, rfl, rfl⟩
  case round =>
    obtain ⟨k, hk0, rfl, rfl, rfl⟩ := hrel
    have HK0 := Lib.hid hk0
    have hk : k ≤ m := by omega
    clear hk0
    have ht := HT.out k
    by_cases hlt : k < m
    · obtain ⟨p, hp⟩ : ∃ p, ps[k]? = some p := ⟨_, List.getElem?_eq_getElem (by rw [HM.out]; exact hlt)⟩
      have e0 := HC.out k p hp
      have HE := Lib.hid (total_take ps k p hp)
      have ht2 := HT.out (k + 1)
      rw [HE.out] at ht2
      generalize total (ps.take k) = s0 at ht ht2 HE ⊢
      clear hp
      unfold Part.v at e0
      go_wp2_with fail
      go_roundg (gk - 1)
      case rel => exact ⟨k + 1, by have := HK0.out; omega, by go_num, by rw [HE.out]; go_num, rfl⟩
      case measure => have := HK0.out; omega
    · have hke : k = m := by omega
      have htk : total (ps.take k) = total ps := by rw [hke, ← HM.out, List.take_length]
      rw [htk]
      clear htk hke ht
      go_wp2_with fail
      refine (HGR.out _).mono ?_
      rintro e w1 ⟨A, c, rfl, hown0, hx⟩
      have HO0 := Lib.hid hown0; have HX := Lib.hid hx
      have hsz := hx.size
      clear hown0 hx
      go_wp2_with fail
      go_loopg [6, 27] m (fun gk v i wr => ∃ (k : Nat), k + gk = m ∧ i = .int .i64 (k : Int) ∧ wr.ownsRow w.heap.size 45 4 v (total (ps.take k)) (joined (ps.take k)) ∧ Ext No w wr)
      case atStart => exact ⟨0, by omega, rfl, by simpa [total, joined] using HO0.out, HX.out⟩
      case round =>
        obtain ⟨k, hk0, rfl, hown, hE⟩ := hrel
        have HK0 := Lib.hid hk0; have HO := Lib.hid hown; have HE := Lib.hid hE
        have hk : k ≤ m := by omega
        have hsz := hE.size
        clear hk0 hown hE
        have ht := HT.out k
        by_cases hlt : k < m
        · obtain ⟨p, hp⟩ : ∃ p, ps[k]? = some p := ⟨_, List.getElem?_eq_getElem (by rw [HM.out]; exact hlt)⟩
          have e0 := cell_ext HE.out (HC.out k p hp) (fun h => h)
          have HE1 := Lib.hid (total_take ps k p hp)
          have HE2 := Lib.hid (joined_take ps k p hp)
          have ht2 := HT.out (k + 1)
          have hpo := HP.out p (List.mem_of_getElem? hp)
          rw [HE1.out] at ht2
          unfold Part.v at e0
          clear hp
          obtain ⟨v', w2, hrun, hown2, hg⟩ := run_append_rd 37 37 w.heap.size 45 i0 _ 4 48 Tryz.underlying37 hti htz0 htz1 htz2 rfl (by decide) _ _ _ HO.out No p.A p.n p.c p.xs (hpo.rd.ext HE.out) hpo.e hpo.one (by unfold maxLen; omega) (by omega) hsz
          have HO2 := Lib.hid hown2; have HG := Lib.hid hg; have HRN := Lib.hid hrun
          clear hown2 hg hpo hrun
          go_wp2_with (at_builtin; refine Lib.wpList_append_run _ rfl (.tmp 31) (.tmp 32) 37 37 rfl _ _ rfl rfl _ _ HRN.out ?_)
          go_wp2_with fail
          go_roundg (gk - 1)
          case rel => exact ⟨k + 1, by have := HK0.out; omega, by go_num, by rw [HE1.out, HE2.out]; exact HO2.out, HE.out.grown HG.out (own_bounds HO.out (Nat.le_refl _))⟩
          case measure => have := HK0.out; omega
        · have hke : k = m := by omega
          have HKE := Lib.hid hke
          obtain ⟨A', c', hv⟩ := own_form HO.out
          subst hv
          clear hke ht
          go_wp2_with fail
          go_ret
          have hT := HO.out
          have e1 : ps.take k = ps := by rw [HKE.out, ← HM.out, List.take_length]
          rw [e1] at hT ⊢
          exact ⟨A', c', rfl, hT, HE.out⟩

end Go.Proofs.YtccnemmlkcmceaaGreatDoor

/- slices.Grow of nil, slices.Concat: of ints. -/
set_option linter.unusedVariables false
set_option linter.unusedSimpArgs false
namespace Go.Proofs.YtccnemmlkcmceaaGreatDoor
open Go.RowKit 

set_option maxRecDepth 100000 in
set_option maxHeartbeats 400000 in
theorem grow_ints (n : Nat) (w : World) (hn : n < 100000) :
    Calls Tryz.prog 225 #[.slice none 0 0, .int .i64 (n : Int)] w (Row 3 1 w [] 0) := by
  obtain ⟨i0, hti, htz0, htz1, htz2⟩ := info_parts Tryz.info3
  by_cases h0 : n = 0
  · subst h0
    go_enter Tryz.func225, Tryz.ntmps225
    go_wp2_with fail
    go_ret
    exact ⟨none, 0, rfl, World.ownsRow_nil _ _ _ _, Ext.refl _ _⟩
  · have hp : 0 < n := by omega
    have hrun := fun (w : World) => Lib.run_append_nil_zeros (P := Tryz.prog) w 35 3 35 3 i0 _ .i64 .i64 Tryz.underlying35 Tryz.underlying3 hti htz0 n hp (by omega) (by omega) (by rw [htz2]; omega)
    have hge := grownCap_ge w n 0 3
    have hle := grownCap_le_maxLen w n 0 3 (by unfold maxLen; omega)
    have HG := Lib.hid hge
    have HR := Lib.hid hrun
    have HL := Lib.hid hle
    unfold maxLen at hle
    clear hrun h0
    generalize hcap : grownCap w n 0 3 = cp at hge hle
    have hcp : (0 : Int) ≤ (cp : Int) := by omega
    go_enter Tryz.func225, Tryz.ntmps225
    go_wp2_with (at_builtin; refine Lib.wpList_append_run _ rfl (.tmp 20) (.tmp 21) 35 3 rfl _ _ rfl rfl _ _ (HR.out _) ?_)
    go_ret
    refine ⟨some ⟨w.heap.size, 0, none⟩, cp, rfl, ⟨by simp, .inr ⟨w.heap.size, cp, _, rfl, Nat.le_refl _, heap_alloc_new w _, by omega, by rw [← hcap]; exact HL.out, ?_, by simp⟩⟩, ((Ext.refl No w).alloc _).drew⟩
    rw [Array.size_append, size_zeroCells, size_zeroCells]
    show n * 1 + (cp - n) * 1 = cp * 1
    omega

set_option maxRecDepth 100000 in
set_option maxHeartbeats 800000 in
theorem concat_ints (ps : List Part) (b m cap : Nat) (w : World) (hm : ps.length = m) (hps : ∀ p ∈ ps, p.Ok w 1) (hsum : total ps < 100000) (hml : m < 100) (hmc : m ≤ cap)
    (hc : ∀ j p, ps[j]? = some p → w.cell? ⟨b, j, none⟩ = some p.v) :
    Calls Tryz.prog 207 #[.slice (some ⟨b, 0, none⟩) m cap] w (Row 3 1 w (joined ps) (total ps)) := by
  obtain ⟨i0, hti, htz0, htz1, htz2⟩ := info_parts Tryz.info3
  have HP := Lib.hid hps; have HC := Lib.hid hc; have HM := Lib.hid hm
  have HGR := Lib.hid (fun w => grow_ints (total ps) w hsum)
  have HT := Lib.hid (fun k => total_le ps k)
  clear hps hc hm
  go_enter Tryz.func207, Tryz.ntmps207
  go_wp2_with fail
  go_loopg [3, 11] m (fun gk s i wr => ∃ (k : Nat), k + gk = m ∧ i = .int .i64 (k : Int) ∧ s = .int .i64 (total (ps.take k) : Int) ∧ w = wr)
  case atStart => exact ⟨0, by omega, rfl, rfl, rfl⟩
  case round =>
    obtain ⟨k, hk0, rfl, rfl, rfl⟩ := hrel
    have HK0 := Lib.hid hk0
    have hk : k ≤ m := by omega
    clear hk0
    have ht := HT.out k
    by_cases hlt : k < m
    · obtain ⟨p, hp⟩ : ∃ p, ps[k]? = some p := ⟨_, List.getElem?_eq_getElem (by rw [HM.out]; exact hlt)⟩
      have e0 := HC.out k p hp
      have HE := Lib.hid (total_take ps k p hp)
      have ht2 := HT.out (k + 1)
      rw [HE.out] at ht2
      generalize total (ps.take k) = s0 at ht ht2 HE ⊢
      clear hp
      unfold Part.v at e0
      go_wp2_with fail
      go_roundg (gk - 1)
      case rel => exact ⟨k + 1, by have := HK0.out; omega, by go_num, by rw [HE.out]; go_num, rfl⟩
      case measure => have := HK0.out; omega
    · have hke : k = m := by omega
      have htk : total (ps.take k) = total ps := by rw [hke, ← HM.out, List.take_length]
      rw [htk]
      clear htk hke ht
      go_wp2_with fail
      refine (HGR.out _).mono ?_
      rintro e w1 ⟨A, c, rfl, hown0, hx⟩
      have HO0 := Lib.hid hown0; have HX := Lib.hid hx
      have hsz := hx.size
      clear hown0 hx
      go_wp2_with fail
      go_loopg [6, 27] m (fun gk v i wr => ∃ (k : Nat), k + gk = m ∧ i = .int .i64 (k : Int) ∧ wr.ownsRow w.heap.size 3 1 v (total (ps.take k)) (joined (ps.take k)) ∧ Ext No w wr)
      case atStart => exact ⟨0, by omega, rfl, by simpa [total, joined] using HO0.out, HX.out⟩
      case round =>
        obtain ⟨k, hk0, rfl, hown, hE⟩ := hrel
        have HK0 := Lib.hid hk0; have HO := Lib.hid hown; have HE := Lib.hid hE
        have hk : k ≤ m := by omega
        have hsz := hE.size
        clear hk0 hown hE
        have ht := HT.out k
        by_cases hlt : k < m
        · obtain ⟨p, hp⟩ : ∃ p, ps[k]? = some p := ⟨_, List.getElem?_eq_getElem (by rw [HM.out]; exact hlt)⟩
          have e0 := cell_ext HE.out (HC.out k p hp) (fun h => h)
          have HE1 := Lib.hid (total_take ps k p hp)
          have HE2 := Lib.hid (joined_take ps k p hp)
          have ht2 := HT.out (k + 1)
          have hpo := HP.out p (List.mem_of_getElem? hp)
          rw [HE1.out] at ht2
          unfold Part.v at e0
          clear hp
          obtain ⟨v', w2, hrun, hown2, hg⟩ := run_append_rd 35 35 w.heap.size 3 i0 _ 1 8 Tryz.underlying35 hti htz0 htz1 htz2 rfl (by decide) _ _ _ HO.out No p.A p.n p.c p.xs (hpo.rd.ext HE.out) hpo.e hpo.one (by unfold maxLen; omega) (by omega) hsz
          have HO2 := Lib.hid hown2; have HG := Lib.hid hg; have HRN := Lib.hid hrun
          clear hown2 hg hpo hrun
          go_wp2_with (at_builtin; refine Lib.wpList_append_run _ rfl (.tmp 31) (.tmp 32) 35 35 rfl _ _ rfl rfl _ _ HRN.out ?_)
          go_wp2_with fail
          go_roundg (gk - 1)
          case rel => exact ⟨k + 1, by have := HK0.out; omega, by go_num, by rw [HE1.out, HE2.out]; exact HO2.out, HE.out.grown HG.out (own_bounds HO.out (Nat.le_refl _))⟩
          case measure => have := HK0.out; omega
        · have hke : k = m := by omega
          have HKE := Lib.hid hke
          obtain ⟨A', c', hv⟩ := own_form HO.out
          subst hv
          clear hke ht
          go_wp2_with fail
          go_ret
          have hT := HO.out
          have e1 : ps.take k = ps := by rw [HKE.out, ← HM.out, List.take_length]
          rw [e1] at hT ⊢
          exact ⟨A', c', rfl, hT, HE.out⟩

end Go.Proofs.YtccnemmlkcmceaaGreatDoor

/- slices.Clone of strings, cells, ints. -/
set_option linter.unusedVariables false
set_option linter.unusedSimpArgs false
namespace Go.Proofs.YtccnemmlkcmceaaGreatDoor
open Go.RowKit 

set_option maxRecDepth 100000 in
set_option maxHeartbeats 800000 in
theorem clone_strings (p : Part) (w : World) (hp : p.Ok w 1) (hn : p.n < 100000) :
    Calls Tryz.prog 124 #[p.v] w (Row 9 1 w p.xs p.n) := by
  obtain ⟨i0, hti, htz0, htz1, htz2⟩ := info_parts Tryz.info9
  obtain ⟨A, n, c, xs⟩ := p
  have hlen := hp.rd.1
  simp only [Part.v] at hn hlen ⊢
  cases A with
  | none =>
    have hc : c = 0 := hp.e rfl
    have hn0 : n = 0 := by
      rcases Nat.eq_zero_or_pos n with h | h
      · exact h
      · obtain ⟨b, o, hA, _⟩ := hp.rd.2 h; cases hA
    subst hc; subst hn0
    have hx : xs = [] := List.eq_nil_of_length_eq_zero (by simpa using hlen)
    subst hx
    clear hp hlen
    have he := fun w => Lib.run_eql_slice_nil (P := Tryz.prog) w 38 9 none 0 0 0 0 Tryz.underlying38
    simp only [Option.isNone_none] at he
    go_enter Tryz.func124, Tryz.ntmps124
    go_wp2_with fail
    go_ret
    exact ⟨none, 0, rfl, World.ownsRow_nil _ _ _ _, Ext.refl _ _⟩
  | some ad =>
    have hx : Ext No w (w.alloc (.cells #[] 9)) := (Ext.refl No w).alloc _
    have hown0 := World.ownsRow_lit (base := w.heap.size) (e := 9) (size := 1) w #[] 0 (Nat.le_refl _) (by decide) (by simp)
    obtain ⟨v', w2, hrun, hown2, hg⟩ := run_append_rd (w := w.alloc (.cells #[] 9)) 38 38 w.heap.size 9 i0 _ 1 16 Tryz.underlying38 hti htz0 htz1 htz2 rfl (by decide) _ _ _ hown0 No (some ad) n c xs (hp.rd.ext hx) hp.e hp.one (by unfold maxLen; omega) (by omega) (by simp)
    have HO2 := Lib.hid hown2; have HG := Lib.hid hg; have HRN := Lib.hid hrun; have HX := Lib.hid hx; have HO0 := Lib.hid hown0
    clear hp hlen hown2 hg hrun hx hown0
    have he := fun w => Lib.run_eql_slice_nil (P := Tryz.prog) w 38 9 (some ad) n c 0 0 Tryz.underlying38
    simp only [Option.isNone_some] at he
    go_enter Tryz.func124, Tryz.ntmps124
    go_wp2_with (at_builtin; refine Lib.wpList_append_run _ rfl (.tmp 5) (.tmp 6) 38 38 rfl _ _ rfl rfl _ _ HRN.out ?_)
    obtain ⟨A', c', hv⟩ := own_form HO2.out
    subst hv
    go_wp2_with fail
    go_ret
    have hT := HO2.out
    simp only [Nat.zero_add, List.nil_append] at hT ⊢
    exact ⟨A', c', rfl, by simpa using hT, HX.out.grown HG.out (own_bounds HO0.out (Nat.le_refl _))⟩

set_option maxRecDepth 100000 in
set_option maxHeartbeats 800000 in
theorem clone_cells (p : Part) (w : World) (hp : p.Ok w 4) (hn : p.n < 100000) :
    Calls Tryz.prog 204 #[p.v] w (Row 45 4 w p.xs p.n) := by
  obtain ⟨i0, hti, htz0, htz1, htz2⟩ := info_parts Tryz.info45
  obtain ⟨A, n, c, xs⟩ := p
  have hlen := hp.rd.1
  simp only [Part.v] at hn hlen ⊢
  cases A with
  | none =>
    have hc : c = 0 := hp.e rfl
    have hn0 : n = 0 := by
      rcases Nat.eq_zero_or_pos n with h | h
      · exact h
      · obtain ⟨b, o, hA, _⟩ := hp.rd.2 h; cases hA
    subst hc; subst hn0
    have hx : xs = [] := List.eq_nil_of_length_eq_zero (by simpa using hlen)
    subst hx
    clear hp hlen
    have he := fun w => Lib.run_eql_slice_nil (P := Tryz.prog) w 37 45 none 0 0 0 0 Tryz.underlying37
    simp only [Option.isNone_none] at he
    go_enter Tryz.func204, Tryz.ntmps204
    go_wp2_with fail
    go_ret
    exact ⟨none, 0, rfl, World.ownsRow_nil _ _ _ _, Ext.refl _ _⟩
  | some ad =>
    have hx : Ext No w (w.alloc (.cells #[] 45)) := (Ext.refl No w).alloc _
    have hown0 := World.ownsRow_lit (base := w.heap.size) (e := 45) (size := 4) w #[] 0 (Nat.le_refl _) (by decide) (by simp)
    obtain ⟨v', w2, hrun, hown2, hg⟩ := run_append_rd (w := w.alloc (.cells #[] 45)) 37 37 w.heap.size 45 i0 _ 4 48 Tryz.underlying37 hti htz0 htz1 htz2 rfl (by decide) _ _ _ hown0 No (some ad) n c xs (hp.rd.ext hx) hp.e hp.one (by unfold maxLen; omega) (by omega) (by simp)
    have HO2 := Lib.hid hown2; have HG := Lib.hid hg; have HRN := Lib.hid hrun; have HX := Lib.hid hx; have HO0 := Lib.hid hown0
    clear hp hlen hown2 hg hrun hx hown0
    have he := fun w => Lib.run_eql_slice_nil (P := Tryz.prog) w 37 45 (some ad) n c 0 0 Tryz.underlying37
    simp only [Option.isNone_some] at he
    go_enter Tryz.func204, Tryz.ntmps204
    go_wp2_with (at_builtin; refine Lib.wpList_append_run _ rfl (.tmp 5) (.tmp 6) 37 37 rfl _ _ rfl rfl _ _ HRN.out ?_)
    obtain ⟨A', c', hv⟩ := own_form HO2.out
    subst hv
    go_wp2_with fail
    go_ret
    have hT := HO2.out
    simp only [Nat.zero_add, List.nil_append] at hT ⊢
    exact ⟨A', c', rfl, by simpa using hT, HX.out.grown HG.out (own_bounds HO0.out (Nat.le_refl _))⟩

set_option maxRecDepth 100000 in
set_option maxHeartbeats 800000 in
theorem clone_ints (p : Part) (w : World) (hp : p.Ok w 1) (hn : p.n < 100000) :
    Calls Tryz.prog 146 #[p.v] w (Row 3 1 w p.xs p.n) := by
  obtain ⟨i0, hti, htz0, htz1, htz2⟩ := info_parts Tryz.info3
  obtain ⟨A, n, c, xs⟩ := p
  have hlen := hp.rd.1
  simp only [Part.v] at hn hlen ⊢
  cases A with
  | none =>
    have hc : c = 0 := hp.e rfl
    have hn0 : n = 0 := by
      rcases Nat.eq_zero_or_pos n with h | h
      · exact h
      · obtain ⟨b, o, hA, _⟩ := hp.rd.2 h; cases hA
    subst hc; subst hn0
    have hx : xs = [] := List.eq_nil_of_length_eq_zero (by simpa using hlen)
    subst hx
    clear hp hlen
    have he := fun w => Lib.run_eql_slice_nil (P := Tryz.prog) w 35 3 none 0 0 0 0 Tryz.underlying35
    simp only [Option.isNone_none] at he
    go_enter Tryz.func146, Tryz.ntmps146
    go_wp2_with fail
    go_ret
    exact ⟨none, 0, rfl, World.ownsRow_nil _ _ _ _, Ext.refl _ _⟩
  | some ad =>
    have hx : Ext No w (w.alloc (.cells #[] 3)) := (Ext.refl No w).alloc _
    have hown0 := World.ownsRow_lit (base := w.heap.size) (e := 3) (size := 1) w #[] 0 (Nat.le_refl _) (by decide) (by simp)
    obtain ⟨v', w2, hrun, hown2, hg⟩ := run_append_rd (w := w.alloc (.cells #[] 3)) 35 35 w.heap.size 3 i0 _ 1 8 Tryz.underlying35 hti htz0 htz1 htz2 rfl (by decide) _ _ _ hown0 No (some ad) n c xs (hp.rd.ext hx) hp.e hp.one (by unfold maxLen; omega) (by omega) (by simp)
    have HO2 := Lib.hid hown2; have HG := Lib.hid hg; have HRN := Lib.hid hrun; have HX := Lib.hid hx; have HO0 := Lib.hid hown0
    clear hp hlen hown2 hg hrun hx hown0
    have he := fun w => Lib.run_eql_slice_nil (P := Tryz.prog) w 35 3 (some ad) n c 0 0 Tryz.underlying35
    simp only [Option.isNone_some] at he
    go_enter Tryz.func146, Tryz.ntmps146
    go_wp2_with (at_builtin; refine Lib.wpList_append_run _ rfl (.tmp 5) (.tmp 6) 35 35 rfl _ _ rfl rfl _ _ HRN.out ?_)
    obtain ⟨A', c', hv⟩ := own_form HO2.out
    subst hv
    go_wp2_with fail
    go_ret
    have hT := HO2.out
    simp only [Nat.zero_add, List.nil_append] at hT ⊢
    exact ⟨A', c', rfl, by simpa using hT, HX.out.grown HG.out (own_bounds HO0.out (Nat.le_refl _))⟩

end Go.Proofs.YtccnemmlkcmceaaGreatDoor

/- A new disk; what is read from it. -/
set_option linter.unusedVariables false
set_option linter.unusedSimpArgs false
namespace Go.Proofs.YtccnemmlkcmceaaGreatDoor
open Go.RowKit 

def zero64 : Array Value := Array.replicate 64 (.int .u8 0)
theorem Tryz.info142 : (Tryz.prog.info? 142).map (fun i => (i.zero, i.size, i.bytes)) = some (some (.agg zero64), 64, 64) := by kernel_rfl
theorem Tryz.underlying137' : Tryz.prog.underlying 137 = some (.slice 142) := by kernel_rfl

theorem run_make_blocks (n : Nat) (hn : n ≤ 65536) (w : World) :
    (Instr.makeSlice 137 (.int .i64 (n : Int)) (.int .i64 (n : Int))).run Tryz.prog w = .ok (.slice (some ⟨w.heap.size, 0, none⟩) n n) (w.alloc (.cells (madeCells zero64 (n * 64)) 142)) := by
  obtain ⟨i, hi, hzz⟩ := Option.map_eq_some_iff.1 Tryz.info142
  simp only [Prod.mk.injEq] at hzz
  obtain ⟨hz, hs, hb⟩ := hzz
  have hr := run_make (P := Tryz.prog) w 137 142 i (.agg zero64) Tryz.underlying137' hi hz .i64 .i64 n n (by omega) (Int.le_refl _) (by rw [hb]; omega) (by omega)
  simp only [Int.toNat_natCast, hs] at hr
  exact hr

def diskCells (kb n : Nat) : Array Value := #[.slice (some ⟨kb, 0, none⟩) n n, .slice none 0 0, .bool false, .bool false, .int .i64 0, .int .i64 0]

theorem disk_zero {w : World} {kb n : Nat} (h : Blk w kb 142 (madeCells zero64 (n * 64))) {j : Nat} (hj : j < n * 64) : w.cell? ⟨kb, j, none⟩ = some (.int .u8 0) := by
  rw [h.cell j]
  unfold madeCells
  rw [Array.getElem?_map, Array.getElem?_range, if_pos hj]
  have h1 : zero64.size = 64 := rfl
  have h2 : j % 64 < 64 := Nat.mod_lt _ (by omega)
  simp only [Option.map_some, h1]
  rw [getElem!_pos zero64 (j % 64) (by omega)]
  simp [zero64]

set_option maxHeartbeats 400000 in
theorem disk_new (n : Nat) (h1 : 1 ≤ n) (hn : n ≤ 65536) (w : World) :
    Calls Tryz.prog 44 #[.int .i64 (n : Int)] w fun e w' => e = .returned (.tuple #[.pointer (some ⟨w.heap.size + 1, 0, none⟩), .int .i64 0]) ∧
      Blk w' (w.heap.size + 1) 140 (diskCells w.heap.size n) ∧ Blk w' w.heap.size 142 (madeCells zero64 (n * 64)) ∧ w'.heap.size = w.heap.size + 2 ∧ Ext No w w' := by
  have g1 : ¬ ((n : Int) < 1) := by omega
  have g2 : ¬ ((65536 : Int) < n) := by omega
  have hmk := run_make_blocks n hn
  generalize madeCells zero64 (n * 64) = cs at *
  go_enter Tryz.func44, Tryz.ntmps44
  go_wp2_with fail
  go_ret2
  refine ⟨by simp, ?_, ?_, by simp, by (repeat' (first | exact Ext.refl _ _ | assumption | apply Ext.alloc | apply Ext.drewN | apply Ext.drew | refine Ext.setNew ?_ (by first | omega | (simp; omega) | simp) _ _ | refine Ext.setF ?_ (by first | exact Or.inl rfl | exact Or.inr rfl | rfl) _ _ | refine Ext.trans_ ?_ (by assumption) | refine Ext.trans_ ?_ (Ext.of_no (by assumption))))⟩
  · exact (show (w.alloc (.cells cs 142)).heap.size = w.heap.size + 1 by simp) ▸ Blk.new (w.alloc (.cells cs 142)) 140 _
  · exact (Blk.new w 142 cs).alloc _

theorem disk_up {w : World} {d kb n : Nat} (h : Blk w d 140 (diskCells kb n)) (hn : 1 ≤ n) :
    Calls Tryz.prog 78 #[.pointer (some ⟨d, 0, none⟩)] w fun e w' => e = .returned (.int .i64 0) ∧ w = w' := by
  have c0 := h.cell 0
  have c2 := h.cell 2
  simp [diskCells] at c0 c2
  go_enter Tryz.func78, Tryz.ntmps78
  go_wp2_with (go_at_call 79; refine (dnone_no d n _ _ c0 hn).mono ?_; rintro e w' ⟨rfl, rfl⟩)
  go_ret
  exact ⟨rfl, rfl⟩

theorem disk_is {w : World} {d kb n : Nat} (h : Blk w d 140 (diskCells kb n)) (i : Nat) (hi : i < n) :
    Calls Tryz.prog 163 #[.pointer (some ⟨d, 0, none⟩), .int .i64 (i : Int)] w fun e w' => e = .returned (.bool true) ∧ w = w' := by
  have c0 := h.cell 0
  simp [diskCells] at c0
  have h1 : (0 : Int) ≤ i := by omega
  have h2 : (i : Int) < n := by omega
  go_enter Tryz.func163, Tryz.ntmps163
  go_wp2_with fail
  go_ret
  exact ⟨rfl, rfl⟩

theorem Addr.add_none (b o j : Nat) : (⟨b, o, none⟩ : Addr).add j = ⟨b, o + j, none⟩ := by
  unfold Addr.add; split
  · rename_i h; have : j = 0 := by simpa using h
    subst this; rfl
  · rfl
/-- Noughts. -/
def zs (n : Nat) : List UInt8 := List.replicate n 0
theorem zs_len (n : Nat) : (zs n).length = n := by simp [zs]

set_option maxRecDepth 100000 in
set_option maxHeartbeats 800000 in
theorem disk_read (d kb n : Nat) (i : Nat) (hi : i < n) (hn : n ≤ 65536) (w : World) (h : Blk w d 140 (diskCells kb n)) (hk : Blk w kb 142 (madeCells zero64 (n * 64))) :
    Calls Tryz.prog 119 #[.pointer (some ⟨d, 0, none⟩), .int .i64 (i : Int)] w fun e w' => e = .returned (.tuple #[.string (str (zs 64)), .int .i64 0]) ∧ Ext No w w' := by
  have HU := Lib.hid (disk_up h (by omega))
  have HI := Lib.hid (disk_is h i hi)
  have c0 := h.cell 0
  have c1 := h.cell 1
  simp [diskCells] at c0 c1
  have hz := Lib.hid (fun j (hj : j < n * 64) => disk_zero hk hj)
  have h1 : (0 : Int) ≤ i := by omega
  have h2 : (i : Int) < n := by omega
  go_enter Tryz.func119, Tryz.ntmps119
  go_wp2_with fail
  refine (HU.out).mono ?_
  rintro e w1 ⟨rfl, rfl⟩
  go_wp2_with fail
  refine (HI.out).mono ?_
  rintro e w1 ⟨rfl, rfl⟩
  go_wp2_with fail
  go_loopg [7] 0 (fun gk k wr => k = .int .i64 (-1) ∧ w = wr)
  case atStart => exact ⟨rfl, rfl⟩
  case round =>
    obtain ⟨rfl, rfl⟩ := hrel
    have kc : (convert 98 9 (.slice (some ⟨kb, i * 64, none⟩) 64 64)).run Tryz.prog w = .ok (.string (str (zs 64))) w := by
      refine run_convert_bytes_back (P := Tryz.prog) w 98 9 5 ⟨kb, i * 64, none⟩ 64 (zs 64) Tryz.underlying98 Tryz.underlying5 Tryz.underlying9 ?_
      intro j hj
      have hj4 : j < 64 := by rw [zs_len] at hj; exact hj
      have := hz.out (i * 64 + j) (by omega)
      rw [Addr.add_none, this]
      simp only [zs, List.getElem_replicate]
      rfl
    go_wp2_with fail
    go_ret2
    exact ⟨rfl, Ext.refl _ _⟩

end Go.Proofs.YtccnemmlkcmceaaGreatDoor

/- slot.Put. -/
set_option linter.unusedVariables false
set_option linter.unusedSimpArgs false
namespace Go.Proofs.YtccnemmlkcmceaaGreatDoor
open Go.RowKit 

/-- A node handed back: it lies in new memory. -/
def Made (w : World) (n : Nd) (e : Ending) (w' : World) : Prop :=
  Ext No w w' ∧ ∃ A1 c1 A2 c2 A3 c3, e = .returned (n.value A1 c1 A2 c2 A3 c3) ∧ NodeAt w' (Old w) A1 c1 A2 c2 A3 c3 n

def Nd.put (n : Nd) (c : Cell) : Nd :=
  { n with cells := n.cells.take (n.find c.key).1 ++ c :: n.cells.drop (if (n.find c.key).2 then (n.find c.key).1 + 1 else (n.find c.key).1) }

theorem one_cells (cs : List Cell) : ∀ u ∈ cellVals cs, u.oneCell' = true := by
  intro u hu
  simp only [cellVals, List.mem_flatMap] at hu
  obtain ⟨c, _, hc⟩ := hu
  exact c.one u hc
theorem one_keys (ks : List Bs) : ∀ u ∈ keyVals ks, u.oneCell' = true := by
  intro u hu
  simp only [keyVals, List.mem_map] at hu
  obtain ⟨c, _, rfl⟩ := hu
  simp [Value.oneCell']
theorem one_kids (ks : List Nat) : ∀ u ∈ kidVals ks, u.oneCell' = true := by
  intro u hu
  simp only [kidVals, List.mem_map] at hu
  obtain ⟨c, _, rfl⟩ := hu
  simp [Value.oneCell']

theorem Rd.take {w : World} {F : Nat → Prop} {sz : Nat} {A : Option Addr} {n : Nat} {xs : List Value} (h : Rd w F sz A n xs) (k : Nat) (hk : k ≤ n) (hs : 0 < sz) : Rd w F sz A k (xs.take (k * sz)) := by
  have hm : k * sz ≤ n * sz := Nat.mul_le_mul_right sz hk
  refine ⟨by rw [List.length_take, h.1]; omega, fun h0 => ?_⟩
  obtain ⟨b, o, hA, hb, hc⟩ := h.2 (by omega)
  refine ⟨b, o, hA, hb, fun j u hu => hc j u ?_⟩
  rw [List.getElem?_take] at hu
  split at hu
  · exact hu
  · cases hu
theorem Rd.drop {w : World} {F : Nat → Prop} {sz b o n : Nat} {xs : List Value} (h : Rd w F sz (some ⟨b, o, none⟩) n xs) (k : Nat) (hk : k ≤ n) : Rd w F sz (some ⟨b, o + k * sz, none⟩) (n - k) (xs.drop (k * sz)) := by
  refine ⟨by rw [List.length_drop, h.1, Nat.sub_mul], fun h0 => ?_⟩
  obtain ⟨b', o', hA, hb, hc⟩ := h.2 (by omega)
  injection hA with hA; injection hA with h1 h2
  subst h1; subst h2
  refine ⟨b, o + k * sz, rfl, hb, fun j u hu => ?_⟩
  rw [List.getElem?_drop] at hu
  have := hc _ u hu
  rwa [← Nat.add_assoc] at this

theorem Rd.rest {w : World} {F : Nat → Prop} {sz n : Nat} {ad : Addr} {xs : List Value} (h : Rd w F sz (some ad) n xs) (k c : Nat) (hk : k ≤ n) (hc : n ≤ c) : Rd w F sz (if c = k then some ad else some (ad.add (k * sz))) (n - k) (xs.drop (k * sz)) := by
  rcases Nat.eq_zero_or_pos (n - k) with h0 | h0
  · refine ⟨by rw [List.length_drop, h.1, ← Nat.sub_mul], fun h' => absurd h' (by omega)⟩
  · rw [if_neg (by omega)]
    obtain ⟨b, o, hA, _⟩ := h.2 (by omega)
    injection hA with hA
    subst hA
    rw [Addr.add_none]
    exact h.drop k hk
theorem one_sub {xs ys : List Value} (h : ∀ u ∈ xs, u.oneCell' = true) (hs : ∀ u ∈ ys, u ∈ xs) : ∀ u ∈ ys, u.oneCell' = true := fun u hu => h u (hs u hu)

set_option maxRecDepth 100000 in
set_option maxHeartbeats 1600000 in
theorem put_any (n : Nd) (c : Cell) (w : World) (F : Nat → Prop) (A1 : Option Addr) (c1 : Nat) (A2 : Option Addr) (c2 : Nat) (A3 : Option Addr) (c3 : Nat) (hn : NodeAt w F A1 c1 A2 c2 A3 c3 n)
    (hlf : n.leaf = true) (hks : n.keys = []) (hkd : n.kids = []) (hso : Sorted (n.cells.map Cell.key)) (hlen : n.cells.length ≤ 1000) :
    Calls Tryz.prog 101 #[n.value A1 c1 A2 c2 A3 c3, c.agg] w (Made w (n.put c)) := by
  have HF := Lib.hid (fun w hn => find_any n c.key w F A1 c1 A2 c2 A3 c3 hn (fun _ => hso) (fun h => by rw [hlf] at h; cases h))
  have hi : (n.find c.key).1 ≤ n.cells.length := by
    simp only [Nd.find, hlf, if_true]
    have := rank_le (n.cells.map Cell.key) c.key
    simpa using this
  have hi2 : (n.find c.key).2 = true → (n.find c.key).1 < n.cells.length := by
    simp only [Nd.find, hlf, if_true, decide_eq_true_eq]
    intro h
    rcases Nat.lt_or_ge (rank (n.cells.map Cell.key) c.key) n.cells.length with h' | h'
    · exact h'
    · rw [List.getElem?_eq_none (by simpa using h')] at h; simp at h
  obtain ⟨lf, cs, ks, kd⟩ := n
  simp only at hlf hks hkd hi hi2 hlen
  subst hlf; subst hks; subst hkd
  unfold Nd.put
  simp only
  generalize hi0 : ((⟨true, cs, [], []⟩ : Nd).find c.key).1 = i at HF hi hi2 ⊢
  generalize hi1 : ((⟨true, cs, [], []⟩ : Nd).find c.key).2 = there at HF hi2 ⊢
  clear hi0 hi1 hso
  simp only [Nd.value, List.length_nil] at HF ⊢
  simp only [Cell.agg] at ⊢
  have HN := Lib.hid hn
  have hl1 := hn.l1
  have he1 := hn.e1
  have hb1 := hn.b1
  simp only at hl1 hb1
  clear hn
  obtain ⟨i0, hti, htz0, htz1, htz2⟩ := info_parts Tryz.info45
  obtain ⟨bh, hbh⟩ : ∃ bh, bh = if there then i + 1 else i := ⟨_, rfl⟩
  have hbl : bh ≤ cs.length := by cases there <;> simp at hbh hi2 <;> omega
  have hib : i ≤ bh := by cases there <;> simp at hbh <;> omega
  obtain ⟨L, hL⟩ : ∃ L, L = cs.take i ++ c :: cs.drop bh := ⟨_, rfl⟩
  rw [← hbh, ← hL]
  have HL := Lib.hid hL; have HBH := Lib.hid hbh
  clear hL hbh hi2
  go_enter Tryz.func101, Tryz.ntmps101
  go_wp2_with fail
  refine (HF.out _ (HN.out.ext ((((Ext.refl F w).alloc _).alloc _).alloc _))).mono ?_
  rintro e w1 ⟨rfl, hx1⟩
  have bn := (((Blk.new w 40 #[.bool true, .slice A1 cs.length c1, .slice A2 0 c2, .slice A3 0 c3]).alloc (.cells #[.string (str c.key), .string (str c.val), .int .i64 (c.over : Int), .int .i64 (c.len : Int)] 45)).alloc (.cells #[.bool false, .slice none 0 0, .slice none 0 0, .slice none 0 0] 40)).ext hx1 (fun h => h)
  have bc := ((Blk.new_at (b := w.heap.size + 1) (w.alloc (.cells #[.bool true, .slice A1 cs.length c1, .slice A2 0 c2, .slice A3 0 c3] 40)) 45 #[.string (str c.key), .string (str c.val), .int .i64 (c.over : Int), .int .i64 (c.len : Int)] (by simp)).alloc (.cells #[.bool false, .slice none 0 0, .slice none 0 0, .slice none 0 0] 40)).ext hx1 (fun h => h)
  have br := (Blk.new_at (b := w.heap.size + 1 + 1) ((w.alloc (.cells #[.bool true, .slice A1 cs.length c1, .slice A2 0 c2, .slice A3 0 c3] 40)).alloc (.cells #[.string (str c.key), .string (str c.val), .int .i64 (c.over : Int), .int .i64 (c.len : Int)] 45)) 40 #[.bool false, .slice none 0 0, .slice none 0 0, .slice none 0 0] (by simp)).ext hx1 (fun h => h)
  have hE1 : Ext No w w1 := by (repeat' (first | exact Ext.refl _ _ | assumption | apply Ext.alloc | apply Ext.drewN | apply Ext.drew | refine Ext.setNew ?_ (by first | omega | (simp; omega) | simp) _ _ | refine Ext.setF ?_ (by first | exact Or.inl rfl | exact Or.inr rfl | rfl) _ _ | refine Ext.trans_ ?_ (by assumption) | refine Ext.trans_ ?_ (Ext.of_no (by assumption))))
  go_upto_if 20 with fail
  go_cut [7] (fun v wx => v = .int .i64 (bh : Int) ∧ w1 = wx)
  case first =>
    have hb := HBH.out
    cases there
    · simp only [Bool.false_eq_true, if_false] at hb
      subst hb
      go_wp2_with fail
      go_meet
      exact ⟨rfl, rfl⟩
    · simp only [if_true] at hb
      subst hb
      go_wp2_with fail
      go_meet
      exact ⟨by go_num, rfl⟩
  case rest =>
    obtain ⟨rfl, rfl⟩ := hcut
    have lw1 := br.lt
    obtain ⟨p0, p1, p2, p3, g0, g1, g2, g3, ln⟩ := bn.p4
    obtain ⟨q0, q1, q2, q3, f0, f1, f2, f3, lc⟩ := bc.p4
    have hb4 : (bh : Int) ≤ cs.length := by omega
    have hb5 : (0 : Int) ≤ (bh : Int) := by omega
    cases A1 with
    | none =>
      have hc0 : c1 = 0 := he1 rfl
      have hcs : cs = [] := by
        rcases Nat.eq_zero_or_pos cs.length with h | h
        · exact List.eq_nil_of_length_eq_zero h
        · obtain ⟨b, o, hA, _⟩ := HN.out.cells.2 h; cases hA
      subst hcs; subst hc0
      have hi0 : i = 0 := by simp at hi; omega
      have hb0 : bh = 0 := by simp at hbl; omega
      subst hi0; subst hb0
      have HL := Lib.hid (show L = [c] by simpa using HL.out)
      simp only [List.length_nil] at p1 bn
      go_wp2_with fail
      obtain ⟨W, hW⟩ : ∃ W, W = ((w1.alloc (.cells #[.string (str c.key), .string (str c.val), .int .i64 (c.over : Int), .int .i64 (c.len : Int)] 45)).alloc (.cells #[.slice none 0 0, .slice (some ⟨w1.heap.size, 0, none⟩) 1 1, .slice none 0 0] 37)).drew := ⟨_, rfl⟩
      have hEW : Ext No w W := by rw [hW]; exact ((hE1.alloc _).alloc _).drew
      have hcb : Blk W w1.heap.size 45 #[.string (str c.key), .string (str c.val), .int .i64 (c.over : Int), .int .i64 (c.len : Int)] := by rw [hW]; exact (Blk.new w1 45 #[.string (str c.key), .string (str c.val), .int .i64 (c.over : Int), .int .i64 (c.len : Int)]).alloc _
      have hpb : Blk W (w1.heap.size + 1) 37 #[.slice none 0 0, .slice (some ⟨w1.heap.size, 0, none⟩) 1 1, .slice none 0 0] := by rw [hW]; exact Blk.new_at (b := w1.heap.size + 1) (w1.alloc (.cells #[.string (str c.key), .string (str c.val), .int .i64 (c.over : Int), .int .i64 (c.len : Int)] 45)) 37 _ (by simp)
      have hk1 : Part.Ok W 4 ⟨none, 0, 0, []⟩ := ⟨Rd.nil_ _, fun _ => rfl, (fun u hu => by cases hu), Nat.le_refl _⟩
      have hk2 : Part.Ok W 4 ⟨some ⟨w1.heap.size, 0, none⟩, 1, 1, c.vals⟩ := ⟨⟨rfl, fun _ => ⟨_, _, rfl, (fun h => h), fun j u hu => by rw [Nat.zero_add, hcb.cell j]; simpa [Cell.vals] using hu⟩⟩, (fun h => by cases h), c.one, Nat.le_refl _⟩
      have HCC := Lib.hid (concat_cells [⟨none, 0, 0, []⟩, ⟨some ⟨w1.heap.size, 0, none⟩, 1, 1, c.vals⟩, ⟨none, 0, 0, []⟩] (w1.heap.size + 1) 3 3 W rfl
        (by intro p hp; simp at hp; rcases hp with rfl | rfl | rfl <;> first | exact hk1 | exact hk2) (by simp [total]) (by omega) (by omega)
        (by intro j p hj; match j, hj with
            | 0, hj => simp at hj; subst hj; exact hpb.cell 0
            | 1, hj => simp at hj; subst hj; exact hpb.cell 1
            | 2, hj => simp at hj; subst hj; exact hpb.cell 2
            | j + 3, hj => simp at hj))
      have htot : total [⟨none, 0, 0, []⟩, ⟨some ⟨w1.heap.size, 0, none⟩, 1, 1, c.vals⟩, ⟨none, 0, 0, []⟩] = ([c] : List Cell).length := by simp [total]
      have hjoi : joined [⟨none, 0, 0, []⟩, ⟨some ⟨w1.heap.size, 0, none⟩, 1, 1, c.vals⟩, ⟨none, 0, 0, []⟩] = cellVals [c] := by simp [joined, cellVals]
      rw [htot, hjoi] at HCC
      have hLb : ([c] : List Cell).length < 65536 := by simp
      clear htot hjoi
      rw [← HL.out] at HCC hLb
      have HEW := Lib.hid hEW
      have hWs : W.heap.size = w1.heap.size + 1 + 1 := by rw [hW]; simp
      clear hk1 hk2 hcb hpb hEW
      subst hW
      go_region_law ((go_simp; go_at_call 147; refine HCC.out.mono ?_; rintro e w2 ⟨A, cc, rfl, hown, hx2⟩; have HO := Lib.hid hown; have HX2 := Lib.hid hx2; have bn2 := Blk.of_ext hx2 ((bn.alloc _).alloc _) (fun h => h); have fz2 := bn2.frozen 1; have ce2 := bn2.cell 1; simp at ce2; clear hown hx2))
      all_goals (
        have br2 := Blk.of_ext HX2.out ((br.alloc _).alloc _) (fun h => h)
        have bn3 := bn2.set_ 1 (.slice A L.length cc)
        have bn3 : Blk (w2.setCell ⟨w.heap.size, 1, none⟩ (.slice A L.length cc)) w.heap.size 40 #[.bool true, .slice A L.length cc, .slice A2 0 c2, .slice A3 0 c3] := bn3
        have br3 := br2.far (p := ⟨w.heap.size, 1, none⟩) (show w.heap.size + 1 + 1 ≠ w.heap.size by omega) (.slice A L.length cc)
        obtain ⟨p0, p1, p2, p3, g0, g1, g2, g3, ln⟩ := bn3.p4
        obtain ⟨r0, r1, r2, r3, s0, s1, s2, s3, lr⟩ := br3.p4
        go_wp2_with fail
        all_goals (
          refine bodyPost_ret (results_cell_row (P := Tryz.prog) rfl _ _ (w.heap.size + 1 + 1) 40 _ (0, 0) _ rfl (br3.put4 (.bool true) (.slice A L.length cc) (.slice A2 0 c2) (.slice A3 0 c3)) Tryz.underlying40 rfl (by kernel_rfl)) rfl ?_
          have hx0 : Ext No w w2 := ((((hE1.alloc _).alloc _).drew).trans_ HX2.out)
          refine ⟨((((hx0.setNew (by omega) _ _).setNew (by omega) _ _).setNew (by omega) _ _).setNew (by omega) _ _).setNew (by omega) _ _, A, cc, A2, c2, A3, c3, rfl, ?_⟩
          have hcap := own_cap HO.out
          have hin : Lo w1.heap.size w.heap.size := by show w.heap.size < w1.heap.size; omega
          have hin' : Lo w1.heap.size (w.heap.size + 1 + 1) := by show w.heap.size + 1 + 1 < w1.heap.size; omega
          have hn2 : NodeAt w2 (Lo w1.heap.size) A cc A2 c2 A3 c3 ⟨true, L, [], []⟩ := ⟨(Rd.own_lo HO.out (by omega)).mono (by omega) (fun b _ hb => by unfold Lo at hb ⊢; simp; omega), Rd.nil_ _, Rd.nil_ _, hcap, HN.out.l2, HN.out.l3, hLb, by simp, by simp, own_nilcap HO.out, HN.out.e2, HN.out.e3⟩
          have hz : Ext (Lo w1.heap.size) w2 _ := (((((Ext.refl _ w2).setF hin 1 (.slice A L.length cc)).setF hin' 0 (.bool true)).setF hin' 1 (.slice A L.length cc)).setF hin' 2 (.slice A2 0 c2)).setF hin' 3 (.slice A3 0 c3)
          exact (hn2.ext hz).mono (fun b _ hb => by unfold Old at hb; unfold Lo; omega)))
    | some ad =>
      have hic : i ≤ c1 := by omega
      have hin2 : (i : Int) ≤ c1 := by omega
      have hin3 : (i : Int) ≤ cs.length := by omega
      have hin4 : (0 : Int) ≤ (i : Int) := by omega
      have hin5 : cs.length ≤ c1 := hl1
      go_wp2_with fail
      obtain ⟨W, hW⟩ : ∃ W, W = ((w1.alloc (.cells #[.string (str c.key), .string (str c.val), .int .i64 (c.over : Int), .int .i64 (c.len : Int)] 45)).alloc (.cells #[.slice (some ad) i i, .slice (some ⟨w1.heap.size, 0, none⟩) 1 1, .slice (if c1 = bh then some ad else some (ad.add (bh * 4))) (cs.length - bh) (c1 - bh)] 37)).drew := ⟨_, rfl⟩
      have hEW : Ext No w W := by rw [hW]; exact ((hE1.alloc _).alloc _).drew
      have hcl : Rd W No 4 (some ad) cs.length (cellVals cs) := (HN.out.cells.mono (by omega) (fun _ _ h => h.elim)).ext hEW
      have hcb : Blk W w1.heap.size 45 #[.string (str c.key), .string (str c.val), .int .i64 (c.over : Int), .int .i64 (c.len : Int)] := by rw [hW]; exact (Blk.new w1 45 #[.string (str c.key), .string (str c.val), .int .i64 (c.over : Int), .int .i64 (c.len : Int)]).alloc _
      have hpb : Blk W (w1.heap.size + 1) 37 #[.slice (some ad) i i, .slice (some ⟨w1.heap.size, 0, none⟩) 1 1, .slice (if c1 = bh then some ad else some (ad.add (bh * 4))) (cs.length - bh) (c1 - bh)] := by rw [hW]; exact Blk.new_at (b := w1.heap.size + 1) (w1.alloc (.cells #[.string (str c.key), .string (str c.val), .int .i64 (c.over : Int), .int .i64 (c.len : Int)] 45)) 37 _ (by simp)
      have hk1 : Part.Ok W 4 ⟨some ad, i, i, cellVals (cs.take i)⟩ := ⟨by rw [← cellVals_take]; exact hcl.take i hi (by omega), (fun h => by cases h), one_cells _, Nat.le_refl _⟩
      have hk2 : Part.Ok W 4 ⟨some ⟨w1.heap.size, 0, none⟩, 1, 1, c.vals⟩ := ⟨⟨rfl, fun _ => ⟨_, _, rfl, (fun h => h), fun j u hu => by rw [Nat.zero_add, hcb.cell j]; simpa [Cell.vals] using hu⟩⟩, (fun h => by cases h), c.one, Nat.le_refl _⟩
      have hk3 : Part.Ok W 4 ⟨if c1 = bh then some ad else some (ad.add (bh * 4)), cs.length - bh, c1 - bh, cellVals (cs.drop bh)⟩ := ⟨by rw [← cellVals_drop]; exact hcl.rest bh c1 hbl hl1, (fun h => by split at h <;> cases h), one_cells _, by simp only; omega⟩
      have HCC := Lib.hid (concat_cells [⟨some ad, i, i, cellVals (cs.take i)⟩, ⟨some ⟨w1.heap.size, 0, none⟩, 1, 1, c.vals⟩, ⟨if c1 = bh then some ad else some (ad.add (bh * 4)), cs.length - bh, c1 - bh, cellVals (cs.drop bh)⟩] (w1.heap.size + 1) 3 3 W rfl
        (by intro p hp; simp at hp; rcases hp with rfl | rfl | rfl; exact hk1; exact hk2; exact hk3) (by simp [total]; omega) (by omega) (by omega)
        (by intro j p hj; match j, hj with
            | 0, hj => simp at hj; subst hj; exact hpb.cell 0
            | 1, hj => simp at hj; subst hj; exact hpb.cell 1
            | 2, hj => simp at hj; subst hj; exact hpb.cell 2
            | j + 3, hj => simp at hj))
      have htot : total [⟨some ad, i, i, cellVals (cs.take i)⟩, ⟨some ⟨w1.heap.size, 0, none⟩, 1, 1, c.vals⟩, ⟨if c1 = bh then some ad else some (ad.add (bh * 4)), cs.length - bh, c1 - bh, cellVals (cs.drop bh)⟩] = (cs.take i ++ c :: cs.drop bh).length := by simp [total]; omega
      have hjoi : joined [⟨some ad, i, i, cellVals (cs.take i)⟩, ⟨some ⟨w1.heap.size, 0, none⟩, 1, 1, c.vals⟩, ⟨if c1 = bh then some ad else some (ad.add (bh * 4)), cs.length - bh, c1 - bh, cellVals (cs.drop bh)⟩] = cellVals (cs.take i ++ c :: cs.drop bh) := by simp [joined, cellVals_append, cellVals_cons]
      rw [htot, hjoi] at HCC
      have hLb : (cs.take i ++ c :: cs.drop bh).length < 65536 := by simp; omega
      clear htot hjoi
      rw [← HL.out] at HCC hLb
      have HEW := Lib.hid hEW
      have hWs : W.heap.size = w1.heap.size + 1 + 1 := by rw [hW]; simp
      clear hk1 hk2 hk3 hcl hcb hpb hEW
      subst hW
      go_region_law ((go_simp; go_at_call 147; refine HCC.out.mono ?_; rintro e w2 ⟨A, cc, rfl, hown, hx2⟩; have HO := Lib.hid hown; have HX2 := Lib.hid hx2; have bn2 := Blk.of_ext hx2 ((bn.alloc _).alloc _) (fun h => h); have fz2 := bn2.frozen 1; have ce2 := bn2.cell 1; simp at ce2; clear hown hx2))
      all_goals (
        have br2 := Blk.of_ext HX2.out ((br.alloc _).alloc _) (fun h => h)
        have bn3 := bn2.set_ 1 (.slice A L.length cc)
        have bn3 : Blk (w2.setCell ⟨w.heap.size, 1, none⟩ (.slice A L.length cc)) w.heap.size 40 #[.bool true, .slice A L.length cc, .slice A2 0 c2, .slice A3 0 c3] := bn3
        have br3 := br2.far (p := ⟨w.heap.size, 1, none⟩) (show w.heap.size + 1 + 1 ≠ w.heap.size by omega) (.slice A L.length cc)
        obtain ⟨p0, p1, p2, p3, g0, g1, g2, g3, ln⟩ := bn3.p4
        obtain ⟨r0, r1, r2, r3, s0, s1, s2, s3, lr⟩ := br3.p4
        go_wp2_with fail
        all_goals (
          refine bodyPost_ret (results_cell_row (P := Tryz.prog) rfl _ _ (w.heap.size + 1 + 1) 40 _ (0, 0) _ rfl (br3.put4 (.bool true) (.slice A L.length cc) (.slice A2 0 c2) (.slice A3 0 c3)) Tryz.underlying40 rfl (by kernel_rfl)) rfl ?_
          have hx0 : Ext No w w2 := ((((hE1.alloc _).alloc _).drew).trans_ HX2.out)
          refine ⟨((((hx0.setNew (by omega) _ _).setNew (by omega) _ _).setNew (by omega) _ _).setNew (by omega) _ _).setNew (by omega) _ _, A, cc, A2, c2, A3, c3, rfl, ?_⟩
          have hcap := own_cap HO.out
          have hin : Lo w1.heap.size w.heap.size := by show w.heap.size < w1.heap.size; omega
          have hin' : Lo w1.heap.size (w.heap.size + 1 + 1) := by show w.heap.size + 1 + 1 < w1.heap.size; omega
          have hn2 : NodeAt w2 (Lo w1.heap.size) A cc A2 c2 A3 c3 ⟨true, L, [], []⟩ := ⟨(Rd.own_lo HO.out (by omega)).mono (by omega) (fun b _ hb => by unfold Lo at hb ⊢; simp; omega), Rd.nil_ _, Rd.nil_ _, hcap, HN.out.l2, HN.out.l3, hLb, by simp, by simp, own_nilcap HO.out, HN.out.e2, HN.out.e3⟩
          have hz : Ext (Lo w1.heap.size) w2 _ := (((((Ext.refl _ w2).setF hin 1 (.slice A L.length cc)).setF hin' 0 (.bool true)).setF hin' 1 (.slice A L.length cc)).setF hin' 2 (.slice A2 0 c2)).setF hin' 3 (.slice A3 0 c3)
          exact (hn2.ext hz).mono (fun b _ hb => by unfold Old at hb; unfold Lo; omega)))

end Go.Proofs.YtccnemmlkcmceaaGreatDoor
