/- Proofs about the given program, joined out of the texts E5, E6, E7, E8. -/
import Derived.Test.YtccnemmlkcmceaaGreatDoorHA11
/- The plain law: Split. -/
set_option linter.unusedVariables false
set_option linter.unusedSimpArgs false
namespace Go.Proofs.YtccnemmlkcmceaaGreatDoor
open Go.RowKit 

/-! ### nodes that may be -/
theorem okC_of (cs : List Cell) (h1 : ∀ c ∈ cs, c.ok = true) (h2 : Sorted (cs.map Cell.key)) : ∀ k, k ≤ cs.length → okC cs k = true
  | 0, _ => rfl
  | k + 1, hk => by
    have hc : cs[k]? = some cs[k] := List.getElem?_eq_getElem (by omega)
    rw [okC, okC_of cs h1 h2 k (by omega), hc]
    simp only [Bool.true_and, Bool.and_eq_true]
    refine ⟨h1 _ (List.getElem_mem _), ?_⟩
    match k, hk, hc with
    | 0, _, _ => rfl
    | j + 1, hk, hc =>
      have hd : cs[j]? = some cs[j] := List.getElem?_eq_getElem (by omega)
      simp only [hd]
      have := List.pairwise_iff_getElem.1 h2 j (j + 1) (by simp; omega) (by simp; omega) (by omega)
      simpa using this
theorem okK_of (cs : List Bs) (h1 : ∀ c ∈ cs, keyOk c = true) (h2 : Sorted cs) : ∀ k, k ≤ cs.length → okK cs k = true
  | 0, _ => rfl
  | k + 1, hk => by
    have hc : cs[k]? = some cs[k] := List.getElem?_eq_getElem (by omega)
    rw [okK, okK_of cs h1 h2 k (by omega), hc]
    simp only [Bool.true_and, Bool.and_eq_true]
    refine ⟨h1 _ (List.getElem_mem _), ?_⟩
    match k, hk, hc with
    | 0, _, _ => rfl
    | j + 1, hk, hc =>
      have hd : cs[j]? = some cs[j] := List.getElem?_eq_getElem (by omega)
      simp only [hd]
      exact List.pairwise_iff_getElem.1 h2 j (j + 1) (by omega) (by omega) (by omega)
theorem ok_leaf {cs : List Cell} (h0 : cs.length ≤ 255) (h1 : ∀ c ∈ cs, c.ok = true) (h2 : Sorted (cs.map Cell.key)) : (⟨true, cs, [], []⟩ : Nd).ok = true := by
  unfold Nd.ok Nd.shape
  simp only [okC_of cs h1 h2 _ (Nat.le_refl _), okK, List.length_nil, List.all_nil]
  simp [h0]
theorem ok_branch {ks : List Bs} {is : List Nat} (h0 : ks.length ≤ 255) (h1 : ∀ c ∈ ks, keyOk c = true) (h2 : Sorted ks) (h3 : is.length = ks.length + 1) (h4 : ∀ i ∈ is, idOk i = true) : (⟨false, [], ks, is⟩ : Nd).ok = true := by
  unfold Nd.ok Nd.shape
  simp only [okK_of ks h1 h2 _ (Nat.le_refl _), okC, List.length_nil]
  simp [h0, h3]
  exact h4
theorem Nd.eq_leaf {n : Nd} (h : n.ok = true) (hl : n.leaf = true) : n = ⟨true, n.cells, [], []⟩ := by
  have := (Nd.Ok.of h).lf hl
  obtain ⟨a, b, c, d⟩ := n
  simp at hl this
  rw [hl, this.1, this.2]
theorem Nd.eq_branch {n : Nd} (h : n.ok = true) (hl : n.leaf = false) : n = ⟨false, [], n.keys, n.kids⟩ := by
  have := (Nd.Ok.of h).br hl
  obtain ⟨a, b, c, d⟩ := n
  simp at hl this
  rw [hl, this.1]
theorem size_leaf (cs : List Cell) : (⟨true, cs, [], []⟩ : Nd).size = 2 + sumC cs := by simp [Nd.size, sumK]
theorem size_branch (ks : List Bs) (is : List Nat) : (⟨false, [], ks, is⟩ : Nd).size = 6 + sumK ks := by simp [Nd.size, sumC]; omega
theorem cell_size {c : Cell} (h : c.ok = true) : 4 ≤ c.size ∧ c.size ≤ 160 := by
  have hb := Cell.ok_bounds h
  unfold Cell.ok at h
  split at h
  · rename_i h0
    simp only [Bool.and_eq_true, decide_eq_true_eq] at h
    refine ⟨?_, h.2⟩
    unfold Cell.size; split <;> omega
  · rename_i h0
    unfold Cell.size
    rw [if_pos (by omega)]
    omega
theorem sumC_append (a b : List Cell) : sumC (a ++ b) = sumC a + sumC b := by simp [sumC]
theorem sumK_append (a b : List Bs) : sumK (a ++ b) = sumK a + sumK b := by simp [sumK]
theorem sumC_ge (cs : List Cell) (h : ∀ c ∈ cs, c.ok = true) : 4 * cs.length ≤ sumC cs ∧ sumC cs ≤ 160 * cs.length := by
  induction cs with
  | nil => simp [sumC]
  | cons c cs ih =>
    have h1 := ih (fun c hc => h c (by simp [hc]))
    have h2 := cell_size (h c (by simp))
    simp only [sumC, List.map_cons, List.sum_cons, List.length_cons] at *
    omega
theorem sumK_ge (ks : List Bs) (h : ∀ c ∈ ks, keyOk c = true) : 6 * ks.length ≤ sumK ks ∧ sumK ks ≤ 145 * ks.length := by
  induction ks with
  | nil => simp [sumK]
  | cons c cs ih =>
    have h1 := ih (fun c hc => h c (by simp [hc]))
    have h2 := keyOk_len (h c (by simp))
    simp only [sumK, List.map_cons, List.sum_cons, List.length_cons] at *
    omega

/-- Weights are parted about halfway. -/
theorem halfway (m : Nat) : ∀ (ws : List Nat) (acc S : Nat), (∀ a ∈ ws, a ≤ m) → 2 * acc ≤ S + m → S + m < 2 * (acc + ws.sum) → ∃ k, k < ws.length ∧ 2 * (acc + (ws.take k).sum) ≤ S + m ∧ S ≤ 2 * (acc + (ws.take k).sum) + m
  | [], acc, S, _, h1, h2 => by simp at h2; omega
  | w :: ws, acc, S, h, h1, h2 => by
    have hw := h w (by simp)
    by_cases hc : 2 * (acc + w) ≤ S + m
    · obtain ⟨k, k1, k2, k3⟩ := halfway m ws (acc + w) S (fun a ha => h a (by simp [ha])) hc (by simp at h2; omega)
      exact ⟨k + 1, by simp; exact k1, by simp; omega, by simp; omega⟩
    · exact ⟨0, by simp, by simp; omega, by simp; omega⟩

theorem bestLoop_told (n : Nd) : ∀ (f i : Nat) (r : Nat × Nat), (n.bestLoop f i r).2 ≤ r.2 ∧ (∀ j, i ≤ j → j < i + f → (n.bestLoop f i r).2 ≤ n.worse j) ∧ (n.bestLoop f i r = r ∨ ((n.bestLoop f i r).2 = n.worse (n.bestLoop f i r).1 ∧ i ≤ (n.bestLoop f i r).1 ∧ (n.bestLoop f i r).1 < i + f))
  | 0, i, r => ⟨Nat.le_refl _, fun j h1 h2 => by omega, .inl rfl⟩
  | f + 1, i, r => by
    rw [Nd.bestLoop]
    by_cases hw : n.worse i < r.2
    · rw [if_pos hw]
      obtain ⟨h1, h2, h3⟩ := bestLoop_told n f (i + 1) (i, n.worse i)
      refine ⟨Nat.le_trans h1 (by simp; omega), fun j j1 j2 => ?_, ?_⟩
      · by_cases hj : j = i
        · subst hj; exact h1
        · exact h2 j (by omega) (by omega)
      · right
        rcases h3 with h3 | ⟨h3, h4, h5⟩
        · rw [h3]; exact ⟨rfl, Nat.le_refl _, by simp⟩
        · exact ⟨h3, by omega, by omega⟩
    · rw [if_neg hw]
      obtain ⟨h1, h2, h3⟩ := bestLoop_told n f (i + 1) r
      refine ⟨h1, fun j j1 j2 => ?_, ?_⟩
      · by_cases hj : j = i
        · subst hj; omega
        · exact h2 j (by omega) (by omega)
      · rcases h3 with h3 | ⟨h3, h4, h5⟩
        · exact .inl h3
        · exact .inr ⟨h3, by omega, by omega⟩
theorem best_told (n : Nd) (h : 2 + n.gap ≤ n.all) (hw : n.worse 1 < 1073741824) : 1 ≤ n.best ∧ n.best + n.gap < n.all ∧ ∀ j, 1 ≤ j → j + n.gap < n.all → n.worse n.best ≤ n.worse j := by
  unfold Nd.best
  obtain ⟨h1, h2, h3⟩ := bestLoop_told n (n.all - n.gap - 1) 1 (1, 1073741824)
  rcases h3 with h3 | ⟨h3, h4, h5⟩
  · have := h2 1 (Nat.le_refl _) (by omega)
    rw [h3] at this
    simp at this
    omega
  · refine ⟨h4, by omega, fun j j1 j2 => ?_⟩
    rw [← h3]
    exact h2 j j1 (by omega)

theorem take_sum (cs : List Cell) (k : Nat) : sumC (cs.take k) = ((cs.map Cell.size).take k).sum := by simp [sumC, List.map_take]
theorem takeK_sum (cs : List Bs) (k : Nat) : sumK (cs.take k) = ((cs.map fun k => 5 + k.length).take k).sum := by simp [sumK, List.map_take]

/-- What Split makes. -/
structure SplitIs (n l r : Nd) (key : Bs) : Prop where
  eq : n.split = some (l, r, key)
  lo : l.ok = true
  ro : r.ok = true
  ls : l.size ≤ 500
  rs : r.size ≤ 500
  ll : l.leaf = n.leaf
  rl : r.leaf = n.leaf
  lm : ∀ g rt, Min g rt l
  rm : ∀ g rt, Min g rt r
  lf : n.leaf = true → n.cells = l.cells ++ r.cells ∧ (∃ c, r.cells.head? = some c ∧ c.key = key)
  br : n.leaf = false → n.keys = l.keys ++ key :: r.keys ∧ n.kids = l.kids ++ r.kids

theorem split_leaf_is {n : Nd} (hok : n.ok = true) (hlf : n.leaf = true) (h1 : 500 < n.size) (h2 : n.size ≤ 804) : ∃ l r key, SplitIs n l r key := by
  have hO := Nd.Ok.of hok
  have hs := Nd.Ok.sortedC hok
  obtain ⟨cs, hcs⟩ : ∃ cs, cs = n.cells := ⟨_, rfl⟩
  have hn := Nd.eq_leaf hok hlf
  have hoc := hO.c
  have ha1 := hO.a1
  rw [← hcs] at hn hs hoc ha1
  subst hn
  clear hcs hO hlf
  rw [size_leaf] at h1 h2
  have hge := sumC_ge cs hoc
  have hall : Nd.all ⟨true, cs, [], []⟩ = cs.length := rfl
  have hgap : Nd.gap ⟨true, cs, [], []⟩ = 0 := rfl
  have hw : ∀ i, Nd.worse ⟨true, cs, [], []⟩ i = max (2 + sumC (cs.take i)) (2 + sumC (cs.drop i)) := by
    intro i
    unfold Nd.worse
    rw [hall, hgap]
    simp only [Nd.part, if_true, Nat.sub_zero, List.drop_zero, Nat.add_zero, size_leaf]
    rw [show List.take (cs.length - i) (List.drop i cs) = List.drop i cs from List.take_of_length_le (by simp)]
  have hsum : ∀ i, sumC (cs.take i) + sumC (cs.drop i) = sumC cs := by intro i; rw [← sumC_append, List.take_append_drop]
  obtain ⟨k, k1, k2, k3⟩ := halfway 160 (cs.map Cell.size) 0 (sumC cs) (fun a ha => by
    obtain ⟨c, hc, rfl⟩ := List.mem_map.1 ha; exact (cell_size (hoc c hc)).2) (by omega) (by simp only [sumC] at *; omega)
  rw [List.length_map] at k1
  simp only [Nat.zero_add, ← take_sum] at k2 k3
  have hk0 : k ≠ 0 := by rintro rfl; simp [sumC] at k3; simp [sumC] at h1; omega
  have hb := best_told ⟨true, cs, [], []⟩ (by rw [hall, hgap]; omega) (by rw [hw]; have := hsum 1; omega)
  rw [hall, hgap] at hb
  obtain ⟨b1, b2, b3⟩ := hb
  have hwk := b3 k (by omega) (by omega)
  rw [hw, hw] at hwk
  generalize hbest : Nd.best ⟨true, cs, [], []⟩ = b at *
  have s1 := hsum k
  have s2 := hsum b
  have hx1 : 2 + sumC (cs.take b) ≤ 2 + (sumC cs + 160) / 2 := by omega
  have hx2 : 2 + sumC (cs.drop b) ≤ 2 + (sumC cs + 160) / 2 := by omega
  have t1 := sumC_ge (cs.take b) (fun c hc => hoc c (List.mem_of_mem_take hc))
  have t2 := sumC_ge (cs.drop b) (fun c hc => hoc c (List.mem_of_mem_drop hc))
  rw [List.length_take, Nat.min_eq_left (by omega)] at t1
  rw [List.length_drop] at t2
  clear hwk k3 k2
  have hsp : Nd.split ⟨true, cs, [], []⟩ = some (⟨true, cs.take b, [], []⟩, ⟨true, cs.drop b, [], []⟩, (cs.map Cell.key).getD b []) := by
    unfold Nd.split
    rw [if_neg (by rw [hall, hgap, hok]; simp only [Bool.true_eq_false, false_or]; omega), hbest]
    simp only [Nd.part, Nd.mid, if_true, hall, hgap, Nat.sub_zero, List.drop_zero, Nat.add_zero]
    rw [show List.take (cs.length - b) (List.drop b cs) = List.drop b cs from List.take_of_length_le (by simp)]
  refine ⟨_, _, _, hsp, ok_leaf (by rw [List.length_take]; omega) (fun c hc => hoc c (List.mem_of_mem_take hc)) (hs.sublist ((List.take_sublist _ _).map _)),
    ok_leaf (by rw [List.length_drop]; omega) (fun c hc => hoc c (List.mem_of_mem_drop hc)) (hs.sublist ((List.drop_sublist _ _).map _)), Nat.le_trans (Nat.le_of_eq (size_leaf _)) (by omega), Nat.le_trans (Nat.le_of_eq (size_leaf _)) (by omega), rfl, rfl, ?_, ?_, fun _ => ⟨(List.take_append_drop _ _).symm, ?_⟩, (fun h => by cases h)⟩
  · intro g rt
    refine ⟨fun _ => ⟨?_, fun _ _ => ?_⟩, fun h => by cases h⟩
    · intro e
      have e' : cs.take b = [] := e
      have h9 : (cs.take b).length = 0 := by rw [e']; rfl
      rw [List.length_take] at h9; omega
    · show 2 ≤ (cs.take b).length; rw [List.length_take]; omega
  · intro g rt
    refine ⟨fun _ => ⟨?_, fun _ _ => ?_⟩, fun h => by cases h⟩
    · intro e
      have e' : cs.drop b = [] := e
      have h9 : (cs.drop b).length = 0 := by rw [e']; rfl
      rw [List.length_drop] at h9; omega
    · show 2 ≤ (cs.drop b).length; rw [List.length_drop]; omega
  · refine ⟨cs[b], ?_, ?_⟩
    · show (cs.drop b).head? = _
      rw [List.head?_drop]
      exact List.getElem?_eq_getElem (by omega)
    · rw [List.getD_eq_getElem?_getD, List.getElem?_map, List.getElem?_eq_getElem (by omega)]; rfl

theorem split_branch_is {n : Nd} (hok : n.ok = true) (hlf : n.leaf = false) (h1 : 500 < n.size) (h2 : n.size ≤ 804) : ∃ l r key, SplitIs n l r key := by
  have hO := Nd.Ok.of hok
  have hs := Nd.Ok.sortedK hok
  have hn := Nd.eq_branch hok hlf
  have hok1 := hO.k
  have ha1 := hO.a2
  have hkk := (hO.br hlf).2
  have hid := hO.i
  generalize n.keys = ks at *
  generalize n.kids = is at *
  subst hn
  clear hO hlf
  rw [size_branch] at h1 h2
  have hge := sumK_ge ks hok1
  have hall : Nd.all ⟨false, [], ks, is⟩ = ks.length := rfl
  have hgap : Nd.gap ⟨false, [], ks, is⟩ = 1 := rfl
  have hw : ∀ i, Nd.worse ⟨false, [], ks, is⟩ i = max (6 + sumK (ks.take i)) (6 + sumK (ks.drop (i + 1))) := by
    intro i
    unfold Nd.worse
    rw [hall, hgap]
    simp only [Nd.part, Bool.false_eq_true, if_false, Nat.sub_zero, List.drop_zero, size_branch]
    rw [show List.take (ks.length - (i + 1)) (List.drop (i + 1) ks) = List.drop (i + 1) ks from List.take_of_length_le (by simp)]
  have hsum : ∀ i, sumK (ks.take i) + sumK (ks.drop i) = sumK ks := by intro i; rw [← sumK_append, List.take_append_drop]
  have hstep : ∀ i, i < ks.length → sumK (ks.drop i) ≤ sumK (ks.drop (i + 1)) + 145 := by
    intro i hi
    rw [List.drop_eq_getElem_cons hi]
    have := keyOk_len (hok1 _ (List.getElem_mem hi))
    simp only [sumK, List.map_cons, List.sum_cons]
    omega
  have hle : ∀ i, sumK (ks.drop (i + 1)) ≤ sumK (ks.drop i) := by
    intro i
    rcases Nat.lt_or_ge i ks.length with hi | hi
    · rw [List.drop_eq_getElem_cons hi]; simp only [sumK, List.map_cons, List.sum_cons]; omega
    · rw [List.drop_eq_nil_of_le (by omega), List.drop_eq_nil_of_le (by omega)]; exact Nat.le_refl _
  obtain ⟨k, k1, k2, k3⟩ := halfway 145 (ks.map fun k => 5 + k.length) 0 (sumK ks) (fun a ha => by
    obtain ⟨c, hc, rfl⟩ := List.mem_map.1 ha; have := keyOk_len (hok1 c hc); omega) (by omega) (by simp only [sumK] at *; omega)
  rw [List.length_map] at k1
  simp only [Nat.zero_add, ← takeK_sum] at k2 k3
  have hk0 : k ≠ 0 := by rintro rfl; simp [sumK] at k3; simp [sumK] at h1; omega
  have s1 := hsum k
  have hk1 : k + 1 ≠ ks.length := by
    intro e
    have := hstep k k1
    rw [e, List.drop_length] at this
    simp [sumK] at this s1 k2 h1
    omega
  have hb := best_told ⟨false, [], ks, is⟩ (by rw [hall, hgap]; omega) (by rw [hw]; have := hsum 1; have := hle 1; omega)
  rw [hall, hgap] at hb
  obtain ⟨b1, b2, b3⟩ := hb
  have hwk := b3 k (by omega) (by omega)
  rw [hw, hw] at hwk
  generalize hbest : Nd.best ⟨false, [], ks, is⟩ = b at *
  have s2 := hsum b
  have l1 := hle k
  have hsp : Nd.split ⟨false, [], ks, is⟩ = some (⟨false, [], ks.take b, is.take (b + 1)⟩, ⟨false, [], ks.drop (b + 1), is.drop (b + 1)⟩, ks.getD b []) := by
    unfold Nd.split
    rw [if_neg (by rw [hall, hgap, hok]; simp only [Bool.true_eq_false, false_or]; omega), hbest]
    simp only [Nd.part, Nd.mid, Bool.false_eq_true, if_false, hall, hgap, Nat.sub_zero, List.drop_zero]
    rw [show List.take (ks.length - (b + 1)) (List.drop (b + 1) ks) = List.drop (b + 1) ks from List.take_of_length_le (by simp), show List.take (ks.length + 1 - (b + 1)) (List.drop (b + 1) is) = List.drop (b + 1) is from List.take_of_length_le (by simp; omega)]
  have hbl : b < ks.length := by omega
  refine ⟨_, _, _, hsp, ok_branch (by rw [List.length_take]; omega) (fun c hc => hok1 c (List.mem_of_mem_take hc)) (hs.sublist (List.take_sublist _ _)) (by rw [List.length_take, List.length_take]; omega) (fun c hc => hid c (List.mem_of_mem_take hc)),
    ok_branch (by rw [List.length_drop]; omega) (fun c hc => hok1 c (List.mem_of_mem_drop hc)) (hs.sublist (List.drop_sublist _ _)) (by rw [List.length_drop, List.length_drop]; omega) (fun c hc => hid c (List.mem_of_mem_drop hc)),
    by rw [size_branch]; omega, by rw [size_branch]; omega, rfl, rfl, ?_, ?_, (fun h => by cases h), fun _ => ⟨?_, (List.take_append_drop _ _).symm⟩⟩
  · intro g rt
    refine ⟨fun h => (by cases h), fun _ _ e => ?_⟩
    have e' : ks.take b = [] := e
    have h9 : (ks.take b).length = 0 := by rw [e']; rfl
    rw [List.length_take] at h9; omega
  · intro g rt
    refine ⟨fun h => (by cases h), fun _ _ e => ?_⟩
    have e' : ks.drop (b + 1) = [] := e
    have h9 : (ks.drop (b + 1)).length = 0 := by rw [e']; rfl
    rw [List.length_drop] at h9; omega
  · show ks = ks.take b ++ ks.getD b [] :: ks.drop (b + 1)
    rw [List.getD_eq_getElem?_getD, List.getElem?_eq_getElem hbl]
    simp only [Option.getD_some]
    rw [← List.drop_eq_getElem_cons hbl, List.take_append_drop]

theorem split_is {n : Nd} (hok : n.ok = true) (h1 : 500 < n.size) (h2 : n.size ≤ 804) : ∃ l r key, SplitIs n l r key := by
  cases hl : n.leaf
  · exact split_branch_is hok hl h1 h2
  · exact split_leaf_is hok hl h1 h2

end Go.Proofs.YtccnemmlkcmceaaGreatDoor

/- The plain law: the error of grow. -/
set_option linter.unusedVariables false
set_option linter.unusedSimpArgs false
namespace Go.Proofs.YtccnemmlkcmceaaGreatDoor
open Go.RowKit 

theorem V.node_size {v : V} {id : Nat} {n : Nd} (h : v.node id = some n) : n.size ≤ 500 := by
  unfold V.node at h
  split at h
  · split at h
    · exact dec_size _ _ h
    · cases h
  · cases h

/-! ### writing, told -/
theorem wr_told {cap : Nat} {v : V} (hg : v.Sane cap) {id : Nat} (he : v.err id = 0) {n : Nd} (hn : n.ok = true) (hs : n.size ≤ 500) :
    ∃ v1, v.wr id n = (0, v1) ∧ v1.Sane cap ∧ v1.room cap = v.room cap ∧ v1.r = v.r ∧ v1.node id = some n ∧ (∀ p, p ≠ id → v1.pg p = v.pg p) ∧ (∀ p, v1.err p = 0 ↔ v.err p = 0) ∧
      ∀ K A, (∀ p ∈ A, v.err p = 0) → id ∈ A → Tr K v v1 A A :=
  ⟨_, V.wr_out hn hs he, hg.put hn hs he, rfl, rfl, V.node_put hn hs he, fun p hp => by simp [V.put, hp], fun p => V.put_err v id _ (by simp) he p, fun K A hA hid => Tr.put (by simp) he hA hid K⟩
theorem fresh_told {cap : Nat} {v : V} (hg : v.Sane cap) {n : Nd} (hn : n.ok = true) (hs : n.size ≤ 500) :
    ((v.fresh cap n).2.1 = 7 ∧ v.room cap = 0 ∧ (v.fresh cap n).2.2.Sane cap) ∨
    ∃ id v1, v.fresh cap n = (id, 0, v1) ∧ v1.Sane cap ∧ v1.room cap + 1 = v.room cap ∧ v1.r = v.r ∧ v1.node id = some n ∧ v.err id ≠ 0 ∧ 1 ≤ id ∧ id < 65536 ∧ (∀ p, p ≠ id → v1.pg p = v.pg p) ∧ (∀ p, v1.err p = 0 ↔ v.err p = 0 ∨ p = id) ∧
      ∀ K A, (∀ p ∈ A, v.err p = 0) → Tr K v v1 A (id :: A) := by
  rcases V.alloc_told hg with ⟨h1, h2, h3⟩ | ⟨h1, h2, h3, h4, h5, h6, h7, h8, _⟩
  · left
    rw [V.fresh_no (by omega), h3]
    exact ⟨h1, h2, hg⟩
  · right
    have hS := hg.alloc
    have hT := fun K A hA => Tr.alloc hg h1 A hA K
    have he := (h7 _).2 (.inr rfl)
    refine ⟨_, _, V.fresh_eq hg hn hs h1, hS.put hn hs he, h3, h4, V.node_put hn hs he, h2, by omega, h6, fun p hp => ?_, fun p => ?_, fun K A hA => ?_⟩
    · rw [← h8 p hp]; simp [V.put, hp]
    · rw [V.put_err _ _ _ (by simp) he, h7]
    · exact (hT K A hA).trans (Tr.put (by simp) he (hT K A hA).had (by simp) K)
theorem wr_bad {v : V} {id : Nat} {n : Nd} (hn : n.ok = false) : (v.wr id n).1 = 2 := by
  have e : n.out = ([], 2) := by unfold Nd.out; rw [if_pos hn]
  unfold V.wr; rw [e]; rfl
theorem idOk_of {id : Nat} (h1 : 1 ≤ id) (h2 : id < 65536) : idOk id = true := by unfold idOk; simp; omega
theorem V.us_lt {cap : Nat} {v : V} (hg : v.Sane cap) {id : Nat} (he : v.err id = 0) : 1 ≤ id ∧ id < 65536 := by
  have := (V.err_iff v id).1 he
  have := hg.2.1; have := hg.2.2
  omega

/-! ### the error of grow -/
structure Fit (n : Nd) (lo hi : Bs) : Prop where
  c : ∀ c ∈ n.cells, inB lo hi c.key = true
  k : ∀ k ∈ n.keys, inS lo hi k
/-- The nodes above a place. -/
def Sp : List Stp → Bs → Bs → Prop
  | [], lo, hi => lo = [] ∧ hi = []
  | p :: ups, lo, hi => ∃ lo' hi' A B, Sp ups lo' hi' ∧ p.n.ok = true ∧ p.n.size ≤ 500 ∧ p.n.leaf = false ∧ (∀ k ∈ p.n.keys, inS lo' hi' k) ∧ p.n.keys = A ++ B ∧ A.length = p.i ∧ lo = (A.getLast?).getD lo' ∧ hi = B.headD hi'

theorem klt_nil_of {k : Bs} (h : k ≠ []) : klt [] k = true := by
  cases k with
  | nil => exact absurd rfl h
  | cons a b => rfl
theorem insertIdx_len {α : Type} (A B : List α) (y : α) : (A ++ B).insertIdx A.length y = A ++ y :: B := by
  induction A with
  | nil => simp
  | cons a A ih => simpa using ih

/-- The key between two parts lies strictly in bounds. -/
theorem SplitIs.key_in {n l r : Nd} {key lo hi : Bs} (h : SplitIs n l r key) (hok : n.ok = true) (hf : Fit n lo hi) : inS lo hi key := by
  cases hl : n.leaf
  · obtain ⟨e, _⟩ := h.br hl
    exact hf.k key (by rw [e]; simp)
  · obtain ⟨e, c, hc, rfl⟩ := h.lf hl
    have hcm : c ∈ r.cells := List.mem_of_head? hc
    have h2 := inB_iff.1 (hf.c c (by rw [e]; simp [hcm]))
    refine ⟨?_, h2.2⟩
    obtain ⟨d, ds, hd⟩ := List.exists_cons_of_ne_nil ((h.lm true true).1 (by rw [h.ll, hl])).1
    have h1 := inB_iff.1 (hf.c d (by rw [e, hd]; simp))
    have hs := Nd.Ok.sortedC hok
    rw [e, hd, List.cons_append, List.map_cons] at hs
    have := (List.pairwise_cons.1 hs).1 c.key (List.mem_map.2 ⟨c, by simp [hcm], rfl⟩)
    exact kle_lt h1.1 this
theorem SplitIs.keyOk {n l r : Nd} {key : Bs} (h : SplitIs n l r key) (hok : n.ok = true) : keyOk key = true := by
  have hO := Nd.Ok.of hok
  cases hl : n.leaf
  · obtain ⟨e, _⟩ := h.br hl
    exact hO.k key (by rw [e]; simp)
  · obtain ⟨e, c, hc, rfl⟩ := h.lf hl
    have hcm : c ∈ r.cells := List.mem_of_head? hc
    have := Cell.ok_bounds (hO.c c (by rw [e]; simp [hcm]))
    simp [YtccnemmlkcmceaaGreatDoor.keyOk]; omega

/-- A key more in a branch. -/
theorem branch_more {p : Nd} {A B : List Bs} {key lo hi lo' hi' : Bs} {id2 : Nat} (hok : p.ok = true) (hs : p.size ≤ 500) (hl : p.leaf = false) (hin : ∀ k ∈ p.keys, inS lo' hi' k) (e : p.keys = A ++ B) (hlo : lo = (A.getLast?).getD lo') (hhi : hi = B.headD hi')
    (hk : inS lo hi key) (hko : keyOk key = true) (hid : idOk id2 = true) :
    (⟨false, [], p.keys.insertIdx A.length key, p.kids.insertIdx (A.length + 1) id2⟩ : Nd).ok = true ∧ (⟨false, [], p.keys.insertIdx A.length key, p.kids.insertIdx (A.length + 1) id2⟩ : Nd).size ≤ 645 ∧
      Fit ⟨false, [], p.keys.insertIdx A.length key, p.kids.insertIdx (A.length + 1) id2⟩ lo' hi' := by
  have hO := Nd.Ok.of hok
  have hbr := (hO.br hl).2
  have hS := Nd.Ok.sortedK hok
  have hsz : sumK p.keys ≤ 494 := by
    have h2 := Nd.eq_branch hok hl
    rw [h2, size_branch] at hs
    omega
  have hge := sumK_ge p.keys hO.k
  have hkl := keyOk_len hko
  rw [e, insertIdx_len]
  rw [e] at hS hin hsz hge hbr
  have hko' : ∀ c ∈ A ++ B, YtccnemmlkcmceaaGreatDoor.keyOk c = true := by rw [← e]; exact hO.k
  rw [List.length_append] at hbr hge
  have hlen : (p.kids.insertIdx (A.length + 1) id2).length = p.kids.length + 1 := List.length_insertIdx_of_le_length (by omega) _
  obtain ⟨hSA, hSB, hAB⟩ := List.pairwise_append.1 hS
  have hA : ∀ a ∈ A, klt a key = true := by
    intro a ha
    have hl2 : klt lo key = true := hk.1
    cases hgl : A.getLast? with
    | none => rw [List.getLast?_eq_none_iff] at hgl; subst hgl; simp at ha
    | some z =>
      rw [hgl] at hlo
      simp only [Option.getD_some] at hlo
      subst hlo
      obtain ⟨A', hA'⟩ := List.getLast?_eq_some_iff.1 hgl
      subst hA'
      rcases List.mem_append.1 ha with h | h
      · exact klt_trans ((List.pairwise_append.1 hSA).2.2 a h lo (by simp)) hl2
      · have : a = lo := by simpa using h
        rw [this]; exact hl2
  have hB : ∀ b ∈ B, klt key b = true := by
    intro b hb
    cases B with
    | nil => simp at hb
    | cons c B =>
      have hc : hi = c := hhi
      have hne : c ≠ [] := by
        rintro rfl
        have := keyOk_len (hko' [] (by simp)); simp at this
      have h2 : klt key c = true := by rw [← hc]; exact hk.2.resolve_left (by rw [hc]; exact hne)
      rcases List.mem_cons.1 hb with rfl | h
      · exact h2
      · exact klt_trans h2 ((List.pairwise_cons.1 hSB).1 b h)
  refine ⟨ok_branch (by simp; omega) ?_ ?_ (by simp only [hlen, List.length_append, List.length_cons]; omega) ?_, ?_, ⟨by simp, ?_⟩⟩
  · intro c hc
    rcases List.mem_append.1 hc with h | h
    · exact hko' c (by simp [h])
    · rcases List.mem_cons.1 h with rfl | h
      · exact hko
      · exact hko' c (by simp [h])
  · exact List.pairwise_append.2 ⟨hSA, List.pairwise_cons.2 ⟨hB, hSB⟩, fun a ha b hb => by
      rcases List.mem_cons.1 hb with rfl | h
      · exact hA a ha
      · exact hAB a ha b h⟩
  · intro i hi
    rcases (List.mem_insertIdx (by omega)).1 hi with h | h
    · rw [h]; exact hid
    · exact hO.i i h
  · rw [size_branch]
    have : sumK (A ++ key :: B) = sumK (A ++ B) + (5 + key.length) := by simp [sumK]; omega
    rw [this]; omega
  · intro k hkm
    have hkm' : k ∈ A ++ key :: B := hkm
    have hlo2 : ∀ a ∈ A, inS lo' hi' a := fun a ha => hin a (by simp [ha])
    rcases List.mem_append.1 hkm' with h | h
    · exact hlo2 k h
    · rcases List.mem_cons.1 h with rfl | h
      · constructor
        · cases hgl : A.getLast? with
          | none => rw [hgl] at hlo; simp at hlo; rw [← hlo]; exact hk.1
          | some z =>
            have := hlo2 z (List.mem_of_getLast? hgl)
            exact klt_trans this.1 (hA z (List.mem_of_getLast? hgl))
        · cases hBB : B with
          | nil => rw [hBB] at hhi; simp at hhi; rw [← hhi]; exact hk.2
          | cons c B' =>
            have h3 := hin c (by rw [hBB]; simp)
            rcases h3.2 with h4 | h4
            · exact .inl h4
            · exact .inr (klt_trans (hB c (by rw [hBB]; simp)) h4)
      · exact hin k (by simp [h])

theorem V.Sane.fresh {cap : Nat} {v : V} (h : v.Sane cap) (n : Nd) : (v.fresh cap n).2.2.Sane cap := by
  unfold V.fresh; split
  · exact h.alloc.wr _ _
  · exact h.alloc

/-- grow: right, or there is no room. -/
theorem grow_codes {cap root : Nat} : ∀ (ups : List Stp) (st : Stp) (n : Nd) (v : V) (lo hi : Bs), Sp ups lo hi → v.Sane cap → v.err st.id = 0 → (∀ p ∈ ups, v.err p.id = 0) → n.ok = true → n.size ≤ 804 → Fit n lo hi →
    (V.grow cap root (st :: ups) n v).1 = 0 ∨ ((V.grow cap root (st :: ups) n v).1 = 7 ∧ v.room cap < ups.length + 2)
  | ups, st, n, v, lo, hi, hsp, hg, he, hu, hok, hsz, hf => by
    by_cases hs : n.size ≤ 500
    · left
      rw [V.grow, V.wr_out hok hs he]
      simp
    · obtain ⟨l, r, key, hS⟩ := split_is hok (by omega) hsz
      obtain ⟨v1, e1, g1, m1, r1, n1, p1, u1, _⟩ := wr_told hg he hS.lo hS.ls
      have e0 : v.wr st.id n = (3, v) := V.wr_long hok (by omega)
      have hki := hS.key_in hok hf
      have hko := hS.keyOk hok
      rcases fresh_told g1 hS.ro hS.rs with ⟨f1, f2, _⟩ | ⟨id2, v2, e2, g2, m2, r2, n2, x2, i1, i2, p2, u2, _⟩
      · right
        rw [V.grow, e0]
        simp only [ne_eq, not_true, if_false, hS.eq, e1, f1]
        exact ⟨by simp [f1], by omega⟩
      · have hid1 := V.us_lt hg he
        cases ups with
        | nil =>
          have hko1 : (⟨false, [], [key], [st.id, id2]⟩ : Nd).ok = true := ok_branch (by simp) (by simpa using hko) (by simp) (by simp) (by
            intro i hi
            simp at hi
            rcases hi with rfl | rfl
            · exact idOk_of hid1.1 hid1.2
            · exact idOk_of i1 i2)
          have hsz1 : (⟨false, [], [key], [st.id, id2]⟩ : Nd).size ≤ 500 := by rw [size_branch]; have := keyOk_len hko; simp [sumK]; omega
          rcases fresh_told g2 hko1 hsz1 with ⟨f1, f2, _⟩ | ⟨id3, v3, e3, _⟩
          · right
            rw [V.grow, e0]
            simp only [ne_eq, not_true, if_false, hS.eq, e1, e2, f1]
            exact ⟨by simp [f1], by simp; omega⟩
          · left
            rw [V.grow, e0]
            simp only [ne_eq, not_true, if_false, hS.eq, e1, e2, e3]
        | cons p ups =>
          obtain ⟨lo', hi', A, B, h1, h2, h3, h4, h5, h6, h7, h8, h9⟩ := hsp
          have hbm := branch_more h2 h3 h4 h5 h6 h8 h9 hki hko (idOk_of i1 i2)
          rw [h7] at hbm
          have hus : ∀ q, v.err q = 0 → v2.err q = 0 := fun q hq => (u2 q).2 (.inl ((u1 q).2 hq))
          have := grow_codes (cap := cap) (root := root) ups p _ v2 lo' hi' h1 g2 (hus _ (hu p (by simp))) (fun q hq => hus _ (hu q (by simp [hq]))) hbm.1 (by omega) hbm.2.2
          have e : V.grow cap root (st :: p :: ups) n v = V.grow cap root (p :: ups) ⟨false, [], p.n.keys.insertIdx p.i key, p.n.kids.insertIdx (p.i + 1) id2⟩ v2 := by
            rw [V.grow, e0]
            simp only [ne_eq, not_true, if_false, hS.eq, e1, e2]
          rw [e]
          rcases this with h | ⟨h, h'⟩
          · exact .inl h
          · exact .inr ⟨h, by simp only [List.length_cons]; omega⟩
  termination_by ups => ups.length

end Go.Proofs.YtccnemmlkcmceaaGreatDoor

/- The plain law: what grow makes. -/
set_option linter.unusedVariables false
set_option linter.unusedSimpArgs false
namespace Go.Proofs.YtccnemmlkcmceaaGreatDoor
open Go.RowKit 

theorem Hole.sp {g : Bool} {v : V} {root : Nat} {ups : List Stp} {h id : Nat} {rt : Bool} {lo hi : Bs} {P : List Nat} {L R : List Ent} (hh : Hole g v root ups h id rt lo hi P L R) : Sp ups lo hi ∧ ∀ p ∈ ups, v.err p.id = 0 := by
  induction hh with
  | top => exact ⟨⟨rfl, rfl⟩, by simp⟩
  | @down ups h rt lo' hi' P' L' R' p id x a b Pa Pb Ea Eb lo P L R h1 h2 h3 h4 h5 h6 h7 h8 h9 h10 h11 h12 h13 h14 ih =>
    obtain ⟨k1, k2, k3, k4⟩ := split_keys h7
    refine ⟨⟨lo', hi', a.map (·.2), (x :: b.map (·.2)).dropLast, ih.1, V.node_ok h2, V.node_size h2, h4, h5.2, k1, by simpa using h8, by rw [h14, lastB_eq], ?_⟩, ?_⟩
    · cases b with
      | nil => simpa using k3 rfl
      | cons q b => rfl
    · intro q hq
      rcases List.mem_cons.1 hq with rfl | hq
      · exact V.node_us h2
      · exact ih.2 q hq

theorem sorted_left {A B : List Bs} {key : Bs} (h : Sorted (A ++ key :: B)) : (∀ a ∈ A, klt a key = true) ∧ ∀ b ∈ B, klt key b = true :=
  ⟨fun a ha => (List.pairwise_append.1 h).2.2 a ha key (by simp), fun b hb => (List.pairwise_cons.1 (List.pairwise_append.1 h).2.1).1 b hb⟩

/-- A node's parts are bodies, if it is. -/
theorem Body.split {g : Bool} {v : V} {h : Nat} {n l r : Nd} {key lo hi : Bs} {Q : List Nat} {E : List Ent} (hb : Body g v h n lo hi Q E) (hok : n.ok = true) (hS : SplitIs n l r key) :
    ∃ Ql Qr El Er, Body g v h l lo key Ql El ∧ Body g v h r key hi Qr Er ∧ Q.Perm (Ql ++ Qr) ∧ E = El ++ Er := by
  have hki := hS.key_in hok ⟨hb.1.1, hb.1.2⟩
  have hOl := Nd.Ok.of hS.lo
  have hOr := Nd.Ok.of hS.ro
  cases h with
  | zero =>
    obtain ⟨hk, hl, hc⟩ := hb
    obtain ⟨e, c, hch, rfl⟩ := hS.lf hl
    rw [e] at hc
    obtain ⟨Ql, Qr, El, Er, c1, c2, c3, c4⟩ := CellsAt.append.1 hc
    have hs := Nd.Ok.sortedC hok
    rw [e, List.map_append] at hs
    obtain ⟨rs, hrs⟩ : ∃ rs, r.cells = c :: rs := by
      cases hr : r.cells with
      | nil => rw [hr] at hch; simp at hch
      | cons d rs => rw [hr] at hch; simp at hch; exact ⟨rs, by rw [hch]⟩
    rw [hrs, List.map_cons] at hs
    obtain ⟨s1, s2⟩ := sorted_left hs
    refine ⟨Ql, Qr, El, Er, ⟨⟨fun d hd => ?_, ?_⟩, hS.ll.trans hl, c1⟩, ⟨⟨fun d hd => ?_, ?_⟩, hS.rl.trans hl, c2⟩, c3, c4⟩
    · have := inB_iff.1 (hk.1 d (by rw [e]; simp [hd]))
      exact inB_iff.2 ⟨this.1, .inr (s1 d.key (List.mem_map.2 ⟨d, hd, rfl⟩))⟩
    · rw [(hOl.lf (hS.ll.trans hl)).1]; simp
    · have := inB_iff.1 (hk.1 d (by rw [e]; simp [hd]))
      refine inB_iff.2 ⟨?_, this.2⟩
      rw [hrs] at hd
      rcases List.mem_cons.1 hd with rfl | hd
      · exact klt_irrefl _
      · exact klt_asymm (s2 d.key (List.mem_map.2 ⟨d, hd, rfl⟩))
    · rw [(hOr.lf (hS.rl.trans hl)).1]; simp
  | succ h =>
    obtain ⟨hk, hl, lst, l1, l2, hR⟩ := hb
    obtain ⟨e, e'⟩ := hS.br hl
    have hll := (hOl.br (hS.ll.trans hl))
    have hrl := (hOr.br (hS.rl.trans hl))
    have l2' : lst.map (·.2) = (l.keys ++ [key]) ++ (r.keys ++ [hi]) := by rw [← l2, e]; simp
    obtain ⟨la, lb, rfl, ha, hb⟩ := pair_split lst _ _ l2'
    have hlen : (la.map (·.1)).length = l.kids.length := by
      have := congrArg List.length ha
      simp at this
      simp
      omega
    rw [l1, List.map_append] at e'
    obtain ⟨k1, k2⟩ := List.append_inj e' hlen
    obtain ⟨Ql, Qr, El, Er, c1, c2, c3, c4⟩ := Run.append.1 hR
    have hlast : lastB lo la = key := by rw [lastB_eq, ha]; simp
    rw [hlast] at c2
    have hs := Nd.Ok.sortedK hok
    rw [e] at hs
    obtain ⟨s1, s2⟩ := sorted_left hs
    refine ⟨Ql, Qr, El, Er, ⟨⟨by rw [hll.1]; simp, fun d hd => ?_⟩, hS.ll.trans hl, la, k1.symm, ha.symm, c1⟩, ⟨⟨by rw [hrl.1]; simp, fun d hd => ?_⟩, hS.rl.trans hl, lb, k2.symm, hb.symm, c2⟩, c3, c4⟩
    · exact ⟨(hk.2 d (by rw [e]; simp [hd])).1, .inr (s1 d hd)⟩
    · exact ⟨s2 d hd, (hk.2 d (by rw [e]; simp [hd])).2⟩

theorem Sub.setR {g : Bool} {v : V} {h : Nat} {rt : Bool} {id : Nat} {lo hi : Bs} {P : List Nat} {E : List Ent} (hs : Sub g v h rt id lo hi P E) (i k : Nat) : Sub g (v.setR i k) h rt id lo hi P E := hs.same (fun _ _ he => ⟨he, rfl⟩)
theorem Tr.setR (v : V) (i k : Nat) (A : List Nat) (hA : ∀ p ∈ A, v.err p = 0) : Tr (· = i) v (v.setR i k) A A :=
  ⟨fun p => by
    rw [V.setR_err]
    by_cases hp : p ∈ A
    · simp [hp, hA p hp]
    · simp [hp], fun p _ hq => ⟨rfl, hq⟩, fun j hj => by
    have hj' : ¬ j = i := hj
    simp [V.setR, hj']⟩

theorem Sp.head_in {ups : List Stp} {lo hi : Bs} : True := trivial

set_option maxRecDepth 10000 in
/-- grow: what it makes, if it is right. -/
theorem grow_tree {cap root : Nat} : ∀ (ups : List Stp) (st : Stp) (n : Nd) (v : V) (h : Nat) (rt : Bool) (lo hi : Bs) (P Q : List Nat) (L R E : List Ent), Hole true v root ups h st.id rt lo hi P L R → v.Sane cap → v.err st.id = 0 → Body true v h n lo hi Q E → n.ok = true → n.size ≤ 804 → Min true rt n →
    (st.id :: (P ++ Q)).Nodup → (V.grow cap root (st :: ups) n v).1 = 0 →
    ∃ h' B, Tr (· = root) v (V.grow cap root (st :: ups) n v).2 (st.id :: (P ++ Q)) B ∧ B.Nodup ∧ (V.grow cap root (st :: ups) n v).2.Sane cap ∧ Sub true (V.grow cap root (st :: ups) n v).2 h' true ((V.grow cap root (st :: ups) n v).2.r root) [] [] B (L ++ (E ++ R))
  | ups, st, n, v, h, rt, lo, hi, P, Q, L, R, E, hH, hg, he, hb, hok, hsz, hm, hnd, hc => by
    have hA : ∀ p ∈ st.id :: (P ++ Q), v.err p = 0 := by
      intro p hp
      rcases List.mem_cons.1 hp with rfl | hp
      · exact he
      · rcases List.mem_append.1 hp with hp | hp
        · exact hH.us p hp
        · exact hb.us p hp
    have hnd' := List.nodup_cons.1 hnd
    have hne : ∀ p ∈ P ++ Q, p ≠ st.id := fun p hp e => hnd'.1 (e ▸ hp)
    by_cases hs : n.size ≤ 500
    · obtain ⟨v1, e1, g1, m1, r1, n1, p1, u1, t1⟩ := wr_told hg he hok hs
      have eg : V.grow cap root (st :: ups) n v = (0, v1) := by rw [V.grow, e1]; simp
      rw [eg]
      have hsame : ∀ p ∈ P ++ Q, v.err p = 0 → v1.err p = 0 ∧ v1.pg p = v.pg p := fun p hp h0 => ⟨(u1 p).2 h0, p1 p (hne p hp)⟩
      have hS1 : Sub true v1 h rt st.id lo hi (st.id :: Q) E := Sub.iff.2 ⟨n, Q, n1, hm, List.Perm.refl _, hb.same (fun p hp => hsame p (by simp [hp]))⟩
      have hH1 := hH.same (v' := v1) (by rw [r1]) (fun p hp => hsame p (by simp [hp]))
      have hpl := hH1.plug hS1
      have hperm : (P ++ st.id :: Q).Perm (st.id :: (P ++ Q)) := List.perm_middle
      exact ⟨_, _, (t1 _ _ hA (by simp)).congr (fun _ => Iff.rfl) (fun p => hperm.symm.mem_iff), hperm.nodup_iff.2 hnd, g1, hpl⟩
    · obtain ⟨l, r, key, hS⟩ := split_is hok (by omega) hsz
      obtain ⟨v1, e1, g1, m1, r1, n1, p1, u1, t1⟩ := wr_told hg he hS.lo hS.ls
      have e0 : v.wr st.id n = (3, v) := V.wr_long hok (by omega)
      have hki := hS.key_in hok ⟨hb.1.1, hb.1.2⟩
      have hko := hS.keyOk hok
      obtain ⟨Ql, Qr, El, Er, b1, b2, b3, rfl⟩ := hb.split hok hS
      rcases fresh_told g1 hS.ro hS.rs with ⟨f1, f2, _⟩ | ⟨id2, v2, e2, g2, m2, r2, n2, x2, i1, i2, p2, u2, t2⟩
      · exfalso
        rw [V.grow, e0] at hc
        simp [hS.eq, e1, f1] at hc
      · have hid1 := V.us_lt hg he
        have hx2 : v.err id2 ≠ 0 := fun h => x2 ((u1 id2).2 h)
        have hn12 : st.id ≠ id2 := fun e => hx2 (e ▸ he)
        have hsame : ∀ p ∈ P ++ Q, v.err p = 0 → v2.err p = 0 ∧ v2.pg p = v.pg p := fun p hp h0 =>
          ⟨(u2 p).2 (.inl ((u1 p).2 h0)), (p2 p (fun e => hx2 (e ▸ h0))).trans (p1 p (hne p hp))⟩
        have hm1 : v2.node st.id = some l := V.node_same ((u2 _).2 (.inl ((u1 _).2 he))) (p2 _ hn12) n1
        have hT2 : Tr (· = root) v v2 (st.id :: (P ++ Q)) (id2 :: st.id :: (P ++ Q)) := by
          have h1 := t1 (· = root) _ hA (by simp)
          exact h1.trans (t2 _ _ h1.had)
        have hSl : Sub true v2 h false st.id lo key (st.id :: Ql) El := Sub.iff.2 ⟨l, Ql, hm1, hS.lm true false, List.Perm.refl _, b1.same (fun p hp => hsame p (by
          refine List.mem_append_right _ (b3.mem_iff.2 ?_); simp [hp]))⟩
        have hSr : Sub true v2 h false id2 key hi (id2 :: Qr) Er := Sub.iff.2 ⟨r, Qr, n2, hS.rm true false, List.Perm.refl _, b2.same (fun p hp => hsame p (by
          refine List.mem_append_right _ (b3.mem_iff.2 ?_); simp [hp]))⟩
        have hnd2 : (id2 :: st.id :: (P ++ Q)).Nodup := List.nodup_cons.2 ⟨fun hm => hx2 (hA id2 hm), hnd⟩
        have hH2 := hH.same (v' := v2) (by rw [r2, r1]) (fun p hp => hsame p (by simp [hp]))
        cases hH2 with
        | top _ _ hid =>
          have hko1 : (⟨false, [], [key], [st.id, id2]⟩ : Nd).ok = true := ok_branch (by simp) (by simpa using hko) (by simp) (by simp) (by
            intro i hi
            simp at hi
            rcases hi with hi | rfl
            · rw [hi]; exact idOk_of hid1.1 hid1.2
            · exact idOk_of i1 i2)
          have hsz1 : (⟨false, [], [key], [st.id, id2]⟩ : Nd).size ≤ 500 := by rw [size_branch]; have := keyOk_len hko; simp [sumK]; omega
          rcases fresh_told g2 hko1 hsz1 with ⟨f1, f2, _⟩ | ⟨id3, v3, e3, g3, m3, r3, n3, x3, _, _, p3, u3, t3⟩
          · exfalso
            rw [V.grow, e0] at hc
            simp [hS.eq, e1, e2, f1] at hc
          · have eg : V.grow cap root (st :: []) n v = (0, v3.setR root id3) := by
              rw [V.grow, e0]
              simp only [ne_eq, not_true, if_false, hS.eq, e1, e2, e3]
            rw [eg]
            have hsame3 : ∀ p, v2.err p = 0 → v3.err p = 0 ∧ v3.pg p = v2.pg p := fun p h0 => ⟨(u3 p).2 (.inl h0), p3 p (fun e => x3 (e ▸ h0))⟩
            have hSl3 := hSl.same (fun p _ => hsame3 p)
            have hSr3 := hSr.same (fun p _ => hsame3 p)
            have hSt : Sub true v3 (h + 1) true id3 [] [] (id3 :: ((st.id :: Ql) ++ (id2 :: Qr))) (El ++ Er) :=
              ⟨⟨false, [], [key], [st.id, id2]⟩, _, n3, ⟨fun h => (by cases h), fun _ _ h => (by cases h)⟩, List.Perm.refl _, ⟨by simp, by simpa using hki⟩, rfl, [(st.id, key), (id2, [])], rfl, rfl,
                ⟨_, _, _, _, hSl3, Run.one.2 ⟨_, hSr3, List.Perm.refl _⟩, List.Perm.refl _, rfl⟩⟩
            have hT3 := hT2.trans (t3 (· = root) _ hT2.had)
            have hperm : (id3 :: ((st.id :: Ql) ++ (id2 :: Qr))).Perm (id3 :: id2 :: st.id :: ([] ++ Q)) := perm_of_count fun z => by
              have := b3.count_eq z
              simp [List.count_cons] at this ⊢
              omega
            have hT4 := hT3.trans (Tr.setR v3 root id3 _ hT3.had)
            refine ⟨h + 1, _, hT4.congr (fun _ => Iff.rfl) (fun p => hperm.symm.mem_iff), hperm.nodup_iff.2 (List.nodup_cons.2 ⟨fun hm => x3 (hT2.had _ hm), hnd2⟩), g3.setR _ _, ?_⟩
            have er : (v3.setR root id3).r root = id3 := by simp [V.setR]
            rw [er]
            simpa using hSt.setR root id3
        | @down ups _ rt' lo' hi' P' L' R' p _ _ a b Pa Pb Ea Eb _ _ _ _ q1 q2 q3 q4 q5 q6 q7 q8 q9 q10 q11 q12 q13 q14 =>
          have eg : V.grow cap root (st :: p :: ups) n v = V.grow cap root (p :: ups) ⟨false, [], p.n.keys.insertIdx p.i key, p.n.kids.insertIdx (p.i + 1) id2⟩ v2 := by
            rw [V.grow, e0]
            simp only [ne_eq, not_true, if_false, hS.eq, e1, e2]
          rw [eg] at hc ⊢
          obtain ⟨k1, k2, k3, k4⟩ := split_keys q7
          have hAl : (a.map (·.2)).length = p.i := by simpa using q8
          have hhi : hi = ((hi :: b.map (·.2)).dropLast).headD hi' := by
            cases b with
            | nil => simpa using k3 rfl
            | cons q b => rfl
          have hbm := branch_more (V.node_ok q2) (V.node_size q2) q4 q5.2 k1 (by rw [q14, lastB_eq]) hhi hki hko (idOk_of i1 i2)
          rw [hAl] at hbm
          have hkeys : p.n.keys.insertIdx p.i key = a.map (·.2) ++ key :: (hi :: b.map (·.2)).dropLast := by rw [k1, ← hAl, insertIdx_len]
          have hlast : (hi :: b.map (·.2)).dropLast ++ [hi'] = hi :: b.map (·.2) := by
            have : p.n.keys ++ [hi'] = a.map (·.2) ++ ((hi :: b.map (·.2)).dropLast ++ [hi']) := by rw [← List.append_assoc, ← k1]
            rw [q7] at this
            exact (List.append_cancel_left this).symm
          have hkids : p.n.kids.insertIdx (p.i + 1) id2 = a.map (·.1) ++ st.id :: id2 :: b.map (·.1) := by
            have : a.map (·.1) ++ st.id :: b.map (·.1) = (a.map (·.1) ++ [st.id]) ++ b.map (·.1) := by simp
            rw [q6, this, show p.i + 1 = (a.map (·.1) ++ [st.id]).length from by simp [q8], insertIdx_len]
            simp
          subst q14
          have hB2 : Body true v2 (h + 1) ⟨false, [], p.n.keys.insertIdx p.i key, p.n.kids.insertIdx (p.i + 1) id2⟩ lo' hi' (Pa ++ ((st.id :: Ql) ++ ((id2 :: Qr) ++ Pb))) (Ea ++ (El ++ (Er ++ Eb))) :=
            ⟨⟨hbm.2.2.c, hbm.2.2.k⟩, rfl, a ++ (st.id, key) :: (id2, hi) :: b, by simp [hkids], by simp only [hkeys, List.append_assoc, List.cons_append, hlast, List.map_append, List.map_cons],
              Run.append.2 ⟨_, _, _, _, q9, ⟨_, _, _, _, hSl, ⟨_, _, _, _, hSr, q10, List.Perm.refl _, rfl⟩, List.Perm.refl _, rfl⟩, List.Perm.refl _, rfl⟩⟩
          have hperm : (p.id :: (P' ++ (Pa ++ ((st.id :: Ql) ++ ((id2 :: Qr) ++ Pb))))).Perm (id2 :: st.id :: (P ++ Q)) := perm_of_count fun z => by
            have h1 := b3.count_eq z
            have h2 := q11.count_eq z
            simp [List.count_cons] at h1 h2 ⊢
            omega
          obtain ⟨h', B, j1, j2, j3, j4⟩ := grow_tree (cap := cap) (root := root) ups p _ v2 (h + 1) rt' lo' hi' P' _ L' R' _ q1 g2 (V.node_us q2) hB2 hbm.1 (by omega) ⟨fun h => (by cases h), fun _ _ e => (by
            have e' : p.n.keys.insertIdx p.i key = [] := e
            rw [hkeys] at e'; simp at e')⟩ (hperm.nodup_iff.2 hnd2) hc
          refine ⟨h', B, hT2.trans (j1.congr (fun p => hperm.mem_iff) (fun _ => Iff.rfl)), j2, j3, ?_⟩
          rw [q12, q13]
          have : L' ++ (Ea ++ (El ++ (Er ++ Eb)) ++ R') = L' ++ Ea ++ (El ++ Er ++ (Eb ++ R')) := by simp
          rw [← this]
          exact j4
  termination_by ups => ups.length

end Go.Proofs.YtccnemmlkcmceaaGreatDoor

/- The plain law: Get. -/
set_option linter.unusedVariables false
set_option linter.unusedSimpArgs false
namespace Go.Proofs.YtccnemmlkcmceaaGreatDoor
open Go.RowKit 

/-- A key's place in a tree. -/
structure Loc (g : Bool) (v : V) (root h : Nat) (key : Bs) (P : List Nat) (E : List Ent) (ups : List Stp) (st : Stp) (rt : Bool) (lo hi : Bs) (P' : List Nat) (L R : List Ent) (A B : List Cell) (QA QB : List Nat) (EA EB : List Ent) : Prop where
  way : v.way root key = some ((st :: ups).reverse)
  hole : Hole g v root ups 0 st.id rt lo hi P' L R
  node : v.node st.id = some st.n
  min : Min g rt st.n
  leaf : st.n.leaf = true
  keys : st.n.Keys lo hi
  cells : st.n.cells = A ++ B
  i : A.length = st.i
  fi : (st.n.find key).1 = st.i
  ca : CellsAt g v A QA EA
  cb : CellsAt g v B QB EB
  inb : inB lo hi key = true
  perm : P.Perm (P' ++ st.id :: (QA ++ QB))
  ent : E = L ++ (EA ++ (EB ++ R))
  len : ups.length = h
  lt : ∀ e ∈ L ++ EA, klt e.1 key = true
  gt : ∀ e ∈ R, klt key e.1 = true
  alt : ∀ c ∈ A, klt c.key key = true
  tail : ∀ c ∈ B.tail, klt key c.key = true
  there : (st.n.find key).2 = (hit ((st :: ups).reverse) key).isSome
  hit : (∃ c B' PC b QB' EB', B = c :: B' ∧ c.key = key ∧ CellAt g v c PC b ∧ CellsAt g v B' QB' EB' ∧ QB.Perm (PC ++ QB') ∧ EB = (key, b) :: EB' ∧ (∀ e ∈ EB', klt key e.1 = true) ∧ YtccnemmlkcmceaaGreatDoor.hit ((st :: ups).reverse) key = some c) ∨
    (YtccnemmlkcmceaaGreatDoor.hit ((st :: ups).reverse) key = none ∧ (∀ e ∈ EB, klt key e.1 = true) ∧ ∀ c ∈ B, klt key c.key = true)

theorem locate {g : Bool} {v : V} {root h : Nat} {key : Bs} {P : List Nat} {E : List Ent} (hS : Sub g v h true (v.r root) [] [] P E) (hh : h < 40) :
    ∃ ups st rt lo hi P' L R A B QA QB EA EB, Loc g v root h key P E ups st rt lo hi P' L R A B QA QB EA EB := by
  obtain ⟨ups, st, rt, lo, hi, P', Q, L, R, E', d1, d2, d3, d4, d5, d6, d7, d8, d9, d10⟩ := descend (root := root) (key := key) h 41 (.top h (v.r root) rfl) hS (inB_full key) (by omega) (by simp; omega)
  obtain ⟨hk, hl, hc⟩ := d5
  obtain ⟨A, B, f1, f2, f3, f4, f5, f6, f7⟩ := find_leaf hl (Nd.Ok.sortedC (V.node_ok d3)) key
  rw [f1] at hc
  obtain ⟨QA, QB, EA, EB, c1, c2, c3, rfl⟩ := CellsAt.append.1 hc
  have ho := d2.out
  have hb := inB_iff.1 d7
  have hAi : A.length = st.i := f2.trans d6.symm
  have hat : st.n.cells[st.i]? = B.head? := by rw [f1, ← hAi]; cases B <;> simp
  have hgl : ((st :: ups).reverse).getLast? = some st := by simp
  have hmem : ∀ {cs : List Cell} {Q : List Nat} {F : List Ent}, CellsAt g v cs Q F → ∀ e ∈ F, ∃ c ∈ cs, c.key = e.1 := by
    intro cs Q F h e he
    have : e.1 ∈ cs.map Cell.key := by rw [← h.keys]; exact List.mem_map.2 ⟨e, he, rfl⟩
    obtain ⟨c, hc, e1⟩ := List.mem_map.1 this
    exact ⟨c, hc, e1⟩
  refine ⟨ups, st, rt, lo, hi, P', L, R, A, B, QA, QB, EA, EB, d1, d2, d3, d4, hl, hk, f1, hAi, d6.symm, c1, c2, d7, ?_, ?_, by simpa using d10, ?_, ?_, f3, f6, ?_, ?_⟩
  · refine List.Perm.trans ?_ (d8.trans ((c3.cons st.id).append_left P'))
    simp
  · simpa using d9
  · intro e he
    rcases List.mem_append.1 he with he | he
    · exact lt_kle (ho.1 e he) hb.1
    · obtain ⟨c, hc, e1⟩ := hmem c1 e he
      rw [← e1]; exact f3 c hc
  · intro e he
    obtain ⟨h1, h2⟩ := ho.2 e he
    exact lt_kle (hb.2.resolve_left h1) h2
  · rw [f5]
    unfold YtccnemmlkcmceaaGreatDoor.hit
    rw [hgl]
    simp only [hat]
    cases B with
    | nil => simp
    | cons c B =>
      simp
      by_cases hck : c.key = key
      · simp [hck]
      · simp [hck]
  · cases B with
    | nil =>
      obtain ⟨rfl, rfl⟩ := c2
      refine .inr ⟨?_, by simp, by simp⟩
      unfold YtccnemmlkcmceaaGreatDoor.hit
      rw [hgl]
      simp only [hat]
      rfl
    | cons c B =>
      by_cases hck : c.key = key
      · obtain ⟨PC, QB', b, EB', e1, e2, e3, rfl⟩ := c2
        refine .inl ⟨c, B, PC, b, QB', EB', rfl, hck, e1, e2, e3, by rw [hck], fun e he => ?_, ?_⟩
        · obtain ⟨d, hd, e4⟩ := hmem e2 e he
          rw [← e4]; exact f6 d (by simpa using hd)
        · unfold YtccnemmlkcmceaaGreatDoor.hit
          rw [hgl]
          simp only [hat, List.head?_cons, hck, if_true]
      · have f8 := f7 (by simp [hck])
        refine .inr ⟨?_, fun e he => ?_, f8⟩
        · unfold YtccnemmlkcmceaaGreatDoor.hit
          rw [hgl]
          simp only [hat, List.head?_cons, hck, if_false]
        · obtain ⟨d, hd, e4⟩ := hmem c2 e he
          rw [← e4]; exact f8 d hd

/-! ### entries -/
/-- An entry put in its place. -/
def ins (key val : Bs) : List Ent → List Ent
  | [] => [(key, val)]
  | e :: E => if klt e.1 key then e :: ins key val E else if e.1 = key then (key, val) :: E else (key, val) :: e :: E
/-- An entry taken out. -/
def del (key : Bs) (E : List Ent) : List Ent := E.filter fun e => !(e.1 == key)
theorem ins_left {key val : Bs} {L X : List Ent} (h : ∀ e ∈ L, klt e.1 key = true) : ins key val (L ++ X) = L ++ ins key val X := by
  induction L with
  | nil => rfl
  | cons e L ih => rw [List.cons_append, ins, if_pos (h e (by simp)), ih (fun e he => h e (by simp [he]))]; rfl
theorem ins_gt {key val : Bs} {X : List Ent} (h : ∀ e ∈ X, klt key e.1 = true) : ins key val X = (key, val) :: X := by
  cases X with
  | nil => rfl
  | cons e X =>
    have := h e (by simp)
    rw [ins, if_neg (by rw [klt_asymm this]; simp), if_neg (fun e1 => klt_ne this e1.symm)]
theorem ins_eq {key val b : Bs} {X : List Ent} : ins key val ((key, b) :: X) = (key, val) :: X := by
  rw [ins, if_neg (by simp [klt_irrefl]), if_pos rfl]
theorem del_ne {key : Bs} {X : List Ent} (h : ∀ e ∈ X, e.1 ≠ key) : del key X = X := by
  unfold del
  exact List.filter_eq_self.2 (fun e he => by simpa using h e he)
theorem del_append (key : Bs) (X Y : List Ent) : del key (X ++ Y) = del key X ++ del key Y := by simp [del]
theorem lookup_ne {key : Bs} : ∀ {X : List Ent}, (∀ e ∈ X, e.1 ≠ key) → X.lookup key = none
  | [], _ => rfl
  | e :: X, h => by
    obtain ⟨a, b⟩ := e
    have h1 := h (a, b) (by simp)
    rw [List.lookup_cons]
    have : (key == a) = false := by simp; exact fun e => h1 e.symm
    rw [this]
    exact lookup_ne (fun e he => h e (by simp [he]))
theorem lookup_skip {key : Bs} : ∀ {X Y : List Ent}, (∀ e ∈ X, e.1 ≠ key) → (X ++ Y).lookup key = Y.lookup key
  | [], _, _ => rfl
  | (a, b) :: X, Y, h => by
    have h1 := h (a, b) (by simp)
    rw [List.cons_append, List.lookup_cons]
    have : (key == a) = false := by simp; exact fun e => h1 e.symm
    rw [this]
    exact lookup_skip (fun e he => h e (by simp [he]))

section
variable {g : Bool} {v : V} {root h : Nat} {key : Bs} {P : List Nat} {E : List Ent} {ups : List Stp} {st : Stp} {rt : Bool} {lo hi : Bs} {P' : List Nat} {L R : List Ent} {A B : List Cell} {QA QB : List Nat} {EA EB : List Ent}
theorem Loc.get (hl : Loc g v root h key P E ups st rt lo hi P' L R A B QA QB EA EB) : (match YtccnemmlkcmceaaGreatDoor.hit ((st :: ups).reverse) key with | none => E.lookup key = none | some c => ∃ b, v.value c = some b ∧ E.lookup key = some b) := by
  have h1 : ∀ e ∈ L ++ EA, e.1 ≠ key := fun e he => klt_ne (hl.lt e he)
  rw [hl.ent, ← List.append_assoc, lookup_skip h1]
  rcases hl.hit with ⟨c, B', PC, b, QB', EB', rfl, hck, e1, e2, e3, rfl, e4, e5⟩ | ⟨e5, e6, _⟩
  · rw [e5]
    exact ⟨b, e1.val, by simp⟩
  · rw [e5]
    exact lookup_ne (fun e he => by
      rcases List.mem_append.1 he with he | he
      · exact fun e1 => klt_ne (e6 e he) e1.symm
      · exact fun e1 => klt_ne (hl.gt e he) e1.symm)
end

/-- A tree at a root: its pages and its entries. -/
def TreeOf (g : Bool) (v : V) (root : Nat) (P : List Nat) (E : List Ent) : Prop := (v.r root = 0 ∧ P = [] ∧ E = []) ∨ ∃ h, h < 40 ∧ Sub g v h true (v.r root) [] [] P E

theorem get_told {g : Bool} {v : V} {root : Nat} {key : Bs} {P : List Nat} {E : List Ent} (hT : TreeOf g v root P E) (hm : may key [] = 0) :
    v.get root key = (match E.lookup key with | none => ([], false, 0) | some b => (b, true, 0)) := by
  unfold V.get
  rw [if_neg (by omega)]
  rcases hT with ⟨h0, rfl, rfl⟩ | ⟨h, hh, hS⟩
  · have : v.way root key = some [] := by unfold V.way; rw [h0]; rfl
    rw [this]
    rfl
  · obtain ⟨ups, st, rt, lo, hi, P', L, R, A, B, QA, QB, EA, EB, hl⟩ := locate (key := key) hS hh
    have hg := hl.get
    rw [hl.way]
    simp only
    cases hx : hit (st :: ups).reverse key with
    | none => rw [hx] at hg; simp only at hg; rw [hg]
    | some c =>
      rw [hx] at hg
      simp only at hg
      obtain ⟨b, h1, h2⟩ := hg
      simp only [h1, h2]

end Go.Proofs.YtccnemmlkcmceaaGreatDoor
