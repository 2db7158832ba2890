/- Proofs about the given program, joined out of the texts E9, EA, EB, EC. -/
import Derived.Test.YtccnemmlkcmceaaGreatDoorHA12
/- The plain law: Put. -/
set_option linter.unusedVariables false
set_option linter.unusedSimpArgs false
namespace Go.Proofs.YtccnemmlkcmceaaGreatDoor
open Go.RowKit 

theorem Run.many {S : Nat → Bs → Bs → List Nat → List Ent → Prop} {m : Nat} (hS : ∀ k a b Q F, S k a b Q F → m ≤ F.length) :
    ∀ {l : List (Nat × Bs)} {lo : Bs} {P : List Nat} {E : List Ent}, Run S lo l P E → l.length * m ≤ E.length
  | [], lo, P, E, h => by simp
  | (k, x) :: l, lo, P, E, h => by
    obtain ⟨P1, P2, E1, E2, h1, h2, h3, rfl⟩ := h
    have a := hS _ _ _ _ _ h1
    have b := Run.many hS h2
    rw [List.length_append, List.length_cons, Nat.add_one_mul]
    omega
/-- A tree is not higher than its entries ask for. -/
theorem Sub.height {v : V} : ∀ {h : Nat} {rt : Bool} {id : Nat} {lo hi : Bs} {P : List Nat} {E : List Ent}, Sub true v h rt id lo hi P E → 2 ^ h ≤ E.length
  | 0, rt, id, lo, hi, P, E, hh => by
    have := hh.told.1
    have : E.length ≠ 0 := fun e => this (List.length_eq_zero_iff.1 e)
    simp; omega
  | h + 1, rt, id, lo, hi, P, E, hh => by
    obtain ⟨n, Q, h1, h2, h3, h4, h5, l, l1, l2, h6⟩ := hh
    have hm := Run.many (m := 2 ^ h) (fun _ _ _ _ _ hs => Sub.height hs) h6
    have hk := h2.2 h5 rfl
    have hl : 2 ≤ l.length := by
      have t1 := congrArg List.length l2
      have t2 : n.keys.length ≠ 0 := fun e => hk (List.length_eq_zero_iff.1 e)
      rw [List.length_append, List.length_map, List.length_singleton] at t1
      omega
    have : 2 * 2 ^ h ≤ l.length * 2 ^ h := Nat.mul_le_mul_right _ hl
    rw [Nat.pow_succ, Nat.mul_comm]
    exact Nat.le_trans this hm

theorem Nd.put_cells {n : Nd} {c : Cell} {A B : List Cell} (h : n.cells = A ++ B) (hi : A.length = (n.find c.key).1) : (n.put c).cells = A ++ c :: (if (n.find c.key).2 then B.tail else B) := by
  unfold Nd.put
  simp only [h, ← hi]
  congr 1
  · simp
  · congr 1
    split
    · rw [List.drop_append]; simp
    · simp

/-- put, up to its grow. -/
theorem put0_prep {g : Bool} {cap : Nat} {v : V} {root h : Nat} {key val : Bs} {P : List Nat} {E : List Ent} {ups : List Stp} {st : Stp} {rt : Bool} {lo hi : Bs} {P' : List Nat} {L R : List Ent} {A B : List Cell} {QA QB : List Nat} {EA EB : List Ent}
    (hg : v.Sane cap) (hl : Loc g v root h key P E ups st rt lo hi P' L R A B QA QB EA EB) (hm : may key val = 0) (K : Nat → Prop) :
    ((v.put0 cap root key val).1 = 7 ∧ v.room cap < (val.length + 495) / 496) ∨
    ∃ v2 c ns PC B2 QB2 EB2, v.put0 cap root key val = V.grow cap root (st :: ups) (st.n.put c) v2 ∧ v2.Sane cap ∧ v2.r = v.r ∧ c.ok = true ∧ c.key = key ∧ v.room cap ≤ v2.room cap + (val.length + 495) / 496 ∧ CellAt true v2 c ns val ∧ ns.Nodup ∧
      Tr K v v2 PC ns ∧ (∀ p ∈ PC, v.err p = 0 ∧ (v.pg p).kind = 3) ∧ QB.Perm (PC ++ QB2) ∧ CellsAt g v B2 QB2 EB2 ∧ (st.n.put c).cells = A ++ c :: B2 ∧ (∀ d ∈ B2, klt key d.key = true) ∧ B2.Sublist B ∧ (∀ e ∈ EB2, klt key e.1 = true) ∧ (EB = EB2 ∨ ∃ b, EB = (key, b) :: EB2) := by
  obtain ⟨m1, m2⟩ := mkCell_told hg key val hm K [] (by simp) List.nodup_nil
  rcases m2 with ⟨k1, k2, _⟩ | ⟨k1, ns, k2, k3, k4, k5, k6, k7, k8, k9⟩
  · left
    unfold V.put0
    rw [hl.way]
    simp only [k1]
    simp [k2, k1]
  · right
    rw [List.append_nil] at k4 k5
    have hgl : ((st :: ups).reverse).getLast? = some st := by simp
    have hi : A.length = (st.n.find (v.mkCell cap key val).1.key).1 := by rw [k7, hl.fi, hl.i]
    have hpc := Nd.put_cells hl.cells hi
    rw [k7, hl.there] at hpc
    rcases hl.hit with ⟨c0, B', PC, b, QB', EB', rfl, hck, e1, e2, e3, rfl, e4, e5⟩ | ⟨e5, e6, e7⟩
    · rw [e5] at hpc
      simp only [Option.isSome_some, if_true, List.tail_cons] at hpc
      have e1' : CellAt g (v.mkCell cap key val).2.2 c0 PC b := e1.same (fun p hp he => k4.kept he (by simp))
      obtain ⟨l1, l2, l3, l4, l5, l6⟩ := e1'.letGo m1 PC [] K (fun p hp => (k4.kept (e1.us p hp).1 (by simp)).1) (fun p hp => hp) (fun p => by simp)
      have hT : Tr K v ((v.mkCell cap key val).2.2.letGo c0).2 PC ns := by
        have h1 := k4.more (C := PC) (fun p hp => ⟨(e1.us p hp).1, by simp⟩)
        have h2 := l2.more (C := ns) (fun p hp => ⟨k4.had p hp, fun hq => (k4.fr p (e1.us p hq).1 (by simp)).2 hp⟩)
        exact (h1.trans (h2.congr (fun p => by simp [or_comm]) (fun _ => Iff.rfl))).congr (fun p => by simp) (fun p => by simp)
      refine ⟨((v.mkCell cap key val).2.2.letGo c0).2, (v.mkCell cap key val).1, ns, PC, B', QB', EB', ?_, l3, by rw [l5, k9], k8, k7, by omega, k3.same (fun p hp he => l2.kept he (fun hq => (k4.fr p (e1.us p hq).1 (by simp)).2 hp)), k5, hT, e1.us, e3, e2, hpc, fun d hd => hl.tail d (by simpa using hd), List.sublist_cons_self _ _, e4, .inr ⟨b, rfl⟩⟩
      unfold V.put0
      rw [hl.way]
      simp only [k1, hgl, e5, ne_eq, not_true, if_false, l1, List.reverse_reverse]
    · rw [e5] at hpc
      simp only [Option.isSome_none, Bool.false_eq_true, if_false] at hpc
      refine ⟨(v.mkCell cap key val).2.2, (v.mkCell cap key val).1, ns, [], B, QB, EB, ?_, m1, k9, k8, k7, by omega, k3, k5, k4, by simp, List.Perm.refl _, hl.cb, hpc, e7, List.Sublist.refl _, e6, .inl rfl⟩
      unfold V.put0
      rw [hl.way]
      simp only [k1, hgl, e5, ne_eq, not_true, if_false, List.reverse_reverse]

/-- The leaf with the cell. -/
theorem put_leaf {n : Nd} {c : Cell} {A B B2 : List Cell} {lo hi : Bs} (hok : n.ok = true) (hs : n.size ≤ 500) (hl : n.leaf = true) (hk : n.Keys lo hi) (e : n.cells = A ++ B) (hc : c.ok = true) (hin : inB lo hi c.key = true) (h2 : (n.put c).cells = A ++ c :: B2) (hA : ∀ d ∈ A, klt d.key c.key = true)
    (hB : ∀ d ∈ B2, klt c.key d.key = true) (hsb : B2.Sublist B) :
    (n.put c).ok = true ∧ (n.put c).size ≤ 660 ∧ (n.put c).Keys lo hi ∧ (n.put c).leaf = true := by
  have hsub : ∀ d ∈ B2, d ∈ B := fun d hd => hsb.subset hd
  have hO := Nd.Ok.of hok
  have hlf := hO.lf hl
  have hn : n.put c = ⟨true, A ++ c :: B2, [], []⟩ := by
    have h3 : n.put c = ⟨n.leaf, (n.put c).cells, n.keys, n.kids⟩ := rfl
    rw [h3, h2, hl, hlf.1, hlf.2]
  have hsz : sumC n.cells ≤ 498 := by
    have := Nd.eq_leaf hok hl
    rw [this, size_leaf] at hs
    omega
  have hge := sumC_ge n.cells hO.c
  have hS := Nd.Ok.sortedC hok
  have hoc := hO.c
  rw [e] at hS hsz hge hoc
  rw [List.map_append] at hS
  obtain ⟨s1, s2, s3⟩ := List.pairwise_append.1 hS
  have hcs := cell_size hc
  have hBl := hsb.length_le
  have hBs : sumC B2 ≤ sumC B := by
    unfold sumC
    have h1 : ∀ {X Y : List Cell}, X.Sublist Y → (X.map Cell.size).sum ≤ (Y.map Cell.size).sum := by
      intro X Y h
      induction h with
      | slnil => exact Nat.le_refl _
      | cons a h ih => simp; omega
      | cons_cons a h ih => simp; omega
    exact h1 hsb
  rw [sumC_append] at hsz hge
  rw [List.length_append] at hge
  rw [hn]
  refine ⟨ok_leaf ?_ ?_ ?_, ?_, ⟨?_, by simp⟩, rfl⟩
  · rw [List.length_append, List.length_cons]; omega
  · intro d hd
    rcases List.mem_append.1 hd with h | h
    · exact hoc d (by simp [h])
    · rcases List.mem_cons.1 h with rfl | h
      · exact hc
      · exact hoc d (by simp [hsub d h])
  · rw [List.map_append, List.map_cons]
    refine List.pairwise_append.2 ⟨s1, List.pairwise_cons.2 ⟨fun k hk => ?_, s2.sublist (hsb.map _)⟩, fun a ha b hb => ?_⟩
    · obtain ⟨d, hd, rfl⟩ := List.mem_map.1 hk; exact hB d hd
    · obtain ⟨d, hd, rfl⟩ := List.mem_map.1 ha
      rcases List.mem_cons.1 hb with rfl | hb
      · exact hA d hd
      · obtain ⟨d', hd', rfl⟩ := List.mem_map.1 hb
        exact klt_trans (hA d hd) (hB d' hd')
  · rw [size_leaf, sumC_append]
    have : sumC (c :: B2) = c.size + sumC B2 := by simp [sumC]
    rw [this]; omega
  · intro d hd
    have hd' : d ∈ A ++ c :: B2 := hd
    rcases List.mem_append.1 hd' with h | h
    · exact hk.1 d (by rw [e]; simp [h])
    · rcases List.mem_cons.1 h with rfl | h
      · exact hin
      · exact hk.1 d (by rw [e]; simp [hsub d h])

/-- Put's error in a tree, however it came to be. -/
theorem put0_codes {g : Bool} {cap : Nat} {v : V} {root : Nat} {key val : Bs} {P : List Nat} {E : List Ent} (hg : v.Sane cap) (hT : TreeOf g v root P E) (hm : may key val = 0) :
    (v.put0 cap root key val).1 = 0 ∨ (v.r root ≠ 0 ∧ (v.put0 cap root key val).1 = 7 ∧ ∀ h, Sub g v h true (v.r root) [] [] P E → h < 40 → v.room cap < (val.length + 495) / 496 + h + 2) ∨ (v.r root = 0 ∧ (v.put0 cap root key val).1 = 7 ∧ v.room cap < (val.length + 495) / 496 + 1) := by
  by_cases h0 : v.r root = 0
  · obtain ⟨m1, m2⟩ := mkCell_told hg key val hm (fun _ => False) [] (by simp) List.nodup_nil
    have hw : v.way root key = some [] := by unfold V.way; rw [h0]; rfl
    rcases m2 with ⟨k1, k2, _⟩ | ⟨k1, ns, k2, k3, k4, k5, k6, k7, k8, k9⟩
    · right; right
      unfold V.put0
      rw [hw]
      simp only [k1]
      refine ⟨h0, by simp [k1], by omega⟩
    · have hok1 : (⟨true, [(v.mkCell cap key val).1], [], []⟩ : Nd).ok = true := ok_leaf (by simp) (by simpa using k8) (by simp)
      have hsz1 : (⟨true, [(v.mkCell cap key val).1], [], []⟩ : Nd).size ≤ 500 := by rw [size_leaf]; have := cell_size k8; simp [sumC]; omega
      rcases fresh_told m1 hok1 hsz1 with ⟨f1, f2, _⟩ | ⟨id, v1, e1, _⟩
      · right; right
        unfold V.put0
        rw [hw]
        simp only [k1, f1]
        refine ⟨h0, by simp [f1], by omega⟩
      · left
        unfold V.put0
        rw [hw]
        simp [k1, e1]
  · rcases hT with ⟨h1, _⟩ | ⟨h, hh, hS⟩
    · exact absurd h1 h0
    · obtain ⟨ups, st, rt, lo, hi, P', L, R, A, B, QA, QB, EA, EB, hl⟩ := locate (key := key) hS hh
      rcases put0_prep hg hl hm (fun _ => False) with ⟨k1, k2⟩ | ⟨v2, c, ns, PC, B2, QB2, EB2, e, g2, r2, c1, c2, rm, c3, nd, tr, pc, q1, q2, q3, q4, q5, q6, q7⟩
      · exact .inr (.inl ⟨h0, k1, fun h _ _ => by omega⟩)
      · have hpl := put_leaf (V.node_ok hl.node) (V.node_size hl.node) hl.leaf hl.keys hl.cells c1 (by rw [c2]; exact hl.inb) q3 (by rw [c2]; exact hl.alt) (by rw [c2]; exact q4) q5
        obtain ⟨s1, s2⟩ := hl.hole.sp
        have hkeep : ∀ p n, v.node p = some n → v2.err p = 0 := fun p n hn => (tr.kept (V.node_us hn) (fun hp => by
          have h3 := (pc p hp).2
          unfold V.node at hn
          split at hn
          · split at hn
            · omega
            · cases hn
          · cases hn)).1
        have hups : ∀ p ∈ ups, v2.err p.id = 0 := by
          have : ∀ {ups : List Stp} {h id : Nat} {rt : Bool} {lo hi : Bs} {P : List Nat} {L R : List Ent}, Hole g v root ups h id rt lo hi P L R → ∀ p ∈ ups, ∃ n, v.node p.id = some n := by
            intro ups h id rt lo hi P L R hh
            induction hh with
            | top => simp
            | down h1 h2 h3 h4 h5 h6 h7 h8 h9 h10 h11 h12 h13 h14 ih =>
              intro q hq
              rcases List.mem_cons.1 hq with rfl | hq
              · exact ⟨_, h2⟩
              · exact ih q hq
          intro p hp
          obtain ⟨n, hn⟩ := this hl.hole p hp
          exact hkeep _ n hn
        have := grow_codes (cap := cap) (root := root) ups st (st.n.put c) v2 lo hi s1 g2 (hkeep _ _ hl.node) hups hpl.1 (by omega) ⟨hpl.2.2.1.1, hpl.2.2.1.2⟩
        rw [e]
        rcases this with h | ⟨h1, h2⟩
        · exact .inl h
        · refine .inr (.inl ⟨h0, h1, fun h' hs' hh' => ?_⟩)
          obtain ⟨ups2, st2, rt2, lo2, hi2, P2, L2, R2, A2, B2', QA2, QB2', EA2, EB2', hl2⟩ := locate (key := key) hs' hh'
          have h5 := hl.way
          rw [hl2.way] at h5
          injection h5 with h5
          have h6 := congrArg List.length h5
          simp at h6
          have h7 := hl.len
          have h8 := hl2.len
          omega

/-- Put in a tree. -/
theorem put0_tree {cap : Nat} {v : V} {root : Nat} {key val : Bs} {P : List Nat} {E : List Ent} (hg : v.Sane cap) (hT : TreeOf true v root P E) (hnd : P.Nodup) (hm : may key val = 0) (hE : E.length < 1000000) (hc : (v.put0 cap root key val).1 = 0) :
    ∃ B, Tr (· = root) v (v.put0 cap root key val).2 P B ∧ B.Nodup ∧ (v.put0 cap root key val).2.Sane cap ∧ TreeOf true (v.put0 cap root key val).2 root B (ins key val E) := by
  rcases hT with ⟨h0, rfl, rfl⟩ | ⟨h, hh, hS⟩
  · obtain ⟨m1, m2⟩ := mkCell_told hg key val hm (· = root) [] (by simp) List.nodup_nil
    have hw : v.way root key = some [] := by unfold V.way; rw [h0]; rfl
    rcases m2 with ⟨k1, k2, _⟩ | ⟨k1, ns, k2, k3, k4, k5, k6, k7, k8, k9⟩
    · exfalso
      unfold V.put0 at hc
      rw [hw] at hc
      simp only [k1] at hc
      simp [k1] at hc
    · rw [List.append_nil] at k4 k5
      have hok1 : (⟨true, [(v.mkCell cap key val).1], [], []⟩ : Nd).ok = true := ok_leaf (by simp) (by simpa using k8) (by simp)
      have hsz1 : (⟨true, [(v.mkCell cap key val).1], [], []⟩ : Nd).size ≤ 500 := by rw [size_leaf]; have := cell_size k8; simp [sumC]; omega
      rcases fresh_told m1 hok1 hsz1 with ⟨f1, f2, _⟩ | ⟨id, v1, e1, g1, m1', r1, n1, x1, _, _, p1, u1, t1⟩
      · exfalso
        unfold V.put0 at hc
        rw [hw] at hc
        simp only [k1, f1] at hc
        simp [f1] at hc
      · have e : v.put0 cap root key val = (0, v1.setR root id) := by
          unfold V.put0
          rw [hw]
          simp [k1, e1]
        rw [e]
        have hT1 := k4.trans (t1 (· = root) ns k4.had)
        have hT2 := hT1.trans (Tr.setR v1 root id _ hT1.had)
        have hca : CellAt true v1 (v.mkCell cap key val).1 ns val := k3.same (fun p hp he => ⟨(u1 p).2 (.inl he), p1 p (fun e => x1 (e ▸ he))⟩)
        have hsub : Sub true v1 0 true id [] [] (id :: ns) [(key, val)] := ⟨_, ns, n1, ⟨fun _ => ⟨by simp, fun _ h => by cases h⟩, fun h => by cases h⟩, List.Perm.refl _, ⟨fun c _ => inB_full _, by simp⟩, rfl, ns, [], val, [], hca, ⟨rfl, rfl⟩, by simp, by rw [k7]⟩
        refine ⟨_, hT2, List.nodup_cons.2 ⟨fun hm => x1 (k4.had _ hm), k5⟩, g1.setR _ _, .inr ⟨0, by omega, ?_⟩⟩
        have er : (v1.setR root id).r root = id := by simp [V.setR]
        rw [er]
        exact hsub.setR root id
  · obtain ⟨ups, st, rt, lo, hi, P', L, R, A, B, QA, QB, EA, EB, hl⟩ := locate (key := key) hS hh
    rcases put0_prep hg hl hm (· = root) with ⟨k1, k2⟩ | ⟨v2, c, ns, PC, B2, QB2, EB2, e, g2, r2, c1, c2, rm, c3, nd, tr, pc, q1, q2, q3, q4, q5, q6, q7⟩
    · rw [k1] at hc; cases hc
    · have hpl := put_leaf (V.node_ok hl.node) (V.node_size hl.node) hl.leaf hl.keys hl.cells c1 (by rw [c2]; exact hl.inb) q3 (by rw [c2]; exact hl.alt) (by rw [c2]; exact q4) q5
      rw [e] at hc ⊢
      have hus : ∀ p ∈ P, v.err p = 0 := hS.us
      have hndP : (P' ++ st.id :: (QA ++ QB)).Nodup := hl.perm.nodup_iff.1 hnd
      have hndP2 : (PC ++ (P' ++ st.id :: (QA ++ QB2))).Nodup := by
        refine (List.Perm.nodup_iff ?_).1 hndP
        refine perm_of_count fun z => ?_
        have h1 := q1.count_eq z
        simp [List.count_cons] at h1 ⊢
        omega
      have hPC : ∀ p ∈ P' ++ st.id :: (QA ++ QB2), p ∉ PC := fun p hp hq => (List.nodup_append.1 hndP2).2.2 p hq p hp rfl
      have hin : ∀ p ∈ P' ++ st.id :: (QA ++ QB2), p ∈ P := by
        intro p hp
        rw [hl.perm.mem_iff]
        simp only [List.mem_append, List.mem_cons] at hp ⊢
        rcases hp with h | h | h | h
        · exact .inl h
        · exact .inr (.inl h)
        · exact .inr (.inr (.inl h))
        · exact .inr (.inr (.inr (q1.mem_iff.2 (by simp [h]))))
      have hsame : ∀ p ∈ P' ++ st.id :: (QA ++ QB2), v.err p = 0 → v2.err p = 0 ∧ v2.pg p = v.pg p := fun p hp h0 => tr.kept h0 (hPC p hp)
      have hH2 := hl.hole.same (v' := v2) (by rw [r2]) (fun p hp => hsame p (by simp [hp]))
      have hca := hl.ca.same (fun p hp => hsame p (by simp [hp]))
      have hcb := q2.same (fun p hp => hsame p (by simp [hp]))
      have hbody : Body true v2 0 (st.n.put c) lo hi (QA ++ (ns ++ QB2)) (EA ++ (key, val) :: EB2) := by
        refine ⟨hpl.2.2.1, hpl.2.2.2, ?_⟩
        rw [q3]
        exact CellsAt.append.2 ⟨_, _, _, _, hca, ⟨_, _, _, _, c3, hcb, List.Perm.refl _, by rw [c2]⟩, List.Perm.refl _, rfl⟩
      have hest : v2.err st.id = 0 := (hsame st.id (by simp) (V.node_us hl.node)).1
      have hnd2 : (st.id :: (P' ++ (QA ++ (ns ++ QB2)))).Nodup := by
        have h1 : (ns ++ (P' ++ st.id :: (QA ++ QB2))).Nodup := by
          refine List.nodup_append.2 ⟨nd, (List.nodup_append.1 hndP2).2.1, fun p hp q hq e => ?_⟩
          subst e
          exact (tr.fr p (hus p (hin p hq)) (hPC p hq)).2 hp
        refine (List.Perm.nodup_iff ?_).1 h1
        refine perm_of_count fun z => ?_
        simp [List.count_cons]
        omega
      have hmin : Min true rt (st.n.put c) := by
        refine ⟨fun _ => ⟨by rw [q3]; simp, fun _ hrt => ?_⟩, fun h => by rw [hpl.2.2.2] at h; cases h⟩
        rw [q3]
        have h1 := (hl.min.1 hl.leaf).2 rfl hrt
        rw [hl.cells] at h1
        have h2 := hl.ca.len
        have h3 := hl.cb.len
        have h4 := q2.len
        have h5 : EB.length ≤ EB2.length + 1 := by rcases q7 with rfl | ⟨b, rfl⟩ <;> simp
        rw [List.length_append] at h1 ⊢
        rw [List.length_cons]
        omega
      obtain ⟨h', B', j1, j2, j3, j4⟩ := grow_tree (cap := cap) (root := root) ups st (st.n.put c) v2 0 rt lo hi P' (QA ++ (ns ++ QB2)) L R _ hH2 g2 hest hbody hpl.1 (by omega) hmin hnd2 hc
      have hT2 : Tr (· = root) v v2 P (st.id :: (P' ++ (QA ++ (ns ++ QB2)))) := by
        refine (tr.more (C := P' ++ st.id :: (QA ++ QB2)) (fun p hp => ⟨hus p (hin p hp), hPC p hp⟩)).congr (fun p => ?_) (fun p => ?_)
        · rw [hl.perm.mem_iff]
          have h1 := q1.mem_iff (a := p)
          simp only [List.mem_append, List.mem_cons, h1]
          constructor
          · rintro (h | h | h | h | h)
            · exact .inr (.inr (.inr (.inl h)))
            · exact .inl h
            · exact .inr (.inl h)
            · exact .inr (.inr (.inl h))
            · exact .inr (.inr (.inr (.inr h)))
          · rintro (h | h | h | h | h)
            · exact .inr (.inl h)
            · exact .inr (.inr (.inl h))
            · exact .inr (.inr (.inr (.inl h)))
            · exact .inl h
            · exact .inr (.inr (.inr (.inr h)))
        · simp only [List.mem_append, List.mem_cons]
          constructor
          · rintro (h | h | h | h | h)
            · exact .inr (.inr (.inr (.inl h)))
            · exact .inr (.inl h)
            · exact .inl h
            · exact .inr (.inr (.inl h))
            · exact .inr (.inr (.inr (.inr h)))
          · rintro (h | h | h | h | h)
            · exact .inr (.inr (.inl h))
            · exact .inr (.inl h)
            · exact .inr (.inr (.inr (.inl h)))
            · exact .inl h
            · exact .inr (.inr (.inr (.inr h)))
      have hins : ins key val E = L ++ (EA ++ (key, val) :: EB2 ++ R) := by
        rw [hl.ent, ← List.append_assoc, ins_left hl.lt]
        rcases q7 with rfl | ⟨b, rfl⟩
        · rw [ins_gt (fun e he => by
            rcases List.mem_append.1 he with he | he
            · exact q6 e he
            · exact hl.gt e he)]
          simp
        · rw [List.cons_append, ins_eq]
          simp
      refine ⟨B', hT2.trans j1, j2, j3, .inr ⟨h', ?_, by rw [hins]; exact j4⟩⟩
      have hh' := j4.height
      rcases Nat.lt_or_ge h' 40 with h | h
      · exact h
      · exfalso
        have h1 : 2 ^ 40 ≤ 2 ^ h' := Nat.pow_le_pow_right (by omega) h
        have h2 : (L ++ (EA ++ (key, val) :: EB2 ++ R)).length ≤ E.length + 1 := by
          rw [hl.ent]
          have : EB2.length ≤ EB.length := by rcases q7 with rfl | ⟨b, rfl⟩ <;> simp
          simp; omega
        have h3 : (2 : Nat) ^ 40 = 1099511627776 := by decide
        omega

end Go.Proofs.YtccnemmlkcmceaaGreatDoor

/- The plain law: Join. -/
set_option linter.unusedVariables false
set_option linter.unusedSimpArgs false
namespace Go.Proofs.YtccnemmlkcmceaaGreatDoor
open Go.RowKit 

/-! ### join -/
theorem inB_wide {lo key hi k : Bs} (h : inB lo key k = true) (hk : inS lo hi key) : inB lo hi k = true := by
  have h1 := inB_iff.1 h
  have hne : key ≠ [] := fun e => by rw [e] at hk; have := hk.1; rw [klt_nil_right] at this; cases this
  refine inB_iff.2 ⟨h1.1, ?_⟩
  rcases hk.2 with h2 | h2
  · exact .inl h2
  · exact .inr (klt_trans (h1.2.resolve_left hne) h2)
theorem inB_wide' {lo key hi k : Bs} (h : inB key hi k = true) (hk : inS lo hi key) : inB lo hi k = true := by
  have h1 := inB_iff.1 h
  exact inB_iff.2 ⟨klt_asymm (lt_kle hk.1 h1.1), h1.2⟩
theorem inS_wide {lo key hi k : Bs} (h : inS lo key k) (hk : inS lo hi key) : inS lo hi k := by
  have hne : key ≠ [] := fun e => by rw [e] at hk; have := hk.1; rw [klt_nil_right] at this; cases this
  refine ⟨h.1, ?_⟩
  rcases hk.2 with h2 | h2
  · exact .inl h2
  · exact .inr (klt_trans (h.2.resolve_left hne) h2)
theorem inS_wide' {lo key hi k : Bs} (h : inS key hi k) (hk : inS lo hi key) : inS lo hi k := ⟨klt_trans hk.1 h.1, h.2⟩

theorem glue_body {g : Bool} {v : V} {h : Nat} {l r : Nd} {key lo hi : Bs} {Ql Qr : List Nat} {El Er : List Ent} (hl : Body g v h l lo key Ql El) (hr : Body g v h r key hi Qr Er) (hk : inS lo hi key) : Body g v h (l.glue r key) lo hi (Ql ++ Qr) (El ++ Er) := by
  have hc : ∀ c ∈ l.cells ++ r.cells, inB lo hi c.key = true := by
    intro c hc
    rcases List.mem_append.1 hc with h | h
    · exact inB_wide (hl.1.1 c h) hk
    · exact inB_wide' (hr.1.1 c h) hk
  cases h with
  | zero =>
    have e : l.glue r key = ⟨true, l.cells ++ r.cells, [], []⟩ := by unfold Nd.glue; rw [if_pos hl.2.1]
    rw [e]
    exact ⟨⟨hc, by simp⟩, rfl, CellsAt.append.2 ⟨_, _, _, _, hl.2.2, hr.2.2, List.Perm.refl _, rfl⟩⟩
  | succ h =>
    obtain ⟨⟨_, k1⟩, hl0, la, l1, l2, l3⟩ := hl
    obtain ⟨⟨_, k2⟩, hr0, lb, r1, r2, r3⟩ := hr
    have e : l.glue r key = ⟨false, l.cells ++ r.cells, l.keys ++ key :: r.keys, l.kids ++ r.kids⟩ := by unfold Nd.glue; rw [if_neg (by simp [hl0])]
    rw [e]
    refine ⟨⟨hc, ?_⟩, rfl, la ++ lb, by simp [l1, r1], ?_, ?_⟩
    · intro k hkm
      have hkm' : k ∈ l.keys ++ key :: r.keys := hkm
      rcases List.mem_append.1 hkm' with h | h
      · exact inS_wide (k1 k h) hk
      · rcases List.mem_cons.1 h with rfl | h
        · exact hk
        · exact inS_wide' (k2 k h) hk
    · show (l.keys ++ key :: r.keys) ++ [hi] = _
      rw [List.map_append, ← l2, ← r2]; simp
    · refine Run.append.2 ⟨_, _, _, _, l3, ?_, List.Perm.refl _, rfl⟩
      rw [last_keys l2]; exact r3

theorem glue_ok {g : Bool} {v : V} {h : Nat} {l r : Nd} {key lo hi : Bs} {Ql Qr : List Nat} {El Er : List Ent} (hl : Body g v h l lo key Ql El) (hr : Body g v h r key hi Qr Er) (hk : inS lo hi key) (hko : keyOk key = true)
    (ho : l.ok = true) (hp : r.ok = true) (hs : l.size ≤ 500) (ht : r.size ≤ 500) :
    l.join r key = some (l.glue r key) ∧ (l.glue r key).ok = true ∧ (l.glue r key).size ≤ l.size + r.size + 139 ∧ (l.glue r key).leaf = l.leaf := by
  have hO := Nd.Ok.of ho
  have hP := Nd.Ok.of hp
  have hlr : l.leaf = r.leaf := by
    cases h with
    | zero => rw [hl.2.1, hr.2.1]
    | succ h => rw [hl.2.1, hr.2.1]
  have hkl := keyOk_len hko
  have hne : key ≠ [] := fun e => by rw [e] at hkl; simp at hkl
  have main : (l.glue r key).ok = true ∧ (l.glue r key).size ≤ l.size + r.size + 139 ∧ (l.glue r key).leaf = l.leaf := by
    cases hlf : l.leaf
    · have hrf : r.leaf = false := by rw [← hlr]; exact hlf
      have e : l.glue r key = ⟨false, [], l.keys ++ key :: r.keys, l.kids ++ r.kids⟩ := by unfold Nd.glue; rw [if_neg (by simp [hlf]), (hO.br hlf).1, (hP.br hrf).1]; rfl
      have s1 : l.size = 6 + sumK l.keys := by rw [Nd.eq_branch ho hlf, size_branch]
      have s2 : r.size = 6 + sumK r.keys := by rw [Nd.eq_branch hp hrf, size_branch]
      have g1 := sumK_ge l.keys hO.k
      have g2 := sumK_ge r.keys hP.k
      have b1 := (hO.br hlf).2
      have b2 := (hP.br hrf).2
      rw [e]
      refine ⟨ok_branch ?_ ?_ ?_ ?_ ?_, ?_, rfl⟩
      · rw [List.length_append, List.length_cons]; omega
      · intro k hkm
        rcases List.mem_append.1 hkm with h | h
        · exact hO.k k h
        · rcases List.mem_cons.1 h with rfl | h
          · exact hko
          · exact hP.k k h
      · refine List.pairwise_append.2 ⟨Nd.Ok.sortedK ho, List.pairwise_cons.2 ⟨fun k hkm => (hr.1.2 k hkm).1, Nd.Ok.sortedK hp⟩, fun a ha b hb => ?_⟩
        have h1 := (hl.1.2 a ha).2.resolve_left hne
        rcases List.mem_cons.1 hb with rfl | hb
        · exact h1
        · exact klt_trans h1 (hr.1.2 b hb).1
      · rw [List.length_append, List.length_append, List.length_cons]; omega
      · intro i hi
        rcases List.mem_append.1 hi with h | h
        · exact hO.i i h
        · exact hP.i i h
      · rw [size_branch, sumK_append]
        have : sumK (key :: r.keys) = 5 + key.length + sumK r.keys := by simp [sumK]
        rw [this]; omega
    · have hrf : r.leaf = true := by rw [← hlr]; exact hlf
      have e : l.glue r key = ⟨true, l.cells ++ r.cells, [], []⟩ := by unfold Nd.glue; rw [if_pos hlf]
      have s1 : l.size = 2 + sumC l.cells := by rw [Nd.eq_leaf ho hlf, size_leaf]
      have s2 : r.size = 2 + sumC r.cells := by rw [Nd.eq_leaf hp hrf, size_leaf]
      have g1 := sumC_ge l.cells hO.c
      have g2 := sumC_ge r.cells hP.c
      rw [e]
      refine ⟨ok_leaf ?_ ?_ ?_, ?_, rfl⟩
      · rw [List.length_append]; omega
      · intro c hc
        rcases List.mem_append.1 hc with h | h
        · exact hO.c c h
        · exact hP.c c h
      · rw [List.map_append]
        refine List.pairwise_append.2 ⟨Nd.Ok.sortedC ho, Nd.Ok.sortedC hp, fun a ha b hb => ?_⟩
        obtain ⟨c, hc, rfl⟩ := List.mem_map.1 ha
        obtain ⟨d, hd, rfl⟩ := List.mem_map.1 hb
        have h1 := inB_iff.1 (hl.1.1 c hc)
        have h2 := inB_iff.1 (hr.1.1 d hd)
        exact lt_kle (h1.2.resolve_left hne) h2.1
      · rw [size_leaf, sumC_append]; omega
  refine ⟨?_, main⟩
  unfold Nd.join
  rw [if_neg (by simp [ho, hp, hlr]), if_pos main.1]

/-- A key, and the kid behind it, less in a branch. -/
theorem branch_less {p : Nd} {A B : List Bs} {key lo' hi' : Bs} {C D : List Nat} {x y : Nat} (hok : p.ok = true) (hs : p.size ≤ 500) (hl : p.leaf = false) (hin : ∀ k ∈ p.keys, inS lo' hi' k) (e : p.keys = A ++ key :: B) (ei : p.kids = C ++ x :: y :: D) (hC : C.length = A.length) :
    (⟨false, [], A ++ B, C ++ x :: D⟩ : Nd).ok = true ∧ (⟨false, [], A ++ B, C ++ x :: D⟩ : Nd).size ≤ 500 ∧ (∀ k ∈ A ++ B, inS lo' hi' k) := by
  have hO := Nd.Ok.of hok
  have hbr := (hO.br hl).2
  have hS := Nd.Ok.sortedK hok
  have hsz : sumK p.keys ≤ 494 := by
    have h2 := Nd.eq_branch hok hl
    rw [h2, size_branch] at hs
    omega
  have h2 := hO.a2
  have hko := hO.k
  have hid := hO.i
  rw [e] at hS hin hsz hbr h2 hko
  rw [ei] at hbr hid
  have hmem : ∀ k ∈ A ++ B, k ∈ A ++ key :: B := by
    intro k hk; simp at hk ⊢; rcases hk with h | h <;> simp [h]
  have hsub : (A ++ B).Sublist (A ++ key :: B) := (List.Sublist.refl A).append (List.sublist_cons_self _ _)
  simp only [List.length_append, List.length_cons] at hbr h2
  refine ⟨ok_branch (by rw [List.length_append]; omega) (fun k hk => hko k (hmem k hk)) (hS.sublist hsub) (by simp only [List.length_append, List.length_cons]; omega) (fun i hi => hid i (by
    simp at hi ⊢; rcases hi with h | h | h <;> simp [h])), ?_, fun k hk => hin k (hmem k hk)⟩
  rw [size_branch]
  have : sumK (A ++ key :: B) = sumK (A ++ B) + (5 + key.length) := by simp [sumK]; omega
  omega

theorem eraseIdx_len {α : Type} (A B : List α) (y : α) : (A ++ y :: B).eraseIdx A.length = A ++ B := by
  induction A with
  | nil => rfl
  | cons a A ih => simpa using ih
theorem set_len {α : Type} (A B : List α) (y z : α) : (A ++ y :: B).set A.length z = A ++ z :: B := by
  induction A with
  | nil => rfl
  | cons a A ih => simp
theorem getD_len {α : Type} (A B : List α) (y d : α) : (A ++ y :: B).getD A.length d = y := by
  rw [List.getD_eq_getElem?_getD]; simp

theorem Min.root {g rt : Bool} {n : Nd} (h : Min g false n) : Min g rt n := ⟨fun hl => ⟨(h.1 hl).1, fun hg _ => (h.1 hl).2 hg rfl⟩, h.2⟩
theorem Sub.root {g : Bool} {v : V} {h : Nat} {rt : Bool} {id : Nat} {lo hi : Bs} {P : List Nat} {E : List Ent} (hs : Sub g v h false id lo hi P E) : Sub g v h rt id lo hi P E := by
  rw [Sub.iff] at hs ⊢
  obtain ⟨n, Q, h1, h2, h3⟩ := hs
  exact ⟨n, Q, h1, h2.root, h3⟩
theorem big_min {n : Nd} (hok : n.ok = true) (hs : 166 ≤ n.size) (g rt : Bool) : Min g rt n := by
  have hO := Nd.Ok.of hok
  refine ⟨fun hl => ?_, fun hl _ e => ?_⟩
  · rw [Nd.eq_leaf hok hl, size_leaf] at hs
    have := sumC_ge n.cells hO.c
    refine ⟨fun e => ?_, fun _ _ => ?_⟩
    · rw [e] at hs; simp [sumC] at hs
    · omega
  · rw [Nd.eq_branch hok hl, size_branch, e] at hs
    simp [sumK] at hs

end Go.Proofs.YtccnemmlkcmceaaGreatDoor

/- The plain law: shrink. -/
set_option linter.unusedVariables false
set_option linter.unusedSimpArgs false
namespace Go.Proofs.YtccnemmlkcmceaaGreatDoor
open Go.RowKit 

/-- Two kids beside one another, as beside joins them. -/
structure Bes (v : V) (h : Nat) (p : Stp) (n : Nd) (lo' hi' : Bs) (at_ : Nat) (a0 b0 : List (Nat × Bs)) (pl pr : Nat) (key y : Bs) (ln rn : Nd) (Ql Qr Pa0 Pb0 : List Nat) (El Er Ea0 Eb0 : List Ent) : Prop where
  eq : v.beside p.n p.i n = (0, at_, ln.glue rn key)
  len : a0.length = at_
  kids : p.n.kids = a0.map (·.1) ++ pl :: pr :: b0.map (·.1)
  keys : p.n.keys ++ [hi'] = a0.map (·.2) ++ key :: y :: b0.map (·.2)
  ra : Run (Sub true v h false) lo' a0 Pa0 Ea0
  rb : Run (Sub true v h false) y b0 Pb0 Eb0
  bl : Body true v h ln (lastB lo' a0) key Ql El
  br : Body true v h rn key y Qr Er
  lo : ln.ok = true
  ro : rn.ok = true
  ls : ln.size ≤ 500
  rs : rn.size ≤ 500
  sz : ln.size + rn.size ≤ 665
  mn : Min true false ln ∨ Min true false rn
  ko : keyOk key = true
  ki : inS (lastB lo' a0) y key
  el : v.err pl = 0
  er : v.err pr = 0

theorem key_between {n : Nd} {lo hi key y : Bs} {a b : List (Nat × Bs)} (hok : n.ok = true) (hk : ∀ k ∈ n.keys, inS lo hi k) (e : n.keys ++ [hi] = a.map (·.2) ++ key :: y :: b.map (·.2)) : inS (lastB lo a) y key ∧ keyOk key = true := by
  obtain ⟨k1, k2, k3, k4⟩ := split_keys e
  have hm := k2 (by simp)
  have hS := Nd.Ok.sortedK hok
  have hi2 := hk key hm
  rw [k1, List.dropLast_cons_of_ne_nil (by simp)] at hS
  obtain ⟨s1, s2⟩ := sorted_left hS
  refine ⟨⟨?_, ?_⟩, (Nd.Ok.of hok).k key hm⟩
  · by_cases ha : a = []
    · subst ha; exact hi2.1
    · exact s1 _ (lastB_mem ha)
  · cases b with
    | nil =>
      have e2 : n.keys ++ [hi] = (a.map (·.2) ++ [key]) ++ y :: [] := by rw [e]; simp
      obtain ⟨_, _, j3, _⟩ := split_keys e2
      rw [j3 rfl]; exact hi2.2
    | cons q b =>
      exact .inr (s2 y (by rw [List.dropLast_cons_of_ne_nil (by simp)]; simp))

theorem beside_is {v : V} {h : Nat} {rt : Bool} {p : Stp} {id : Nat} {n : Nd} {lo lo' hi hi' : Bs} {a b : List (Nat × Bs)} {Pa Pb Q : List Nat} {Ea Eb E : List Ent} (q2 : v.node p.id = some p.n) (q3 : Min true rt p.n) (q4 : p.n.leaf = false) (q5 : p.n.Keys lo' hi')
    (q6 : p.n.kids = a.map (·.1) ++ id :: b.map (·.1)) (q7 : p.n.keys ++ [hi'] = a.map (·.2) ++ hi :: b.map (·.2)) (q8 : a.length = p.i) (q9 : Run (Sub true v h false) lo' a Pa Ea) (q10 : Run (Sub true v h false) hi b Pb Eb) (q14 : lo = lastB lo' a)
    (hb : Body true v h n lo hi Q E) (hok : n.ok = true) (hs : n.size ≤ 165) (he : v.err id = 0) :
    ∃ at_ a0 b0 pl pr key y ln rn Ql Qr Pa0 Pb0 El Er Ea0 Eb0, Bes v h p n lo' hi' at_ a0 b0 pl pr key y ln rn Ql Qr Pa0 Pb0 El Er Ea0 Eb0 ∧
      (Pa ++ (id :: Q ++ Pb)).Perm (Pa0 ++ ((pl :: Ql) ++ ((pr :: Qr) ++ Pb0))) ∧ Ea ++ (E ++ Eb) = Ea0 ++ (El ++ (Er ++ Eb0)) := by
  have hkne : p.n.keys ≠ [] := q3.2 q4 rfl
  by_cases hi0 : 0 < p.i
  · -- the one before
    have hane : a ≠ [] := fun e => by rw [e] at q8; simp at q8; omega
    obtain ⟨a0, ⟨pl, key⟩, rfl⟩ : ∃ a0 q, a = a0 ++ [q] := ⟨a.dropLast, a.getLast hane, (List.dropLast_concat_getLast hane).symm⟩
    have hlo : lo = key := by rw [q14, lastB_append]; rfl
    subst hlo
    obtain ⟨Pa0, P2, Ea0, E2, r1, r2, r3, rfl⟩ := Run.append.1 q9
    obtain ⟨P3, r4, r5⟩ := Run.one.1 r2
    obtain ⟨ln, Ql, s1, s2, s3, s4⟩ := Sub.iff.1 r4
    have hkeys : p.n.keys ++ [hi'] = a0.map (·.2) ++ lo :: hi :: b.map (·.2) := by rw [q7]; simp
    have hkids : p.n.kids = a0.map (·.1) ++ pl :: id :: b.map (·.1) := by rw [q6]; simp
    obtain ⟨ki, ko⟩ := key_between (V.node_ok q2) q5.2 hkeys
    have hgl := glue_ok s4 hb ki ko (V.node_ok s1) hok (V.node_size s1) (by omega)
    have hat : p.i - 1 = a0.length := by rw [← q8]; simp
    have e1 : p.n.kids.getD (p.i - 1) 0 = pl := by rw [hkids, hat, ← List.length_map (f := fun q : Nat × Bs => q.1), getD_len]
    have hk2 : p.n.keys = a0.map (·.2) ++ lo :: (hi :: b.map (·.2)).dropLast := by
      have := (split_keys hkeys).1
      rw [this, List.dropLast_cons_of_ne_nil (by simp)]
    have e2 : p.n.keys.getD (p.i - 1) [] = lo := by rw [hk2, hat, ← List.length_map (f := fun q : Nat × Bs => q.2), getD_len]
    refine ⟨p.i - 1, a0, b, pl, id, lo, hi, ln, n, Ql, Q, Pa0, Pb, E2, E, Ea0, Eb, ⟨?_, hat.symm, hkids, hkeys, r1, q10, s4, hb, V.node_ok s1, hok, V.node_size s1, by omega, by have := V.node_size s1; omega, .inl s2, ko, ki, V.node_us s1, he⟩, ?_, by simp⟩
    · unfold V.beside
      rw [if_neg hkne, if_pos hi0, e1, s1]
      simp only [e2, hgl.1]
    · refine perm_of_count fun z => ?_
      have h1 := r3.count_eq z
      have h2 := r5.count_eq z
      have h3 := s3.count_eq z
      simp [List.count_cons] at h1 h2 h3 ⊢
      omega
  · -- the one behind
    have hane : a = [] := List.length_eq_zero_iff.1 (by omega)
    subst hane
    obtain ⟨rfl, rfl⟩ := q9
    have hlo : lo = lo' := q14
    subst hlo
    obtain ⟨⟨pr, y⟩, b0, rfl⟩ : ∃ q b0, b = q :: b0 := by
      cases b with
      | nil =>
        have := congrArg List.length q7
        simp at this
        exact absurd this hkne
      | cons q b => exact ⟨q, b, rfl⟩
    obtain ⟨P1, Pb0, E1, Eb0, r1, r2, r3, rfl⟩ := q10
    obtain ⟨rn, Qr, s1, s2, s3, s4⟩ := Sub.iff.1 r1
    have hkeys : p.n.keys ++ [hi'] = ([] : List (Nat × Bs)).map (·.2) ++ hi :: y :: b0.map (·.2) := by rw [q7]; simp
    have hkids : p.n.kids = ([] : List (Nat × Bs)).map (·.1) ++ id :: pr :: b0.map (·.1) := by rw [q6]; simp
    obtain ⟨ki, ko⟩ := key_between (V.node_ok q2) q5.2 hkeys
    have hgl := glue_ok hb s4 ki ko hok (V.node_ok s1) (by omega) (V.node_size s1)
    have e1 : p.n.kids.getD 1 0 = pr := by rw [hkids]; simp
    have hk2 : p.n.keys = hi :: (y :: b0.map (·.2)).dropLast := by
      have := (split_keys hkeys).1
      rw [this, List.dropLast_cons_of_ne_nil (by simp)]; rfl
    have e2 : p.n.keys.getD 0 [] = hi := by rw [hk2]; simp
    refine ⟨0, [], b0, id, pr, hi, y, n, rn, Q, Qr, [], Pb0, E, E1, [], Eb0, ⟨?_, rfl, hkids, hkeys, ⟨rfl, rfl⟩, r2, hb, s4, hok, V.node_ok s1, by omega, V.node_size s1, by have := V.node_size s1; omega, .inr s2, ko, ki, he, V.node_us s1⟩, ?_, by simp⟩
    · unfold V.beside
      rw [if_neg hkne, if_neg hi0, e1, s1]
      simp only [e2, hgl.1]
    · refine perm_of_count fun z => ?_
      have h1 := r3.count_eq z
      have h3 := s3.count_eq z
      simp [List.count_cons] at h1 h3 ⊢
      omega

theorem glue_min {l r : Nd} {key : Bs} (hlr : l.leaf = r.leaf) (h : Min true false l ∨ Min true false r) (g rt : Bool) : Min g rt (l.glue r key) := by
  unfold Nd.glue
  split
  · rename_i hl
    have h2 : 2 ≤ (l.cells ++ r.cells).length := by
      rw [List.length_append]
      rcases h with h | h
      · have := (h.1 hl).2 rfl rfl; omega
      · have := (h.1 (by rw [← hlr]; exact hl)).2 rfl rfl; omega
    refine ⟨fun _ => ⟨fun e => ?_, fun _ _ => h2⟩, fun h => by cases h⟩
    have e' : l.cells ++ r.cells = [] := e
    rw [e'] at h2; simp at h2
  · refine ⟨fun h => (by cases h), fun _ _ e => ?_⟩
    have e' : l.keys ++ key :: r.keys = [] := e
    simp at e'

theorem Nd.Sz_ok {n : Nd} (h : n.ok = true) : n.Sz = n.size := by unfold Nd.Sz; rw [if_pos h]

/-- A tree's root, whatever its height. -/
def TreeAt (v : V) (root : Nat) (P : List Nat) (E : List Ent) : Prop := (v.r root = 0 ∧ P = [] ∧ E = []) ∨ ∃ h, Sub true v h true (v.r root) [] [] P E

theorem settle_wr_eq {v : V} {root id : Nat} {n : Nd} {first : Bool} (hc : first = false ∨ (n.leaf = true ∧ 0 < n.cells.length) ∨ 0 < n.keys.length) : v.settle root id n first = v.wr id n := by
  unfold V.settle; rw [if_pos hc]

/-- The node at a hole is written. -/
theorem hole_wr {cap root : Nat} {v : V} {ups : List Stp} {id h : Nat} {rt : Bool} {lo hi : Bs} {P Q : List Nat} {L R E : List Ent} {n : Nd} (hH : Hole true v root ups h id rt lo hi P L R) (hg : v.Sane cap) (he : v.err id = 0) (hb : Body true v h n lo hi Q E) (hok : n.ok = true) (hs : n.size ≤ 500)
    (hm : Min true rt n) (hnd : (id :: (P ++ Q)).Nodup) :
    (v.wr id n).1 = 0 ∧ ∃ B, Tr (· = root) v (v.wr id n).2 (id :: (P ++ Q)) B ∧ B.Nodup ∧ (v.wr id n).2.Sane cap ∧ TreeAt (v.wr id n).2 root B (L ++ (E ++ R)) := by
  have hA : ∀ p ∈ id :: (P ++ Q), v.err p = 0 := by
    intro p hp
    rcases List.mem_cons.1 hp with rfl | hp
    · exact he
    · rcases List.mem_append.1 hp with hp | hp
      · exact hH.us p hp
      · exact hb.us p hp
  have hnd' := List.nodup_cons.1 hnd
  have hne : ∀ p ∈ P ++ Q, p ≠ id := fun p hp e => hnd'.1 (e ▸ hp)
  obtain ⟨v1, e1, g1, m1, r1, n1, p1, u1, t1⟩ := wr_told hg he hok hs
  rw [e1]
  have hsame : ∀ p ∈ P ++ Q, v.err p = 0 → v1.err p = 0 ∧ v1.pg p = v.pg p := fun p hp h0 => ⟨(u1 p).2 h0, p1 p (hne p hp)⟩
  have hS1 : Sub true v1 h rt id lo hi (id :: Q) E := Sub.iff.2 ⟨n, Q, n1, hm, List.Perm.refl _, hb.same (fun p hp => hsame p (by simp [hp]))⟩
  have hH1 := hH.same (v' := v1) (by rw [r1]) (fun p hp => hsame p (by simp [hp]))
  have hpl := hH1.plug hS1
  have hperm : (P ++ id :: Q).Perm (id :: (P ++ Q)) := List.perm_middle
  exact ⟨rfl, _, (t1 _ _ hA (by simp)).congr (fun _ => Iff.rfl) (fun p => hperm.symm.mem_iff), hperm.nodup_iff.2 hnd, g1, .inr ⟨_, hpl⟩⟩

set_option maxRecDepth 10000 in
/-- shrink: what it makes; or there is no room. -/
theorem shrink_tree {cap root : Nat} : ∀ (ups : List Stp) (st : Stp) (n : Nd) (v : V) (h : Nat) (rt : Bool) (lo hi : Bs) (P Q : List Nat) (L R E : List Ent), Hole true v root ups h st.id rt lo hi P L R → v.Sane cap → v.err st.id = 0 → Body true v h n lo hi Q E → n.ok = true → n.size ≤ 500 →
    (st.id :: (P ++ Q)).Nodup →
    ((V.shrink cap root (st :: ups) n v).1 = 7 ∧ v.room cap < ups.length + 2) ∨ ((V.shrink cap root (st :: ups) n v).1 = 0 ∧
    ∃ B, Tr (· = root) v (V.shrink cap root (st :: ups) n v).2 (st.id :: (P ++ Q)) B ∧ B.Nodup ∧ (V.shrink cap root (st :: ups) n v).2.Sane cap ∧ TreeAt (V.shrink cap root (st :: ups) n v).2 root B (L ++ (E ++ R)))
  | [], st, n, v, h, rt, lo, hi, P, Q, L, R, E, hH, hg, he, hb, hok, hsz, hnd => by
    right
    have eg : V.shrink cap root [st] n v = v.settle root st.id n true := rfl
    rw [eg]
    by_cases hc : (n.leaf = true ∧ 0 < n.cells.length) ∨ 0 < n.keys.length
    · rw [settle_wr_eq (.inr hc)]
      refine hole_wr hH hg he hb hok hsz ?_ hnd
      cases hH
      refine ⟨fun hl => ⟨fun e => ?_, fun _ h => by cases h⟩, fun hl _ e => ?_⟩
      · have hk := ((Nd.Ok.of hok).lf hl).1
        rcases hc with ⟨_, h1⟩ | h1
        · rw [e] at h1; simp at h1
        · rw [hk] at h1; simp at h1
      · rcases hc with ⟨h1, _⟩ | h1
        · rw [hl] at h1; cases h1
        · rw [e] at h1; simp at h1
    · have hks : n.keys = [] := by
        apply List.length_eq_zero_iff.1
        rcases Nat.eq_zero_or_pos n.keys.length with h | h
        · exact h
        · exact absurd (.inr h) hc
      obtain ⟨next, hnext⟩ : ∃ next, next = (if n.leaf then 0 else n.kids.getD 0 0) := ⟨_, rfl⟩
      have e : v.settle root st.id n true = (0, (v.drop st.id).2.setR root next) := by
        unfold V.settle
        rw [if_neg (by simp at hc ⊢; exact hc), if_neg (by rw [V.drop_code]; simp [he]), hnext]
      rw [e]
      have hA : ∀ p ∈ st.id :: (P ++ Q), v.err p = 0 := by
        intro p hp
        rcases List.mem_cons.1 hp with rfl | hp
        · exact he
        · rcases List.mem_append.1 hp with hp | hp
          · exact hH.us p hp
          · exact hb.us p hp
      have hnd' := List.nodup_cons.1 hnd
      have hT := Tr.drop he hA (by simp) (B := P ++ Q) (fun p => by
        constructor
        · intro hp; exact ⟨by simp only [List.mem_cons]; exact .inr hp, fun e => hnd'.1 (e ▸ hp)⟩
        · rintro ⟨hp, hne⟩; exact (List.mem_cons.1 hp).resolve_left hne) (· = root)
      have hT2 := hT.trans (Tr.setR (v.drop st.id).2 root next _ hT.had)
      have hsame : ∀ p ∈ P ++ Q, v.err p = 0 → (v.drop st.id).2.err p = 0 ∧ (v.drop st.id).2.pg p = v.pg p := fun p hp h0 => by
        have hne : p ≠ st.id := fun e => hnd'.1 (e ▸ hp)
        exact ⟨(V.drop_err he p).2 ⟨h0, hne⟩, V.drop_pg p hne⟩
      have er : ((v.drop st.id).2.setR root next).r root = next := by simp [V.setR]
      cases hH with
      | top _ _ hid =>
        refine ⟨rfl, _, hT2, hnd'.2, (hg.drop _).setR _ _, ?_⟩
        cases h with
        | zero =>
          have hl := hb.2.1
          have hcs : n.cells = [] := by
            apply List.length_eq_zero_iff.1
            rcases Nat.eq_zero_or_pos n.cells.length with h | h
            · exact h
            · exact absurd (.inl ⟨hl, h⟩) hc
          have h3 := hb.2.2
          rw [hcs] at h3
          obtain ⟨rfl, rfl⟩ := h3
          left
          rw [er, hnext, hl]
          exact ⟨rfl, rfl, rfl⟩
        | succ h =>
          obtain ⟨_, hl, lst, l1, l2, l3⟩ := hb
          rw [hks] at l2
          obtain ⟨⟨k, x⟩, rfl⟩ : ∃ q, lst = [q] := by
            match lst, l2 with
            | [q], _ => exact ⟨q, rfl⟩
            | [], l2 => simp at l2
            | _ :: _ :: _, l2 => simp at l2
          have hx : x = [] := by simp at l2; exact l2
          subst hx
          obtain ⟨P', s1, s2⟩ := Run.one.1 l3
          right
          refine ⟨h, ?_⟩
          have hk : next = k := by rw [hnext, hl, l1]; simp
          rw [er, hk]
          have hs2 : Sub true (v.drop st.id).2 h false k [] [] P' E := s1.same (fun p hp => hsame p (by simp [s2.mem_iff.2 hp]))
          simpa using (hs2.root.setR root k).perm s2
  | p :: up, st, n, v, h, rt, lo, hi, P, Q, L, R, E, hH, hg, he, hb, hok, hsz, hnd => by
    have hndc := List.nodup_cons.1 hnd
    cases hH with
    | @down _ _ rt' lo' hi' P' L' R' _ _ _ a b Pa Pb Ea Eb _ _ _ _ q1 q2 q3 q4 q5 q6 q7 q8 q9 q10 q11 q12 q13 q14 =>
      have hH : Hole true v root (p :: up) h st.id false lo hi P L R := .down q1 q2 q3 q4 q5 q6 q7 q8 q9 q10 q11 q12 q13 q14
      have hA : ∀ p ∈ st.id :: (P ++ Q), v.err p = 0 := by
        intro p hp
        rcases List.mem_cons.1 hp with rfl | hp
        · exact he
        · rcases List.mem_append.1 hp with hp | hp
          · exact hH.us p hp
          · exact hb.us p hp
      by_cases hbig : 166 ≤ n.size
      · right
        have eg : V.shrink cap root (st :: p :: up) n v = v.wr st.id n := by
          rw [V.shrink, if_pos (by rw [Nd.Sz_ok hok]; exact hbig), settle_wr_eq (.inl rfl)]
        rw [eg]
        exact hole_wr hH hg he hb hok hsz (big_min hok hbig _ _) hnd
      · obtain ⟨at_, a0, b0, pl, pr, key, y, ln, rn, Ql, Qr, Pa0, Pb0, El, Er, Ea0, Eb0, hB, hp1, hp2⟩ := beside_is q2 q3 q4 q5 q6 q7 q8 q9 q10 q14 hb hok (by omega) he
        obtain ⟨_, gok, gsz, glf⟩ := glue_ok hB.bl hB.br hB.ki hB.ko hB.lo hB.ro hB.ls hB.rs
        have gbody := glue_body hB.bl hB.br hB.ki
        generalize hgl : ln.glue rn key = both at gok gsz glf gbody
        have hlr : ln.leaf = rn.leaf := by
          have h1 := hB.bl.2; have h2 := hB.br.2
          cases h with
          | zero => rw [h1.1, h2.1]
          | succ h => rw [h1.1, h2.1]
        have gmin : ∀ g rt, Min g rt both := by rw [← hgl]; exact glue_min hlr hB.mn
        have hbs : v.beside p.n p.i n = (0, at_, both) := by rw [hB.eq, hgl]
        have hkl : p.n.kids.getD at_ 0 = pl := by rw [hB.kids, ← hB.len, ← List.length_map (f := fun q : Nat × Bs => q.1), getD_len]
        have hkr : p.n.kids.getD (at_ + 1) 0 = pr := by
          have : p.n.kids = (a0.map (·.1) ++ [pl]) ++ pr :: b0.map (·.1) := by rw [hB.kids]; simp
          rw [this, show at_ + 1 = (a0.map (·.1) ++ [pl]).length from by simp [hB.len], getD_len]
        obtain ⟨k1, _, _, _⟩ := split_keys hB.keys
        rw [List.dropLast_cons_of_ne_nil (by simp)] at k1
        have hall : (st.id :: (P ++ Q)).Perm (p.id :: (P' ++ (Pa0 ++ ((pl :: Ql) ++ ((pr :: Qr) ++ Pb0))))) := perm_of_count fun z => by
          have h1 := hp1.count_eq z
          have h2 := q11.count_eq z
          simp [List.count_cons] at h1 h2 ⊢
          omega
        have hndall := hall.nodup_iff.1 hnd
        have hpl : pl ∈ st.id :: (P ++ Q) := hall.mem_iff.2 (by simp)
        have hpr : pr ∈ st.id :: (P ++ Q) := hall.mem_iff.2 (by simp)
        have hent : L ++ (E ++ R) = L' ++ (Ea0 ++ (El ++ (Er ++ Eb0)) ++ R') := by
          rw [q12, q13, ← hp2]; simp
        have hlast : (y :: b0.map (·.2)).dropLast ++ [hi'] = y :: b0.map (·.2) := by
          have h1 : p.n.keys ++ [hi'] = a0.map (·.2) ++ key :: ((y :: b0.map (·.2)).dropLast ++ [hi']) := by rw [k1]; simp
          rw [hB.keys] at h1
          have := List.append_cancel_left h1
          injection this with _ h2
          exact h2.symm
        have hless := branch_less (V.node_ok q2) (V.node_size q2) q4 q5.2 k1 hB.kids (by simp)
        have hdis : ∀ z ∈ P' ++ (Pa0 ++ (Ql ++ (Qr ++ Pb0))), z ≠ pl ∧ z ≠ pr := by
          intro z hz
          have h1 := List.nodup_iff_count.1 hndall
          have hz1 := List.count_pos_iff.2 hz
          refine ⟨fun e => ?_, fun e => ?_⟩
          · subst e
            have := h1 z
            simp [List.count_cons] at this hz1
            omega
          · subst e
            have := h1 z
            simp [List.count_cons] at this hz1
            omega
        have hplr : pl ≠ pr := by
          rintro rfl
          have h1 := List.nodup_iff_count.1 hndall pl
          simp [List.count_cons] at h1
          omega
        have hpp : p.id ≠ pl ∧ p.id ≠ pr := by
          have h1 := List.nodup_iff_count.1 hndall p.id
          refine ⟨fun e => ?_, fun e => ?_⟩
          · rw [e] at h1; simp [List.count_cons] at h1
          · rw [e] at h1; simp [List.count_cons] at h1
        by_cases hfit : both.size ≤ 500
        · -- joined
          obtain ⟨v1, e1, g1, m1, r1, n1, p1, u1, t1⟩ := wr_told hg hB.el gok hfit
          have he1 : v1.err pr = 0 := (u1 pr).2 hB.er
          have eg : V.shrink cap root (st :: p :: up) n v = V.shrink cap root (p :: up) ⟨false, [], p.n.keys.eraseIdx at_, p.n.kids.eraseIdx (at_ + 1)⟩ (v1.drop pr).2 := by
            rw [V.shrink, if_neg (by rw [Nd.Sz_ok hok]; exact hbig), hbs]
            simp only [ne_eq, not_true, if_false]
            rw [if_neg (by rw [Nd.Sz_ok gok]; omega), hkl, hkr, e1]
            simp only [not_true, if_false]
            rw [if_neg (by rw [V.drop_code, he1]; simp)]
          rw [eg]
          have hke : p.n.keys.eraseIdx at_ = a0.map (·.2) ++ (y :: b0.map (·.2)).dropLast := by
            rw [k1, ← hB.len, ← List.length_map (f := fun q : Nat × Bs => q.2), eraseIdx_len]
          have hie : p.n.kids.eraseIdx (at_ + 1) = a0.map (·.1) ++ pl :: b0.map (·.1) := by
            have : p.n.kids = (a0.map (·.1) ++ [pl]) ++ pr :: b0.map (·.1) := by rw [hB.kids]; simp
            rw [this, show at_ + 1 = (a0.map (·.1) ++ [pl]).length from by simp [hB.len], eraseIdx_len]
            simp
          rw [← hke, ← hie] at hless
          have hs1 : ∀ z ∈ P' ++ (Pa0 ++ (Ql ++ (Qr ++ Pb0))), v.err z = 0 → (v1.drop pr).2.err z = 0 ∧ (v1.drop pr).2.pg z = v.pg z := fun z hz h0 =>
            ⟨(V.drop_err he1 z).2 ⟨(u1 z).2 h0, (hdis z hz).2⟩, (V.drop_pg z (hdis z hz).2).trans (p1 z (hdis z hz).1)⟩
          have hnl : (v1.drop pr).2.node pl = some both := V.node_same ((V.drop_err he1 pl).2 ⟨(u1 pl).2 hB.el, hplr⟩) (V.drop_pg pl hplr) n1
          have hsub : Sub true (v1.drop pr).2 h false pl (lastB lo' a0) y (pl :: (Ql ++ Qr)) (El ++ Er) := Sub.iff.2 ⟨both, _, hnl, gmin _ _, List.Perm.refl _, gbody.same (fun z hz => hs1 z (by
            simp at hz ⊢; rcases hz with h | h <;> simp [h]))⟩
          have hra := hB.ra.mono (S' := Sub true (v1.drop pr).2 h false) (fun _ _ _ _ _ hq hS => hS.same (fun z hz => hs1 z (by simp [hq z hz])))
          have hrb := hB.rb.mono (S' := Sub true (v1.drop pr).2 h false) (fun _ _ _ _ _ hq hS => hS.same (fun z hz => hs1 z (by simp [hq z hz])))
          have hbody : Body true (v1.drop pr).2 (h + 1) ⟨false, [], p.n.keys.eraseIdx at_, p.n.kids.eraseIdx (at_ + 1)⟩ lo' hi' (Pa0 ++ ((pl :: (Ql ++ Qr)) ++ Pb0)) (Ea0 ++ ((El ++ Er) ++ Eb0)) := by
            refine ⟨⟨by simp, ?_⟩, rfl, a0 ++ (pl, y) :: b0, by simp [hie], ?_, Run.append.2 ⟨_, _, _, _, hra, ⟨_, _, _, _, hsub, hrb, List.Perm.refl _, rfl⟩, List.Perm.refl _, rfl⟩⟩
            · intro k hk
              have hk' : k ∈ p.n.keys.eraseIdx at_ := hk
              exact hless.2.2 k hk'
            · show p.n.keys.eraseIdx at_ ++ [hi'] = _
              rw [hke, List.append_assoc, hlast]; simp
          have hH1 := q1.same (v' := (v1.drop pr).2) (by rw [V.drop_r, r1]) (fun z hz => hs1 z (by simp [hz]))
          have hep : (v1.drop pr).2.err p.id = 0 := (V.drop_err he1 p.id).2 ⟨(u1 _).2 (V.node_us q2), hpp.2⟩
          have hndn : (p.id :: (P' ++ (Pa0 ++ ((pl :: (Ql ++ Qr)) ++ Pb0)))).Nodup := by
            have h1 := List.nodup_iff_count.1 hndall
            refine List.nodup_iff_count.2 fun z => ?_
            have h2 := h1 z
            simp [List.count_cons] at h2 ⊢
            omega
          have hT1 := t1 (· = root) _ hA hpl
          have hT2 := hT1.trans (Tr.drop he1 hT1.had hpr (B := p.id :: (P' ++ (Pa0 ++ ((pl :: (Ql ++ Qr)) ++ Pb0)))) (fun z => by
            rw [hall.mem_iff]
            constructor
            · intro hz
              refine ⟨by simp at hz ⊢; rcases hz with h | h | h | h | h | h | h <;> simp [h], ?_⟩
              rintro rfl
              have h1 := List.nodup_iff_count.1 hndall z
              have h2 := List.count_pos_iff.2 hz
              simp [List.count_cons] at h1 h2
              omega
            · rintro ⟨hz, hne⟩
              simp at hz ⊢
              rcases hz with h | h | h | h | h | h | h | h
              · simp [h]
              · simp [h]
              · simp [h]
              · simp [h]
              · simp [h]
              · exact absurd h hne
              · simp [h]
              · simp [h]) (· = root))
          have := shrink_tree (cap := cap) (root := root) up p _ (v1.drop pr).2 (h + 1) rt' lo' hi' P' _ L' R' _ hH1 (g1.drop pr) hep hbody hless.1 hless.2.1 hndn
          rcases this with ⟨j1, j2⟩ | ⟨j1, B, j2, j3, j4, j5⟩
          · left
            refine ⟨j1, ?_⟩
            rw [V.drop_room he1, m1] at j2
            simp only [List.length_cons]; omega
          · right
            refine ⟨j1, B, hT2.trans j2, j3, j4, ?_⟩
            rw [hent]
            have e2 : L' ++ (Ea0 ++ ((El ++ Er) ++ Eb0) ++ R') = L' ++ (Ea0 ++ (El ++ (Er ++ Eb0)) ++ R') := by simp
            rw [← e2]; exact j5
        · -- shared
          have hbsz : both.size ≤ 804 := by have := hB.sz; omega
          obtain ⟨l, r, key2, hS⟩ := split_is gok (by omega) hbsz
          obtain ⟨Q1, Q2, E1, E2, b1, b2, b3, b4⟩ := gbody.split gok hS
          have hki2 := hS.key_in gok ⟨gbody.1.1, gbody.1.2⟩
          have hko2 := hS.keyOk gok
          obtain ⟨v1, e1, g1, m1, r1, n1, p1, u1, t1⟩ := wr_told hg hB.el hS.lo hS.ls
          obtain ⟨v2, e2, g2, m2, r2, n2, p2, u2, t2⟩ := wr_told g1 ((u1 pr).2 hB.er) hS.ro hS.rs
          have eg : V.shrink cap root (st :: p :: up) n v = V.grow cap root (p :: up) ⟨false, [], p.n.keys.set at_ key2, p.n.kids⟩ v2 := by
            rw [V.shrink, if_neg (by rw [Nd.Sz_ok hok]; exact hbig), hbs]
            simp only [ne_eq, not_true, if_false]
            rw [if_pos (by rw [Nd.Sz_ok gok]; omega)]
            unfold V.share
            simp only [hS.eq, hkl, hkr, e1, e2, ne_eq, not_true, if_false]
          rw [eg]
          have hks : p.n.keys.set at_ key2 = a0.map (·.2) ++ key2 :: (y :: b0.map (·.2)).dropLast := by
            rw [k1, ← hB.len, ← List.length_map (f := fun q : Nat × Bs => q.2), set_len]
          have hyy : y = ((y :: b0.map (·.2)).dropLast).headD hi' := by
            cases b0 with
            | nil => simp at hlast; simpa using hlast.symm
            | cons q b => rfl
          have hbm := branch_more (id2 := pr) (lo := lastB lo' a0) (hi := y) hless.1 hless.2.1 rfl hless.2.2 rfl (by rw [lastB_eq]) hyy hki2 hko2 (idOk_of (V.us_lt hg hB.er).1 (V.us_lt hg hB.er).2)
          have ekey : (a0.map (·.2) ++ (y :: b0.map (·.2)).dropLast).insertIdx (a0.map (·.2)).length key2 = p.n.keys.set at_ key2 := by rw [insertIdx_len, hks]
          have ekid : (a0.map (·.1) ++ pl :: b0.map (·.1)).insertIdx ((a0.map (·.2)).length + 1) pr = p.n.kids := by
            have h1 : a0.map (·.1) ++ pl :: b0.map (·.1) = (a0.map (·.1) ++ [pl]) ++ b0.map (·.1) := by simp
            rw [h1, show (a0.map (·.2)).length + 1 = (a0.map (·.1) ++ [pl]).length from by simp, insertIdx_len, hB.kids]
            simp
          simp only [ekey, ekid] at hbm
          have hs1 : ∀ z ∈ P' ++ (Pa0 ++ (Ql ++ (Qr ++ Pb0))), v.err z = 0 → v2.err z = 0 ∧ v2.pg z = v.pg z := fun z hz h0 =>
            ⟨(u2 z).2 ((u1 z).2 h0), (p2 z (hdis z hz).2).trans (p1 z (hdis z hz).1)⟩
          have hnl : v2.node pl = some l := V.node_same ((u2 pl).2 ((u1 pl).2 hB.el)) (p2 pl hplr) n1
          have hbmem : ∀ z, z ∈ Q1 ∨ z ∈ Q2 → z ∈ P' ++ (Pa0 ++ (Ql ++ (Qr ++ Pb0))) := by
            intro z hz
            have h1 : z ∈ Ql ++ Qr := b3.mem_iff.2 (by simp; exact hz)
            simp at h1 ⊢
            rcases h1 with h | h <;> simp [h]
          have hsl : Sub true v2 h false pl (lastB lo' a0) key2 (pl :: Q1) E1 := Sub.iff.2 ⟨l, _, hnl, hS.lm _ _, List.Perm.refl _, b1.same (fun z hz => hs1 z (hbmem z (.inl hz)))⟩
          have hsr : Sub true v2 h false pr key2 y (pr :: Q2) E2 := Sub.iff.2 ⟨r, _, n2, hS.rm _ _, List.Perm.refl _, b2.same (fun z hz => hs1 z (hbmem z (.inr hz)))⟩
          have hra := hB.ra.mono (S' := Sub true v2 h false) (fun _ _ _ _ _ hq hS => hS.same (fun z hz => hs1 z (by simp [hq z hz])))
          have hrb := hB.rb.mono (S' := Sub true v2 h false) (fun _ _ _ _ _ hq hS => hS.same (fun z hz => hs1 z (by simp [hq z hz])))
          have hbody : Body true v2 (h + 1) ⟨false, [], p.n.keys.set at_ key2, p.n.kids⟩ lo' hi' (Pa0 ++ ((pl :: Q1) ++ ((pr :: Q2) ++ Pb0))) (Ea0 ++ (E1 ++ (E2 ++ Eb0))) := by
            refine ⟨⟨hbm.2.2.c, hbm.2.2.k⟩, rfl, a0 ++ (pl, key2) :: (pr, y) :: b0, by simp [hB.kids], ?_, Run.append.2 ⟨_, _, _, _, hra, ⟨_, _, _, _, hsl, ⟨_, _, _, _, hsr, hrb, List.Perm.refl _, rfl⟩, List.Perm.refl _, rfl⟩, List.Perm.refl _, rfl⟩⟩
            show p.n.keys.set at_ key2 ++ [hi'] = _
            rw [hks, List.append_assoc, List.cons_append, hlast]; simp
          have hH1 := q1.same (v' := v2) (by rw [r2, r1]) (fun z hz => hs1 z (by simp [hz]))
          have hep : v2.err p.id = 0 := (u2 _).2 ((u1 _).2 (V.node_us q2))
          have hperm2 : (p.id :: (P' ++ (Pa0 ++ ((pl :: Q1) ++ ((pr :: Q2) ++ Pb0))))).Perm (st.id :: (P ++ Q)) := perm_of_count fun z => by
            have h1 := hall.count_eq z
            have h2 := b3.count_eq z
            simp [List.count_cons] at h1 h2 ⊢
            omega
          have hT1 := t1 (· = root) _ hA hpl
          have hT2 := hT1.trans (t2 (· = root) _ hT1.had hpr)
          obtain ⟨s1, s2⟩ := q1.sp
          have hcod := grow_codes (cap := cap) (root := root) up p ⟨false, [], p.n.keys.set at_ key2, p.n.kids⟩ v2 lo' hi' s1 g2 hep (fun q hq => (u2 _).2 ((u1 _).2 (s2 q hq))) hbm.1 (by omega) hbm.2.2
          rcases hcod with hc0 | ⟨hc7, hroom⟩
          · right
            obtain ⟨h', B, j1, j2, j3, j4⟩ := grow_tree (cap := cap) (root := root) up p _ v2 (h + 1) rt' lo' hi' P' _ L' R' _ hH1 g2 hep hbody hbm.1 (by omega) ⟨fun h => (by cases h), fun _ _ e => (by
              have e' : p.n.keys.set at_ key2 = [] := e
              rw [hks] at e'; simp at e')⟩ (hperm2.nodup_iff.2 hnd) hc0
            refine ⟨hc0, B, hT2.trans (j1.congr (fun z => hperm2.mem_iff) (fun _ => Iff.rfl)), j2, j3, .inr ⟨h', ?_⟩⟩
            rw [hent]
            have e3 : L' ++ (Ea0 ++ (E1 ++ (E2 ++ Eb0)) ++ R') = L' ++ (Ea0 ++ (El ++ (Er ++ Eb0)) ++ R') := by
              rw [← List.append_assoc E1, ← b4]; simp
            rw [← e3]; exact j4
          · left
            exact ⟨hc7, by rw [m2, m1] at hroom; simp only [List.length_cons]; omega⟩

end Go.Proofs.YtccnemmlkcmceaaGreatDoor

/- The plain law: Delete; how many pages. -/
set_option linter.unusedVariables false
set_option linter.unusedSimpArgs false
namespace Go.Proofs.YtccnemmlkcmceaaGreatDoor
open Go.RowKit 

theorem TreeAt.of {v : V} {root : Nat} {P : List Nat} {E : List Ent} (h : TreeAt v root P E) (hE : E.length < 1000000) : TreeOf true v root P E := by
  rcases h with h | ⟨h', hs⟩
  · exact .inl h
  · refine .inr ⟨h', ?_, hs⟩
    have hh' := hs.height
    rcases Nat.lt_or_ge h' 40 with h | h
    · exact h
    · exfalso
      have h1 : 2 ^ 40 ≤ 2 ^ h' := Nat.pow_le_pow_right (by omega) h
      have h3 : (2 : Nat) ^ 40 = 1099511627776 := by decide
      omega
theorem height_lt {v : V} {root h H : Nat} {P : List Nat} {E : List Ent} (hs : Sub true v h true (v.r root) [] [] P E) (hE : E.length < 2 ^ H) : h < H := by
  have := hs.height
  rcases Nat.lt_or_ge h H with h1 | h1
  · exact h1
  · have := Nat.pow_le_pow_right (n := 2) (by omega) h1
    omega

theorem lookup_mem {key : Bs} : ∀ {X : List Ent}, (∃ e ∈ X, e.1 = key) ↔ X.lookup key ≠ none
  | [] => by simp
  | (a, b) :: X => by
    rw [List.lookup_cons]
    by_cases h : a = key
    · subst h; simp
    · have : (key == a) = false := by simp; exact fun e => h e.symm
      rw [this]
      simp only [List.mem_cons]
      rw [← lookup_mem]
      constructor
      · rintro ⟨e, he | he, h2⟩
        · subst he; exact absurd h2 h
        · exact ⟨e, he, h2⟩
      · rintro ⟨e, he, h2⟩
        exact ⟨e, .inr he, h2⟩

/-- Delete in a tree. -/
theorem del0_told {cap : Nat} {v : V} {root : Nat} {key : Bs} {P : List Nat} {E : List Ent} (hg : v.Sane cap) (hT : TreeOf true v root P E) (hnd : P.Nodup) (hE : E.length < 1000000) :
    (E.lookup key = none ∧ v.del0 cap root key = (false, 0, v)) ∨ (E.lookup key ≠ none ∧ (v.del0 cap root key).1 = true ∧ (((v.del0 cap root key).2.1 = 7 ∧ ∀ H, E.length < 2 ^ H → v.room cap < H + 1) ∨ ((v.del0 cap root key).2.1 = 0 ∧
    ∃ B, Tr (· = root) v (v.del0 cap root key).2.2 P B ∧ B.Nodup ∧ (v.del0 cap root key).2.2.Sane cap ∧ TreeOf true (v.del0 cap root key).2.2 root B (del key E)))) := by
  rcases hT with ⟨h0, rfl, rfl⟩ | ⟨h, hh, hS⟩
  · left
    have hw : v.way root key = some [] := by unfold V.way; rw [h0]; rfl
    refine ⟨rfl, ?_⟩
    unfold V.del0
    rw [hw]
    rfl
  · obtain ⟨ups, st, rt, lo, hi, P', L, R, A, B, QA, QB, EA, EB, hl⟩ := locate (key := key) hS hh
    have hgl : ((st :: ups).reverse).getLast? = some st := by simp
    have hget := hl.get
    rcases hl.hit with ⟨c, B', PC, b, QB', EB', rfl, hck, e1, e2, e3, rfl, e4, e5⟩ | ⟨e5, e6, e7⟩
    · right
      rw [e5] at hget
      simp only at hget
      obtain ⟨b', _, hlk⟩ := hget
      have hus : ∀ p ∈ P, v.err p = 0 := hS.us
      have hndP : (P' ++ st.id :: (QA ++ QB)).Nodup := hl.perm.nodup_iff.1 hnd
      have hndP2 : (PC ++ (P' ++ st.id :: (QA ++ QB'))).Nodup := by
        refine (List.Perm.nodup_iff ?_).1 hndP
        refine perm_of_count fun z => ?_
        have h1 := e3.count_eq z
        simp [List.count_cons] at h1 ⊢
        omega
      have hPC : ∀ p ∈ P' ++ st.id :: (QA ++ QB'), p ∉ PC := fun p hp hq => (List.nodup_append.1 hndP2).2.2 p hq p hp rfl
      have hperm2 : P.Perm (PC ++ (P' ++ st.id :: (QA ++ QB'))) := perm_of_count fun z => by
        have h1 := e3.count_eq z
        have h2 := hl.perm.count_eq z
        simp [List.count_cons] at h1 h2 ⊢
        omega
      have hin : ∀ p ∈ P' ++ st.id :: (QA ++ QB'), p ∈ P := fun p hp => hperm2.mem_iff.2 (List.mem_append_right _ hp)
      obtain ⟨l1, l2, l3, l4, l5, l6⟩ := e1.letGo hg PC [] (· = root) (fun p hp => (e1.us p hp).1) (fun p hp => hp) (fun p => by simp)
      have hsame : ∀ p ∈ P' ++ st.id :: (QA ++ QB'), v.err p = 0 → (v.letGo c).2.err p = 0 ∧ (v.letGo c).2.pg p = v.pg p := fun p hp h0 => l2.kept h0 (hPC p hp)
      have hok := V.node_ok hl.node
      have hO := Nd.Ok.of hok
      have hlf := hO.lf hl.leaf
      have hcut : st.n.cutAt st.i = ⟨true, A ++ B', [], []⟩ := by
        unfold Nd.cutAt
        rw [hl.cells, ← hl.i]
        have h1 : (A ++ c :: B').take A.length = A := by simp
        have h2 : (A ++ c :: B').drop (A.length + 1) = B' := by rw [List.drop_append]; simp
        rw [h1, h2, hl.leaf, hlf.1, hlf.2]
      have hS2 := Nd.Ok.sortedC hok
      have hoc := hO.c
      have ha1 := hO.a1
      have hsz := V.node_size hl.node
      rw [Nd.eq_leaf hok hl.leaf, size_leaf, hl.cells] at hsz
      rw [hl.cells] at hS2 hoc ha1
      have hsub : (A ++ B').Sublist (A ++ c :: B') := (List.Sublist.refl A).append (List.sublist_cons_self _ _)
      have hcok : (st.n.cutAt st.i).ok = true := by
        rw [hcut]
        exact ok_leaf (Nat.le_trans hsub.length_le ha1) (fun d hd => hoc d (hsub.subset hd)) (hS2.sublist (hsub.map _))
      have hcsz : (st.n.cutAt st.i).size ≤ 500 := by
        rw [hcut, size_leaf]
        have : sumC (A ++ c :: B') = sumC (A ++ B') + c.size := by simp [sumC]; omega
        omega
      have hbody : Body true (v.letGo c).2 0 (st.n.cutAt st.i) lo hi (QA ++ QB') (EA ++ EB') := by
        rw [hcut]
        refine ⟨⟨fun d hd => hl.keys.1 d (by rw [hl.cells]; exact hsub.subset hd), by simp⟩, rfl, CellsAt.append.2 ⟨_, _, _, _, hl.ca.same (fun p hp => hsame p (by simp [hp])), e2.same (fun p hp => hsame p (by simp [hp])), List.Perm.refl _, rfl⟩⟩
      have hH2 := hl.hole.same (v' := (v.letGo c).2) (by rw [l5]) (fun p hp => hsame p (by simp [hp]))
      have hest := (hsame st.id (by simp) (V.node_us hl.node)).1
      have hperm3 : (st.id :: (P' ++ (QA ++ QB'))).Perm (P' ++ st.id :: (QA ++ QB')) := List.perm_middle.symm
      have hnd2 : (st.id :: (P' ++ (QA ++ QB'))).Nodup := hperm3.nodup_iff.2 (List.nodup_append.1 hndP2).2.1
      have hT2 : Tr (· = root) v (v.letGo c).2 P (st.id :: (P' ++ (QA ++ QB'))) :=
        (l2.more (C := P' ++ st.id :: (QA ++ QB')) (fun p hp => ⟨hus p (hin p hp), hPC p hp⟩)).congr (fun p => hperm2.symm.mem_iff) (fun p => by rw [hperm3.mem_iff]; simp)
      have e : v.del0 cap root key = (true, V.shrink cap root (st :: ups) (st.n.cutAt st.i) (v.letGo c).2) := by
        unfold V.del0
        rw [hl.way]
        simp only [hgl, e5, l1, ne_eq, not_true, if_false, List.reverse_reverse]
      rw [e]
      have hdel : del key E = L ++ (EA ++ EB' ++ R) := by
        rw [hl.ent]
        have h1 : ∀ e ∈ L ++ EA, e.1 ≠ key := fun e he => klt_ne (hl.lt e he)
        have h2 : ∀ e ∈ EB' ++ R, e.1 ≠ key := fun e he => by
          rcases List.mem_append.1 he with he | he
          · exact fun e1 => klt_ne (e4 e he) e1.symm
          · exact fun e1 => klt_ne (hl.gt e he) e1.symm
        rw [← List.append_assoc, del_append, del_ne h1, List.cons_append]
        have h3 : del key ((key, b) :: (EB' ++ R)) = EB' ++ R := by
          unfold del
          rw [List.filter_cons_of_neg (by simp)]
          exact del_ne h2
        rw [h3]; simp
      refine ⟨by rw [hlk]; simp, rfl, ?_⟩
      rcases shrink_tree (cap := cap) (root := root) ups st _ (v.letGo c).2 0 rt lo hi P' _ L R _ hH2 l3 hest hbody hcok hcsz hnd2 with ⟨j1, j2⟩ | ⟨j1, B2, j2, j3, j4, j5⟩
      · refine .inl ⟨j1, fun H hH => ?_⟩
        have := height_lt hS hH
        have := hl.len
        omega
      · refine .inr ⟨j1, B2, hT2.trans j2, j3, j4, ?_⟩
        rw [hdel]
        refine j5.of ?_
        have : (L ++ (EA ++ EB' ++ R)).length ≤ E.length := by rw [hl.ent]; simp
        omega
    · left
      rw [e5] at hget
      simp only at hget
      refine ⟨hget, ?_⟩
      unfold V.del0
      rw [hl.way]
      simp only [hgl, e5]

/-! ### how many pages -/
def wt (E : List Ent) : Nat := (E.map fun e => (e.2.length + 495) / 496).sum
theorem wt_append (A B : List Ent) : wt (A ++ B) = wt A + wt B := by simp [wt]
theorem CellsAt.pages {v : V} : ∀ {cs : List Cell} {P : List Nat} {E : List Ent}, CellsAt true v cs P E → P.length ≤ wt E
  | [], P, E, h => by obtain ⟨rfl, rfl⟩ := h; simp
  | c :: cs, P, E, h => by
    obtain ⟨P1, P2, b, E2, h1, h2, h3, rfl⟩ := h
    have := h2.pages
    have hl := h3.length_eq
    rw [List.length_append] at hl
    have h4 : P1.length ≤ (b.length + 495) / 496 := by
      rcases h1 with ⟨_, rfl, _⟩ | ⟨_, _, h5, h6⟩
      · simp
      · rw [(h6 rfl).1, h5]; exact Nat.le_refl _
    have h5 : wt ((c.key, b) :: E2) = (b.length + 495) / 496 + wt E2 := by simp [wt]
    omega
theorem Run.pages {S : Nat → Bs → Bs → List Nat → List Ent → Prop} (hS : ∀ k a b Q F, S k a b Q F → Q.length + 1 ≤ F.length + wt F) :
    ∀ {l : List (Nat × Bs)} {lo : Bs} {P : List Nat} {E : List Ent}, Run S lo l P E → P.length + l.length ≤ E.length + wt E
  | [], lo, P, E, h => by obtain ⟨rfl, rfl⟩ := h; simp
  | (k, x) :: l, lo, P, E, h => by
    obtain ⟨P1, P2, E1, E2, h1, h2, h3, rfl⟩ := h
    have a := hS _ _ _ _ _ h1
    have b := Run.pages hS h2
    have hl := h3.length_eq
    rw [List.length_append] at hl
    rw [List.length_append, List.length_cons, wt_append]
    omega
theorem Sub.pages {v : V} : ∀ {h : Nat} {rt : Bool} {id : Nat} {lo hi : Bs} {P : List Nat} {E : List Ent}, Sub true v h rt id lo hi P E → P.length + (if rt then 0 else 1) ≤ E.length + wt E
  | 0, rt, id, lo, hi, P, E, hh => by
    obtain ⟨n, Q, h1, h2, h3, h4, h5⟩ := hh
    have a := h5.2.pages
    have hl := h3.length_eq
    rw [List.length_cons] at hl
    have b := h5.2.len
    have h6 := h2.1 h5.1
    cases rt with
    | true =>
      have : n.cells.length ≠ 0 := fun e => h6.1 (List.length_eq_zero_iff.1 e)
      simp; omega
    | false => have := h6.2 rfl rfl; simp; omega
  | h + 1, rt, id, lo, hi, P, E, hh => by
    obtain ⟨n, Q, h1, h2, h3, h4, h5, l, l1, l2, h6⟩ := hh
    have a := Run.pages (fun _ _ _ _ _ hs => by have := Sub.pages hs; simpa using this) h6
    have hk := h2.2 h5 rfl
    have hl : 2 ≤ l.length := by
      have t1 := congrArg List.length l2
      have t2 : n.keys.length ≠ 0 := fun e => hk (List.length_eq_zero_iff.1 e)
      rw [List.length_append, List.length_map, List.length_singleton] at t1
      omega
    have hl2 := h3.length_eq
    rw [List.length_cons] at hl2
    split <;> omega
theorem TreeOf.pages {v : V} {root : Nat} {P : List Nat} {E : List Ent} (h : TreeOf true v root P E) : P.length ≤ E.length + wt E := by
  rcases h with ⟨_, rfl, rfl⟩ | ⟨h', _, hs⟩
  · simp
  · have := hs.pages; simpa using this

/-- All pages in use are known: so many can still be had. -/
theorem room_eq {cap : Nat} {v : V} (hg : v.Sane cap) {P : List Nat} (hnd : P.Nodup) (hu : ∀ p, v.err p = 0 ↔ p ∈ P) : v.room cap + P.length + 1 = cap ∧ v.high = v.cnt + P.length + 1 := by
  obtain ⟨⟨l, hl⟩, h2, h3⟩ := hg
  have hp : (l ++ P).Perm (List.range' 1 (v.high - 1)) := by
    refine (List.perm_ext_iff_of_nodup (List.nodup_append.2 ⟨hl.nd, hnd, ?_⟩) (List.nodup_range' ..)).2 fun a => ?_
    · rintro a ha b hb rfl
      have h4 := (hl.mem a).2 ha
      have h5 := (V.err_iff v a).1 ((hu a).2 hb)
      exact h5.2.2 h4.2.2
    · rw [List.mem_append, List.mem_range'_1, ← hu a, ← hl.mem a, V.err_iff]
      constructor
      · rintro (⟨h4, h5, _⟩ | ⟨h4, h5, _⟩) <;> omega
      · rintro ⟨h4, h5⟩
        by_cases hk : (v.pg a).kind = 255
        · exact .inl ⟨h4, by omega, hk⟩
        · exact .inr ⟨h4, by omega, hk⟩
  have := hp.length_eq
  rw [List.length_append, List.length_range'] at this
  have hc := hl.cnt
  have h1 := hl.h1
  unfold V.room
  omega

end Go.Proofs.YtccnemmlkcmceaaGreatDoor
