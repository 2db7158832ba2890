/- Proofs about the given program, joined out of the texts P1, P2, P3, B1, T7, W5, W6. -/
import Derived.Test.YtccnemmlkcmceaaGreatDoorH7
import Derived.Deep.RegionLaw
import Derived.Deep.RegionHeld3
/- slot.Put. -/
set_option linter.unusedVariables false
set_option linter.unusedSimpArgs false
namespace Go.Proofs.YtccnemmlkcmceaaGreatDoor
open Go.RowKit 

/-- A node handed back: it lies in new memory. -/
def Made (w : World) (n : Nd) (e : Ending) (w' : World) : Prop :=
  Ext No w w' ∧ ∃ A1 c1 A2 c2 A3 c3, e = .returned (n.value A1 c1 A2 c2 A3 c3) ∧ NodeAt w' (Old w) A1 c1 A2 c2 A3 c3 n

def Nd.put (n : Nd) (c : Cell) : Nd :=
  { n with cells := n.cells.take (n.find c.key).1 ++ c :: n.cells.drop (if (n.find c.key).2 then (n.find c.key).1 + 1 else (n.find c.key).1) }

theorem one_cells (cs : List Cell) : ∀ u ∈ cellVals cs, u.oneCell' = true := by
  intro u hu
  simp only [cellVals, List.mem_flatMap] at hu
  obtain ⟨c, _, hc⟩ := hu
  exact c.one u hc
theorem one_keys (ks : List Bs) : ∀ u ∈ keyVals ks, u.oneCell' = true := by
  intro u hu
  simp only [keyVals, List.mem_map] at hu
  obtain ⟨c, _, rfl⟩ := hu
  simp [Value.oneCell']
theorem one_kids (ks : List Nat) : ∀ u ∈ kidVals ks, u.oneCell' = true := by
  intro u hu
  simp only [kidVals, List.mem_map] at hu
  obtain ⟨c, _, rfl⟩ := hu
  simp [Value.oneCell']

theorem Rd.take {w : World} {F : Nat → Prop} {sz : Nat} {A : Option Addr} {n : Nat} {xs : List Value} (h : Rd w F sz A n xs) (k : Nat) (hk : k ≤ n) (hs : 0 < sz) : Rd w F sz A k (xs.take (k * sz)) := by
  have hm : k * sz ≤ n * sz := Nat.mul_le_mul_right sz hk
  refine ⟨by rw [List.length_take, h.1]; omega, fun h0 => ?_⟩
  obtain ⟨b, o, hA, hb, hc⟩ := h.2 (by omega)
  refine ⟨b, o, hA, hb, fun j u hu => hc j u ?_⟩
  rw [List.getElem?_take] at hu
  split at hu
  · exact hu
  · cases hu
theorem Rd.drop {w : World} {F : Nat → Prop} {sz b o n : Nat} {xs : List Value} (h : Rd w F sz (some ⟨b, o, none⟩) n xs) (k : Nat) (hk : k ≤ n) : Rd w F sz (some ⟨b, o + k * sz, none⟩) (n - k) (xs.drop (k * sz)) := by
  refine ⟨by rw [List.length_drop, h.1, Nat.sub_mul], fun h0 => ?_⟩
  obtain ⟨b', o', hA, hb, hc⟩ := h.2 (by omega)
  injection hA with hA; injection hA with h1 h2
  subst h1; subst h2
  refine ⟨b, o + k * sz, rfl, hb, fun j u hu => ?_⟩
  rw [List.getElem?_drop] at hu
  have := hc _ u hu
  rwa [← Nat.add_assoc] at this

theorem Rd.rest {w : World} {F : Nat → Prop} {sz n : Nat} {ad : Addr} {xs : List Value} (h : Rd w F sz (some ad) n xs) (k c : Nat) (hk : k ≤ n) (hc : n ≤ c) : Rd w F sz (if c = k then some ad else some (ad.add (k * sz))) (n - k) (xs.drop (k * sz)) := by
  rcases Nat.eq_zero_or_pos (n - k) with h0 | h0
  · refine ⟨by rw [List.length_drop, h.1, ← Nat.sub_mul], fun h' => absurd h' (by omega)⟩
  · rw [if_neg (by omega)]
    obtain ⟨b, o, hA, _⟩ := h.2 (by omega)
    injection hA with hA
    subst hA
    rw [Addr.add_none]
    exact h.drop k hk
theorem one_sub {xs ys : List Value} (h : ∀ u ∈ xs, u.oneCell' = true) (hs : ∀ u ∈ ys, u ∈ xs) : ∀ u ∈ ys, u.oneCell' = true := fun u hu => h u (hs u hu)

set_option maxRecDepth 100000 in
set_option maxHeartbeats 1600000 in
theorem put_any (n : Nd) (c : Cell) (w : World) (F : Nat → Prop) (A1 : Option Addr) (c1 : Nat) (A2 : Option Addr) (c2 : Nat) (A3 : Option Addr) (c3 : Nat) (hn : NodeAt w F A1 c1 A2 c2 A3 c3 n)
    (hlf : n.leaf = true) (hks : n.keys = []) (hkd : n.kids = []) (hso : Sorted (n.cells.map Cell.key)) (hlen : n.cells.length ≤ 1000) :
    Calls Tryz.prog 101 #[n.value A1 c1 A2 c2 A3 c3, c.agg] w (Made w (n.put c)) := by
  have HF := Lib.hid (fun w hn => find_any n c.key w F A1 c1 A2 c2 A3 c3 hn (fun _ => hso) (fun h => by rw [hlf] at h; cases h))
  have hi : (n.find c.key).1 ≤ n.cells.length := by
    simp only [Nd.find, hlf, if_true]
    have := rank_le (n.cells.map Cell.key) c.key
    simpa using this
  have hi2 : (n.find c.key).2 = true → (n.find c.key).1 < n.cells.length := by
    simp only [Nd.find, hlf, if_true, decide_eq_true_eq]
    intro h
    rcases Nat.lt_or_ge (rank (n.cells.map Cell.key) c.key) n.cells.length with h' | h'
    · exact h'
    · rw [List.getElem?_eq_none (by simpa using h')] at h; simp at h
  obtain ⟨lf, cs, ks, kd⟩ := n
  simp only at hlf hks hkd hi hi2 hlen
  subst hlf; subst hks; subst hkd
  unfold Nd.put
  simp only
  generalize hi0 : ((⟨true, cs, [], []⟩ : Nd).find c.key).1 = i at HF hi hi2 ⊢
  generalize hi1 : ((⟨true, cs, [], []⟩ : Nd).find c.key).2 = there at HF hi2 ⊢
  clear hi0 hi1 hso
  simp only [Nd.value, List.length_nil] at HF ⊢
  simp only [Cell.agg] at ⊢
  have HN := Lib.hid hn
  have hl1 := hn.l1
  have he1 := hn.e1
  have hb1 := hn.b1
  simp only at hl1 hb1
  clear hn
  obtain ⟨i0, hti, htz0, htz1, htz2⟩ := info_parts Tryz.info45
  obtain ⟨bh, hbh⟩ : ∃ bh, bh = if there then i + 1 else i := ⟨_, rfl⟩
  have hbl : bh ≤ cs.length := by cases there <;> simp at hbh hi2 <;> omega
  have hib : i ≤ bh := by cases there <;> simp at hbh <;> omega
  obtain ⟨L, hL⟩ : ∃ L, L = cs.take i ++ c :: cs.drop bh := ⟨_, rfl⟩
  rw [← hbh, ← hL]
  have HL := Lib.hid hL; have HBH := Lib.hid hbh
  clear hL hbh hi2
  go_enter Tryz.func101, Tryz.ntmps101
  go_wp2_with fail
  refine (HF.out _ (HN.out.ext ((((Ext.refl F w).alloc _).alloc _).alloc _))).mono ?_
  rintro e w1 ⟨rfl, hx1⟩
  have bn := (((Blk.new w 40 #[.bool true, .slice A1 cs.length c1, .slice A2 0 c2, .slice A3 0 c3]).alloc (.cells #[.string (str c.key), .string (str c.val), .int .i64 (c.over : Int), .int .i64 (c.len : Int)] 45)).alloc (.cells #[.bool false, .slice none 0 0, .slice none 0 0, .slice none 0 0] 40)).ext hx1 (fun h => h)
  have bc := ((Blk.new_at (b := w.heap.size + 1) (w.alloc (.cells #[.bool true, .slice A1 cs.length c1, .slice A2 0 c2, .slice A3 0 c3] 40)) 45 #[.string (str c.key), .string (str c.val), .int .i64 (c.over : Int), .int .i64 (c.len : Int)] (by simp)).alloc (.cells #[.bool false, .slice none 0 0, .slice none 0 0, .slice none 0 0] 40)).ext hx1 (fun h => h)
  have br := (Blk.new_at (b := w.heap.size + 1 + 1) ((w.alloc (.cells #[.bool true, .slice A1 cs.length c1, .slice A2 0 c2, .slice A3 0 c3] 40)).alloc (.cells #[.string (str c.key), .string (str c.val), .int .i64 (c.over : Int), .int .i64 (c.len : Int)] 45)) 40 #[.bool false, .slice none 0 0, .slice none 0 0, .slice none 0 0] (by simp)).ext hx1 (fun h => h)
  have hE1 : Ext No w w1 := by (repeat' (first | exact Ext.refl _ _ | assumption | apply Ext.alloc | apply Ext.drewN | apply Ext.drew | refine Ext.setNew ?_ (by first | omega | (simp; omega) | simp) _ _ | refine Ext.setF ?_ (by first | exact Or.inl rfl | exact Or.inr rfl | rfl) _ _ | refine Ext.trans_ ?_ (by assumption) | refine Ext.trans_ ?_ (Ext.of_no (by assumption))))
  go_upto_if 20 with fail
  go_cut [7] (fun v wx => v = .int .i64 (bh : Int) ∧ w1 = wx)
  case first =>
    have hb := HBH.out
    cases there
    · simp only [Bool.false_eq_true, if_false] at hb
      subst hb
      go_wp2_with fail
      go_meet
      exact ⟨rfl, rfl⟩
    · simp only [if_true] at hb
      subst hb
      go_wp2_with fail
      go_meet
      exact ⟨by go_num, rfl⟩
  case rest =>
    obtain ⟨rfl, rfl⟩ := hcut
    have lw1 := br.lt
    obtain ⟨p0, p1, p2, p3, g0, g1, g2, g3, ln⟩ := bn.p4
    obtain ⟨q0, q1, q2, q3, f0, f1, f2, f3, lc⟩ := bc.p4
    have hb4 : (bh : Int) ≤ cs.length := by omega
    have hb5 : (0 : Int) ≤ (bh : Int) := by omega
    cases A1 with
    | none =>
      have hc0 : c1 = 0 := he1 rfl
      have hcs : cs = [] := by
        rcases Nat.eq_zero_or_pos cs.length with h | h
        · exact List.eq_nil_of_length_eq_zero h
        · obtain ⟨b, o, hA, _⟩ := HN.out.cells.2 h; cases hA
      subst hcs; subst hc0
      have hi0 : i = 0 := by simp at hi; omega
      have hb0 : bh = 0 := by simp at hbl; omega
      subst hi0; subst hb0
      have HL := Lib.hid (show L = [c] by simpa using HL.out)
      simp only [List.length_nil] at p1 bn
      go_wp2_with fail
      obtain ⟨W, hW⟩ : ∃ W, W = ((w1.alloc (.cells #[.string (str c.key), .string (str c.val), .int .i64 (c.over : Int), .int .i64 (c.len : Int)] 45)).alloc (.cells #[.slice none 0 0, .slice (some ⟨w1.heap.size, 0, none⟩) 1 1, .slice none 0 0] 37)).drew := ⟨_, rfl⟩
      have hEW : Ext No w W := by rw [hW]; exact ((hE1.alloc _).alloc _).drew
      have hcb : Blk W w1.heap.size 45 #[.string (str c.key), .string (str c.val), .int .i64 (c.over : Int), .int .i64 (c.len : Int)] := by rw [hW]; exact (Blk.new w1 45 #[.string (str c.key), .string (str c.val), .int .i64 (c.over : Int), .int .i64 (c.len : Int)]).alloc _
      have hpb : Blk W (w1.heap.size + 1) 37 #[.slice none 0 0, .slice (some ⟨w1.heap.size, 0, none⟩) 1 1, .slice none 0 0] := by rw [hW]; exact Blk.new_at (b := w1.heap.size + 1) (w1.alloc (.cells #[.string (str c.key), .string (str c.val), .int .i64 (c.over : Int), .int .i64 (c.len : Int)] 45)) 37 _ (by simp)
      have hk1 : Part.Ok W 4 ⟨none, 0, 0, []⟩ := ⟨Rd.nil_ _, fun _ => rfl, (fun u hu => by cases hu), Nat.le_refl _⟩
      have hk2 : Part.Ok W 4 ⟨some ⟨w1.heap.size, 0, none⟩, 1, 1, c.vals⟩ := ⟨⟨rfl, fun _ => ⟨_, _, rfl, (fun h => h), fun j u hu => by rw [Nat.zero_add, hcb.cell j]; simpa [Cell.vals] using hu⟩⟩, (fun h => by cases h), c.one, Nat.le_refl _⟩
      have HCC := Lib.hid (concat_cells [⟨none, 0, 0, []⟩, ⟨some ⟨w1.heap.size, 0, none⟩, 1, 1, c.vals⟩, ⟨none, 0, 0, []⟩] (w1.heap.size + 1) 3 3 W rfl
        (by intro p hp; simp at hp; rcases hp with rfl | rfl | rfl <;> first | exact hk1 | exact hk2) (by simp [total]) (by omega) (by omega)
        (by intro j p hj; match j, hj with
            | 0, hj => simp at hj; subst hj; exact hpb.cell 0
            | 1, hj => simp at hj; subst hj; exact hpb.cell 1
            | 2, hj => simp at hj; subst hj; exact hpb.cell 2
            | j + 3, hj => simp at hj))
      have htot : total [⟨none, 0, 0, []⟩, ⟨some ⟨w1.heap.size, 0, none⟩, 1, 1, c.vals⟩, ⟨none, 0, 0, []⟩] = ([c] : List Cell).length := by simp [total]
      have hjoi : joined [⟨none, 0, 0, []⟩, ⟨some ⟨w1.heap.size, 0, none⟩, 1, 1, c.vals⟩, ⟨none, 0, 0, []⟩] = cellVals [c] := by simp [joined, cellVals]
      rw [htot, hjoi] at HCC
      have hLb : ([c] : List Cell).length < 65536 := by simp
      clear htot hjoi
      rw [← HL.out] at HCC hLb
      have HEW := Lib.hid hEW
      have hWs : W.heap.size = w1.heap.size + 1 + 1 := by rw [hW]; simp
      clear hk1 hk2 hcb hpb hEW
      subst hW
      go_region_law ((go_simp; go_at_call 147; refine HCC.out.mono ?_; rintro e w2 ⟨A, cc, rfl, hown, hx2⟩; have HO := Lib.hid hown; have HX2 := Lib.hid hx2; have bn2 := Blk.of_ext hx2 ((bn.alloc _).alloc _) (fun h => h); have fz2 := bn2.frozen 1; have ce2 := bn2.cell 1; simp at ce2; clear hown hx2))
      all_goals (
        have br2 := Blk.of_ext HX2.out ((br.alloc _).alloc _) (fun h => h)
        have bn3 := bn2.set_ 1 (.slice A L.length cc)
        have bn3 : Blk (w2.setCell ⟨w.heap.size, 1, none⟩ (.slice A L.length cc)) w.heap.size 40 #[.bool true, .slice A L.length cc, .slice A2 0 c2, .slice A3 0 c3] := bn3
        have br3 := br2.far (p := ⟨w.heap.size, 1, none⟩) (show w.heap.size + 1 + 1 ≠ w.heap.size by omega) (.slice A L.length cc)
        obtain ⟨p0, p1, p2, p3, g0, g1, g2, g3, ln⟩ := bn3.p4
        obtain ⟨r0, r1, r2, r3, s0, s1, s2, s3, lr⟩ := br3.p4
        go_wp2_with fail
        all_goals (
          refine bodyPost_ret (results_cell_row (P := Tryz.prog) rfl _ _ (w.heap.size + 1 + 1) 40 _ (0, 0) _ rfl (br3.put4 (.bool true) (.slice A L.length cc) (.slice A2 0 c2) (.slice A3 0 c3)) Tryz.underlying40 rfl (by kernel_rfl)) rfl ?_
          have hx0 : Ext No w w2 := ((((hE1.alloc _).alloc _).drew).trans_ HX2.out)
          refine ⟨((((hx0.setNew (by omega) _ _).setNew (by omega) _ _).setNew (by omega) _ _).setNew (by omega) _ _).setNew (by omega) _ _, A, cc, A2, c2, A3, c3, rfl, ?_⟩
          have hcap := own_cap HO.out
          have hin : Lo w1.heap.size w.heap.size := by show w.heap.size < w1.heap.size; omega
          have hin' : Lo w1.heap.size (w.heap.size + 1 + 1) := by show w.heap.size + 1 + 1 < w1.heap.size; omega
          have hn2 : NodeAt w2 (Lo w1.heap.size) A cc A2 c2 A3 c3 ⟨true, L, [], []⟩ := ⟨(Rd.own_lo HO.out (by omega)).mono (by omega) (fun b _ hb => by unfold Lo at hb ⊢; simp; omega), Rd.nil_ _, Rd.nil_ _, hcap, HN.out.l2, HN.out.l3, hLb, by simp, by simp, own_nilcap HO.out, HN.out.e2, HN.out.e3⟩
          have hz : Ext (Lo w1.heap.size) w2 _ := (((((Ext.refl _ w2).setF hin 1 (.slice A L.length cc)).setF hin' 0 (.bool true)).setF hin' 1 (.slice A L.length cc)).setF hin' 2 (.slice A2 0 c2)).setF hin' 3 (.slice A3 0 c3)
          exact (hn2.ext hz).mono (fun b _ hb => by unfold Old at hb; unfold Lo; omega)))
    | some ad =>
      have hic : i ≤ c1 := by omega
      have hin2 : (i : Int) ≤ c1 := by omega
      have hin3 : (i : Int) ≤ cs.length := by omega
      have hin4 : (0 : Int) ≤ (i : Int) := by omega
      have hin5 : cs.length ≤ c1 := hl1
      go_wp2_with fail
      obtain ⟨W, hW⟩ : ∃ W, W = ((w1.alloc (.cells #[.string (str c.key), .string (str c.val), .int .i64 (c.over : Int), .int .i64 (c.len : Int)] 45)).alloc (.cells #[.slice (some ad) i i, .slice (some ⟨w1.heap.size, 0, none⟩) 1 1, .slice (if c1 = bh then some ad else some (ad.add (bh * 4))) (cs.length - bh) (c1 - bh)] 37)).drew := ⟨_, rfl⟩
      have hEW : Ext No w W := by rw [hW]; exact ((hE1.alloc _).alloc _).drew
      have hcl : Rd W No 4 (some ad) cs.length (cellVals cs) := (HN.out.cells.mono (by omega) (fun _ _ h => h.elim)).ext hEW
      have hcb : Blk W w1.heap.size 45 #[.string (str c.key), .string (str c.val), .int .i64 (c.over : Int), .int .i64 (c.len : Int)] := by rw [hW]; exact (Blk.new w1 45 #[.string (str c.key), .string (str c.val), .int .i64 (c.over : Int), .int .i64 (c.len : Int)]).alloc _
      have hpb : Blk W (w1.heap.size + 1) 37 #[.slice (some ad) i i, .slice (some ⟨w1.heap.size, 0, none⟩) 1 1, .slice (if c1 = bh then some ad else some (ad.add (bh * 4))) (cs.length - bh) (c1 - bh)] := by rw [hW]; exact Blk.new_at (b := w1.heap.size + 1) (w1.alloc (.cells #[.string (str c.key), .string (str c.val), .int .i64 (c.over : Int), .int .i64 (c.len : Int)] 45)) 37 _ (by simp)
      have hk1 : Part.Ok W 4 ⟨some ad, i, i, cellVals (cs.take i)⟩ := ⟨by rw [← cellVals_take]; exact hcl.take i hi (by omega), (fun h => by cases h), one_cells _, Nat.le_refl _⟩
      have hk2 : Part.Ok W 4 ⟨some ⟨w1.heap.size, 0, none⟩, 1, 1, c.vals⟩ := ⟨⟨rfl, fun _ => ⟨_, _, rfl, (fun h => h), fun j u hu => by rw [Nat.zero_add, hcb.cell j]; simpa [Cell.vals] using hu⟩⟩, (fun h => by cases h), c.one, Nat.le_refl _⟩
      have hk3 : Part.Ok W 4 ⟨if c1 = bh then some ad else some (ad.add (bh * 4)), cs.length - bh, c1 - bh, cellVals (cs.drop bh)⟩ := ⟨by rw [← cellVals_drop]; exact hcl.rest bh c1 hbl hl1, (fun h => by split at h <;> cases h), one_cells _, by simp only; omega⟩
      have HCC := Lib.hid (concat_cells [⟨some ad, i, i, cellVals (cs.take i)⟩, ⟨some ⟨w1.heap.size, 0, none⟩, 1, 1, c.vals⟩, ⟨if c1 = bh then some ad else some (ad.add (bh * 4)), cs.length - bh, c1 - bh, cellVals (cs.drop bh)⟩] (w1.heap.size + 1) 3 3 W rfl
        (by intro p hp; simp at hp; rcases hp with rfl | rfl | rfl; exact hk1; exact hk2; exact hk3) (by simp [total]; omega) (by omega) (by omega)
        (by intro j p hj; match j, hj with
            | 0, hj => simp at hj; subst hj; exact hpb.cell 0
            | 1, hj => simp at hj; subst hj; exact hpb.cell 1
            | 2, hj => simp at hj; subst hj; exact hpb.cell 2
            | j + 3, hj => simp at hj))
      have htot : total [⟨some ad, i, i, cellVals (cs.take i)⟩, ⟨some ⟨w1.heap.size, 0, none⟩, 1, 1, c.vals⟩, ⟨if c1 = bh then some ad else some (ad.add (bh * 4)), cs.length - bh, c1 - bh, cellVals (cs.drop bh)⟩] = (cs.take i ++ c :: cs.drop bh).length := by simp [total]; omega
      have hjoi : joined [⟨some ad, i, i, cellVals (cs.take i)⟩, ⟨some ⟨w1.heap.size, 0, none⟩, 1, 1, c.vals⟩, ⟨if c1 = bh then some ad else some (ad.add (bh * 4)), cs.length - bh, c1 - bh, cellVals (cs.drop bh)⟩] = cellVals (cs.take i ++ c :: cs.drop bh) := by simp [joined, cellVals_append, cellVals_cons]
      rw [htot, hjoi] at HCC
      have hLb : (cs.take i ++ c :: cs.drop bh).length < 65536 := by simp; omega
      clear htot hjoi
      rw [← HL.out] at HCC hLb
      have HEW := Lib.hid hEW
      have hWs : W.heap.size = w1.heap.size + 1 + 1 := by rw [hW]; simp
      clear hk1 hk2 hk3 hcl hcb hpb hEW
      subst hW
      go_region_law ((go_simp; go_at_call 147; refine HCC.out.mono ?_; rintro e w2 ⟨A, cc, rfl, hown, hx2⟩; have HO := Lib.hid hown; have HX2 := Lib.hid hx2; have bn2 := Blk.of_ext hx2 ((bn.alloc _).alloc _) (fun h => h); have fz2 := bn2.frozen 1; have ce2 := bn2.cell 1; simp at ce2; clear hown hx2))
      all_goals (
        have br2 := Blk.of_ext HX2.out ((br.alloc _).alloc _) (fun h => h)
        have bn3 := bn2.set_ 1 (.slice A L.length cc)
        have bn3 : Blk (w2.setCell ⟨w.heap.size, 1, none⟩ (.slice A L.length cc)) w.heap.size 40 #[.bool true, .slice A L.length cc, .slice A2 0 c2, .slice A3 0 c3] := bn3
        have br3 := br2.far (p := ⟨w.heap.size, 1, none⟩) (show w.heap.size + 1 + 1 ≠ w.heap.size by omega) (.slice A L.length cc)
        obtain ⟨p0, p1, p2, p3, g0, g1, g2, g3, ln⟩ := bn3.p4
        obtain ⟨r0, r1, r2, r3, s0, s1, s2, s3, lr⟩ := br3.p4
        go_wp2_with fail
        all_goals (
          refine bodyPost_ret (results_cell_row (P := Tryz.prog) rfl _ _ (w.heap.size + 1 + 1) 40 _ (0, 0) _ rfl (br3.put4 (.bool true) (.slice A L.length cc) (.slice A2 0 c2) (.slice A3 0 c3)) Tryz.underlying40 rfl (by kernel_rfl)) rfl ?_
          have hx0 : Ext No w w2 := ((((hE1.alloc _).alloc _).drew).trans_ HX2.out)
          refine ⟨((((hx0.setNew (by omega) _ _).setNew (by omega) _ _).setNew (by omega) _ _).setNew (by omega) _ _).setNew (by omega) _ _, A, cc, A2, c2, A3, c3, rfl, ?_⟩
          have hcap := own_cap HO.out
          have hin : Lo w1.heap.size w.heap.size := by show w.heap.size < w1.heap.size; omega
          have hin' : Lo w1.heap.size (w.heap.size + 1 + 1) := by show w.heap.size + 1 + 1 < w1.heap.size; omega
          have hn2 : NodeAt w2 (Lo w1.heap.size) A cc A2 c2 A3 c3 ⟨true, L, [], []⟩ := ⟨(Rd.own_lo HO.out (by omega)).mono (by omega) (fun b _ hb => by unfold Lo at hb ⊢; simp; omega), Rd.nil_ _, Rd.nil_ _, hcap, HN.out.l2, HN.out.l3, hLb, by simp, by simp, own_nilcap HO.out, HN.out.e2, HN.out.e3⟩
          have hz : Ext (Lo w1.heap.size) w2 _ := (((((Ext.refl _ w2).setF hin 1 (.slice A L.length cc)).setF hin' 0 (.bool true)).setF hin' 1 (.slice A L.length cc)).setF hin' 2 (.slice A2 0 c2)).setF hin' 3 (.slice A3 0 c3)
          exact (hn2.ext hz).mono (fun b _ hb => by unfold Old at hb; unfold Lo; omega)))

end Go.Proofs.YtccnemmlkcmceaaGreatDoor

/- slot.Cut. -/
set_option linter.unusedVariables false
set_option linter.unusedSimpArgs false
namespace Go.Proofs.YtccnemmlkcmceaaGreatDoor
open Go.RowKit 

def Nd.cut (n : Nd) (i : Nat) : Nd := { n with cells := n.cells.take i ++ n.cells.drop (i + 1) }

set_option maxRecDepth 100000 in
set_option maxHeartbeats 1600000 in
theorem cut_any (n : Nd) (i : Nat) (w : World) (F : Nat → Prop) (A1 : Option Addr) (c1 : Nat) (A2 : Option Addr) (c2 : Nat) (A3 : Option Addr) (c3 : Nat) (hn : NodeAt w F A1 c1 A2 c2 A3 c3 n)
    (hlf : n.leaf = true) (hks : n.keys = []) (hkd : n.kids = []) (hi : i < n.cells.length) (hlen : n.cells.length ≤ 1000) :
    Calls Tryz.prog 103 #[n.value A1 c1 A2 c2 A3 c3, .int .i64 (i : Int)] w (Made w (n.cut i)) := by
  obtain ⟨lf, cs, ks, kd⟩ := n
  simp only at hlf hks hkd hi hlen
  subst hlf; subst hks; subst hkd
  unfold Nd.cut
  simp only [Nd.value, List.length_nil]
  have HN := Lib.hid hn
  have hl1 := hn.l1
  have hb1 := hn.b1
  simp only at hl1 hb1
  obtain ⟨b, o, hA, _⟩ := hn.cells.2 (show 0 < cs.length by omega)
  obtain ⟨ad, had⟩ : ∃ ad, A1 = some ad := ⟨_, hA⟩
  subst had
  clear hn hA
  obtain ⟨i0, hti, htz0, htz1, htz2⟩ := info_parts Tryz.info45
  obtain ⟨L, hL⟩ : ∃ L, L = cs.take i ++ cs.drop (i + 1) := ⟨_, rfl⟩
  rw [← hL]
  have HL := Lib.hid hL
  clear hL
  have bn := (Blk.new w 40 #[.bool true, .slice (some ad) cs.length c1, .slice A2 0 c2, .slice A3 0 c3]).alloc (.cells #[.bool false, .slice none 0 0, .slice none 0 0, .slice none 0 0] 40)
  have br := Blk.new_at (b := w.heap.size + 1) (w.alloc (.cells #[.bool true, .slice (some ad) cs.length c1, .slice A2 0 c2, .slice A3 0 c3] 40)) 40 #[.bool false, .slice none 0 0, .slice none 0 0, .slice none 0 0] (by simp)
  have hE1 : Ext No w ((w.alloc (.cells #[.bool true, .slice (some ad) cs.length c1, .slice A2 0 c2, .slice A3 0 c3] 40)).alloc (.cells #[.bool false, .slice none 0 0, .slice none 0 0, .slice none 0 0] 40)) := ((Ext.refl No w).alloc _).alloc _
  generalize hw1 : (w.alloc (.cells #[.bool true, .slice (some ad) cs.length c1, .slice A2 0 c2, .slice A3 0 c3] 40)).alloc (.cells #[.bool false, .slice none 0 0, .slice none 0 0, .slice none 0 0] 40) = w1 at bn br hE1
  have hw1s : w1.heap.size = w.heap.size + 1 + 1 := by rw [← hw1]; simp
  have hin1 : (i : Int) < cs.length := by omega
  have hin4 : (0 : Int) ≤ (i : Int) := by omega
  obtain ⟨p0, p1, p2, p3, g0, g1, g2, g3, ln⟩ := bn.p4
  have hic : i ≤ c1 := by omega
  have hin2 : (i : Int) ≤ c1 := by omega
  have hin3 : (i : Int) ≤ cs.length := by omega
  have hin5 : cs.length ≤ c1 := hl1
  have hin6 : i + 1 ≤ cs.length := by omega
  have hin7 : (i : Int) + 1 ≤ cs.length := by omega
  have hin8 : (0 : Int) ≤ (i : Int) + 1 := by omega
  have hin9 : IntKind.i64.wrap ((i : Int) + 1) = (i : Int) + 1 := IntWalk.i64_in _ (by omega)
  have hin10 : ((i : Int) + 1).toNat = i + 1 := by omega
  obtain ⟨W, hW⟩ : ∃ W, W = (w1.alloc (.cells #[.slice (some ad) i i, .slice (if c1 = i + 1 then some ad else some (ad.add ((i + 1) * 4))) (cs.length - (i + 1)) (c1 - (i + 1))] 37)).drew := ⟨_, rfl⟩
  have hEW : Ext No w W := by rw [hW]; exact (hE1.alloc _).drew
  have hcl : Rd W No 4 (some ad) cs.length (cellVals cs) := (HN.out.cells.mono (by omega) (fun _ _ h => h.elim)).ext hEW
  have hpb : Blk W (w.heap.size + 1 + 1) 37 #[.slice (some ad) i i, .slice (if c1 = i + 1 then some ad else some (ad.add ((i + 1) * 4))) (cs.length - (i + 1)) (c1 - (i + 1))] := by rw [hW]; exact Blk.new_at (b := w.heap.size + 1 + 1) w1 37 _ hw1s
  have hk1 : Part.Ok W 4 ⟨some ad, i, i, cellVals (cs.take i)⟩ := ⟨by rw [← cellVals_take]; exact hcl.take i (by omega) (by omega), (fun h => by cases h), one_cells _, Nat.le_refl _⟩
  have hk3 : Part.Ok W 4 ⟨if c1 = i + 1 then some ad else some (ad.add ((i + 1) * 4)), cs.length - (i + 1), c1 - (i + 1), cellVals (cs.drop (i + 1))⟩ := ⟨by rw [← cellVals_drop]; exact hcl.rest (i + 1) c1 hin6 hl1, (fun h => by split at h <;> cases h), one_cells _, by simp only; omega⟩
  have HCC := Lib.hid (concat_cells [⟨some ad, i, i, cellVals (cs.take i)⟩, ⟨if c1 = i + 1 then some ad else some (ad.add ((i + 1) * 4)), cs.length - (i + 1), c1 - (i + 1), cellVals (cs.drop (i + 1))⟩] (w.heap.size + 1 + 1) 2 2 W rfl
    (by intro p hp; simp at hp; rcases hp with rfl | rfl; exact hk1; exact hk3) (by simp [total]; omega) (by omega) (by omega)
    (by intro j p hj; match j, hj with
        | 0, hj => simp at hj; subst hj; exact hpb.cell 0
        | 1, hj => simp at hj; subst hj; exact hpb.cell 1
        | j + 2, hj => simp at hj))
  have htot : total [⟨some ad, i, i, cellVals (cs.take i)⟩, ⟨if c1 = i + 1 then some ad else some (ad.add ((i + 1) * 4)), cs.length - (i + 1), c1 - (i + 1), cellVals (cs.drop (i + 1))⟩] = (cs.take i ++ cs.drop (i + 1)).length := by simp [total]; omega
  have hjoi : joined [⟨some ad, i, i, cellVals (cs.take i)⟩, ⟨if c1 = i + 1 then some ad else some (ad.add ((i + 1) * 4)), cs.length - (i + 1), c1 - (i + 1), cellVals (cs.drop (i + 1))⟩] = cellVals (cs.take i ++ cs.drop (i + 1)) := by simp [joined, cellVals_append]
  rw [htot, hjoi] at HCC
  have hLb : (cs.take i ++ cs.drop (i + 1)).length < 65536 := by simp; omega
  rw [← HL.out] at HCC hLb
  clear htot hjoi hk1 hk3 hcl hpb hEW
  subst hW
  go_enter Tryz.func103, Tryz.ntmps103
  go_wp2_with fail
  go_region_law ((go_simp; go_at_call 147; refine HCC.out.mono ?_; rintro e w2 ⟨A, cc, rfl, hown, hx2⟩; have HO := Lib.hid hown; have HX2 := Lib.hid hx2; have bn2 := Blk.of_ext hx2 (bn.alloc _) (fun h => h); have fz2 := bn2.frozen 1; have ce2 := bn2.cell 1; simp at ce2; clear hown hx2))
  all_goals (
    have br2 := Blk.of_ext HX2.out (br.alloc _) (fun h => h)
    have bn3 := bn2.set_ 1 (.slice A L.length cc)
    have bn3 : Blk (w2.setCell ⟨w.heap.size, 1, none⟩ (.slice A L.length cc)) w.heap.size 40 #[.bool true, .slice A L.length cc, .slice A2 0 c2, .slice A3 0 c3] := bn3
    have br3 := br2.far (p := ⟨w.heap.size, 1, none⟩) (show w.heap.size + 1 ≠ w.heap.size by omega) (.slice A L.length cc)
    obtain ⟨p0, p1, p2, p3, g0, g1, g2, g3, ln⟩ := bn3.p4
    obtain ⟨r0, r1, r2, r3, s0, s1, s2, s3, lr⟩ := br3.p4
    go_wp2_with fail
    all_goals (
      refine bodyPost_ret (results_cell_row (P := Tryz.prog) rfl _ _ (w.heap.size + 1) 40 _ (0, 0) _ rfl (br3.put4 (.bool true) (.slice A L.length cc) (.slice A2 0 c2) (.slice A3 0 c3)) Tryz.underlying40 rfl (by kernel_rfl)) rfl ?_
      have hx0 : Ext No w w2 := (((hE1.alloc _).drew).trans_ HX2.out)
      refine ⟨((((hx0.setNew (by omega) _ _).setNew (by omega) _ _).setNew (by omega) _ _).setNew (by omega) _ _).setNew (by omega) _ _, A, cc, A2, c2, A3, c3, rfl, ?_⟩
      have hcap := own_cap HO.out
      have hin : Lo w1.heap.size w.heap.size := by show w.heap.size < w1.heap.size; omega
      have hin' : Lo w1.heap.size (w.heap.size + 1) := by show w.heap.size + 1 < w1.heap.size; omega
      have hn2 : NodeAt w2 (Lo w1.heap.size) A cc A2 c2 A3 c3 ⟨true, L, [], []⟩ := ⟨(Rd.own_lo HO.out (by omega)).mono (by omega) (fun b _ hb => by unfold Lo at hb ⊢; simp; omega), Rd.nil_ _, Rd.nil_ _, hcap, HN.out.l2, HN.out.l3, hLb, by simp, by simp, own_nilcap HO.out, HN.out.e2, HN.out.e3⟩
      have hz : Ext (Lo w1.heap.size) w2 _ := (((((Ext.refl _ w2).setF hin 1 (.slice A L.length cc)).setF hin' 0 (.bool true)).setF hin' 1 (.slice A L.length cc)).setF hin' 2 (.slice A2 0 c2)).setF hin' 3 (.slice A3 0 c3)
      exact (hn2.ext hz).mono (fun b _ hb => by unfold Old at hb; unfold Lo; omega)))

end Go.Proofs.YtccnemmlkcmceaaGreatDoor

/- slot.part. -/
set_option linter.unusedVariables false
set_option linter.unusedSimpArgs false
namespace Go.Proofs.YtccnemmlkcmceaaGreatDoor
open Go.RowKit 

def Nd.part (n : Nd) (f t : Nat) : Nd :=
  if n.leaf then ⟨true, (n.cells.drop f).take (t - f), [], []⟩ else ⟨false, [], (n.keys.drop f).take (t - f), (n.kids.drop f).take (t + 1 - f)⟩

theorem Rd.sub {w : World} {F : Nat → Prop} {sz n : Nat} {ad : Addr} {xs : List Value} (h : Rd w F sz (some ad) n xs) (f t c : Nat) (hf : f ≤ t) (ht : t ≤ n) (hc : n ≤ c) (hs : 0 < sz) : Rd w F sz (if c = f then some ad else some (ad.add (f * sz))) (t - f) ((xs.drop (f * sz)).take ((t - f) * sz)) :=
  (h.rest f c (by omega) hc).take (t - f) (by omega) hs

set_option maxRecDepth 100000 in
set_option maxHeartbeats 1600000 in
theorem part_leaf (n : Nd) (f t : Nat) (w : World) (F : Nat → Prop) (A1 : Option Addr) (c1 : Nat) (A2 : Option Addr) (c2 : Nat) (A3 : Option Addr) (c3 : Nat) (hn : NodeAt w F A1 c1 A2 c2 A3 c3 n)
    (hlf : n.leaf = true) (h0 : 0 < n.cells.length) (hf : f < t) (ht : t ≤ n.cells.length) :
    Calls Tryz.prog 182 #[n.value A1 c1 A2 c2 A3 c3, .int .i64 (f : Int), .int .i64 (t : Int)] w (Made w (n.part f t)) := by
  obtain ⟨b, o, hA, _⟩ := hn.cells.2 h0
  obtain ⟨ad, had⟩ : ∃ ad, A1 = some ad := ⟨_, hA⟩
  subst had
  clear hA
  have hp : n.part f t = ⟨true, (n.cells.drop f).take (t - f), [], []⟩ := by simp [Nd.part, hlf]
  rw [hp]
  have hl1 := hn.l1
  have hb1 := hn.b1
  have hEW : Ext No w ((w.alloc (.cells #[.bool true, .slice (some ad) n.cells.length c1, .slice A2 n.keys.length c2, .slice A3 n.kids.length c3] 40)).alloc (.cells #[.bool false, .slice none 0 0, .slice none 0 0, .slice none 0 0] 40)) := ((Ext.refl No w).alloc _).alloc _
  have hcl := ((hn.cells.mono (G := No) (by omega) (fun _ _ h => h.elim)).ext hEW).sub f t c1 (by omega) ht hl1 (by omega)
  rw [cellVals_drop, cellVals_take] at hcl
  have hok : Part.Ok ((w.alloc (.cells #[.bool true, .slice (some ad) n.cells.length c1, .slice A2 n.keys.length c2, .slice A3 n.kids.length c3] 40)).alloc (.cells #[.bool false, .slice none 0 0, .slice none 0 0, .slice none 0 0] 40)) 4 ⟨if c1 = f then some ad else some (ad.add (f * 4)), t - f, c1 - f, cellVals ((n.cells.drop f).take (t - f))⟩ :=
    ⟨hcl, (fun h => by split at h <;> cases h), one_cells _, by simp only; omega⟩
  have HCC := Lib.hid (clone_cells _ _ hok (by simp only; omega))
  have hLl : ((n.cells.drop f).take (t - f)).length = t - f := by simp; omega
  obtain ⟨L, hL⟩ : ∃ L, L = (n.cells.drop f).take (t - f) := ⟨_, rfl⟩
  rw [← hL] at hLl HCC ⊢
  have HLL := Lib.hid hLl
  simp only [Nd.value, hlf, Part.v] at HCC ⊢
  have hi1 : (f : Int) ≤ t := by omega
  have hi2 : (t : Int) ≤ c1 := by omega
  have hi3 : (0 : Int) ≤ f := by omega
  have hi4 : t ≤ c1 := by omega
  have hLb : t - f < 65536 := by omega
  generalize n.cells.length = nl at *
  generalize n.keys.length = kl at *
  generalize n.kids.length = il at *
  clear hp hl1 hb1 hEW hcl hok hLl hL hn hlf h0 ht
  have hcf : ¬ c1 = f := by omega
  simp only [hcf, if_false] at HCC
  go_enter Tryz.func182, Tryz.ntmps182
  go_wp2_with fail
  refine HCC.out.mono ?_
  rintro e w2 ⟨A, cc, rfl, hown, hx2⟩
  have HO := Lib.hid hown; have HX2 := Lib.hid hx2
  have br := (Blk.new_at (b := w.heap.size + 1) (w.alloc (.cells #[.bool true, .slice (some ad) nl c1, .slice A2 kl c2, .slice A3 il c3] 40)) 40 #[.bool false, .slice none 0 0, .slice none 0 0, .slice none 0 0] (by simp)).ext hx2 (fun h => h)
  obtain ⟨r0, r1, r2, r3, s0, s1, s2, s3, lr⟩ := br.p4
  clear hown hx2
  go_wp2_with fail
  refine bodyPost_ret (results_cell_row (P := Tryz.prog) rfl _ _ (w.heap.size + 1) 40 _ (0, 0) _ rfl (br.put4 (.bool true) (.slice A (t - f) cc) (.slice none 0 0) (.slice none 0 0)) Tryz.underlying40 rfl (by kernel_rfl)) rfl ?_
  have hx0 : Ext No w w2 := (((Ext.refl No w).alloc _).alloc _).trans_ HX2.out
  refine ⟨(((hx0.setNew (by omega) _ _).setNew (by omega) _ _).setNew (by omega) _ _).setNew (by omega) _ _, A, cc, none, 0, none, 0, by rw [← HLL.out]; rfl, ?_⟩
  have hcap := own_cap HO.out
  have hin' : Lo (w.heap.size + 2) (w.heap.size + 1) := by show w.heap.size + 1 < w.heap.size + 2; omega
  have hn2 : NodeAt w2 (Lo (w.heap.size + 2)) A cc none 0 none 0 ⟨true, L, [], []⟩ := ⟨by have := (Rd.own_lo HO.out (by omega)).mono (G := Lo (w.heap.size + 2)) (by omega) (fun b _ hb => by unfold Lo at hb ⊢; simp; omega); rw [HLL.out]; exact this, Rd.nil_ _, Rd.nil_ _, by rw [HLL.out]; exact hcap, by simp, by simp, by rw [HLL.out]; omega, by simp, by simp, own_nilcap HO.out, fun _ => rfl, fun _ => rfl⟩
  have hz : Ext (Lo (w.heap.size + 2)) w2 _ := ((((Ext.refl _ w2).setF hin' 0 (.bool true)).setF hin' 1 (.slice A (t - f) cc)).setF hin' 2 (.slice none 0 0)).setF hin' 3 (.slice none 0 0)
  exact (hn2.ext hz).mono (fun b _ hb => by unfold Old at hb; unfold Lo; omega)

end Go.Proofs.YtccnemmlkcmceaaGreatDoor

/- The tree's calls, each as one plain function on what a transaction shows. -/
set_option linter.unusedVariables false
set_option linter.unusedSimpArgs false
namespace Go.Proofs.YtccnemmlkcmceaaGreatDoor
open Go.RowKit 

/-- A page read as a node. -/
def V.node (v : V) (id : Nat) : Option Nd := if v.err id = 0 then (if (v.pg id).kind = 2 then dec (v.pg id).body else none) else none
/-- A node on the way down. -/
structure Stp where
  id : Nat
  n : Nd
  i : Nat
def V.wayLoop (v : V) (key : Bs) : Nat → Nat → List Stp → Option (List Stp)
  | 0, _, _ => none
  | k + 1, id, out => if id = 0 then some out else match v.node id with
    | none => none
    | some n => if out.length = 40 then none else
      if n.leaf then some (out ++ [⟨id, n, (n.find key).1⟩]) else v.wayLoop key k (n.kids.getD (n.find key).1 0) (out ++ [⟨id, n, (n.find key).1⟩])
/-- The way down to the leaf of a key. -/
def V.way (v : V) (root : Nat) (key : Bs) : Option (List Stp) := v.wayLoop key 41 (v.r root) []
/-- The cell of a key in the last node of a way. -/
def hit (ws : List Stp) (key : Bs) : Option Cell :=
  match ws.getLast? with
  | none => none
  | some st => match st.n.cells[st.i]? with
    | none => none
    | some c => if c.key = key then some c else none
/-- Get. -/
def V.get (v : V) (root : Nat) (key : Bs) : Bs × Bool × Nat :=
  if may key [] ≠ 0 then ([], false, may key []) else
  match v.way root key with
  | none => ([], false, 5)
  | some ws => match hit ws key with
    | none => ([], false, 0)
    | some c => match v.value c with
      | none => ([], false, 5)
      | some b => (b, true, 0)
/-- A node is written to a page. -/
def V.wr (v : V) (id : Nat) (n : Nd) : Nat × V := if n.out.2 = 0 then v.set id 2 n.out.1 else (n.out.2, v)
/-- A node is written to a new page. -/
def V.fresh (cap : Nat) (v : V) (n : Nd) : Nat × Nat × V :=
  if (v.alloc cap).2.1 = 0 then ((v.alloc cap).1, ((v.alloc cap).2.2.wr (v.alloc cap).1 n).1, ((v.alloc cap).2.2.wr (v.alloc cap).1 n).2) else (0, (v.alloc cap).2.1, (v.alloc cap).2.2)
def V.spoil (v : V) : V := { v with spoilt := true }
def V.sure (r : Nat × V) : Nat × V := if r.1 = 0 then r else (r.1, r.2.spoil)

end Go.Proofs.YtccnemmlkcmceaaGreatDoor

/- The transaction's blocks are there. -/
set_option linter.unusedVariables false
set_option linter.unusedSimpArgs false
namespace Go.Proofs.YtccnemmlkcmceaaGreatDoor
open Go.RowKit 

theorem TxAt.old {w : World} {s : Sys} {v : V} (h : TxAt w s v) {b : Nat} (hb : s.F b) : b < w.heap.size := by
  rcases hb with rfl | rfl
  · exact h.tx.lt
  · obtain ⟨ov, ⟨_, es, c, ho, _⟩, _⟩ := h.mp
    rcases Nat.lt_or_ge s.m w.heap.size with hlt | hge
    · exact hlt
    · rw [Array.getElem?_eq_none hge] at ho; cases ho

end Go.Proofs.YtccnemmlkcmceaaGreatDoor

/- The tree's calls: a node is written. -/
set_option linter.unusedVariables false
set_option linter.unusedSimpArgs false
namespace Go.Proofs.YtccnemmlkcmceaaGreatDoor
open Go.RowKit 

theorem Cell.enc_len' (c : Cell) : c.enc.length = c.size := by
  unfold Cell.enc Cell.size txt
  split
  · simp [n4]; omega
  · simp; omega
theorem encCells_len' (cs : List Cell) : (encCells cs).length = sumC cs := by
  induction cs with
  | nil => rfl
  | cons c cs ih => simp only [encCells, List.flatMap_cons, List.length_append, sumC, List.map_cons, List.sum_cons] at *; rw [ih, c.enc_len']
theorem encKeys_len' (ks : List Bs) : ∀ is : List Nat, is.length = ks.length → (encKeys ks is).length = sumK ks := by
  induction ks with
  | nil => intro is _; cases is <;> rfl
  | cons k ks ih =>
    intro is h
    match is, h with
    | i :: is, h =>
      have := ih is (by simpa using h)
      simp only [encKeys, List.length_append, sumK, List.map_cons, List.sum_cons, txt, List.length_cons, n4] at *
      rw [this]; simp; omega
theorem Nd.enc_len {n : Nd} (h : n.ok = true) : n.enc.length = n.size := by
  have hO := Nd.Ok.of h
  unfold Nd.enc Nd.size
  cases hl : n.leaf
  · obtain ⟨h1, h2⟩ := hO.br hl
    have h3 : n.kids.tail.length = n.keys.length := by simp; omega
    simp only [Bool.false_eq_true, if_false, List.length_cons, List.length_append, encKeys_len' _ _ h3, h1]
    simp [n4, sumC]; omega
  · obtain ⟨h1, h2⟩ := hO.lf hl
    simp [encCells_len', h1, sumK]; omega
theorem Nd.out_len (n : Nd) : n.out.1.length ≤ 500 := by
  unfold Nd.out
  split
  · simp
  · split
    · simp
    · rename_i h1 h2
      rw [Nd.enc_len (by simpa using h1)]
      omega

theorem V.Good.wr {v : V} (h : v.Good) (id : Nat) (n : Nd) : (v.wr id n).2.Good := by
  unfold V.wr
  split
  · exact h.set _ _ _ (by decide) n.out_len
  · exact h
theorem V.set_high (v : V) (id k : Nat) (b : List UInt8) : (v.set id k b).2.high = v.high := by unfold V.set; split <;> rfl
theorem V.wr_high (v : V) (id : Nat) (n : Nd) : (v.wr id n).2.high = v.high := by
  unfold V.wr; split
  · exact v.set_high _ _ _
  · rfl

theorem NodeAt.box {w : World} {F : Nat → Prop} {A1 : Option Addr} {c1 : Nat} {A2 : Option Addr} {c2 : Nat} {A3 : Option Addr} {c3 : Nat} {n : Nd} (h : NodeAt w F A1 c1 A2 c2 A3 c3 n) (o : Obj) : NodeAt (w.alloc o) F A1 c1 A2 c2 A3 c3 n := h.ext ((Ext.refl _ w).alloc o)

set_option maxRecDepth 100000 in
set_option maxHeartbeats 800000 in
theorem wr_any (s : Sys) (hs : s.Ok) (w : World) (v : V) (h : TxAt w s v) (hg : v.Good) (gx i : Nat) (hx : Blk w gx 70 (treeCells s i)) (id : Nat)
    (n : Nd) (F : Nat → Prop) (A1 : Option Addr) (c1 : Nat) (A2 : Option Addr) (c2 : Nat) (A3 : Option Addr) (c3 : Nat) (hn : NodeAt w F A1 c1 A2 c2 A3 c3 n) (hf : n.fits) :
    Calls Tryz.prog 141 #[.pointer (some ⟨gx, 0, none⟩), .int .i64 (id : Int), n.value A1 c1 A2 c2 A3 c3] w fun e w' => e = .returned (.int .i64 ((v.wr id n).1 : Int)) ∧ TxAt w' s (v.wr id n).2 ∧ (v.wr id n).2.Good ∧ Ext s.F w w' := by
  have HG := Lib.hid (hg.wr id n)
  have HT := Lib.hid (fun (w' : World) (e : Ext No w w') => h.no hs e)
  have HN := Lib.hid (fun o => encode_any n (w.alloc o) F A1 c1 A2 c2 A3 c3 (hn.box o) hf)
  have HW := Lib.hid (fun w h => write_any s hs w v h id 2 n.out.1 (by decide) (by decide) n.out_len)
  have c0 := hx.cell 0
  simp [treeCells] at c0
  have hgl := hx.lt
  unfold V.wr at HG ⊢
  generalize hn1 : n.out.1 = b at *
  generalize hn2 : n.out.2 = k at *
  simp only [Nd.value] at HN ⊢
  generalize n.cells.length = nl at *
  generalize n.keys.length = kl at *
  generalize n.kids.length = il at *
  by_cases hk : k = 0
  · subst hk
    rw [if_pos rfl] at HG ⊢
    clear hn1 hn2 hn hf hx hg h
    go_enter Tryz.func141, Tryz.ntmps141
    go_wp2_with fail
    refine (HN.out _).mono ?_
    rintro e w1 ⟨rfl, hx1⟩
    have hE : Ext No w w1 := ((Ext.refl No w).alloc _).trans_ hx1
    have c1 := cell_ext hE c0 (fun h => h)
    go_wp2_with fail
    refine (HW.out _ (HT.out _ hE)).mono ?_
    rintro e w2 ⟨rfl, hT, hx2⟩
    go_wp2_with fail
    go_ret
    exact ⟨rfl, hT, HG.out, hE.of_no.trans_ hx2⟩
  · rw [if_neg hk] at HG ⊢
    have hk' : ((k : Int) != 0) = true := by simpa using (by omega : ¬ (k : Int) = 0)
    clear hn1 hn2 hn hf hx hg h hk
    go_enter Tryz.func141, Tryz.ntmps141
    go_wp2_with fail
    refine (HN.out _).mono ?_
    rintro e w1 ⟨rfl, hx1⟩
    have hE : Ext No w w1 := ((Ext.refl No w).alloc _).trans_ hx1
    go_wp2_with fail
    go_ret
    exact ⟨rfl, HT.out _ hE, HG.out, hE.of_no⟩

theorem V.Good.fresh {v : V} (h : v.Good) {cap : Nat} (h1 : v.high ≤ cap) (h2 : cap ≤ 65536) (n : Nd) : (v.fresh cap n).2.2.Good ∧ (v.fresh cap n).2.2.high ≤ cap := by
  obtain ⟨g1, g2⟩ := h.alloc h1 h2
  unfold V.fresh
  split
  · exact ⟨g1.wr _ _, by rw [V.wr_high]; exact g2⟩
  · exact ⟨g1, g2⟩
theorem Sys.cap_le {s : Sys} (hs : s.Ok) : s.cap ≤ 65536 := by unfold Sys.cap; have := hs.n2; omega

set_option maxRecDepth 100000 in
set_option maxHeartbeats 800000 in
theorem fresh_any (s : Sys) (hs : s.Ok) (w : World) (v : V) (h : TxAt w s v) (hg : v.Good) (gx i : Nat) (hx : Blk w gx 70 (treeCells s i))
    (n : Nd) (F : Nat → Prop) (A1 : Option Addr) (c1 : Nat) (A2 : Option Addr) (c2 : Nat) (A3 : Option Addr) (c3 : Nat) (hn : NodeAt w F A1 c1 A2 c2 A3 c3 n) (hf : n.fits) (hF : ∀ b, s.F b → F b) :
    Calls Tryz.prog 98 #[.pointer (some ⟨gx, 0, none⟩), n.value A1 c1 A2 c2 A3 c3] w fun e w' => e = .returned (.tuple #[.int .i64 ((v.fresh s.cap n).1 : Int), .int .i64 ((v.fresh s.cap n).2.1 : Int)]) ∧ TxAt w' s (v.fresh s.cap n).2.2 ∧ (v.fresh s.cap n).2.2.Good ∧ Ext s.F w w' := by
  have HG := Lib.hid (hg.fresh h.h2 (Sys.cap_le hs) n).1
  have HA := Lib.hid (fun o => alloc_any s hs (w.alloc o) v (h.no hs ((Ext.refl No w).alloc o)) hg)
  have HW := Lib.hid (fun w' h' hx hn => wr_any s hs w' (v.alloc s.cap).2.2 h' (hg.alloc h.h2 (Sys.cap_le hs)).1 gx i hx (v.alloc s.cap).1 n F A1 c1 A2 c2 A3 c3 hn hf)
  have c0 := hx.cell 0
  simp [treeCells] at c0
  have hgl := hx.lt
  have HN := Lib.hid hn
  have HX := Lib.hid (fun (w' : World) (e : Ext s.F w w') => tree_ext h hx e)
  have HO := Lib.hid (fun b (hb : s.F b) => h.old hb)
  unfold V.fresh at HG ⊢
  simp only [Nd.value] at HW ⊢
  generalize hnl : n.cells.length = nl at HW ⊢
  generalize hkl : n.keys.length = kl at HW ⊢
  generalize hil : n.kids.length = il at HW ⊢
  generalize hn1 : (v.alloc s.cap).1 = id at *
  generalize hn2 : (v.alloc s.cap).2.1 = k at *
  generalize hn3 : (v.alloc s.cap).2.2 = v' at *
  generalize hwr : v'.wr id n = r at *
  by_cases hk : k = 0
  · subst hk
    rw [if_pos rfl] at HG ⊢
    clear hn1 hn2 hn3 hwr hn hf hx hg h hnl hkl hil
    go_enter Tryz.func98, Tryz.ntmps98
    go_wp2_with fail
    refine (HA.out _).mono ?_
    rintro e w1 ⟨rfl, hT1, hx1⟩
    have hE : Ext s.F w w1 := ((Ext.refl s.F w).alloc _).trans_ hx1
    have hb := (Blk.new w 40 #[.bool n.leaf, .slice A1 nl c1, .slice A2 kl c2, .slice A3 il c3]).ext hx1 (fun h => absurd (HO.out _ h) (by omega))
    obtain ⟨p0, p1, p2, p3, g0, g1, g2, g3, ln⟩ := hb.p4
    go_wp2_with fail
    refine (HW.out _ hT1 (HX.out _ hE) (HN.out.ext (hE.mono (fun b _ => hF b)))).mono ?_
    rintro e w2 ⟨rfl, hT2, hG2, hx2⟩
    go_wp2_with fail
    go_ret2
    exact ⟨rfl, hT2, hG2, hE.trans_ hx2⟩
  · rw [if_neg hk] at HG ⊢
    have hk' : ((k : Int) != 0) = true := by simpa using (by omega : ¬ (k : Int) = 0)
    clear hn1 hn2 hn3 hwr hn hf hx hg h hnl hkl hil hk
    go_enter Tryz.func98, Tryz.ntmps98
    go_wp2_with fail
    refine (HA.out _).mono ?_
    rintro e w1 ⟨rfl, hT1, hx1⟩
    have hE : Ext s.F w w1 := ((Ext.refl s.F w).alloc _).trans_ hx1
    go_wp2_with fail
    go_ret2
    exact ⟨rfl, hT1, HG.out, hE⟩

end Go.Proofs.YtccnemmlkcmceaaGreatDoor

/- The tree's calls: a page is read as a node. -/
set_option linter.unusedVariables false
set_option linter.unusedSimpArgs false
namespace Go.Proofs.YtccnemmlkcmceaaGreatDoor
open Go.RowKit 

/-- Node's return: the node's block, and the number. -/
theorem node_back {Q : Ending → World → Prop} {a : Act} {w : World} (b : Nat) (cs : Array Value) (hb : Blk w b 40 cs) {v : Value} (hs : some 4 = some cs.size) (hp : a.tmps.getD 4 undef = .pointer (some ⟨b, 0, none⟩)) (h3 : a.tmps.getD 5 undef = v) (hd : a.defers = [])
    (h : Q (.returned (.tuple #[.agg cs, v])) w) : bodyPost Tryz.prog Tryz.f16 Q Exit.ret a w := by
  refine bodyPost_ret (v := .tuple #[.agg cs, v]) (w := w) ?_ hd h
  have hl := run_loadVar_row w b 40 40 cs (0, 0) _ hb Tryz.underlying40 rfl (by rw [← hs]; kernel_rfl)
  rw [results_cell_tmp rfl, hp, h3]
  simp [asAddr, Result.andThen, hl]

theorem Told.after {w w1 w2 : World} {o : Option Nd} {e : Ending} (h : Told w1 o e w2) (hx : Ext No w w1) : Told w o e w2 := by
  obtain ⟨h1, h2⟩ := h
  refine ⟨hx.trans_ h1, ?_⟩
  cases o with
  | none => exact h2
  | some n =>
    obtain ⟨A1, c1, A2, c2, A3, c3, he, hn⟩ := h2
    exact ⟨A1, c1, A2, c2, A3, c3, he, hn.mono (fun b _ hb => Nat.lt_of_lt_of_le hb hx.size)⟩

set_option maxRecDepth 100000 in
set_option maxHeartbeats 800000 in
theorem node_any (s : Sys) (hs : s.Ok) (w : World) (v : V) (h : TxAt w s v) (hg : v.Good) (gx i : Nat) (hx : Blk w gx 70 (treeCells s i)) (id : Nat) :
    Calls Tryz.prog 16 #[.pointer (some ⟨gx, 0, none⟩), .int .i64 (id : Int)] w (Told w (v.node id)) := by
  have HN := Lib.hid (none_no ⟨s.t, 0, none⟩ (.int .i64 (i : Int)) gx)
  have HR := Lib.hid (fun o => read_any s hs (w.alloc o) v (h.no hs ((Ext.refl No w).alloc o)) id)
  have HX := Lib.hid hx
  have c0 := hx.cell 0
  simp [treeCells] at c0
  have hgl := hx.lt
  unfold V.node
  by_cases he : v.err id = 0
  · have hr : v.read id = ((v.pg id).kind, (v.pg id).body, 0) := by simp [V.read, he]
    have hbd := V.good_bd hg he
    rw [if_pos he]
    rw [hr] at HR
    clear hr he
    generalize (v.pg id).kind = k at *
    generalize (v.pg id).body = b at *
    by_cases hk : k = 2
    · subst hk
      rw [if_pos rfl]
      have HD := Lib.hid (fun w => decode_any b w (by omega))
      generalize dec b = D at *
      clear hx hbd
      go_enter Tryz.func16, Tryz.ntmps16
      go_wp2_with fail
      refine (HN.out _ (HX.out.alloc _)).mono ?_
      rintro e' w1 ⟨rfl, rfl⟩
      go_wp2_with fail
      refine (HR.out _).mono ?_
      rintro e' w1 ⟨rfl, hx1⟩
      have hE1 : Ext No w w1 := ((Ext.refl No w).alloc _).trans_ hx1
      have bn := (Blk.new w 40 #[.bool false, .slice none 0 0, .slice none 0 0, .slice none 0 0]).ext hx1 (fun h => h)
      go_wp2_with fail
      refine (HD.out _).mono ?_
      rintro e' w2 ⟨hx2, hr⟩
      have bn2 := bn.ext hx2 (fun h => h)
      obtain ⟨p0, p1, p2, p3, g0, g1, g2, g3, ln⟩ := bn2.p4
      cases D with
      | none =>
        simp only at hr
        subst hr
        simp only [Nd.zero]
        go_wp2_with fail
        refine node_back w.heap.size _ (bn2.put4 (.bool false) (.slice none 0 0) (.slice none 0 0) (.slice none 0 0)) rfl rfl rfl rfl ?_
        exact ⟨((((hE1.trans_ hx2).setNew (by omega) _ _).setNew (by omega) _ _).setNew (by omega) _ _).setNew (by omega) _ _, rfl⟩
      | some n =>
        obtain ⟨A1, c1, A2, c2, A3, c3, hr, hn⟩ := hr
        subst hr
        simp only [Nd.value]
        go_wp2_with fail
        refine node_back w.heap.size _ (bn2.put4 (.bool n.leaf) (.slice A1 n.cells.length c1) (.slice A2 n.keys.length c2) (.slice A3 n.kids.length c3)) rfl rfl rfl rfl ?_
        refine ⟨((((hE1.trans_ hx2).setNew (by omega) _ _).setNew (by omega) _ _).setNew (by omega) _ _).setNew (by omega) _ _, A1, c1, A2, c2, A3, c3, rfl, ?_⟩
        have hsz := hx1.size
        simp at hsz
        have hin : Old w1 w.heap.size := by show w.heap.size < w1.heap.size; omega
        have hz : Ext (Old w1) w2 _ := ((((Ext.refl _ w2).setF hin 0 (.bool n.leaf)).setF hin 1 (.slice A1 n.cells.length c1)).setF hin 2 (.slice A2 n.keys.length c2)).setF hin 3 (.slice A3 n.kids.length c3)
        exact (hn.ext hz).mono (fun b _ hb => by unfold Old at hb ⊢; omega)
    · rw [if_neg hk]
      have hk' : ((k : Int) != 2) = true := by simpa using (by omega : ¬ (k : Int) = 2)
      clear hx hbd hk
      go_enter Tryz.func16, Tryz.ntmps16
      go_wp2_with fail
      refine (HN.out _ (HX.out.alloc _)).mono ?_
      rintro e' w1 ⟨rfl, rfl⟩
      go_wp2_with fail
      refine (HR.out _).mono ?_
      rintro e' w1 ⟨rfl, hx1⟩
      have hE1 : Ext No w w1 := ((Ext.refl No w).alloc _).trans_ hx1
      have bn := (Blk.new w 40 #[.bool false, .slice none 0 0, .slice none 0 0, .slice none 0 0]).ext hx1 (fun h => h)
      obtain ⟨p0, p1, p2, p3, g0, g1, g2, g3, ln⟩ := bn.p4
      go_wp2_with fail
      refine node_back w.heap.size _ (bn.put4 (.bool false) (.slice none 0 0) (.slice none 0 0) (.slice none 0 0)) rfl rfl rfl rfl ?_
      exact ⟨(((hE1.setNew (by omega) _ _).setNew (by omega) _ _).setNew (by omega) _ _).setNew (by omega) _ _, rfl⟩
  · have hr : v.read id = (0, [], v.err id) := by simp [V.read, he]
    rw [if_neg he]
    rw [hr] at HR
    have he' : v.err id = 2 ∨ v.err id = 8 := by
      rcases V.err_cases he with ⟨h, _⟩ | ⟨h, _⟩
      · exact .inl h
      · exact .inr h
    clear hr he hx
    generalize v.err id = k at *
    rcases he' with rfl | rfl
    all_goals
      go_enter Tryz.func16, Tryz.ntmps16
      go_wp2_with fail
      refine (HN.out _ (HX.out.alloc _)).mono ?_
      rintro e' w1 ⟨rfl, rfl⟩
      go_wp2_with fail
      refine (HR.out _).mono ?_
      rintro e' w1 ⟨rfl, hx1⟩
      have hE1 : Ext No w w1 := ((Ext.refl No w).alloc _).trans_ hx1
      have bn := (Blk.new w 40 #[.bool false, .slice none 0 0, .slice none 0 0, .slice none 0 0]).ext hx1 (fun h => h)
      obtain ⟨p0, p1, p2, p3, g0, g1, g2, g3, ln⟩ := bn.p4
      go_wp2_with fail
      refine node_back w.heap.size _ (bn.put4 (.bool false) (.slice none 0 0) (.slice none 0 0) (.slice none 0 0)) rfl rfl rfl rfl ?_
      exact ⟨(((hE1.setNew (by omega) _ _).setNew (by omega) _ _).setNew (by omega) _ _).setNew (by omega) _ _, rfl⟩

end Go.Proofs.YtccnemmlkcmceaaGreatDoor
