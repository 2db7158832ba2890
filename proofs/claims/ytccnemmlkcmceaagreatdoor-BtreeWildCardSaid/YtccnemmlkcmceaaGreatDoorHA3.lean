/- Proofs about the given program, joined out of the texts S2, S3, S4, S5. -/
import Derived.Test.YtccnemmlkcmceaaGreatDoorHA2
import Derived.Deep.RegionHeld3
import Derived.Deep.DeepCutAuto
import Derived.Deep.LoopGhost
import Derived.Deep.CutBlock
import Derived.Deep.AppendLies
import Derived.Lib.AppendStr
/- slot.Check. -/
set_option linter.unusedVariables false
set_option linter.unusedSimpArgs false
namespace Go.Proofs.YtccnemmlkcmceaaGreatDoor
open Go.RowKit Go.BigFrame

abbrev klt (a b : Bs) : Bool := Op.bytesLess a b

/-- The first k cells are in order, and may be. -/
def okC (cs : List Cell) : Nat → Bool
  | 0 => true
  | k + 1 => okC cs k && (match cs[k]? with
    | some c => c.ok && (match k with
      | 0 => true
      | j + 1 => (match cs[j]? with | some d => klt d.key c.key | none => false))
    | none => false)

def okK (cs : List Bs) : Nat → Bool
  | 0 => true
  | k + 1 => okK cs k && (match cs[k]? with
    | some c => keyOk c && (match k with
      | 0 => true
      | j + 1 => (match cs[j]? with | some d => klt d c | none => false))
    | none => false)

def Nd.shape (n : Nd) : Bool := decide (n.cells.length ≤ 255) && decide (n.keys.length ≤ 255) &&
  (if n.leaf then decide (n.keys.length = 0) && decide (n.kids.length = 0) else decide (n.cells.length = 0) && decide (n.kids.length = n.keys.length + 1))

def Nd.ok (n : Nd) : Bool := n.shape && okC n.cells n.cells.length && okK n.keys n.keys.length && n.kids.all idOk

/-- What Check answers. -/
def Nd.chk (n : Nd) : Int := if n.ok then 0 else 2

theorem okC_false {cs : List Cell} {k : Nat} (h : okC cs k = false) : okC cs (k + 1) = false := by simp [okC, h]

set_option maxRecDepth 100000 in
set_option maxHeartbeats 1600000 in
theorem check_any (n : Nd) (w : World) (F : Nat → Prop) (A1 : Option Addr) (c1 : Nat) (A2 : Option Addr) (c2 : Nat) (A3 : Option Addr) (c3 : Nat) (hn : NodeAt w F A1 c1 A2 c2 A3 c3 n) (hf : n.fits) :
    Calls Tryz.prog 91 #[n.value A1 c1 A2 c2 A3 c3] w fun e w' => e = .returned (.int .i64 n.chk) ∧ Ext No w w' := by
  have HC := Lib.hid (fun c w h => cell_any c w h)
  have hb1 := hn.b1
  have hb2 := hn.b2
  have hb3 := hn.b3
  simp only [Nd.value]
  generalize hlf : n.leaf = lf
  have HLF := Lib.hid hlf
  clear hlf
  go_enter Tryz.func91, Tryz.ntmps91
  go_upto_region 1 with fail
  go_cut [3] (fun s3 wx => s3 = .bool (decide (n.cells.length ≤ 255) && decide (n.keys.length ≤ 255)) ∧ wx = (w.alloc (.cells #[.bool lf, .slice A1 n.cells.length c1, .slice A2 n.keys.length c2, .slice A3 n.kids.length c3] 40)))
  case first =>
    by_cases h1 : (n.cells.length : Int) ≤ 255
    · have h1' : n.cells.length ≤ 255 := by omega
      go_wp2_with fail
      go_meet
      exact ⟨by simp [h1']; omega, rfl⟩
    · have h1' : ¬ n.cells.length ≤ 255 := by omega
      go_wp2_with fail
      go_meet
      exact ⟨by simp [h1'], rfl⟩
  case rest =>
    obtain ⟨rfl, rfl⟩ := hcut
    generalize hk1 : (decide (n.cells.length ≤ 255) && decide (n.keys.length ≤ 255)) = k1
    go_upto_if 21 with fail
    go_cut [3] (fun s3 wx => s3 = .bool n.shape ∧ wx = (w.alloc (.cells #[.bool lf, .slice A1 n.cells.length c1, .slice A2 n.keys.length c2, .slice A3 n.kids.length c3] 40)))
    case first =>
      have hs : n.shape = (k1 && (if n.leaf then decide (n.keys.length = 0) && decide (n.kids.length = 0) else decide (n.cells.length = 0) && decide (n.kids.length = n.keys.length + 1))) := by unfold Nd.shape; rw [hk1]
      have HS := Lib.hid hs
      clear hs hk1
      rw [HLF.out] at HS
      cases k1
      · cases lf
        all_goals
          go_wp2_with fail
          go_meet
          exact ⟨by rw [HS.out]; rfl, rfl⟩
      · cases lf
        · by_cases hkz : n.cells.length = 0
          · have hkz' : ((n.cells.length : Int) == 0) = true := by simp [hkz]
            have HZ := Lib.hid hkz
            clear hkz
            go_wp2_with fail
            go_meet
            exact ⟨by rw [HS.out]; simp [HZ.out]; try (rw [Bool.eq_iff_iff]; simp; omega), by simp⟩
          · have hkz' : ((n.cells.length : Int) == 0) = false := by simp [hkz]
            have HZ := Lib.hid hkz
            clear hkz
            go_wp2_with fail
            go_meet
            exact ⟨by rw [HS.out]; simp [HZ.out], by simp⟩
        · by_cases hkz : n.keys.length = 0
          · have hkz' : ((n.keys.length : Int) == 0) = true := by simp [hkz]
            have HZ := Lib.hid hkz
            clear hkz
            go_wp2_with fail
            go_meet
            exact ⟨by rw [HS.out]; simp [HZ.out]; try (rw [Bool.eq_iff_iff]; simp), by simp⟩
          · have hkz' : ((n.keys.length : Int) == 0) = false := by simp [hkz]
            have HZ := Lib.hid hkz
            clear hkz
            go_wp2_with fail
            go_meet
            exact ⟨by rw [HS.out]; simp [HZ.out], by simp⟩
    case rest =>
      obtain ⟨rfl, rfl⟩ := hcut
      clear hk1
      generalize hsh : n.shape = sh
      go_wp2_with fail
      go_loopg [3, 55] n.cells.length (fun g s i wr => ∃ k : Nat, k + g = n.cells.length ∧ i = .int .i64 (k : Int) ∧ s = .bool (sh && okC n.cells k) ∧ Ext No (w.alloc (.cells #[.bool lf, .slice A1 n.cells.length c1, .slice A2 n.keys.length c2, .slice A3 n.kids.length c3] 40)) wr)
      case atStart => exact ⟨0, by omega, rfl, by simp [okC], Ext.refl _ _⟩
      case round =>
        obtain ⟨k, hk0, rfl, rfl, hE⟩ := hrel
        have hk : k ≤ n.cells.length := by omega
        have HK0 := Lib.hid hk0
        clear hk0
        have bb := (Blk.new w 40 #[.bool lf, .slice A1 n.cells.length c1, .slice A2 n.keys.length c2, .slice A3 n.kids.length c3]).ext hE (fun h => h)
        have q0 := bb.cell 0
        have q1 := bb.cell 1
        have q2 := bb.cell 2
        have q3 := bb.cell 3
        have bl := bb.lt
        simp at q0 q1 q2 q3
        by_cases hlt : k < n.cells.length
        · obtain ⟨c, hc⟩ : ∃ c, n.cells[k]? = some c := ⟨_, List.getElem?_eq_getElem hlt⟩
          have hcf := hf.c c (List.mem_of_getElem? hc)
          obtain ⟨b, o, hA, _, e0, e1, e2, e3⟩ := (hn.cells.ext (((Ext.refl _ w).alloc _).trans_ hE.of_no)).cellAt hc
          subst hA
          have lt0 : b < wr.heap.size := World.block_lt_of_cell? wr _ e0
          have HE := Lib.hid hE
          cases hok : (sh && okC n.cells k)
          · have hn1 : (sh && okC n.cells (k + 1)) = false := by
              cases sh
              · rfl
              · simp at hok; simp [okC, hok]
            have HN := Lib.hid hn1
            clear hn1 hok
            go_wp2_with fail
            go_quiet (fail)
            go_wp2_with fail
            go_roundg (gk - 1)
            case rel => exact ⟨k + 1, by have := HK0.out; omega, by go_num, by rw [HN.out], by have := HE.out; (repeat' (first | exact Ext.refl _ _ | assumption | apply Ext.alloc | apply Ext.drewN | apply Ext.drew | refine Ext.setNew ?_ (by first | omega | (simp; omega) | simp) _ _ | refine Ext.setF ?_ (by first | exact Or.inl rfl | exact Or.inr rfl | rfl) _ _ | refine Ext.trans_ ?_ (by assumption) | refine Ext.trans_ ?_ (Ext.of_no (by assumption))))⟩
            case measure => have := HK0.out; omega
          · cases hco : c.ok
            · have hn1 : (sh && okC n.cells (k + 1)) = false := by simp [okC, hc, hco]
              have HN := Lib.hid hn1
              have HC1 := Lib.hid (fun w => HC.out c w hcf)
              simp only [Cell.agg, hco] at HC1
              clear hn1 hok hco
              go_wp2_with fail
              have lt1 : b < wr.heap.size + 1 := by omega
              have bl1 : w.heap.size < wr.heap.size + 1 := by omega
              refine wp_region_up (by kernel_rfl) (by kernel_rfl) ?_; (repeat (go_big_quiet_step ((go_at_call 130; exact Calls.up_of (HC1.out _))))); refine wpQuiet_nil ?_; intro _ hw'; obtain ⟨⟨wq, hq⟩, hw''⟩ := hw'; change _ = wq at hw''; subst hw''
              go_wp2_with fail
              go_roundg (gk - 1)
              case rel => exact ⟨k + 1, by have := HK0.out; omega, by go_num, by rw [HN.out], by have := HE.out; (repeat' (first | exact Ext.refl _ _ | assumption | apply Ext.alloc | apply Ext.drewN | apply Ext.drew | refine Ext.setNew ?_ (by first | omega | (simp; omega) | simp) _ _ | refine Ext.setF ?_ (by first | exact Or.inl rfl | exact Or.inr rfl | rfl) _ _ | refine Ext.trans_ ?_ (by assumption) | refine Ext.trans_ ?_ (Ext.of_no (by assumption))))⟩
              case measure => have := HK0.out; omega
            · have HC1 := Lib.hid (fun w => HC.out c w hcf)
              simp only [Cell.agg, hco] at HC1
              match k with
              | 0 =>
                have hn1 : (sh && okC n.cells (0 + 1)) = true := by
                  cases sh
                  · simp at hok
                  · simp [okC, hc, hco]
                have HN := Lib.hid hn1
                clear hn1 hok hco
                simp only [Nat.zero_mul, Nat.add_zero] at e0 e1 e2 e3
                have lt1 : b < wr.heap.size + 1 := by omega
                have bl1 : w.heap.size < wr.heap.size + 1 := by omega
                go_wp2_with fail
                refine wp_region_up (by kernel_rfl) (by kernel_rfl) ?_; (repeat (go_big_quiet_step ((go_at_call 130; exact Calls.up_of (HC1.out _))))); refine wpQuiet_nil ?_; intro _ hw'; obtain ⟨⟨wq, hq⟩, hw''⟩ := hw'; change _ = wq at hw''; subst hw''
                go_wp2_with fail
                go_roundg (gk - 1)
                case rel => exact ⟨0 + 1, by have := HK0.out; omega, by go_num, by rw [HN.out], by have := HE.out; (repeat' (first | exact Ext.refl _ _ | assumption | apply Ext.alloc | apply Ext.drewN | apply Ext.drew | refine Ext.setNew ?_ (by first | omega | (simp; omega) | simp) _ _ | refine Ext.setF ?_ (by first | exact Or.inl rfl | exact Or.inr rfl | rfl) _ _ | refine Ext.trans_ ?_ (by assumption) | refine Ext.trans_ ?_ (Ext.of_no (by assumption))))⟩
                case measure => have := HK0.out; omega
              | j + 1 =>
                obtain ⟨d, hd⟩ : ∃ d, n.cells[j]? = some d := ⟨_, List.getElem?_eq_getElem (by omega)⟩
                have hn1 : (sh && okC n.cells (j + 1 + 1)) = klt d.key c.key := by
                  cases sh
                  · simp at hok
                  · simp only [Bool.true_and] at hok
                    rw [okC, hok]; simp [hc, hco, hd]
                have HN := Lib.hid hn1
                obtain ⟨b', o', hA', _, p0, _⟩ := (hn.cells.ext (((Ext.refl _ w).alloc _).trans_ hE.of_no)).cellAt hd
                injection hA' with hA'
                injection hA' with hA1 hA2
                subst hA1; subst hA2
                clear hn1 hok hco
                have hz : (((j : Int) + 1) == 0) = false := by simp; omega
                have hji : (j : Int) < n.cells.length := by omega
                have hjn : j < n.cells.length := by omega
                have lt1 : b < wr.heap.size + 1 := by omega
                have bl1 : w.heap.size < wr.heap.size + 1 := by omega
                go_wp2_with fail
                refine wp_region_up (by kernel_rfl) (by kernel_rfl) ?_; (repeat (go_big_quiet_step ((go_at_call 130; exact Calls.up_of (HC1.out _))))); refine wpQuiet_nil ?_; intro _ hw'; obtain ⟨⟨wq, hq⟩, hw''⟩ := hw'; change _ = wq at hw''; subst hw''
                go_wp2_with fail
                go_roundg (gk - 1)
                case rel => exact ⟨j + 1 + 1, by have := HK0.out; omega, by go_num, by rw [HN.out], by have := HE.out; (repeat' (first | exact Ext.refl _ _ | assumption | apply Ext.alloc | apply Ext.drewN | apply Ext.drew | refine Ext.setNew ?_ (by first | omega | (simp; omega) | simp) _ _ | refine Ext.setF ?_ (by first | exact Or.inl rfl | exact Or.inr rfl | rfl) _ _ | refine Ext.trans_ ?_ (by assumption) | refine Ext.trans_ ?_ (Ext.of_no (by assumption))))⟩
                case measure => have := HK0.out; omega
        · have hke : k = n.cells.length := by omega
          subst hke
          generalize hs1 : (sh && okC n.cells n.cells.length) = s1
          have HS1 := Lib.hid hs1
          clear hs1
          have HKK := Lib.hid (fun k w hk => key_any k w hk)
          have HII := Lib.hid (fun n w => id_any n w)
          have HE := Lib.hid (((Ext.refl No w).alloc _).trans_ hE)
          have hnk := hn.keys.ext (((Ext.refl _ w).alloc _).trans_ hE.of_no)
          have hni := hn.kids.ext (((Ext.refl _ w).alloc _).trans_ hE.of_no)
          clear hn hE bb hlt hk HK0
          obtain ⟨wo, rfl⟩ : ∃ wo : World, wo = wr := ⟨_, rfl⟩
          go_wp2_with fail
          go_loopg [3, 85] n.keys.length (fun g s i wr => ∃ k : Nat, k + g = n.keys.length ∧ i = .int .i64 (k : Int) ∧ s = .bool (s1 && okK n.keys k) ∧ ∃ q, wr = wo.drewN q)
          case atStart => exact ⟨0, by omega, rfl, by simp [okK], 0, rfl⟩
          case round =>
            obtain ⟨k, hk0, rfl, rfl, q, rfl⟩ := hrel
            have hk : k ≤ n.keys.length := by omega
            have HK0 := Lib.hid hk0
            clear hk0
            by_cases hlt : k < n.keys.length
            · obtain ⟨c, hc⟩ : ∃ c, n.keys[k]? = some c := ⟨_, List.getElem?_eq_getElem hlt⟩
              have hcf := hf.k c (List.mem_of_getElem? hc)
              obtain ⟨b, o, hA, _, e0⟩ := hnk.keyAt hc
              subst hA
              cases hok : (s1 && okK n.keys k)
              · have hn1 : (s1 && okK n.keys (k + 1)) = false := by
                  cases s1
                  · rfl
                  · simp at hok; simp [okK, hok]
                have HN := Lib.hid hn1
                clear hn1 hok
                go_wp2_with fail
                go_roundg (gk - 1)
                case rel => exact ⟨k + 1, by have := HK0.out; omega, by go_num, by rw [HN.out], q, rfl⟩
                case measure => have := HK0.out; omega
              · have HC1 := Lib.hid (fun w => HKK.out c w (by omega))
                cases hco : keyOk c
                · have hn1 : (s1 && okK n.keys (k + 1)) = false := by simp [okK, hc, hco]
                  have HN := Lib.hid hn1
                  simp only [hco] at HC1
                  clear hn1 hok hco
                  go_wp2_with (go_at_call 131; refine (HC1.out _).mono ?_; rintro e w' ⟨rfl, rfl⟩)
                  go_roundg (gk - 1)
                  case rel => exact ⟨k + 1, by have := HK0.out; omega, by go_num, by rw [HN.out], q, rfl⟩
                  case measure => have := HK0.out; omega
                · simp only [hco] at HC1
                  match k with
                  | 0 =>
                    have hn1 : (s1 && okK n.keys (0 + 1)) = true := by
                      cases s1
                      · simp at hok
                      · simp [okK, hc, hco]
                    have HN := Lib.hid hn1
                    clear hn1 hok hco
                    simp only [Nat.add_zero] at e0
                    go_wp2_with (go_at_call 131; refine (HC1.out _).mono ?_; rintro e w' ⟨rfl, rfl⟩)
                    go_roundg (gk - 1)
                    case rel => exact ⟨0 + 1, by have := HK0.out; omega, by go_num, by rw [HN.out], q, rfl⟩
                    case measure => have := HK0.out; omega
                  | j + 1 =>
                    obtain ⟨d, hd⟩ : ∃ d, n.keys[j]? = some d := ⟨_, List.getElem?_eq_getElem (by omega)⟩
                    have hn1 : (s1 && okK n.keys (j + 1 + 1)) = klt d c := by
                      cases s1
                      · simp at hok
                      · simp only [Bool.true_and] at hok
                        rw [okK, hok]; simp [hc, hco, hd]
                    have HN := Lib.hid hn1
                    obtain ⟨b', o', hA', _, p0⟩ := hnk.keyAt hd
                    injection hA' with hA'
                    injection hA' with hA1 hA2
                    subst hA1; subst hA2
                    clear hn1 hok hco
                    have hz : (((j : Int) + 1) == 0) = false := by simp; omega
                    have hji : (j : Int) < n.keys.length := by omega
                    have hjn : j < n.keys.length := by omega
                    go_wp2_with (go_at_call 131; refine (HC1.out _).mono ?_; rintro e w' ⟨rfl, rfl⟩)
                    go_roundg (gk - 1)
                    case rel => exact ⟨j + 1 + 1, by have := HK0.out; omega, by go_num, by rw [HN.out], q, rfl⟩
                    case measure => have := HK0.out; omega
            · have hke : k = n.keys.length := by omega
              subst hke
              generalize hs2 : (s1 && okK n.keys n.keys.length) = s2
              have HS2 := Lib.hid hs2
              clear hs2 hk HK0 hlt
              go_wp2_with fail
              go_loopg [3, 113] n.kids.length (fun g s i wr => ∃ k : Nat, k + g = n.kids.length ∧ i = .int .i64 (k : Int) ∧ s = .bool (s2 && (n.kids.take k).all idOk) ∧ ∃ q, wr = wo.drewN q)
              case atStart => exact ⟨0, by omega, rfl, by simp, q, rfl⟩
              case round =>
                obtain ⟨k, hk0, rfl, rfl, q, rfl⟩ := hrel
                have hk : k ≤ n.kids.length := by omega
                have HK0 := Lib.hid hk0
                clear hk0
                by_cases hlt : k < n.kids.length
                · obtain ⟨c, hc⟩ : ∃ c, n.kids[k]? = some c := ⟨_, List.getElem?_eq_getElem hlt⟩
                  obtain ⟨b, o, hA, _, e0⟩ := hni.kidAt hc
                  subst hA
                  have hstep : (n.kids.take (k + 1)).all idOk = ((n.kids.take k).all idOk && idOk c) := by rw [List.take_add_one, hc]; simp
                  cases hok : (s2 && (n.kids.take k).all idOk)
                  · have hn1 : (s2 && (n.kids.take (k + 1)).all idOk) = false := by rw [hstep, ← Bool.and_assoc, hok]; rfl
                    have HN := Lib.hid hn1
                    clear hn1 hok hstep
                    go_wp2_with fail
                    go_roundg (gk - 1)
                    case rel => exact ⟨k + 1, by have := HK0.out; omega, by go_num, by rw [HN.out], q, rfl⟩
                    case measure => have := HK0.out; omega
                  · have hn1 : (s2 && (n.kids.take (k + 1)).all idOk) = idOk c := by rw [hstep, ← Bool.and_assoc, hok]; rfl
                    have HN := Lib.hid hn1
                    clear hn1 hok hstep
                    have HC1 := Lib.hid (fun w => HII.out c w)
                    generalize idOk c = ic at *
                    go_wp2_with (go_at_call 132; refine (HC1.out _).mono ?_; rintro e w' ⟨rfl, rfl⟩)
                    go_roundg (gk - 1)
                    case rel => exact ⟨k + 1, by have := HK0.out; omega, by go_num, by rw [HN.out], q, rfl⟩
                    case measure => have := HK0.out; omega
                · have hke : k = n.kids.length := by omega
                  subst hke
                  have hfin : (s2 && (n.kids.take n.kids.length).all idOk) = n.ok := by
                    rw [List.take_length, ← HS2.out, ← HS1.out, ← hsh]; rfl
                  rw [hfin]
                  have HQ := Lib.hid (((Ext.refl No w).trans_ HE.out).drewN q)
                  clear hfin
                  cases hno : n.ok
                  all_goals
                    go_wp2_with fail
                    go_ret
                    exact ⟨ret_int (by unfold Nd.chk; rw [hno]; rfl), HQ.out⟩

end Go.Proofs.YtccnemmlkcmceaaGreatDoor

/- slot.Size, slot.four, slot.text. -/
set_option linter.unusedVariables false
set_option linter.unusedSimpArgs false
namespace Go.Proofs.YtccnemmlkcmceaaGreatDoor
open Go.RowKit 

def Nd.Size (n : Nd) : Nat := if n.ok then n.size else 0

theorem Nd.chk_ok {n : Nd} (h : n.ok = true) : n.chk = 0 := by simp [Nd.chk, h]
theorem Nd.chk_bad {n : Nd} (h : n.ok = false) : n.chk = 2 := by simp [Nd.chk, h]

set_option maxHeartbeats 400000 in
theorem Size_any (n : Nd) (w : World) (F : Nat → Prop) (A1 : Option Addr) (c1 : Nat) (A2 : Option Addr) (c2 : Nat) (A3 : Option Addr) (c3 : Nat) (hn : NodeAt w F A1 c1 A2 c2 A3 c3 n) (hf : n.fits) :
    Calls Tryz.prog 148 #[n.value A1 c1 A2 c2 A3 c3] w fun e w' => e = .returned (.int .i64 (n.Size : Int)) ∧ Ext No w w' := by
  have HC := Lib.hid (fun w hn => check_any n w F A1 c1 A2 c2 A3 c3 hn hf)
  have HS := Lib.hid (fun w hn => size_any n w F A1 c1 A2 c2 A3 c3 hn hf)
  cases hno : n.ok
  · have e : n.Size = 0 := by simp [Nd.Size, hno]
    rw [Nd.chk_bad hno] at HC
    rw [e]
    clear e hno
    go_enter Tryz.func148, Tryz.ntmps148
    simp only [Nd.value]
    go_wp2_with fail
    refine (HC.out _ (hn.ext ((Ext.refl _ w).alloc _))).mono ?_
    rintro e w1 ⟨rfl, hb1⟩
    go_wp2_with fail
    go_ret
    exact ⟨rfl, by (repeat' (first | exact Ext.refl _ _ | assumption | apply Ext.alloc | apply Ext.drewN | apply Ext.drew | refine Ext.setNew ?_ (by first | omega | (simp; omega) | simp) _ _ | refine Ext.setF ?_ (by first | exact Or.inl rfl | exact Or.inr rfl | rfl) _ _ | refine Ext.trans_ ?_ (by assumption) | refine Ext.trans_ ?_ (Ext.of_no (by assumption))))⟩
  · have e : n.Size = n.size := by simp [Nd.Size, hno]
    rw [Nd.chk_ok hno] at HC
    rw [e]
    clear e hno
    go_enter Tryz.func148, Tryz.ntmps148
    simp only [Nd.value]
    go_wp2_with fail
    refine (HC.out _ (hn.ext ((Ext.refl _ w).alloc _))).mono ?_
    rintro e w1 ⟨rfl, hb1⟩
    have bb := (Blk.new w 40 #[.bool n.leaf, .slice A1 n.cells.length c1, .slice A2 n.keys.length c2, .slice A3 n.kids.length c3]).ext hb1 (fun h => h)
    have q0 := bb.cell 0
    have q1 := bb.cell 1
    have q2 := bb.cell 2
    have q3 := bb.cell 3
    have bl := bb.lt
    simp at q0 q1 q2 q3
    go_wp2_with fail
    refine (HS.out _ (hn.ext (((Ext.refl _ w).alloc _).trans_ hb1.of_no))).mono ?_
    rintro e w2 ⟨rfl, hb2⟩
    go_wp2_with fail
    go_ret
    exact ⟨rfl, by (repeat' (first | exact Ext.refl _ _ | assumption | apply Ext.alloc | apply Ext.drewN | apply Ext.drew | refine Ext.setNew ?_ (by first | omega | (simp; omega) | simp) _ _ | refine Ext.setF ?_ (by first | exact Or.inl rfl | exact Or.inr rfl | rfl) _ _ | refine Ext.trans_ ?_ (by assumption) | refine Ext.trans_ ?_ (Ext.of_no (by assumption))))⟩

end Go.Proofs.YtccnemmlkcmceaaGreatDoor

/- slot.four, slot.text: bytes appended to a row of the caller's own. -/
set_option linter.unusedVariables false
set_option linter.unusedSimpArgs false
namespace Go.Proofs.YtccnemmlkcmceaaGreatDoor
open Go.RowKit 

def bcs (l : Bs) : List Value := l.map fun b => .int .u8 (b.toNat : Int)
theorem bcs_append (a b : Bs) : bcs (a ++ b) = bcs a ++ bcs b := by simp [bcs]
theorem bcs_len (a : Bs) : (bcs a).length = a.length := by simp [bcs]

theorem Ext.grown {F : Nat → Prop} {w0 w w' : World} {row : Option Nat} (h : Ext F w0 w) (hg : w.grownBy w' row) (hr : ∀ g, row = some g → F g ∨ w0.heap.size ≤ g) : Ext F w0 w' :=
  ⟨hg.os.trans h.os, hg.tape.trans h.tape, hg.output.trans h.output, Nat.le_trans h.size hg.size, fun i hi hn => (hg.block i (Nat.lt_of_lt_of_le hi h.size) (by
    rintro e
    rcases hr i e.symm with h' | h'
    · exact hn h'
    · omega)).trans (h.block i hi hn)⟩

theorem Tryz.info5 : (Tryz.prog.info? 5).map (fun i => (i.zero, i.size, i.bytes)) = some (some (.int .u8 0), 1, 1) := by kernel_rfl

theorem bcs_n4 (n : Nat) (hn : n < 4294967296) : bcs (n4 n) = [.int .u8 ((n : Int) % 256), .int .u8 ((n : Int) / 256 % 256), .int .u8 ((n : Int) / 65536 % 256), .int .u8 ((n : Int) / 16777216)] := by
  have e0 := ofNat_lt (n % 256) (by omega)
  have e1 := ofNat_lt (n / 256 % 256) (by omega)
  have e2 := ofNat_lt (n / 65536 % 256) (by omega)
  have e3 := ofNat_lt (n / 16777216 % 256) (by omega)
  have e4 : ((n / 16777216 % 256 : Nat) : Int) = (n : Int) / 16777216 := by omega
  unfold bcs n4
  simp only [List.map_cons, List.map_nil, e0, e1, e2, e3, e4]
  simp

/-- What an append to bytes leaves. -/
def Grew (base : Nat) (v : Value) (l : Bs) (w : World) (e : Ending) (w' : World) : Prop :=
  ∃ g cap, e = .returned (.slice (some ⟨g, 0, none⟩) l.length cap) ∧ w'.ownsRow base 5 1 (.slice (some ⟨g, 0, none⟩) l.length cap) l.length (bcs l) ∧ w.grownBy w' v.ownBlock ∧ (v.ownBlock = some g ∨ w.heap.size ≤ g)

set_option maxRecDepth 100000 in
set_option maxHeartbeats 800000 in
theorem four_any (base : Nat) (v : Value) (l : Bs) (n : Nat) (hn : n < 4294967296) (w : World) (hown : w.ownsRow base 5 1 v l.length (bcs l)) (hb : base ≤ w.heap.size) (hl : l.length < 1000000) :
    Calls Tryz.prog 202 #[v, .int .i64 (n : Int)] w (Grew base v (l ++ n4 n) w) := by
  obtain ⟨i0, hi, hz0, hz1, hz2⟩ := info_parts Tryz.info5
  have HO := Lib.hid hown
  clear hown
  have hn4 := bcs_n4 n hn
  have HN := Lib.hid hn4
  clear hn4
  go_enter Tryz.func202, Tryz.ntmps202
  go_wp2_with (at_builtin; refine wpList_append_lies _ rfl (.tmp 5) (.tmp 17) 98 rfl base 5 i0 (.int .u8 0) 1 1 Tryz.underlying98 hi hz0 hz1 hz2 rfl (by decide) v l.length (bcs l) rfl (HO.out.alloc _) ⟨w.heap.size, 0, none⟩ 4 4 [.int .u8 ((n : Int) % 256), .int .u8 ((n : Int) / 256 % 256), .int .u8 ((n : Int) / 65536 % 256), .int .u8 ((n : Int) / 16777216)] rfl rfl ?c1 ?c2 ?c3 ?c4 ?c5 ?c6 _ rfl ?_)
  case c1 => exact World.news_of_block (cs := #[.int .u8 ((n : Int) % 256), .int .u8 ((n : Int) / 256 % 256), .int .u8 ((n : Int) / 65536 % 256), .int .u8 ((n : Int) / 16777216)]) (t := 5) (fr := (0, 0)) (heap_alloc_new w _)
  case c2 => simp [Value.oneCell']
  case c3 => decide
  case c4 => unfold maxLen; omega
  case c5 => omega
  case c6 => simp; omega
  intro g cap w1 hown1 hgrow hat hlt
  go_wp2_with fail
  go_ret
  refine ⟨g, cap, by simp [n4], ?_, ?_, ?_⟩
  · rw [List.length_append, n4_len, bcs_append, HN.out]; exact hown1
  · exact ⟨hgrow.os, hgrow.tape, hgrow.output, Nat.le_trans (by simp) hgrow.size, fun k hk hne => (hgrow.block k (by simp; omega) hne).trans (Below.heap_alloc w _ k hk)⟩
  · rcases hat with h | h
    · exact .inl h
    · right; rw [h]; simp

/-- A text appended to a row of the caller's own: where the new row lies. -/
theorem run_append_str {P : Program} (w : World) (base : Nat) (t u ty e : TypeId) (i : TypeInfo) (ht : P.underlying t = some (.slice e)) (hu : P.underlying u = some .string) (hi : P.info? e = some i) (hz : i.zero = some (.int .u8 0))
    (hsize : i.size = 1) (hby : i.bytes = 1) (g cap n : Nat) (xs : List Value) (hown : w.ownsRow base e 1 (.slice (some ⟨g, 0, none⟩) n cap) n xs) (s : ByteArray)
    (h63 : n + s.size ≤ maxLen) (hbytes : n + s.size ≤ 140737488355328) (hbase : base ≤ w.heap.size) :
    ∃ g' cap' w', (Builtin.append_ #[t, u] ty #[.slice (some ⟨g, 0, none⟩) n cap, .string s]).run P w = .ok (.slice (some ⟨g', 0, none⟩) (n + s.size) cap') w' ∧
      w'.ownsRow base e 1 (.slice (some ⟨g', 0, none⟩) (n + s.size) cap') (n + s.size) (xs ++ Lib.strCells s) ∧ w.grownBy w' (some g) ∧ (g' = g ∨ g' = w.heap.size) := by
  obtain ⟨v', w', hr, h2, h3, _⟩ := Lib.run_append_own_string (P := P) w base t u ty e i ht hu hi hz hsize hby _ n xs hown s h63 hbytes hbase
  have hxl : xs.length = n := by simpa using hown.1
  have hsmall : n + s.size ≤ 9223372036854775807 := by simp only [maxLen] at h63; omega
  rcases hown.2 with ⟨h, _⟩ | ⟨g0, cap0, cur, hv, hbg, hg, hnc, hcm, hcs, htake⟩
  · cases h
  · injection hv with e1 _ e2
    injection e1 with e1
    injection e1 with e1
    subst e1; subst e2
    by_cases hroom : n + s.size ≤ cap
    · have hr2 := Lib.run_append_room_string (P := P) w t u ty e i ht hu hi hsize g n cap cur hg s hroom (by omega)
      rw [hr] at hr2
      injection hr2 with e1 e2
      subst e1; subst e2
      exact ⟨g, cap, _, hr, h2, h3, .inl rfl⟩
    · have hr2 := Lib.run_append_grow_string (P := P) w t u ty e i (.int .u8 0) ht hu hi hz ⟨g, 0, none⟩ n cap xs (by rw [hsize]; simpa using hxl) (hown.cells (g := g) rfl) s (by omega) (by omega) (by rw [hby]; exact growslice_fits (by omega) (by omega))
      rw [hr] at hr2
      injection hr2 with e1 e2
      subst e1; subst e2
      exact ⟨_, _, _, hr, h2, h3, .inr rfl⟩

theorem wpList_append_str {P : Program} (w : World) {ops : Array Oper} {rest : List Oper} {o : Oper} {a : Act} {Q : Exit → Act → World → Prop} (hgd : o.guard = none) (sl x : Operand) (t u : TypeId)
    (ho : o.op = .call { callee := .builtin .append, args := #[sl, x], argTypes := #[t, u] })
    (base : Nat) (e : TypeId) (i : TypeInfo) (ht : P.underlying t = some (.slice e)) (hu : P.underlying u = some .string) (hi : P.info? e = some i) (hz : i.zero = some (.int .u8 0))
    (hsize : i.size = 1) (hby : i.bytes = 1) (g cap n : Nat) (xs : List Value) (hs : a.eval sl = .slice (some ⟨g, 0, none⟩) n cap) (hown : w.ownsRow base e 1 (.slice (some ⟨g, 0, none⟩) n cap) n xs) (s : ByteArray) (hx : a.eval x = .string s)
    (h63 : n + s.size ≤ maxLen) (hbytes : n + s.size ≤ 140737488355328) (hbase : base ≤ w.heap.size)
    (h : ∀ g' cap' w', w'.ownsRow base e 1 (.slice (some ⟨g', 0, none⟩) (n + s.size) cap') (n + s.size) (xs ++ Lib.strCells s) → w.grownBy w' (some g) → (g' = g ∨ g' = w.heap.size) → wpList P ops Q rest (a.put o.dst (.slice (some ⟨g', 0, none⟩) (n + s.size) cap')) w') : wpList P ops Q (o :: rest) a w := by
  refine wpList_plain hgd fun K hK => ?_
  obtain ⟨g', cap', w', hr, h2, h3, h4⟩ := run_append_str (P := P) w base t u o.type e i ht hu hi hz hsize hby g cap n xs hown s h63 hbytes hbase
  unfold Oper.wp execOp
  simp only [ho, resolve, invoke, builtin, Sem.run_bind, Sem.run_pure, Result.andThen_ok, List.map_toArray, List.map_cons, List.map_nil, hs, hx, hr]
  exact hK _ _ (h g' cap' w' h2 h3 h4)

theorem strCells_str (l : Bs) : Lib.strCells (str l) = bcs l := by simp [Lib.strCells, bcs]

set_option maxRecDepth 100000 in
set_option maxHeartbeats 800000 in
theorem text_any (base : Nat) (v : Value) (l : Bs) (s : Bs) (hs : s.length < 256) (w : World) (hown : w.ownsRow base 5 1 v l.length (bcs l)) (hb : base ≤ w.heap.size) (hl : l.length < 1000000) :
    Calls Tryz.prog 203 #[v, .string (str s)] w (Grew base v (l ++ UInt8.ofNat s.length :: s) w) := by
  obtain ⟨i0, hi, hz0, hz1, hz2⟩ := info_parts Tryz.info5
  have HO := Lib.hid hown
  clear hown
  have hsz := str_size s
  have e0 := Lib.hid (ofNat_lt s.length hs)
  have hmod : (s.length : Int) % 256 = s.length := by omega
  go_enter Tryz.func203, Tryz.ntmps203
  go_wp2_with (at_builtin; refine wpList_append_lies _ rfl (.tmp 5) (.tmp 9) 98 rfl base 5 i0 (.int .u8 0) 1 1 Tryz.underlying98 hi hz0 hz1 hz2 rfl (by decide) v l.length (bcs l) rfl (HO.out.alloc _) ⟨w.heap.size, 0, none⟩ 1 1 [.int .u8 (s.length : Int)] rfl rfl ?c1 ?c2 ?c3 ?c4 ?c5 ?c6 _ rfl ?_)
  case c1 => exact World.news_of_block (cs := #[.int .u8 (s.length : Int)]) (t := 5) (fr := (0, 0)) (heap_alloc_new w _)
  case c2 => simp [Value.oneCell']
  case c3 => decide
  case c4 => unfold maxLen; omega
  case c5 => omega
  case c6 => simp; omega
  intro g cap w1 hown1 hgrow hat hlt
  have HO1 := Lib.hid hown1
  clear hown1
  have hw1 := hgrow.size
  simp at hw1
  go_wp2_with (refine wpList_append_str _ rfl (.tmp 10) (.tmp 11) 98 9 rfl base 5 i0 Tryz.underlying98 Tryz.underlying9 hi hz0 hz1 hz2 g cap (l.length + 1) _ rfl HO1.out (str s) rfl ?d1 ?d2 ?d3 ?_)
  case d1 => unfold maxLen; omega
  case d2 => omega
  case d3 => omega
  intro g' cap' w2 hown2 hgrow2 hat2
  go_wp2_with fail
  go_ret
  refine ⟨g', cap', by simp; omega, ?_, ?_, ?_⟩
  · have e1 : (l ++ UInt8.ofNat s.length :: s).length = l.length + 1 + (str s).size := by rw [str_size]; simp; omega
    have e2 : bcs (l ++ UInt8.ofNat s.length :: s) = bcs l ++ [.int .u8 (s.length : Int)] ++ Lib.strCells (str s) := by rw [strCells_str]; simp [bcs_append]; simp [bcs, e0.out]; omega
    rw [e1, e2, str_size, List.append_assoc]
    exact hown2
  · refine ⟨hgrow2.os.trans hgrow.os, hgrow2.tape.trans hgrow.tape, hgrow2.output.trans hgrow.output, by have := hgrow2.size; omega, fun k hk hne => ?_⟩
    rcases hat with h | h
    · exact (hgrow2.block k (by omega) (fun e => hne (e.trans h.symm))).trans ((hgrow.block k (by simp; omega) hne).trans (Below.heap_alloc w _ k hk))
    · have : g = w.heap.size + 1 := by rw [h]
      exact (hgrow2.block k (by omega) (fun e => by injection e with e; omega)).trans ((hgrow.block k (by simp; omega) hne).trans (Below.heap_alloc w _ k hk))
  · rcases hat2 with h2 | h2
    · rcases hat with h | h
      · exact .inl (h.trans (by rw [h2]))
      · right; rw [h2, h]; simp
    · right; omega

end Go.Proofs.YtccnemmlkcmceaaGreatDoor

/- slot.Encode. -/
set_option linter.unusedVariables false
set_option linter.unusedSimpArgs false
namespace Go.Proofs.YtccnemmlkcmceaaGreatDoor
open Go.RowKit 

def txt (s : Bs) : Bs := UInt8.ofNat s.length :: s
def Cell.enc (c : Cell) : Bs := txt c.key ++ (if 0 < c.over then 1 :: (n4 c.len ++ n4 c.over) else 0 :: txt c.val)
def encCells (cs : List Cell) : Bs := cs.flatMap Cell.enc
def encKeys : List Bs → List Nat → Bs
  | k :: ks, i :: is => txt k ++ n4 i ++ encKeys ks is
  | _, _ => []
def Nd.enc (n : Nd) : Bs :=
  if n.leaf then 1 :: UInt8.ofNat n.cells.length :: encCells n.cells
  else 2 :: UInt8.ofNat n.keys.length :: (n4 (n.kids.headD 0) ++ encKeys n.keys n.kids.tail)

theorem okC_all (cs : List Cell) : ∀ k, okC cs k = true → ∀ c ∈ cs.take k, c.ok = true
  | 0, _, c, hc => by simp at hc
  | k + 1, h, c, hc => by
    simp only [okC, Bool.and_eq_true] at h
    obtain ⟨h1, h2⟩ := h
    cases hk : cs[k]? with
    | none =>
      rw [hk] at h2; simp at h2
    | some d =>
      rw [hk] at h2
      simp only [Bool.and_eq_true] at h2
      rw [List.take_add_one, hk] at hc
      rcases List.mem_append.1 hc with hc | hc
      · exact okC_all cs k h1 c hc
      · simp at hc; subst hc; exact h2.1
theorem okK_all (cs : List Bs) : ∀ k, okK cs k = true → ∀ c ∈ cs.take k, keyOk c = true
  | 0, _, c, hc => by simp at hc
  | k + 1, h, c, hc => by
    simp only [okK, Bool.and_eq_true] at h
    obtain ⟨h1, h2⟩ := h
    cases hk : cs[k]? with
    | none =>
      rw [hk] at h2; simp at h2
    | some d =>
      rw [hk] at h2
      simp only [Bool.and_eq_true] at h2
      rw [List.take_add_one, hk] at hc
      rcases List.mem_append.1 hc with hc | hc
      · exact okK_all cs k h1 c hc
      · simp at hc; subst hc; exact h2.1

theorem keyOk_len {k : Bs} (h : keyOk k = true) : 1 ≤ k.length ∧ k.length ≤ 140 := by simpa [keyOk] using h
theorem Cell.ok_bounds {c : Cell} (h : c.ok = true) : 1 ≤ c.key.length ∧ c.key.length ≤ 140 ∧ c.val.length ≤ 157 ∧ c.len ≤ 16384 ∧ c.over ≤ 2147483647 := by
  unfold Cell.ok at h
  split at h
  · rename_i ho
    simp only [Bool.and_eq_true, decide_eq_true_eq] at h
    obtain ⟨⟨h1, h2⟩, h3⟩ := h
    obtain ⟨k1, k2⟩ := keyOk_len h1
    unfold Cell.size at h3
    rw [if_neg (by omega)] at h3
    omega
  · simp only [Bool.and_eq_true, decide_eq_true_eq] at h
    obtain ⟨⟨⟨h1, h2⟩, h3⟩, h4⟩ := h
    obtain ⟨k1, k2⟩ := keyOk_len h1
    have : c.val = [] := by simpa using h4
    simp only [idOk, decide_eq_true_eq] at h2
    rw [this]; simp; omega

structure Nd.Ok (n : Nd) : Prop where
  a1 : n.cells.length ≤ 255
  a2 : n.keys.length ≤ 255
  lf : n.leaf = true → n.keys = [] ∧ n.kids = []
  br : n.leaf = false → n.cells = [] ∧ n.kids.length = n.keys.length + 1
  c : ∀ c ∈ n.cells, c.ok = true
  k : ∀ k ∈ n.keys, keyOk k = true
  i : ∀ i ∈ n.kids, idOk i = true

theorem Nd.Ok.of {n : Nd} (h : n.ok = true) : n.Ok := by
  unfold Nd.ok at h
  simp only [Bool.and_eq_true] at h
  obtain ⟨⟨⟨h1, h2⟩, h3⟩, h4⟩ := h
  unfold Nd.shape at h1
  simp only [Bool.and_eq_true, decide_eq_true_eq] at h1
  obtain ⟨⟨h5, h6⟩, h7⟩ := h1
  refine ⟨h5, h6, fun hl => ?_, fun hl => ?_, fun c hc => okC_all _ _ h2 c (by rwa [List.take_length]), fun c hc => okK_all _ _ h3 c (by rwa [List.take_length]), fun i hi => (List.all_eq_true.1 h4) i hi⟩
  · rw [hl] at h7; simpa using h7
  · rw [hl] at h7; simpa using h7

theorem Nd.Ok.fits {n : Nd} (h : n.Ok) : n.fits := by
  refine ⟨fun c hc => ?_, fun k hk => ?_, fun i hi => ?_⟩
  · have := Cell.ok_bounds (h.c c hc); exact ⟨by omega, by omega, by omega, by omega⟩
  · have := keyOk_len (h.k k hk); omega
  · have := h.i i hi; simp [idOk] at this; omega

set_option maxHeartbeats 400000 in
theorem enc_bad (n : Nd) (w : World) (F : Nat → Prop) (A1 : Option Addr) (c1 : Nat) (A2 : Option Addr) (c2 : Nat) (A3 : Option Addr) (c3 : Nat) (hn : NodeAt w F A1 c1 A2 c2 A3 c3 n) (hf : n.fits) (hno : n.ok = false) :
    Calls Tryz.prog 180 #[n.value A1 c1 A2 c2 A3 c3] w fun e w' => e = .returned (.tuple #[.string (str []), .int .i64 2]) ∧ Ext No w w' := by
  have HC := Lib.hid (fun w hn => check_any n w F A1 c1 A2 c2 A3 c3 hn hf)
  rw [Nd.chk_bad hno] at HC
  clear hno
  go_enter Tryz.func180, Tryz.ntmps180
  simp only [Nd.value]
  go_wp2_with fail
  refine (HC.out _ (hn.ext ((Ext.refl _ w).alloc _))).mono ?_
  rintro e w1 ⟨rfl, hb1⟩
  go_wp2_with fail
  go_ret2
  exact ⟨rfl, by (repeat' (first | exact Ext.refl _ _ | assumption | apply Ext.alloc | apply Ext.drewN | apply Ext.drew | refine Ext.setNew ?_ (by first | omega | (simp; omega) | simp) _ _ | refine Ext.setF ?_ (by first | exact Or.inl rfl | exact Or.inr rfl | rfl) _ _ | refine Ext.trans_ ?_ (by assumption) | refine Ext.trans_ ?_ (Ext.of_no (by assumption))))⟩

set_option maxHeartbeats 400000 in
theorem enc_long (n : Nd) (w : World) (F : Nat → Prop) (A1 : Option Addr) (c1 : Nat) (A2 : Option Addr) (c2 : Nat) (A3 : Option Addr) (c3 : Nat) (hn : NodeAt w F A1 c1 A2 c2 A3 c3 n) (hf : n.fits) (hno : n.ok = true) (hl : 500 < n.size) :
    Calls Tryz.prog 180 #[n.value A1 c1 A2 c2 A3 c3] w fun e w' => e = .returned (.tuple #[.string (str []), .int .i64 3]) ∧ Ext No w w' := by
  have HC := Lib.hid (fun w hn => check_any n w F A1 c1 A2 c2 A3 c3 hn hf)
  have HS := Lib.hid (fun w hn => size_any n w F A1 c1 A2 c2 A3 c3 hn hf)
  rw [Nd.chk_ok hno] at HC
  clear hno
  have hl' : (500 : Int) < n.size := by omega
  go_enter Tryz.func180, Tryz.ntmps180
  simp only [Nd.value]
  go_wp2_with fail
  refine (HC.out _ (hn.ext ((Ext.refl _ w).alloc _))).mono ?_
  rintro e w1 ⟨rfl, hb1⟩
  have bb := (Blk.new w 40 #[.bool n.leaf, .slice A1 n.cells.length c1, .slice A2 n.keys.length c2, .slice A3 n.kids.length c3]).ext hb1 (fun h => h)
  have q0 := bb.cell 0
  have q1 := bb.cell 1
  have q2 := bb.cell 2
  have q3 := bb.cell 3
  have bl := bb.lt
  simp at q0 q1 q2 q3
  go_wp2_with fail
  refine (HS.out _ (hn.ext (((Ext.refl _ w).alloc _).trans_ hb1.of_no))).mono ?_
  rintro e w2 ⟨rfl, hb2⟩
  go_wp2_with fail
  go_ret2
  exact ⟨rfl, by (repeat' (first | exact Ext.refl _ _ | assumption | apply Ext.alloc | apply Ext.drewN | apply Ext.drew | refine Ext.setNew ?_ (by first | omega | (simp; omega) | simp) _ _ | refine Ext.setF ?_ (by first | exact Or.inl rfl | exact Or.inr rfl | rfl) _ _ | refine Ext.trans_ ?_ (by assumption) | refine Ext.trans_ ?_ (Ext.of_no (by assumption))))⟩

end Go.Proofs.YtccnemmlkcmceaaGreatDoor
