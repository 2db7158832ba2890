/- Proofs about the given program, joined out of the texts CA, RD. -/
import Derived.Test.YtccnemmlkcmceaaGreatDoorHA22
import Derived.StillTailTactics
import Derived.Deep.DeepCutAuto
/- BtreeWild: the walk. -/
set_option linter.unusedVariables false
set_option linter.unusedSimpArgs false
namespace Go.Proofs.YtccnemmlkcmceaaGreatDoor
open Go.RowKit 

theorem wf_i64 {n : Int} (h : (Lit.int .i64 n).wf = true) : -(2:Int)^63 ≤ n ∧ n < 2^63 := by
  simp only [Lit.wf, Bool.and_eq_true] at h
  have a' : -(2:Int)^63 ≤ n := of_decide_eq_true h.1
  have b' : n ≤ (2:Int)^63 - 1 := of_decide_eq_true h.2
  exact ⟨a', by omega⟩
theorem rem_of (n : Int) (m : Nat) (hm : 0 < m) : ∃ q : Nat, q < m ∧ (n.tmod m + m).tmod m = (q : Int) ∧ -(m : Int) < n.tmod m ∧ n.tmod m < m := by
  have h0 : (0 : Int) < m := by omega
  have h1 : -(m : Int) < n.tmod m := by have := Int.lt_tmod_of_pos n h0; omega
  have h2 : n.tmod m < m := Int.tmod_lt_of_pos n h0
  have h3 : 0 ≤ (n.tmod m + m).tmod m := Int.tmod_nonneg _ (by omega)
  have h4 : (n.tmod m + m).tmod m < m := Int.tmod_lt_of_pos _ h0
  exact ⟨((n.tmod m + m).tmod m).toNat, by omega, by omega, h1, h2⟩
theorem par_of (i : Nat) : ∃ r : Nat, r < 2 ∧ (i : Int).tmod 2 = (r : Int) := ⟨i % 2, by omega, by rw [Int.tmod_eq_emod_of_nonneg (by omega)]; omega⟩

/-- What a page and its write make. -/
structure WildAt (s : Sys) (w : World) (v : V) (k : Nat) : Prop where
  tx : TxAt w s v
  sane : v.Sane s.cap
  room : v.room s.cap + k = 29
theorem WildAt.step {s : Sys} {w w1 w2 : World} {v : V} {k : Nat} (h : WildAt s w v k) (hk : k < 20) (kind : Nat) (body : Bs) (hk2 : kind ≠ 255) (hb : body.length ≤ 500) : (v.alloc s.cap).2.1 = 0 ∧ (v.alloc s.cap).2.2.err (v.alloc s.cap).1 = 0 ∧ (v.alloc s.cap).2.2.Sane s.cap ∧
    (((v.alloc s.cap).2.2.set (v.alloc s.cap).1 kind body).1 = 0 ∧ (TxAt w2 s ((v.alloc s.cap).2.2.set (v.alloc s.cap).1 kind body).2 → WildAt s w2 ((v.alloc s.cap).2.2.set (v.alloc s.cap).1 kind body).2 (k + 1))) := by
  have hr := h.room
  rcases V.alloc_told h.sane with ⟨_, h2, _⟩ | ⟨h1, _, h2, _, _, _, h3, _⟩
  · omega
  · have he : (v.alloc s.cap).2.2.err (v.alloc s.cap).1 = 0 := (h3 _).2 (.inr rfl)
    have hs := h.sane.alloc
    refine ⟨h1, he, hs, by rw [V.set_code, he], fun ht => ⟨ht, hs.set _ _ _ hk2 hb, by rw [V.set_room]; omega⟩⟩

set_option maxRecDepth 100000 in
set_option maxHeartbeats 3200000 in
theorem wild_walk (A : Option Addr) (l : List Bs) (c : Nat) (root : Int) (hroot : -(2:Int)^63 ≤ root ∧ root < 2^63) (a : Ac) (hfa : a.fits) (w : World) (hl : Rd w (fun b => w.heap.size ≤ b) 1 A l.length (keyVals l)) (hll : l.length < 2^63) (hf : ∀ b ∈ l, b.length < 2^63) :
    Calls Tryz.prog 4 #[.slice A l.length c, .int .i64 root, a.agg] w fun e w' => e = .returned (.bool true) ∧ Ext No w w' := by
  have HB := Lib.hid (fun o => begin_any 30 (by decide) (by decide) (w.alloc o))
  have HW := Lib.hid works_any
  have HL := Lib.hid hl
  have HFT := Lib.hid hf
  have HFA := Lib.hid hfa
  simp only [Ac.agg]
  go_enter Tryz.func4, Tryz.ntmps4
  go_wp2_with fail
  refine (HB.out _).mono ?_
  rintro e w1 ⟨s, hF, rfl, hx1, ht, hm, hxx, _⟩
  have HF := Lib.hid hF
  have HS := Lib.hid hF.ok
  simp at ht hm
  have HFF : Hid (∀ b, s.F b → w.heap.size + 1 ≤ b) := Lib.hid (fun b hb => by
    rcases hb with rfl | rfl
    · exact ht
    · exact hm)
  have hcap : s.cap = 30 := hF.cap
  have HCAP := Lib.hid hcap
  have HE1 := Lib.hid (((Ext.refl No w).alloc (.cells #[.int .i64 a.kind, .int .i64 a.n, .string (str a.key), .string (str a.val)] 53)).trans_ hx1)
  have HBA := Lib.hid ((Blk.new w 53 #[.int .i64 a.kind, .int .i64 a.n, .string (str a.key), .string (str a.val)]).ext hx1 (fun h => h))
  have HWA : Hid (WildAt s w1 v0 0) := Lib.hid ⟨hF.tx, (One.start hF (by decide) (by decide) 0).sane, by rw [hcap]; decide⟩
  have HT1 := Lib.hid hF.tx
  clear hF hx1 ht hm hxx hcap hl hf hfa
  go_wp2_with fail
  go_loopg [10] l.length (fun gk q10 wr => ∃ (k : Nat) (v' : V), k + gk = l.length ∧ k ≤ 20 ∧ q10 = .int .i64 (k : Int) ∧ Hid (WildAt s wr v' k) ∧ Hid (Ext s.F w1 wr))
  case atStart => exact ⟨0, v0, by omega, by omega, rfl, HWA, Lib.hid (Ext.refl _ _)⟩
  case round =>
    obtain ⟨k, v', hk, hk20, rfl, HWD, HEX⟩ := hrel
    have HK := Lib.hid hk
    by_cases hlt : k < l.length
    · by_cases hlt2 : k < 20
      · obtain ⟨b, hb⟩ : ∃ b, l[k]? = some b := ⟨_, List.getElem?_eq_getElem hlt⟩
        have hbl := HFT.out b (List.mem_of_getElem? hb)
        have hbs := str_size b
        obtain ⟨q, hq3, hq0, hn1, hn2⟩ := rem_of a.n 3 (by decide)
        have hq : (a.n.tmod 3 + 3).tmod 3 = (q : Int) := hq0
        have hn1 : -3 < a.n.tmod 3 := hn1
        have hn2 : a.n.tmod 3 < 3 := hn2
        clear hq0
        have hqm : (a.n.tmod 3 + 3) % 3 = (q : Int) := by rw [← Int.tmod_eq_emod_of_nonneg (show 0 ≤ a.n.tmod 3 + 3 by omega)]; exact hq
        have HQM := Lib.hid hqm
        obtain ⟨r, hr2, hr⟩ := par_of k
        have hex : (str b).extract 0 (min (b.length : Int) 500).toNat = str (b.take 500) := by
          rw [str_take]
          congr 1
          rw [show (min (b.length : Int) 500).toNat = min 500 b.length by omega, ← List.take_take, List.take_length]
        have hmb1 : (0 : Int) ≤ min (b.length : Int) 500 := by omega
        have hmb2 : min (b.length : Int) 500 ≤ (b.length : Int) := by omega
        have hbt : (b.take 500).length ≤ 500 := by rw [List.length_take]; omega
        have hkc : ((1 + q + r : Nat) : Int) = 1 + (q : Int) + (r : Int) := by omega
        obtain ⟨s1, s2, s3, s4, s5⟩ := HWD.out.step (w1 := wr) (w2 := wr) hlt2 (1 + q + r) (b.take 500) (by omega) hbt
        have HAL : Hid (Calls Tryz.prog 19 #[.pointer (some ⟨s.t, 0, none⟩)] wr fun e w' => e = .returned (.tuple #[.int .i64 ((v'.alloc s.cap).1 : Int), .int .i64 0]) ∧ Hid (TxAt w' s (v'.alloc s.cap).2.2) ∧ Hid (Ext s.F w1 w')) := Lib.hid (by
          refine (alloc_any s HS.out wr v' HWD.out.tx HWD.out.sane.1).mono ?_
          rintro e w' ⟨h1, h2, h3⟩
          rw [s1] at h1
          exact ⟨h1, Lib.hid h2, Lib.hid (HEX.out.trans_ h3)⟩)
        have HWR : Hid (∀ w2, TxAt w2 s (v'.alloc s.cap).2.2 → Ext s.F w1 w2 → Calls Tryz.prog 20 #[.pointer (some ⟨s.t, 0, none⟩), .int .i64 ((v'.alloc s.cap).1 : Int), .int .i64 (1 + (q : Int) + (r : Int)), .string (str (b.take 500))] w2 fun e w' => e = .returned (.int .i64 0) ∧ Hid (WildAt s w' ((v'.alloc s.cap).2.2.set (v'.alloc s.cap).1 (1 + q + r) (b.take 500)).2 (k + 1)) ∧ Hid (Ext s.F w1 w')) := Lib.hid (by
          intro w2 t1 t2
          rw [← hkc]
          refine (write_any s HS.out w2 _ t1 (v'.alloc s.cap).1 (1 + q + r) (b.take 500) (by omega) (by omega) hbt).mono ?_
          rintro e w' ⟨h1, h2, h3⟩
          rw [s4] at h1
          exact ⟨h1, Lib.hid ((HWD.out.step (w1 := wr) (w2 := w') hlt2 (1 + q + r) (b.take 500) (by omega) hbt).2.2.2.2 h2), Lib.hid (t2.trans_ h3)⟩)
        have hlt' : (k : Int) < (l.length : Int) := by omega
        have HBB := Lib.hid hb
        clear hk hb s1 s2 s3 s4 s5 hkc
        go_wp2_with fail
        refine (HAL.out).mono ?_
        rintro e w2 ⟨rfl, HT2, HE2⟩
        obtain ⟨xb, xo, hA, _, k0⟩ := (((HL.out.ext (HE1.out.of_no)).mono (G := s.F) (by decide) (fun b _ hb => by have := HFF.out b hb; omega)).ext HE2.out).keyAt HBB.out
        subst hA
        have kl := World.block_lt_of_cell? w2 _ k0
        simp only at kl
        have hba := HBA.out.ext HE2.out (fun hf => by have := HFF.out _ hf; omega)
        have b1 := hba.cell 1
        have bl := hba.lt
        simp at b1
        go_upto_region 6 with fail
        refine wp_region_still_tail 25 (by kernel_rfl) (by kernel_rfl) ?_
        simp only [List.take_succ_cons, List.take_zero, List.drop_succ_cons, List.drop_zero]
        repeat still_step
        refine wpStill_nil ?_
        change wpList _ _ _ _ _ w2.drew
        have HTD := Lib.hid (HT2.out.no HS.out ((Ext.refl No w2).drew))
        have HED := Lib.hid (HE2.out.drew)
        generalize w2.drew = wd at *
        have HWC := Lib.hid (HWR.out wd HTD.out HED.out)
        clear HWR HAL
        go_wp2_with fail
        rw [HQM.out]
        refine (HWC.out).mono ?_
        rintro e w3 ⟨rfl, HWD3, HE3⟩
        clear k0 kl b1 bl
        go_wp2_with fail
        go_roundg (gk - 1)
        case rel => exact ⟨k + 1, _, by have := HK.out; omega, by omega, by go_num, HWD3, HE3⟩
        case measure => have := HK.out; omega
      · have hlt' : (k : Int) < (l.length : Int) := by omega
        have hge : ¬ ((k : Int) < 20) := by omega
        clear hk
        obtain ⟨r0, hr3, hr0, hn1, hn2⟩ := rem_of root 30 (by decide)
        have hr0 : (root.tmod 30 + 30).tmod 30 = (r0 : Int) := hr0
        have hn1 : -30 < root.tmod 30 := hn1
        have hn2 : root.tmod 30 < 30 := hn2
        have hrm : (root.tmod 30 + 30) % 30 = (r0 : Int) := by rw [← Int.tmod_eq_emod_of_nonneg (show 0 ≤ root.tmod 30 + 30 by omega)]; exact hr0
        have HRM := Lib.hid hrm
        have HSR := Lib.hid (setroot_any s HS.out wr v' HWD.out.tx 0 r0 (by decide) (by omega))
        clear hr0
        go_wp2_with fail
        refine (HSR.out).mono ?_
        rintro e w4 ⟨rfl, hT4, hx4⟩
        obtain ⟨v4, hv4⟩ : ∃ v4, v4 = v'.setR 0 r0 := ⟨_, rfl⟩
        rw [← hv4] at hT4
        have HOF := Lib.hid (of_any (some ⟨s.t, 0, none⟩) 0 (by decide) w4)
        obtain ⟨W5, hW5⟩ : ∃ W5, W5 = w4.alloc (.cells #[.pointer (some ⟨s.t, 0, none⟩), .int .i64 0] 70) := ⟨_, rfl⟩
        have HX5 := Lib.hid (show Blk W5 w4.heap.size 70 (treeCells s 0) from hW5 ▸ Blk.new w4 70 _)
        have HT5 := Lib.hid (show TxAt W5 s v4 from hW5 ▸ hT4.no HS.out ((Ext.refl _ _).alloc _))
        have HE5 := Lib.hid (show Ext s.F w1 W5 from hW5 ▸ (HEX.out.trans_ hx4).alloc _)
        have HSN : Hid (v4.Sane s.cap) := Lib.hid (hv4 ▸ HWD.out.sane.setR 0 r0)
        have HOFF := Lib.hid (tree_off HT5.out HX5.out)
        have hba := HBA.out.ext HE5.out (fun hf => by have := HFF.out _ hf; omega)
        have b2 := hba.cell 2
        have bl := hba.lt
        simp at b2
        have HB5 := Lib.hid hba
        have hkl : a.key.length < 2^63 := HFA.out.2.2
        have hks := str_size a.key
        have hex : (str a.key).extract 0 (min (a.key.length : Int) 100).toNat = str (a.key.take 100) := by
          rw [str_take]
          congr 1
          rw [show (min (a.key.length : Int) 100).toNat = min 100 a.key.length by omega, ← List.take_take, List.take_length]
        obtain ⟨key, hkey⟩ : ∃ key : Bs, key = 107 :: a.key.take 100 := ⟨_, rfl⟩
        have hcat : (⟨#[107]⟩ : ByteArray) ++ str (a.key.take 100) = str key := hkey ▸ str_k _
        have hmay : ∀ val : Bs, val.length ≤ 2000 → may key val = 0 := fun val hv => by
          rw [hkey]
          unfold may
          have : (a.key.take 100).length ≤ 100 := by rw [List.length_take]; omega
          rw [if_neg (by simp), if_neg (by simp; omega)]
        have HMAY := Lib.hid hmay
        have HEND : Hid (∀ w', Ext s.F w1 w' → Ext No w w') := Lib.hid (fun w' e => HE1.out.trans e (fun i hi hb => by have := HFF.out i hb; omega))
        have HKC := Lib.hid (fun w' (e : Ext No W5 w') => checkt_any s HS.out w' v4 (HT5.out.no HS.out e) HSN.out.1 w4.heap.size 0 (HX5.out.ext e (fun h => h)) (by decide))
        have HGT := Lib.hid (fun w' (e : Ext No W5 w') => get_full s HS.out w' v4 (HT5.out.no HS.out e) HSN.out.1 w4.heap.size 0 (HX5.out.ext e (fun h => h)) (by decide) key)
        have HPG := Lib.hid (fun w' (e : Ext No W5 w') => pages_any s HS.out w' v4 (HT5.out.no HS.out e) HSN.out.1 w4.heap.size 0 (HX5.out.ext e (fun h => h)) (by decide))
        have HVL := Lib.hid (fun w => value_walk a HFA.out.1 HFA.out.2.1 w)
        have hvl := a.value_le
        have HPT := Lib.hid (fun w' (e : Ext No W5 w') => put_full s HS.out w' v4 (HT5.out.no HS.out e) HSN.out.1 w4.heap.size 0 (HX5.out.ext e (fun h => h)) (by decide) key a.value)
        obtain ⟨R, hR⟩ : ∃ R, R = v4.Put s.cap 0 key a.value := ⟨_, rfl⟩
        rw [← hR] at HPT
        have HDL := Lib.hid (fun w' (t : TxAt w' s R.2) (g : R.2.Good) (e : Ext s.F W5 w') => del_full s HS.out w' R.2 t g w4.heap.size 0 (HX5.out.ext e HOFF.out) (by decide) key)
        have HHT := Lib.hid (fun w' v6 (t : TxAt w' s v6) (g : v6.Good) (e : Ext s.F W5 w') => height_any s HS.out w' v6 t g w4.heap.size 0 (HX5.out.ext e HOFF.out) (by decide))
        clear hba hv4 hkey hmay hT4 hx4
        go_wp2_with fail
        refine (HOF.out).mono ?_
        rintro e w5 ⟨rfl, rfl⟩
        rw [show w4.alloc (.cells #[.pointer (some ⟨s.t, 0, none⟩), .int .i64 ((0 : Nat) : Int)] 70) = W5 from hW5.symm]
        clear hW5
        cases hsv : v4.survey 0 with
        | none =>
          have hck : v4.check 0 = 5 := by unfold V.check; rw [hsv]; rfl
          rw [hck] at HKC
          generalize (v4.get 0 key).2.2 = n1 at HGT
          generalize (v4.pages 0).2 = n2 at HPG
          clear hck hsv hR
          go_wp2_with fail
          refine (HKC.out _ (Ext.refl _ _)).mono ?_
          rintro e w6 ⟨rfl, hx6⟩
          have HX6 := Lib.hid hx6
          clear hx6
          go_wp2_with fail
          refine (HGT.out _ HX6.out).mono ?_
          rintro e w7 ⟨rfl, hx7⟩
          have HX7 := Lib.hid (HX6.out.trans_ hx7)
          clear hx7
          go_wp2_with fail
          refine (HPG.out _ HX7.out).mono ?_
          rintro e w8 ⟨rfl, hx8⟩
          have HX8 := Lib.hid (HX7.out.trans_ hx8)
          clear hx8 b2 bl
          have hba := HB5.out.ext HX8.out (fun h => h)
          have b0 := hba.cell 0
          have b1 := hba.cell 1
          have b2 := hba.cell 2
          have b3 := hba.cell 3
          have bl := hba.lt
          simp at b0 b1 b2 b3
          have HVL2 : Hid (Calls Tryz.prog 26 #[.agg #[.int .i64 a.kind, .int .i64 a.n, .string (str a.key), .string (str a.val)]] w8 fun e w' => e = .returned (.string (str a.value)) ∧ Ext No w8 w') := Lib.hid (HVL.out w8)
          clear hba hex hcat hkl hks
          go_wp2_with fail
          refine (HVL2.out).mono ?_
          rintro e w9 ⟨rfl, hx9⟩
          have HX9 := Lib.hid (HX8.out.trans_ hx9)
          clear hx9 b0 b1 b2 b3 bl
          go_wp2_with fail
          refine (HPT.out _ HX9.out).mono ?_
          rintro e wa ⟨rfl, htA, hgA, hxA⟩
          have HTA := Lib.hid htA; have HGA := Lib.hid hgA; have HXA := Lib.hid (HX9.out.of_no.trans_ hxA)
          have HDL2 := Lib.hid (HDL.out wa HTA.out HGA.out HXA.out)
          clear htA hgA hxA HPT HPG HKC HDL
          go_wp2_with fail
          refine (HDL2.out).mono ?_
          rintro e wb ⟨rfl, htB, hgB, hxB⟩
          have HXB := Lib.hid (HXA.out.trans_ hxB)
          have HHT2 := Lib.hid (HHT.out wb _ htB hgB HXB.out)
          clear htB hgB hxB
          go_wp2_with fail
          refine (HHT2.out).mono ?_
          rintro e wc ⟨rfl, hxC⟩
          go_wp2_with fail
          refine (HW.out wc).mono ?_
          rintro e wd ⟨rfl, hxD⟩
          go_wp2_with fail
          go_ret
          exact ⟨rfl, HEND.out _ (((HE5.out.trans_ HXB.out).trans_ hxC.of_no).trans_ hxD.of_no)⟩
        | some pd =>
          obtain ⟨p, d⟩ := pd
          have hck : v4.check 0 = 0 := by unfold V.check; rw [hsv]; rfl
          have hpg : (v4.pages 0).2 = 0 := by unfold V.pages; rw [hsv]
          rw [hck] at HKC
          rw [hpg] at HPG
          obtain ⟨P, E, hT⟩ := survey_tree hsv HT5.out.h1 (by have := HT5.out.h2; rw [HCAP.out] at this; omega)
          rw [get_wild hT (HMAY.out [] (by simp))] at HGT
          have hpw := put_wild HSN.out hT (HMAY.out a.value hvl)
          rw [← hR] at hpw
          have HPW := Lib.hid hpw
          clear hck hpg hsv hT hpw hR
          go_wp2_with fail
          refine (HKC.out _ (Ext.refl _ _)).mono ?_
          rintro e w6 ⟨rfl, hx6⟩
          have HX6 := Lib.hid hx6
          clear hx6
          go_wp2_with fail
          refine (HGT.out _ HX6.out).mono ?_
          rintro e w7 ⟨rfl, hx7⟩
          have HX7 := Lib.hid (HX6.out.trans_ hx7)
          clear hx7
          go_wp2_with fail
          refine (HPG.out _ HX7.out).mono ?_
          rintro e w8 ⟨rfl, hx8⟩
          have HX8 := Lib.hid (HX7.out.trans_ hx8)
          clear hx8 b2 bl
          have hba := HB5.out.ext HX8.out (fun h => h)
          have b0 := hba.cell 0
          have b1 := hba.cell 1
          have b2 := hba.cell 2
          have b3 := hba.cell 3
          have bl := hba.lt
          simp at b0 b1 b2 b3
          have HVL2 : Hid (Calls Tryz.prog 26 #[.agg #[.int .i64 a.kind, .int .i64 a.n, .string (str a.key), .string (str a.val)]] w8 fun e w' => e = .returned (.string (str a.value)) ∧ Ext No w8 w') := Lib.hid (HVL.out w8)
          clear hba hex hcat hkl hks
          go_wp2_with fail
          refine (HVL2.out).mono ?_
          rintro e w9 ⟨rfl, hx9⟩
          have HX9 := Lib.hid (HX8.out.trans_ hx9)
          clear hx9 b0 b1 b2 b3 bl
          go_wp2_with fail
          refine (HPT.out _ HX9.out).mono ?_
          rintro e wa ⟨rfl, htA, hgA, hxA⟩
          have HTA := Lib.hid htA; have HGA := Lib.hid hgA; have HXA := Lib.hid (HX9.out.of_no.trans_ hxA)
          have HDL2 := Lib.hid (HDL.out wa HTA.out HGA.out HXA.out)
          clear htA hgA hxA HPT HPG HKC HDL
          generalize R.1 = r1 at *
          rcases HPW.out with rfl | rfl
          · go_wp2_with fail
            refine (HDL2.out).mono ?_
            rintro e wb ⟨rfl, htB, hgB, hxB⟩
            have HXB := Lib.hid (HXA.out.trans_ hxB)
            have HHT2 := Lib.hid (HHT.out wb _ htB hgB HXB.out)
            clear htB hgB hxB
            go_wp2_with fail
            refine (HHT2.out).mono ?_
            rintro e wc ⟨rfl, hxC⟩
            go_wp2_with fail
            refine (HW.out wc).mono ?_
            rintro e wd ⟨rfl, hxD⟩
            go_wp2_with fail
            go_ret
            exact ⟨rfl, HEND.out _ (((HE5.out.trans_ HXB.out).trans_ hxC.of_no).trans_ hxD.of_no)⟩
          · go_wp2_with fail
            refine (HDL2.out).mono ?_
            rintro e wb ⟨rfl, htB, hgB, hxB⟩
            have HXB := Lib.hid (HXA.out.trans_ hxB)
            have HHT2 := Lib.hid (HHT.out wb _ htB hgB HXB.out)
            clear htB hgB hxB
            go_wp2_with fail
            refine (HHT2.out).mono ?_
            rintro e wc ⟨rfl, hxC⟩
            go_wp2_with fail
            refine (HW.out wc).mono ?_
            rintro e wd ⟨rfl, hxD⟩
            go_wp2_with fail
            go_ret
            exact ⟨rfl, HEND.out _ (((HE5.out.trans_ HXB.out).trans_ hxC.of_no).trans_ hxD.of_no)⟩
    · have hge : ¬ ((k : Int) < (l.length : Int)) := by omega
      clear hk
      obtain ⟨r0, hr3, hr0, hn1, hn2⟩ := rem_of root 30 (by decide)
      have hr0 : (root.tmod 30 + 30).tmod 30 = (r0 : Int) := hr0
      have hn1 : -30 < root.tmod 30 := hn1
      have hn2 : root.tmod 30 < 30 := hn2
      have hrm : (root.tmod 30 + 30) % 30 = (r0 : Int) := by rw [← Int.tmod_eq_emod_of_nonneg (show 0 ≤ root.tmod 30 + 30 by omega)]; exact hr0
      have HRM := Lib.hid hrm
      have HSR := Lib.hid (setroot_any s HS.out wr v' HWD.out.tx 0 r0 (by decide) (by omega))
      clear hr0
      go_wp2_with fail
      refine (HSR.out).mono ?_
      rintro e w4 ⟨rfl, hT4, hx4⟩
      obtain ⟨v4, hv4⟩ : ∃ v4, v4 = v'.setR 0 r0 := ⟨_, rfl⟩
      rw [← hv4] at hT4
      have HOF := Lib.hid (of_any (some ⟨s.t, 0, none⟩) 0 (by decide) w4)
      obtain ⟨W5, hW5⟩ : ∃ W5, W5 = w4.alloc (.cells #[.pointer (some ⟨s.t, 0, none⟩), .int .i64 0] 70) := ⟨_, rfl⟩
      have HX5 := Lib.hid (show Blk W5 w4.heap.size 70 (treeCells s 0) from hW5 ▸ Blk.new w4 70 _)
      have HT5 := Lib.hid (show TxAt W5 s v4 from hW5 ▸ hT4.no HS.out ((Ext.refl _ _).alloc _))
      have HE5 := Lib.hid (show Ext s.F w1 W5 from hW5 ▸ (HEX.out.trans_ hx4).alloc _)
      have HSN : Hid (v4.Sane s.cap) := Lib.hid (hv4 ▸ HWD.out.sane.setR 0 r0)
      have HOFF := Lib.hid (tree_off HT5.out HX5.out)
      have hba := HBA.out.ext HE5.out (fun hf => by have := HFF.out _ hf; omega)
      have b2 := hba.cell 2
      have bl := hba.lt
      simp at b2
      have HB5 := Lib.hid hba
      have hkl : a.key.length < 2^63 := HFA.out.2.2
      have hks := str_size a.key
      have hex : (str a.key).extract 0 (min (a.key.length : Int) 100).toNat = str (a.key.take 100) := by
        rw [str_take]
        congr 1
        rw [show (min (a.key.length : Int) 100).toNat = min 100 a.key.length by omega, ← List.take_take, List.take_length]
      obtain ⟨key, hkey⟩ : ∃ key : Bs, key = 107 :: a.key.take 100 := ⟨_, rfl⟩
      have hcat : (⟨#[107]⟩ : ByteArray) ++ str (a.key.take 100) = str key := hkey ▸ str_k _
      have hmay : ∀ val : Bs, val.length ≤ 2000 → may key val = 0 := fun val hv => by
        rw [hkey]
        unfold may
        have : (a.key.take 100).length ≤ 100 := by rw [List.length_take]; omega
        rw [if_neg (by simp), if_neg (by simp; omega)]
      have HMAY := Lib.hid hmay
      have HEND : Hid (∀ w', Ext s.F w1 w' → Ext No w w') := Lib.hid (fun w' e => HE1.out.trans e (fun i hi hb => by have := HFF.out i hb; omega))
      have HKC := Lib.hid (fun w' (e : Ext No W5 w') => checkt_any s HS.out w' v4 (HT5.out.no HS.out e) HSN.out.1 w4.heap.size 0 (HX5.out.ext e (fun h => h)) (by decide))
      have HGT := Lib.hid (fun w' (e : Ext No W5 w') => get_full s HS.out w' v4 (HT5.out.no HS.out e) HSN.out.1 w4.heap.size 0 (HX5.out.ext e (fun h => h)) (by decide) key)
      have HPG := Lib.hid (fun w' (e : Ext No W5 w') => pages_any s HS.out w' v4 (HT5.out.no HS.out e) HSN.out.1 w4.heap.size 0 (HX5.out.ext e (fun h => h)) (by decide))
      have HVL := Lib.hid (fun w => value_walk a HFA.out.1 HFA.out.2.1 w)
      have hvl := a.value_le
      have HPT := Lib.hid (fun w' (e : Ext No W5 w') => put_full s HS.out w' v4 (HT5.out.no HS.out e) HSN.out.1 w4.heap.size 0 (HX5.out.ext e (fun h => h)) (by decide) key a.value)
      obtain ⟨R, hR⟩ : ∃ R, R = v4.Put s.cap 0 key a.value := ⟨_, rfl⟩
      rw [← hR] at HPT
      have HDL := Lib.hid (fun w' (t : TxAt w' s R.2) (g : R.2.Good) (e : Ext s.F W5 w') => del_full s HS.out w' R.2 t g w4.heap.size 0 (HX5.out.ext e HOFF.out) (by decide) key)
      have HHT := Lib.hid (fun w' v6 (t : TxAt w' s v6) (g : v6.Good) (e : Ext s.F W5 w') => height_any s HS.out w' v6 t g w4.heap.size 0 (HX5.out.ext e HOFF.out) (by decide))
      clear hba hv4 hkey hmay hT4 hx4
      go_wp2_with fail
      refine (HOF.out).mono ?_
      rintro e w5 ⟨rfl, rfl⟩
      rw [show w4.alloc (.cells #[.pointer (some ⟨s.t, 0, none⟩), .int .i64 ((0 : Nat) : Int)] 70) = W5 from hW5.symm]
      clear hW5
      cases hsv : v4.survey 0 with
      | none =>
        have hck : v4.check 0 = 5 := by unfold V.check; rw [hsv]; rfl
        rw [hck] at HKC
        generalize (v4.get 0 key).2.2 = n1 at HGT
        generalize (v4.pages 0).2 = n2 at HPG
        clear hck hsv hR
        go_wp2_with fail
        refine (HKC.out _ (Ext.refl _ _)).mono ?_
        rintro e w6 ⟨rfl, hx6⟩
        have HX6 := Lib.hid hx6
        clear hx6
        go_wp2_with fail
        refine (HGT.out _ HX6.out).mono ?_
        rintro e w7 ⟨rfl, hx7⟩
        have HX7 := Lib.hid (HX6.out.trans_ hx7)
        clear hx7
        go_wp2_with fail
        refine (HPG.out _ HX7.out).mono ?_
        rintro e w8 ⟨rfl, hx8⟩
        have HX8 := Lib.hid (HX7.out.trans_ hx8)
        clear hx8 b2 bl
        have hba := HB5.out.ext HX8.out (fun h => h)
        have b0 := hba.cell 0
        have b1 := hba.cell 1
        have b2 := hba.cell 2
        have b3 := hba.cell 3
        have bl := hba.lt
        simp at b0 b1 b2 b3
        have HVL2 : Hid (Calls Tryz.prog 26 #[.agg #[.int .i64 a.kind, .int .i64 a.n, .string (str a.key), .string (str a.val)]] w8 fun e w' => e = .returned (.string (str a.value)) ∧ Ext No w8 w') := Lib.hid (HVL.out w8)
        clear hba hex hcat hkl hks
        go_wp2_with fail
        refine (HVL2.out).mono ?_
        rintro e w9 ⟨rfl, hx9⟩
        have HX9 := Lib.hid (HX8.out.trans_ hx9)
        clear hx9 b0 b1 b2 b3 bl
        go_wp2_with fail
        refine (HPT.out _ HX9.out).mono ?_
        rintro e wa ⟨rfl, htA, hgA, hxA⟩
        have HTA := Lib.hid htA; have HGA := Lib.hid hgA; have HXA := Lib.hid (HX9.out.of_no.trans_ hxA)
        have HDL2 := Lib.hid (HDL.out wa HTA.out HGA.out HXA.out)
        clear htA hgA hxA HPT HPG HKC HDL
        go_wp2_with fail
        refine (HDL2.out).mono ?_
        rintro e wb ⟨rfl, htB, hgB, hxB⟩
        have HXB := Lib.hid (HXA.out.trans_ hxB)
        have HHT2 := Lib.hid (HHT.out wb _ htB hgB HXB.out)
        clear htB hgB hxB
        go_wp2_with fail
        refine (HHT2.out).mono ?_
        rintro e wc ⟨rfl, hxC⟩
        go_wp2_with fail
        refine (HW.out wc).mono ?_
        rintro e wd ⟨rfl, hxD⟩
        go_wp2_with fail
        go_ret
        exact ⟨rfl, HEND.out _ (((HE5.out.trans_ HXB.out).trans_ hxC.of_no).trans_ hxD.of_no)⟩
      | some pd =>
        obtain ⟨p, d⟩ := pd
        have hck : v4.check 0 = 0 := by unfold V.check; rw [hsv]; rfl
        have hpg : (v4.pages 0).2 = 0 := by unfold V.pages; rw [hsv]
        rw [hck] at HKC
        rw [hpg] at HPG
        obtain ⟨P, E, hT⟩ := survey_tree hsv HT5.out.h1 (by have := HT5.out.h2; rw [HCAP.out] at this; omega)
        rw [get_wild hT (HMAY.out [] (by simp))] at HGT
        have hpw := put_wild HSN.out hT (HMAY.out a.value hvl)
        rw [← hR] at hpw
        have HPW := Lib.hid hpw
        clear hck hpg hsv hT hpw hR
        go_wp2_with fail
        refine (HKC.out _ (Ext.refl _ _)).mono ?_
        rintro e w6 ⟨rfl, hx6⟩
        have HX6 := Lib.hid hx6
        clear hx6
        go_wp2_with fail
        refine (HGT.out _ HX6.out).mono ?_
        rintro e w7 ⟨rfl, hx7⟩
        have HX7 := Lib.hid (HX6.out.trans_ hx7)
        clear hx7
        go_wp2_with fail
        refine (HPG.out _ HX7.out).mono ?_
        rintro e w8 ⟨rfl, hx8⟩
        have HX8 := Lib.hid (HX7.out.trans_ hx8)
        clear hx8 b2 bl
        have hba := HB5.out.ext HX8.out (fun h => h)
        have b0 := hba.cell 0
        have b1 := hba.cell 1
        have b2 := hba.cell 2
        have b3 := hba.cell 3
        have bl := hba.lt
        simp at b0 b1 b2 b3
        have HVL2 : Hid (Calls Tryz.prog 26 #[.agg #[.int .i64 a.kind, .int .i64 a.n, .string (str a.key), .string (str a.val)]] w8 fun e w' => e = .returned (.string (str a.value)) ∧ Ext No w8 w') := Lib.hid (HVL.out w8)
        clear hba hex hcat hkl hks
        go_wp2_with fail
        refine (HVL2.out).mono ?_
        rintro e w9 ⟨rfl, hx9⟩
        have HX9 := Lib.hid (HX8.out.trans_ hx9)
        clear hx9 b0 b1 b2 b3 bl
        go_wp2_with fail
        refine (HPT.out _ HX9.out).mono ?_
        rintro e wa ⟨rfl, htA, hgA, hxA⟩
        have HTA := Lib.hid htA; have HGA := Lib.hid hgA; have HXA := Lib.hid (HX9.out.of_no.trans_ hxA)
        have HDL2 := Lib.hid (HDL.out wa HTA.out HGA.out HXA.out)
        clear htA hgA hxA HPT HPG HKC HDL
        generalize R.1 = r1 at *
        rcases HPW.out with rfl | rfl
        · go_wp2_with fail
          refine (HDL2.out).mono ?_
          rintro e wb ⟨rfl, htB, hgB, hxB⟩
          have HXB := Lib.hid (HXA.out.trans_ hxB)
          have HHT2 := Lib.hid (HHT.out wb _ htB hgB HXB.out)
          clear htB hgB hxB
          go_wp2_with fail
          refine (HHT2.out).mono ?_
          rintro e wc ⟨rfl, hxC⟩
          go_wp2_with fail
          refine (HW.out wc).mono ?_
          rintro e wd ⟨rfl, hxD⟩
          go_wp2_with fail
          go_ret
          exact ⟨rfl, HEND.out _ (((HE5.out.trans_ HXB.out).trans_ hxC.of_no).trans_ hxD.of_no)⟩
        · go_wp2_with fail
          refine (HDL2.out).mono ?_
          rintro e wb ⟨rfl, htB, hgB, hxB⟩
          have HXB := Lib.hid (HXA.out.trans_ hxB)
          have HHT2 := Lib.hid (HHT.out wb _ htB hgB HXB.out)
          clear htB hgB hxB
          go_wp2_with fail
          refine (HHT2.out).mono ?_
          rintro e wc ⟨rfl, hxC⟩
          go_wp2_with fail
          refine (HW.out wc).mono ?_
          rintro e wd ⟨rfl, hxD⟩
          go_wp2_with fail
          go_ret
          exact ⟨rfl, HEND.out _ (((HE5.out.trans_ HXB.out).trans_ hxC.of_no).trans_ hxD.of_no)⟩

end Go.Proofs.YtccnemmlkcmceaaGreatDoor

/- The laws' arguments: texts, read out of memory. -/
set_option linter.unusedVariables false
set_option linter.unusedSimpArgs false
namespace Go.Proofs.YtccnemmlkcmceaaGreatDoor
open Go.RowKit Go.ChangeShapes Go.WideShapes Go.ChangeAt

theorem Tryz.cells9' : Tryz.prog.cellsOf 9 = 1 := by kernel_rfl
set_option maxRecDepth 100000 in
theorem texts_open {H : Type} {enc : TypeId × Value → H} {W : World} {base : Nat} {v : Value} {d : DataW H} {p : List MemPlace}
    (hval : Value.okWide Tryz.prog W .any base 38 v) (h : DataW.Trod enc Tryz.prog W 0 (fun _ => true) true 38 v d p) :
    ∃ (A : Option Addr) (l : List Bs) (c : Nat), v = .slice A l.length c ∧ Rd W (fun b => W.heap.size ≤ b) 1 A l.length (keyVals l) ∧ l.length < 2 ^ 63 ∧ ∀ b ∈ l, b.length < 2 ^ 63 := by
  obtain ⟨A0, n0, c0, rfl⟩ := okWide_slice (P := Tryz.prog) Tryz.underlying38 hval
  obtain ⟨fuel, hf⟩ := h
  have hf' : DataW.trod enc Tryz.prog W 0 (fun _ => true) true fuel 38 [.slice A0 n0 c0] = some (d, p) := hf
  rcases Go.Deep.open_slice1 (P := Tryz.prog) Tryz.underlying38 Tryz.cells9' hf' with ⟨e, _⟩ | ⟨a, len, cap, m, n, V, D, Pl, e, _, hl, hm, hmm, _, hx⟩
  · injection e with e _
    injection e with e1 e2 e3
    subst e1; subst e2; subst e3
    exact ⟨none, [], 0, rfl, Rd.nil_ _, by decide, by simp⟩
  · injection e with e _
    injection e with e1 e2 e3
    subst e1; subst e2; subst e3
    have hlm : n0 ≤ m := by rw [hmm]; split <;> omega
    obtain ⟨l, h1, h2⟩ := list_of_fun (n := n0) (p := fun i (x : Bs) => x.length < 2 ^ 63 ∧ W.cell? (a.add i) = some (.string (str x))) (fun i hi => by
      obtain ⟨g1, g2⟩ := hx i (by omega)
      obtain ⟨s3, e3, _, z3⟩ := DataW.trod_string (P := Tryz.prog) Tryz.underlying9 g2
      injection e3 with e3
      refine ⟨s3.data.toList, ?_, by rw [str_of, g1, e3]⟩
      have h4 : s3.data.toList.length = s3.size := Array.length_toList
      unfold maxLen at z3
      rw [h4]; omega)
    subst h1
    refine ⟨some a, l, c0, rfl, ⟨by simp [keyVals], fun hpos => ?_⟩, by unfold maxLen at hm; omega, fun y hy => ?_⟩
    · obtain ⟨x0, hx0⟩ : ∃ x0, l[0]? = some x0 := ⟨_, List.getElem?_eq_getElem hpos⟩
      have hspot : a.spot = none := by
        have := (h2 0 x0 hx0).2
        unfold Addr.add at this
        simp only [if_true] at this
        unfold World.cell? at this
        cases hs : a.spot with
        | none => rfl
        | some _ => rw [hs] at this; split at this <;> simp at this
      obtain ⟨b, o, sp⟩ := a
      simp only at hspot
      subst hspot
      refine ⟨b, o, rfl, ?_, fun j u hu => ?_⟩
      · have h3 := (h2 0 x0 hx0).2
        rw [Addr.add_none] at h3
        have := World.block_lt_of_cell? W _ h3
        simp only at this
        omega
      · simp only [keyVals, List.getElem?_map, Option.map_eq_some_iff] at hu
        obtain ⟨x, hx, rfl⟩ := hu
        have := (h2 j x hx).2
        rw [Addr.add_none] at this
        exact this
    · obtain ⟨i, hi, e⟩ := List.getElem_of_mem hy
      exact (h2 i y (by rw [List.getElem?_eq_getElem hi, e])).1

end Go.Proofs.YtccnemmlkcmceaaGreatDoor
