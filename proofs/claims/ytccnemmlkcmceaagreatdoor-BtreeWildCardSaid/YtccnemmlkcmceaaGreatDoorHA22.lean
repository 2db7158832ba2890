/- Proofs about the given program, joined out of the texts C8, RA, RB, C5, C6, C9, C2. -/
import Derived.Test.YtccnemmlkcmceaaGreatDoorHA21
import Derived.Deep.DeepCutAuto
import Derived.Test.YtccnemmlkcmceaaGreatDoorCards
import Derived.Test.YtccnemmlkcmceaaGreatDoorTie
import Derived.WalkKit
import Derived.ProofKit
import Derived.OpenShut
import Derived.Deep.DeepHandedRow
import Derived.Lib.LaidTab
import Derived.Lib.SmallJoins
import Derived.Deep.Slices
/- BtreeCells: the walk. -/
set_option linter.unusedVariables false
set_option linter.unusedSimpArgs false
namespace Go.Proofs.YtccnemmlkcmceaaGreatDoor
open Go.RowKit 

set_option maxRecDepth 100000 in
set_option maxHeartbeats 3200000 in
theorem cells_walk (A : Option Addr) (l : List Ac) (c : Nat) (w : World) (hl : Rd w (fun b => w.heap.size ≤ b) 4 A l.length (acVals l)) (hll : l.length < 2^63) (hf : ∀ a ∈ l, a.fits) :
    Calls Tryz.prog 3 #[.slice A l.length c] w fun e w' => e = .returned (.bool true) ∧ Ext No w w' := by
  have HB := Lib.hid (begin_any 400 (by decide) (by decide) w)
  have HW := Lib.hid works_any
  have HL := Lib.hid hl
  have HLL := Lib.hid hll
  have HFT := Lib.hid hf
  obtain ⟨i0, hti, htz0, htz1, htz2⟩ := info_parts Tryz.info3
  clear hl hll hf
  go_enter Tryz.func3, Tryz.ntmps3
  go_wp2_with fail
  refine (HB.out).mono ?_
  rintro e w1 ⟨s, hF, rfl, hx1, ht, hm, hxx, _⟩
  have HF := Lib.hid hF
  have HS := Lib.hid hF.ok
  have HFF : Hid (∀ b, s.F b → w.heap.size ≤ b) := Lib.hid (fun b hb => by
    rcases hb with rfl | rfl
    · exact ht
    · exact hm)
  have HOF := Lib.hid (of_any (some ⟨s.t, 0, none⟩) 0 (by decide) w1)
  obtain ⟨W2, hW2⟩ : ∃ W2, W2 = w1.alloc (.cells #[.pointer (some ⟨s.t, 0, none⟩), .int .i64 0] 70) := ⟨_, rfl⟩
  have HX2 := Lib.hid (show Blk W2 w1.heap.size 70 (treeCells s 0) from hW2 ▸ Blk.new w1 70 _)
  have HT2 := Lib.hid (show TxAt W2 s v0 from hW2 ▸ hF.tx.no hF.ok ((Ext.refl _ _).alloc _))
  have HE2 := Lib.hid (show Ext No w W2 from hW2 ▸ hx1.alloc _)
  have hcap : s.cap = 400 := hF.cap
  have HFILL := Lib.hid (fill_any s hF.ok W2 v0 HT2.out w1.heap.size 0 HX2.out (by decide) [] [] (One.start hF (by decide) (by decide) 0) l A c
    ((HL.out.ext (HE2.out.of_no)).mono (by decide) (fun b _ hb => HFF.out b hb)) HLL.out HFT.out 50 (by rw [hcap]; decide) (by decide))
  have HOFF := Lib.hid (tree_off HT2.out HX2.out)
  have hEl : (fillE (l.take 50)).length ≤ 50 := Nat.le_trans (fillE_len _) (by rw [List.length_take]; omega)
  generalize fillE (l.take 50) = E at *
  clear hF hx1 ht hm hxx hcap
  go_wp2_with fail
  refine (HOF.out).mono ?_
  rintro e w2 ⟨rfl, rfl⟩
  rw [show w1.alloc (.cells #[.pointer (some ⟨s.t, 0, none⟩), .int .i64 ((0 : Nat) : Int)] 70) = W2 from hW2.symm]
  clear hW2
  have HFILL2 : Hid (Calls Tryz.prog 14 #[.pointer (some ⟨w1.heap.size, 0, none⟩), .slice A l.length c, .int .i64 50] W2 (Filled s W2 v0 0 [] [] E)) := Lib.hid HFILL.out
  go_wp2_with fail
  refine (HFILL2.out).mono ?_
  rintro e w3 ⟨⟨v', P', A', c', rfl, ht, ho, htr, hra⟩, hx3⟩
  have HO := Lib.hid ho
  obtain ⟨W4, hW4⟩ : ∃ W4, W4 = w3.alloc (.cells #[.slice A' E.length c'] 32) := ⟨_, rfl⟩
  have hx34 : Ext No w3 W4 := hW4 ▸ (Ext.refl _ _).alloc _
  have HE4 : Hid (Ext s.F W2 W4) := Lib.hid (hx3.trans_ hx34.of_no)
  have HT4 := Lib.hid (ht.no HS.out hx34)
  have HX4 := Lib.hid (HX2.out.ext HE4.out HOFF.out)
  have HB4 := Lib.hid (show Blk W4 w3.heap.size 32 #[.slice A' E.length c'] from hW4 ▸ Blk.new w3 32 _)
  have HRA := Lib.hid (RefAt.mono (G := No) (hra.ext hx34.of_no) (fun _ _ h => h.elim))
  have HEND : Hid (∀ w', Ext No W4 w' → Ext No w w') := Lib.hid (fun w' e => HE2.out.trans (HE4.out.trans_ e.of_no) (fun i hi hb => by have := HFF.out i hb; omega))
  have HROOT := Lib.hid (fun w' (e : Ext No W4 w') => treeroot_any s HS.out w' v' (HT4.out.no HS.out e) w1.heap.size 0 (HX4.out.ext e (fun h => h)) (by decide))
  have HNODE := Lib.hid (fun w' (e : Ext No W4 w') id => node_any s HS.out w' v' (HT4.out.no HS.out e) HO.out.sane.1 w1.heap.size 0 (HX4.out.ext e (fun h => h)) id)
  have HVAL := Lib.hid (fun w' (e : Ext No W4 w') (cc : Cell) (hc : cc.fits) => value_any' s HS.out v' HO.out.sane.1 cc hc w' w1.heap.size 0 (HT4.out.no HS.out e) (HX4.out.ext e (fun h => h)))
  obtain ⟨m0, hm0, hp0⟩ := ho.pend (by omega)
  have HP0 := Lib.hid hp0
  have HM0 := Lib.hid hm0
  have HEL := Lib.hid hEl
  obtain ⟨S0, hS0⟩ : ∃ S0, S0 = (if v'.r 0 = 0 then [] else [v'.r 0]) := ⟨_, rfl⟩
  rw [← hS0] at HP0
  clear ht ho htr hra hx3 hx34 hp0 hm0 hEl
  go_upto_region 9 with fail
  rw [← hW4]
  clear hW4
  go_upto_if 38 with (go_at_call 15; refine (HROOT.out _ (Ext.refl _ _)).mono ?_; rintro e' w5 ⟨rfl, hx5⟩)
  go_cut [9] (fun v wx => ∃ A9 c9, v = .slice A9 S0.length c9 ∧ Hid (Stk wx W4.heap.size A9 c9 S0) ∧ Hid (Ext No W4 wx))
  case first =>
    by_cases h0 : v'.r 0 = 0
    · rw [if_pos h0] at hS0
      rw [h0]
      subst hS0
      go_wp2_with fail
      go_meet
      exact ⟨none, 0, rfl, Lib.hid (World.ownsRow_nil _ _ _ _), Lib.hid hx5⟩
    · rw [if_neg h0] at hS0
      have hne : (((v'.r 0 : Nat) : Int) == 0) = false := by simpa using h0
      have HROOT2 := Lib.hid (HROOT.out _ hx5)
      have HX5 := Lib.hid hx5
      generalize v'.r 0 = root at *
      subst hS0
      clear hx5 h0
      go_wp2_with fail
      refine (HROOT2.out).mono ?_
      rintro e' w6 ⟨rfl, hx6⟩
      go_wp2_with fail
      go_meet
      have hs := World.ownsRow_lit (e := 3) (size := 1) w6 #[.int .i64 (root : Int)] 1 (base := W4.heap.size) (HX5.out.trans_ hx6).size (by decide) rfl
      exact ⟨some ⟨w6.heap.size, 0, none⟩, 1, rfl, Lib.hid hs, Lib.hid ((HX5.out.trans_ hx6).alloc _)⟩
  case rest =>
    obtain ⟨A9, c9, rfl, HST0, HEX0⟩ := hcut
    clear hx5
    have HB0 := Lib.hid (show W4.heap.size ≤ W4.heap.size from Nat.le_refl _)
    go_wp2_with fail
    go_loopg [9, 10, 11] 400 (fun gk q9 q10 q11 wr => ∃ (S : List Nat) (N k m : Nat) (A9 : Option Addr) (c9 : Nat), N + gk = 400 ∧ Hid (N + m ≤ 360) ∧ q11 = .int .i64 (N : Int) ∧ q10 = .int .i64 (k : Int) ∧ q9 = .slice A9 S.length c9 ∧ Hid (Stk wr W4.heap.size A9 c9 S) ∧ Hid (Pend v' S m (E.drop k)) ∧ Hid (k ≤ E.length) ∧ Hid (Ext No W4 wr))
    case atStart => exact ⟨S0, 0, 0, m0, A9, c9, by omega, Lib.hid (by have := HM0.out; omega), rfl, rfl, rfl, HST0, HP0, Lib.hid (by omega), HEX0⟩
    case round =>
      obtain ⟨S, N, k, m, A9, c9, hN, HNM, rfl, rfl, rfl, HST, HPD, HKE, HEX⟩ := hrel
      have HN := Lib.hid hN
      obtain ⟨G, hG⟩ : ∃ G, G = gk := ⟨_, rfl⟩
      have HGE := Lib.hid hG
      clear hG
      cases S with
      | nil =>
        have hke : k = E.length := by
          obtain ⟨_, h2⟩ := HPD.out
          have h3 := congrArg List.length h2
          rw [List.length_drop, List.length_nil] at h3
          have := HKE.out
          omega
        have hb := HB4.out.ext HEX.out (fun h => h)
        have c0 := hb.cell 0
        have cl := hb.lt
        simp at c0
        have HWK := Lib.hid (HW.out wr)
        subst hke
        clear hb hN
        simp only [List.length_nil]
        go_wp2_with fail
        refine (HWK.out).mono ?_
        rintro e' w9 ⟨rfl, hx9⟩
        go_wp2_with fail
        go_ret
        exact ⟨rfl, HEND.out _ (HEX.out.trans_ hx9)⟩
      | cons id S =>
        obtain ⟨nd, m2', E1, E2, hnode, hE12, hE1l, hcells, hpd2, hm2⟩ := HPD.out.step
        obtain ⟨g9, rfl, top, hst2, hg9, hc9⟩ := stk_top HST.out
        have hNlt : (N : Int) < 500 := by have := HNM.out; omega
        have HNO := HNODE.out wr HEX.out id
        rw [hnode] at HNO
        have HNO := Lib.hid HNO
        have HST2 := Lib.hid hst2
        have HC9 := Lib.hid hc9
        have HPD2 := Lib.hid hpd2
        have HM2 := Lib.hid hm2
        have HCE := Lib.hid hcells
        have HE12 := Lib.hid hE12
        have HE1L := Lib.hid hE1l
        have HOK := Lib.hid (V.node_ok hnode)
        have hgl := World.block_lt_of_cell? wr _ top
        simp only at hgl
        have hSl := HST2.out.1
        have HSL : Hid (S.length ≤ 360) := Lib.hid (by have := HPD.out.len; have := HNM.out; rw [List.length_cons] at *; omega)
        obtain ⟨ns, hns⟩ : ∃ ns, ns = S.length := ⟨_, rfl⟩
        rw [← hns] at top hc9
        simp only [List.length_cons]
        rw [← hns]
        have hnsb : ns ≤ 360 := by have := HSL.out; omega
        have HNS := Lib.hid hns
        clear hnode hE12 hE1l hcells hpd2 hm2 hst2 hN hSl hns
        go_wp2_with fail
        refine (HNO.out).mono ?_
        rintro e' w5 ⟨hx5, A1, c1, A2, c2, A3, c3, rfl, hn⟩
        have HX5 := Lib.hid hx5
        have HND := Lib.hid hn
        simp only [Nd.value]
        clear hx5
        have h3b := hn.b3
        have h1b := hn.b1
        have HST5 := Lib.hid (own_ext HST2.out HX5.out (fun _ _ h => h))
        obtain ⟨W5, hW5⟩ : ∃ W5, W5 = w5.alloc (.cells #[.bool nd.leaf, .slice A1 nd.cells.length c1, .slice A2 nd.keys.length c2, .slice A3 nd.kids.length c3] 40) := ⟨_, rfl⟩
        have HB5 := Lib.hid (show Blk W5 w5.heap.size 40 #[.bool nd.leaf, .slice A1 nd.cells.length c1, .slice A2 nd.keys.length c2, .slice A3 nd.kids.length c3] from hW5 ▸ Blk.new w5 40 _)
        have HEX5 := Lib.hid (show Ext No W4 W5 from hW5 ▸ (HEX.out.trans_ HX5.out).alloc _)
        have HSW5 := Lib.hid (show Stk W5 W4.heap.size (some ⟨g9, 0, none⟩) c9 S from hW5 ▸ HST5.out.alloc _)
        have HN5 := Lib.hid (NodeAt.ext hn (show Ext (Old wr) w5 W5 from hW5 ▸ (Ext.refl _ _).alloc _))
        have q3 := HB5.out.cell 3
        have ql := HB5.out.lt
        simp at q3
        have HKL := Lib.hid (show nd.kids.length < 65536 ∧ nd.cells.length < 65536 from ⟨h3b, h1b⟩)
        clear hn
        obtain ⟨nk, hnk⟩ : ∃ nk, nk = nd.kids.length := ⟨_, rfl⟩
        have HNK := Lib.hid hnk
        rw [← hnk] at q3 h3b
        have HKD : Hid (nd.kids.drop nk = []) := Lib.hid (by rw [hnk, List.drop_length])
        have hW5' := hW5
        rw [← hnk] at hW5'
        have HW5 := Lib.hid hW5'
        rw [← hnk]
        clear hnk hW5 hW5'
        obtain ⟨nc, hnc⟩ : ∃ nc, nc = nd.cells.length := ⟨_, rfl⟩
        have HNC := Lib.hid hnc
        rw [← hnc] at HW5 h1b
        rw [← hnc]
        clear hnc
        go_upto_region 19 with fail
        rw [← HW5.out]
        go_wp2_with fail
        go_loopg [9, 14] nk (fun gk q9 q14 wr3 => ∃ (T : List Nat) (A3 : Option Addr) (c3 : Nat), gk ≤ nk ∧ q14 = .int .i64 ((gk : Int) - 1) ∧ q9 = .slice A3 T.length c3 ∧ Hid (T = nd.kids.drop gk ++ S) ∧ Hid (Stk wr3 W4.heap.size A3 c3 T) ∧ Hid (Ext (On g9) W5 wr3) ∧ Hid (∀ g, (Value.slice A3 T.length c3).ownBlock = some g → On g9 g ∨ W5.heap.size ≤ g))
        case atStart => exact ⟨S, some ⟨g9, 0, none⟩, c9, by omega, rfl, by rw [HNS.out], Lib.hid (by rw [HKD.out]; rfl), HSW5, Lib.hid (Ext.refl _ _), Lib.hid (fun g hg => .inl (by injection hg with hg; exact hg.symm))⟩
        case round =>
          obtain ⟨T, A7, c7, hgk, rfl, rfl, HT7, HS7, HX7, HG7⟩ := hrel
          have HGK := Lib.hid hgk
          cases gk with
          | succ j =>
            obtain ⟨kid, hkid⟩ : ∃ kid, nd.kids[j]? = some kid := ⟨_, List.getElem?_eq_getElem (by have := HNK.out; omega)⟩
            obtain ⟨kb, ko, hA3, _, kc⟩ := ((HN5.out.kids.mono (by decide) (G := On g9) (fun b _ hb => by have h1 : b = g9 := hb; rw [h1]; exact hgl)).ext HX7.out).kidAt hkid
            subst hA3
            have hbq := HB5.out.ext HX7.out (fun h => by have h1 : w5.heap.size = g9 := h; have := HX5.out.size; omega)
            have q3 := hbq.cell 3
            have ql := hbq.lt
            simp at q3
            rw [← HNK.out] at q3
            have kl := World.block_lt_of_cell? wr _ kc
            simp only at kl
            have hjn : (j : Int) < (nk : Int) := by omega
            have HDJ : Hid (nd.kids.drop j = kid :: nd.kids.drop (j + 1)) := Lib.hid (by
              rw [List.drop_eq_getElem_cons (by have := HNK.out; omega)]
              congr 1
              exact (List.getElem?_eq_some_iff.1 hkid).2)
            have HTL : Hid (T.length ≤ 65536 + 360) := Lib.hid (by
              rw [HT7.out, List.length_append, List.length_drop]
              have := HSL.out; have := HKL.out.1; omega)
            have m2 : T.length + 1 ≤ maxLen := by unfold maxLen; have := HTL.out; omega
            have m3 : (T.length + 1) * 8 ≤ 140737488355328 := by have := HTL.out; omega
            have m6 : ∀ o, W4.heap.size ≤ (wr.alloc o).heap.size := (fun o => by have := HEX5.out.size; have := HX7.out.size; simp; omega)
            have m7 : ∀ o, (wr.alloc o).heap.size = wr.heap.size + 1 := (fun o => by simp)
            rw [show (((j + 1 : Nat) : Int) - 1) = (j : Int) by omega]
            clear hgk hkid hbq
            go_wp2_with (at_builtin; refine wpList_append_lies _ (by rfl) _ _ 35 (by rfl) W4.heap.size 3 i0 (.int .i64 0) 1 8 Tryz.underlying35 hti htz0 htz1 htz2 (by rfl) (by decide) (.slice A7 T.length c7) T.length (kidVals T.reverse) (by rfl) (by exact HS7.out.alloc _) ⟨wr.heap.size, 0, none⟩ 1 1 [.int .i64 (kid : Int)] (by rfl) (by rfl) (by exact World.news_of_block (cs := #[.int .i64 (kid : Int)]) (t := 3) (fr := (0, 0)) (heap_alloc_new wr _)) (by exact one_int _) (by decide) m2 m3 (by exact m6 _) (wr.heap.size + 1) (by exact m7 _) ?_)
            intro g8 cap8 w8 hown8 hgrow8 hat8 hlt8
            have HS8 := Lib.hid (stk_push hown8)
            have HX8 := Lib.hid ((HX7.out.alloc _).grown hgrow8 HG7.out)
            have HG8 : Hid (∀ g, (Value.slice (some ⟨g8, 0, none⟩) (kid :: T).length cap8).ownBlock = some g → On g9 g ∨ W5.heap.size ≤ g) := Lib.hid (fun g hg => by
              have e : g8 = g := by injection hg
              subst e
              rcases hat8 with h | h
              · exact HG7.out _ h
              · exact .inr (by have := HX7.out.size; omega))
            clear hown8 hgrow8 hat8
            go_wp2_with fail
            go_roundg j
            case rel => exact ⟨kid :: T, some ⟨g8, 0, none⟩, cap8, by have := HGK.out; omega, rfl, by simp, Lib.hid (by rw [HT7.out, HDJ.out]; rfl), HS8, HX8, HG8⟩
            case measure => omega
          | zero =>
            rw [show (((0 : Nat) : Int) - 1) = -1 from rfl]
            have HT8 : Hid (T = nd.kids ++ S) := Lib.hid (by rw [HT7.out]; rfl)
            have HEXB : Hid (Ext No W4 wr) := Lib.hid (HEX5.out.trans HX7.out (fun i hi hb => by have h1 : i = g9 := hb; omega))
            have hbq := HB5.out.ext HX7.out (fun h => by have h1 : w5.heap.size = g9 := h; have := HX5.out.size; omega)
            have HCL := Lib.hid ((HN5.out.cells.mono (by decide) (G := On g9) (fun b _ hb => by have h1 : b = g9 := hb; rw [h1]; exact hgl)).ext HX7.out)
            have q1 := hbq.cell 1
            have ql := hbq.lt
            simp at q1
            rw [← HNC.out] at q1
            clear hgk hbq HT7 q3
            go_wp2_with fail
            go_loopg [10, 88] nc (fun gk q10 q88 wx => ∃ (j p : Nat), j + gk = nc ∧ Hid (p = k + j) ∧ q10 = .int .i64 (p : Int) ∧ q88 = .int .i64 (j : Int) ∧ Hid (Ext No wr wx))
            case atStart => exact ⟨0, k, by omega, Lib.hid rfl, rfl, rfl, Lib.hid (Ext.refl _ _)⟩
            case round =>
              obtain ⟨j, p, hj, HP, rfl, rfl, HXJ⟩ := hrel
              have HJ := Lib.hid hj
              by_cases hlt : j < nc
              · obtain ⟨cc, hcc⟩ : ∃ cc, nd.cells[j]? = some cc := ⟨_, List.getElem?_eq_getElem (by have := HNC.out; omega)⟩
                obtain ⟨bv, hE1j, hval⟩ := HCE.out j cc hcc
                have hEp : E[p]? = some (cc.key, bv) := by
                  have h1 : (E.drop k)[j]? = some (cc.key, bv) := by
                    rw [HE12.out, List.getElem?_append_left (List.getElem?_eq_some_iff.1 hE1j).1]; exact hE1j
                  rw [List.getElem?_drop] at h1
                  rw [HP.out]; exact h1
                obtain ⟨kb, ko, hA1, _, f0, f1, f2, f3⟩ := (HCL.out.ext HXJ.out.of_no).cellAt hcc
                subst hA1
                have hplt := (List.getElem?_eq_some_iff.1 hEp).1
                have hplt' : (p : Int) < (E.length : Int) := by omega
                have hpb : (p : Int) < 100 := by have := HEL.out; omega
                have hlt' : (j : Int) < (nc : Int) := by omega
                have fl := World.block_lt_of_cell? wr _ f0
                simp only at fl
                have HEJ := Lib.hid (HEXB.out.trans_ HXJ.out)
                obtain ⟨W6, hW6⟩ : ∃ W6, W6 = wr.alloc (.cells #[.string (str cc.key), .string (str cc.val), .int .i64 (cc.over : Int), .int .i64 (cc.len : Int)] 45) := ⟨_, rfl⟩
                have HE6 := Lib.hid (show Ext No W4 W6 from hW6 ▸ HEJ.out.alloc _)
                have HX6 := Lib.hid (show Ext No wr W6 from hW6 ▸ (Ext.refl _ _).alloc _)
                have HB6 := Lib.hid (show Blk W6 wr.heap.size 45 #[.string (str cc.key), .string (str cc.val), .int .i64 (cc.over : Int), .int .i64 (cc.len : Int)] from hW6 ▸ Blk.new wr 45 _)
                have hvc := HVAL.out W6 HE6.out cc (Nd.Ok.fits (Nd.Ok.of HOK.out) |>.c cc (List.mem_of_getElem? hcc))
                rw [hval] at hvc
                have HVC : Hid (Calls Tryz.prog 17 #[.pointer (some ⟨w1.heap.size, 0, none⟩), .agg #[.string (str cc.key), .string (str cc.val), .int .i64 (cc.over : Int), .int .i64 (cc.len : Int)]] W6 fun e w' => e = .returned (.tuple #[.string (str bv), .int .i64 0]) ∧ Ext No W6 w') := Lib.hid hvc
                have HEP := Lib.hid hEp
                have hW6c := hW6
                clear hvc hval hE1j hcc hj hEp q1 ql hW6c
                go_upto_region 26 with fail
                rw [← hW6]
                clear hW6 f0 f1 f2 f3 fl
                have b0 := HB6.out.cell 0
                have b1 := HB6.out.cell 1
                have b2 := HB6.out.cell 2
                have b3 := HB6.out.cell 3
                have bl := HB6.out.lt
                simp at b0 b1 b2 b3
                go_wp2_with (go_at_call 17; refine (HVC.out).mono ?_; rintro e' w7 ⟨rfl, hx7⟩)
                clear b0 b1 b2 b3 bl
                have HX7' := Lib.hid hx7
                have hb7 := HB6.out.ext hx7 (fun h => h)
                have b0 := hb7.cell 0
                have bl := hb7.lt
                have hbm := HB4.out.ext (HE6.out.trans_ hx7) (fun h => h)
                have z0 := hbm.cell 0
                have zl := hbm.lt
                simp at b0 z0
                obtain ⟨mb, mo, hA', _, e0, e1⟩ := (HRA.out.ext (HE6.out.trans_ hx7)).rd.entAt HEP.out
                subst hA'
                have el := World.block_lt_of_cell? w7 _ e0
                simp only at el
                clear hx7 hb7 hbm
                go_quiet (fail)
                go_wp2_with fail
                go_roundg (gk - 1)
                case rel =>
                  clear hpb hplt' hlt' hplt bl zl el z0 b0 e0 e1 hNlt hnsb hc9 h3b h1b hgl hg9
                  refine ⟨j + 1, p + 1, ?_, Lib.hid ?_, ?_, ?_, Lib.hid (((HXJ.out.trans_ HX6.out).trans_ HX7'.out).drewN _)⟩
                  · have := HJ.out; omega
                  · have := HP.out; omega
                  · rfl
                  · rfl
                case measure => have := HJ.out; omega
              · have hj' : j = nc := by omega
                have hge : ¬ ((j : Int) < (nc : Int)) := by omega
                have hpk : p = k + nc := by rw [HP.out, hj']
                have HREL : Hid (∃ m3, N + 1 + m3 ≤ 360 ∧ Pend v' T m3 (E.drop p) ∧ p ≤ E.length) := Lib.hid (by
                  have h1 := congrArg List.length HE12.out
                  rw [List.length_drop, List.length_append, HE1L.out, ← HNC.out] at h1
                  have hke := HKE.out
                  refine ⟨m2', by have := HNM.out; have := HM2.out; omega, ?_, by omega⟩
                  rw [HT8.out, hpk, ← List.drop_drop, HE12.out, List.drop_append_of_le_length (by rw [HE1L.out, ← HNC.out]; omega), List.drop_of_length_le (by rw [HE1L.out, ← HNC.out]; omega)]
                  exact HPD2.out)
                have HEXJ := Lib.hid (HEXB.out.trans_ HXJ.out)
                have HSJ := Lib.hid (own_ext HS7.out HXJ.out (fun _ _ h => h))
                clear hj hj' hpk q1 ql
                go_wp2_with fail
                go_roundg (G - 1)
                case rel =>
                  obtain ⟨m3, r1, r2, r3⟩ := HREL.out
                  exact ⟨T, N + 1, p, m3, A7, c7, by have := HN.out; have := HNM.out; have := HGE.out; omega, Lib.hid r1, by go_num, rfl, rfl, HSJ, Lib.hid r2, Lib.hid r3, HEXJ⟩
                case measure => have := HN.out; have := HNM.out; have := HGE.out; omega

end Go.Proofs.YtccnemmlkcmceaaGreatDoor

/- The rows' common parts: a world that holds the listed tables; memory below is as it was. -/
set_option linter.unusedVariables false
set_option linter.unusedSimpArgs false
namespace Go.Proofs.YtccnemmlkcmceaaGreatDoor
open Go.RowKit Go.ChangeShapes Go.WideShapes Go.ChangeAt

theorem Tryz.own : ownKnob Tryz.prog.godebug = none := by kernel_rfl
theorem Tryz.laidOut : laidOutB Tryz.prog = true := by kernel_rfl

theorem ext_kept {w w' : World} (h : Ext No w w') (may : MemPlace → Prop) : w.keptBut w' may := by
  refine ⟨h.os, h.output, fun i hi => ?_⟩
  rw [h.block i hi (fun h => h)]
  exact (World.keptBut_refl w may).2.2 i hi

def flat1 : DataW Unit → List Value
  | .lit (.int k n) => [.int k n]
  | _ => []
def flat2 : DataW Unit → List Value
  | .agg l => l.flatMap flat1
  | d => flat1 d
def flat3 : DataW Unit → List Value
  | .agg l => l.flatMap flat2
  | d => flat1 d

def putCells (cs : List Value) : Obj → Obj
  | .cells _ t frozen => .cells cs.toArray t frozen
  | o => o

theorem gHalf : Tryz.prog.globalNamed "aquifer/castagnoli.half" = some 0 := by kernel_rfl
theorem gFirst : Tryz.prog.globalNamed "unicode/utf8.first" = some 2 := by kernel_rfl
theorem gAccept : Tryz.prog.globalNamed "unicode/utf8.acceptRanges" = some 3 := by kernel_rfl

/-- A WORLD FOR THE WITNESS: the settled one, the tables holding what the row lists. -/
noncomputable def laidWorld (os : Os) : World :=
  { World.holding Tryz.prog os ⟨#[], #[], []⟩ with heap := ((((World.holding Tryz.prog os ⟨#[], #[], []⟩).heap.modify 0 (putCells (flat3 Rows.laid_aquifer_castagnoli_half))).modify 2 (putCells (flat3 Rows.laid_unicode_utf8_first))).modify 3 (putCells (flat3 Rows.laid_unicode_utf8_acceptRanges))) }
theorem laid_met (os : Os) (args : Array Value) : laidMet Tryz.prog [("aquifer/castagnoli.half", Rows.laid_aquifer_castagnoli_half), ("unicode/utf8.acceptRanges", Rows.laid_unicode_utf8_acceptRanges), ("unicode/utf8.first", Rows.laid_unicode_utf8_first)] ((laidWorld os).forCall (fun _ _ => 0) ⟨#[], args, []⟩).memory :=
  laidMet_of_run' 8 (by kernel_rfl) (by kernel_rfl)

end Go.Proofs.YtccnemmlkcmceaaGreatDoor

/- The laws' arguments: acts, read out of memory. -/
set_option linter.unusedVariables false
set_option linter.unusedSimpArgs false
namespace Go.Proofs.YtccnemmlkcmceaaGreatDoor
open Go.RowKit Go.ChangeShapes Go.WideShapes Go.ChangeAt

theorem Tryz.cells53 : Tryz.prog.cellsOf 53 = 4 := by kernel_rfl
theorem Tryz.cells3 : Tryz.prog.cellsOf 3 = 1 := by kernel_rfl
theorem Tryz.cells9 : Tryz.prog.cellsOf 9 = 1 := by kernel_rfl

set_option maxRecDepth 100000 in
theorem act_cells {H : Type} {enc : TypeId × Value → H} {W : World} {sp : Nat → Bool} {fuel : Nat} {cs : List Value} {x : DataW H × List MemPlace}
    (h : DataW.trod enc Tryz.prog W 0 sp true fuel 53 cs = some x) : ∃ a : Ac, cs = a.vals ∧ a.fits := by
  obtain ⟨y0, y1, y2, y3, m, hx, hl, h0, h1, h2, h3⟩ := Go.Joins.trod_struct4 (P := Tryz.prog) Tryz.underlying53 h
  obtain ⟨n0, e0, _⟩ := DataW.trod_int (P := Tryz.prog) Tryz.underlying3 h0
  obtain ⟨n1, e1, _, w1⟩ := DataW.trod_int (P := Tryz.prog) Tryz.underlying3 h1
  obtain ⟨s2, e2, _, z2⟩ := DataW.trod_string (P := Tryz.prog) Tryz.underlying9 h2
  obtain ⟨s3, e3, _, z3⟩ := DataW.trod_string (P := Tryz.prog) Tryz.underlying9 h3
  rw [Tryz.cells53] at hl
  refine ⟨⟨n0, n1, s2.data.toList, s3.data.toList⟩, ?_, ?_, ?_, ?_⟩
  · match cs, hl with
    | [a, b, c, d], _ =>
      have q0 : [a] = [Value.int .i64 n0] := by simpa [Value.cells, Tryz.cells3] using e0
      have q1 : [b] = [Value.int .i64 n1] := by simpa [Value.cells, Tryz.cells3] using e1
      have q2 : [c] = [Value.string s2] := by simpa [Value.cells, Tryz.cells9] using e2
      have q3 : [d] = [Value.string s3] := by simpa [Value.cells, Tryz.cells9] using e3
      injection q0 with q0; injection q1 with q1; injection q2 with q2; injection q3 with q3
      subst q0; subst q1; subst q2; subst q3
      simp only [Ac.vals, str_of]
  · simp only [Lit.wf, Bool.and_eq_true, decide_eq_true_eq, IntKind.min, IntKind.max] at w1
    have a' : -(2:Int)^63 ≤ n1 := of_decide_eq_true w1.1
    have b' : n1 ≤ (2:Int)^63 - 1 := of_decide_eq_true w1.2
    exact ⟨a', by show n1 < 2^63; omega⟩
  · have h4 : s3.data.toList.length = s3.size := Array.length_toList
    unfold maxLen at z3
    show s3.data.toList.length < 2 ^ 63
    rw [h4]; omega
  · have h4 : s2.data.toList.length = s2.size := Array.length_toList
    unfold maxLen at z2
    show s2.data.toList.length < 2 ^ 63
    rw [h4]; omega

set_option maxRecDepth 100000 in
theorem act_open' {H : Type} {enc : TypeId × Value → H} {W : World} {base : Nat} {v : Value} {d : DataW H} {p : List MemPlace}
    (hval : Value.okWide Tryz.prog W .any base 53 v) (h : DataW.Trod enc Tryz.prog W 0 (fun _ => true) true 53 v d p) : ∃ a : Ac, v = a.agg ∧ a.fits := by
  obtain ⟨cs, rfl, hsz⟩ := okWide_struct (P := Tryz.prog) Tryz.underlying53 hval
  obtain ⟨fuel, hf⟩ := h
  obtain ⟨a, e, hfit⟩ := act_cells hf
  refine ⟨a, ?_, hfit⟩
  have e' : cs.toList = a.vals := e
  unfold Ac.agg
  congr 1
  rw [← Array.toList_inj, e']
  rfl

theorem acVals_of {w : World} {b o : Nat} {l : List Ac} (h : ∀ i a, l[i]? = some a → ∀ j u, a.vals[j]? = some u → w.cell? ⟨b, o + (i * 4 + j), none⟩ = some u) : ∀ j u, (acVals l)[j]? = some u → w.cell? ⟨b, o + j, none⟩ = some u := by
  intro j u hu
  have hj := (List.getElem?_eq_some_iff.1 hu).1
  rw [acVals_len] at hj
  have hi : j / 4 < l.length := by omega
  have ha : l[j / 4]? = some (l[j / 4]'hi) := List.getElem?_eq_getElem hi
  have hj4 : j % 4 < (l[j / 4]'hi).vals.length := by simp [Ac.vals]; omega
  have h1 := h _ _ ha (j % 4) _ (List.getElem?_eq_getElem hj4)
  have h2 := acVals_at l _ _ ha (j % 4) _ (List.getElem?_eq_getElem hj4)
  rw [show j / 4 * 4 + j % 4 = j by omega] at h1 h2
  rw [hu] at h2
  rw [h1, h2]

theorem list_of_fun {α : Type} {n : Nat} {p : Nat → α → Prop} (h : ∀ i, i < n → ∃ x, p i x) : ∃ l : List α, l.length = n ∧ ∀ i a, l[i]? = some a → p i a := by
  induction n with
  | zero => exact ⟨[], rfl, fun i a h => by cases h⟩
  | succ n ih =>
    obtain ⟨l, h1, h2⟩ := ih (fun i hi => h i (by omega))
    obtain ⟨x, hx⟩ := h n (by omega)
    refine ⟨l ++ [x], by simp [h1], fun i a ha => ?_⟩
    rcases Nat.lt_or_ge i l.length with hi | hi
    · rw [List.getElem?_append_left hi] at ha; exact h2 i a ha
    · rw [List.getElem?_append_right hi] at ha
      have hi' := (List.getElem?_eq_some_iff.1 ha).1
      have : i - l.length = 0 := by simpa using hi'
      rw [this] at ha
      have e : x = a := by simpa using ha
      subst e
      have e2 : i = n := by omega
      rw [e2]; exact hx

set_option maxRecDepth 100000 in
theorem acts_open {H : Type} {enc : TypeId × Value → H} {W : World} {base : Nat} {v : Value} {d : DataW H} {p : List MemPlace}
    (hval : Value.okWide Tryz.prog W .any base 22 v) (h : DataW.Trod enc Tryz.prog W 0 (fun _ => true) true 22 v d p) :
    ∃ (A : Option Addr) (l : List Ac) (c : Nat), v = .slice A l.length c ∧ Rd W (fun b => W.heap.size ≤ b) 4 A l.length (acVals l) ∧ l.length < 2 ^ 63 ∧ ∀ a ∈ l, a.fits := by
  obtain ⟨A0, n0, c0, rfl⟩ := okWide_slice (P := Tryz.prog) Tryz.underlying22 hval
  obtain ⟨fuel, hf⟩ := h
  have hf' : DataW.trod enc Tryz.prog W 0 (fun _ => true) true fuel 22 [.slice A0 n0 c0] = some (d, p) := hf
  rcases Go.Deep.open_slice (P := Tryz.prog) Tryz.underlying22 hf' with ⟨e, _⟩ | ⟨a, len, cap, m, n, D, Pl, e, _, hl, hm, hmm, _, hx⟩
  · injection e with e _
    injection e with e1 e2 e3
    subst e1; subst e2; subst e3
    exact ⟨none, [], 0, rfl, Rd.nil_ _, by decide, by simp⟩
  · injection e with e _
    injection e with e1 e2 e3
    subst e1; subst e2; subst e3
    rw [Tryz.cells53] at hx
    have hlm : n0 ≤ m := by rw [hmm]; split <;> omega
    obtain ⟨l, h1, h2⟩ := list_of_fun (n := n0) (p := fun i (x : Ac) => x.fits ∧ ∀ j u, x.vals[j]? = some u → W.cell? ((a.add (i * 4)).add j) = some u) (fun i hi => by
      obtain ⟨cs', g1, g2⟩ := hx i (by omega)
      obtain ⟨y, rfl, hy⟩ := act_cells g2
      obtain ⟨_, _, g3⟩ := World.cells?_some g1
      refine ⟨y, hy, fun j u hu => ?_⟩
      have hj := (List.getElem?_eq_some_iff.1 hu).1
      rw [g3 j (by simpa [Ac.vals] using hj), hu])
    subst h1
    refine ⟨some a, l, c0, rfl, ⟨acVals_len l, fun hpos => ?_⟩, by unfold maxLen at hm; omega, fun y hy => ?_⟩
    · obtain ⟨x0, hx0⟩ : ∃ x0, l[0]? = some x0 := ⟨_, List.getElem?_eq_getElem hpos⟩
      have hspot : a.spot = none := by
        have := (h2 0 x0 hx0).2 0 _ rfl
        rw [Go.Deep.add_add, Nat.zero_mul, Nat.add_zero] at this
        unfold Addr.add at this
        simp only [if_true] at this
        unfold World.cell? at this
        cases hs : a.spot with
        | none => rfl
        | some _ => rw [hs] at this; split at this <;> simp at this
      obtain ⟨b, o, sp⟩ := a
      simp only at hspot
      subst hspot
      have hall := acVals_of (w := W) (b := b) (o := o) (l := l) (fun i y hy j u hu => by
        have := (h2 i y hy).2 j u hu
        rw [Go.Deep.add_add, Addr.add_none] at this
        exact this)
      refine ⟨b, o, rfl, ?_, hall⟩
      have h3 := (h2 0 x0 hx0).2 0 _ rfl
      rw [Go.Deep.add_add, Addr.add_none] at h3
      have := World.block_lt_of_cell? W _ h3
      simp only at this
      omega
    · obtain ⟨i, hi, e⟩ := List.getElem_of_mem hy
      exact (h2 i y (by rw [List.getElem?_eq_getElem hi, e])).1

end Go.Proofs.YtccnemmlkcmceaaGreatDoor

/- holds; count. -/
set_option linter.unusedVariables false
set_option linter.unusedSimpArgs false
namespace Go.Proofs.YtccnemmlkcmceaaGreatDoor
open Go.RowKit 

theorem get_full (s : Sys) (hs : s.Ok) (w : World) (v : V) (h : TxAt w s v) (hg : v.Good) (gx i : Nat) (hx : Blk w gx 70 (treeCells s i)) (hi : i < 4) (key : Bs) :
    Calls Tryz.prog 23 #[.pointer (some ⟨gx, 0, none⟩), .string (str key)] w fun e w' => e = .returned (.tuple #[.string (str (v.get i key).1), .bool (v.get i key).2.1, .int .i64 ((v.get i key).2.2 : Int)]) ∧ Ext No w w' := by
  refine get_any' s hs w v h hg gx i hx hi key (fun ws c hw hh => value_any' s hs v hg c ?_)
  have hok := way_ok hw
  unfold hit at hh
  split at hh
  · cases hh
  · rename_i st hst
    have hn := (hok.all st (List.mem_of_getLast? hst)).1
    have hf := Nd.Ok.fits (Nd.Ok.of (V.node_ok hn))
    split at hh
    · cases hh
    · rename_i c' hc'
      split at hh
      · injection hh with hh
        subst hh
        exact hf.c _ (List.mem_of_getElem? hc')
      · cases hh

/-- Has a tree just these entries? -/
def heldB (E L : List Ent) : Bool := L.all fun e => E.lookup e.1 == some e.2
theorem heldB_drop {E L : List Ent} {k : Nat} {e : Ent} (he : L[k]? = some e) : heldB E (L.drop k) = ((E.lookup e.1 == some e.2) && heldB E (L.drop (k + 1))) := by
  have hlt := (List.getElem?_eq_some_iff.1 he).1
  rw [List.drop_eq_getElem_cons hlt, (List.getElem?_eq_some_iff.1 he).2]
  rfl

set_option maxRecDepth 100000 in
set_option maxHeartbeats 1600000 in
theorem holds_any (s : Sys) (hs : s.Ok) (w : World) (v : V) (h : TxAt w s v) (hg : v.Good) (gx i : Nat) (hx : Blk w gx 70 (treeCells s i)) (hi : i < 4) (P : List Nat) (E : List Ent) (hT : TreeOf true v i P E)
    (A : Option Addr) (c : Nat) (L : List Ent) (hr : Rd w No 2 A L.length (entVals L)) (hb : L.length < 65536) (hm : ∀ e ∈ L, may e.1 [] = 0) :
    Calls Tryz.prog 29 #[.pointer (some ⟨gx, 0, none⟩), .slice A L.length c] w fun e w' => e = .returned (.bool (heldB E L)) ∧ Ext No w w' := by
  have HG := Lib.hid (fun w' (e : Ext No w w') key (hk : may key [] = 0) => get_told (key := key) hT hk ▸ get_full s hs w' v (h.no hs e) hg gx i (hx.ext e (fun h => h)) hi key)
  have HR := Lib.hid hr
  have HM := Lib.hid hm
  obtain ⟨D, hD⟩ : ∃ D, D = heldB E L := ⟨_, rfl⟩
  rw [← hD]
  clear h hg hx hT hr hm
  go_enter Tryz.func29, Tryz.ntmps29
  go_wp2_with fail
  go_loopg [12] L.length (fun gk i wr => ∃ (k : Nat), k + gk = L.length ∧ i = .int .i64 (k : Int) ∧ Hid (D = heldB E (L.drop k)) ∧ Ext No w wr)
  case atStart => exact ⟨0, by omega, rfl, Lib.hid hD, Ext.refl _ _⟩
  case round =>
    obtain ⟨k, hk, rfl, hd, hE⟩ := hrel
    have HE := Lib.hid hE
    have HK := Lib.hid hk
    by_cases hlt : k < L.length
    · obtain ⟨e, he⟩ : ∃ e, L[k]? = some e := ⟨_, List.getElem?_eq_getElem hlt⟩
      obtain ⟨b, o, rfl, _, k0, k1⟩ := (HR.out.ext hE).entAt he
      have lc := World.block_lt_of_cell? wr _ k0
      simp only at lc
      have hlt' : (k : Int) < (L.length : Int) := by omega
      have hme := HM.out e (List.mem_of_getElem? he)
      have HGK := Lib.hid (HG.out (wr.alloc (.cells #[.string (str e.1), .string (str e.2)] 49)) (hE.alloc _) e.1 hme)
      have hd2 := hd.out.trans (heldB_drop he)
      have HBK := Lib.hid (Blk.new wr 49 #[.string (str e.1), .string (str e.2)])
      have HEA := Lib.hid (hE.alloc (.cells #[.string (str e.1), .string (str e.2)] 49))
      clear hk hE hd hD hme
      obtain ⟨W, hW⟩ : ∃ W, W = wr.alloc (.cells #[.string (str e.1), .string (str e.2)] 49) := ⟨_, rfl⟩
      rw [← hW] at HGK HBK HEA
      cases hq : E.lookup e.1 with
      | none =>
        rw [hq] at HGK hd2
        have HD2 := Lib.hid (show D = false by rw [hd2]; rfl)
        clear hd2 hq
        go_wp2_with fail
        rw [← hW]
        refine (HGK.out).mono ?_
        rintro e' w2 ⟨rfl, hx2⟩
        have hb2 := HBK.out.ext hx2 (fun h => h)
        have c0 := hb2.cell 0
        have c1 := hb2.cell 1
        have cl := hb2.lt
        simp at c0 c1
        have HX2 := Lib.hid hx2
        clear hx2 hb2
        by_cases h0 : e.2 = []
        · rw [h0] at c1
          go_wp2_with fail
          go_ret
          exact ⟨by rw [HD2.out]; rfl, HEA.out.trans_ HX2.out⟩
        · have h1 : (([] : Bs) == e.2) = false := by
            cases h : e.2 with
            | nil => exact absurd h h0
            | cons a b => rfl
          go_wp2_with fail
          go_ret
          exact ⟨by rw [HD2.out]; rfl, HEA.out.trans_ HX2.out⟩
      | some bv =>
        rw [hq] at HGK hd2
        by_cases hbv : bv = e.2
        · subst hbv
          have HD2 := Lib.hid (show D = heldB E (L.drop (k + 1)) by rw [hd2]; simp)
          clear hd2 hq
          go_wp2_with fail
          rw [← hW]
          refine (HGK.out).mono ?_
          rintro e' w2 ⟨rfl, hx2⟩
          have hb2 := HBK.out.ext hx2 (fun h => h)
          have c0 := hb2.cell 0
          have c1 := hb2.cell 1
          have cl := hb2.lt
          simp at c0 c1
          have HX2 := Lib.hid hx2
          clear hx2 hb2
          go_wp2_with fail
          go_roundg (gk - 1)
          case rel => exact ⟨k + 1, by have := HK.out; omega, by go_num, HD2, HEA.out.trans_ HX2.out⟩
          case measure => have := HK.out; omega
        · have HD2 := Lib.hid (show D = false by rw [hd2]; simp [hbv])
          have h1 : (bv == e.2) = false := by simpa using hbv
          clear hd2 hq
          go_wp2_with fail
          rw [← hW]
          refine (HGK.out).mono ?_
          rintro e' w2 ⟨rfl, hx2⟩
          have hb2 := HBK.out.ext hx2 (fun h => h)
          have c0 := hb2.cell 0
          have c1 := hb2.cell 1
          have cl := hb2.lt
          simp at c0 c1
          have HX2 := Lib.hid hx2
          clear hx2 hb2
          go_wp2_with fail
          go_ret
          exact ⟨by rw [HD2.out]; rfl, HEA.out.trans_ HX2.out⟩
    · have hk' : k = L.length := by omega
      have HDF : Hid (D = true) := Lib.hid (by rw [hd.out, hk', List.drop_length]; rfl)
      subst hk'
      clear hd
      go_wp2_with fail
      go_ret
      exact ⟨by rw [HDF.out]; rfl, HE.out⟩

end Go.Proofs.YtccnemmlkcmceaaGreatDoor

/- count. -/
set_option linter.unusedVariables false
set_option linter.unusedSimpArgs false
namespace Go.Proofs.YtccnemmlkcmceaaGreatDoor
open Go.RowKit 

/-- Has a tree of the keys of another list just those of one? -/
def countB (E L O : List Ent) : Bool := O.all fun e => (E.lookup e.1).isSome == (L.lookup e.1).isSome
theorem countB_drop {E L O : List Ent} {k : Nat} {e : Ent} (he : O[k]? = some e) : countB E L (O.drop k) = (((E.lookup e.1).isSome == (L.lookup e.1).isSome) && countB E L (O.drop (k + 1))) := by
  have hlt := (List.getElem?_eq_some_iff.1 he).1
  rw [List.drop_eq_getElem_cons hlt, (List.getElem?_eq_some_iff.1 he).2]
  rfl
theorem refGet_form {E : List Ent} {key : Bs} (hm : may key [] = 0) : ∃ b : Bs, refGet E key = .returned (.tuple #[.string (str b), .bool (E.lookup key).isSome, .int .i64 0]) := by
  unfold refGet
  rw [if_pos hm]
  cases E.lookup key
  · exact ⟨[], rfl⟩
  · exact ⟨_, rfl⟩

set_option maxRecDepth 100000 in
set_option maxHeartbeats 1600000 in
theorem count_any (s : Sys) (hs : s.Ok) (w : World) (v : V) (h : TxAt w s v) (hg : v.Good) (gx i : Nat) (hx : Blk w gx 70 (treeCells s i)) (hi : i < 4) (P : List Nat) (E : List Ent) (hT : TreeOf true v i P E)
    (A : Option Addr) (c : Nat) (L : List Ent) (hr : RefAt w No A c L) (A2 : Option Addr) (c2 : Nat) (O : List Ent) (hr2 : Rd w No 2 A2 O.length (entVals O)) (hb : O.length < 65536) (hm : ∀ e ∈ O, may e.1 [] = 0) :
    Calls Tryz.prog 30 #[.pointer (some ⟨gx, 0, none⟩), .slice A L.length c, .slice A2 O.length c2] w fun e w' => e = .returned (.bool (countB E L O)) ∧ Ext No w w' := by
  have HG : Hid (∀ w' (e : Ext No w w') key (hk : may key [] = 0), ∃ b : Bs, Calls Tryz.prog 23 #[.pointer (some ⟨gx, 0, none⟩), .string (str key)] w' fun e w'' => e = .returned (.tuple #[.string (str b), .bool (E.lookup key).isSome, .int .i64 0]) ∧ Ext No w' w'') := Lib.hid (fun w' e key hk => by
    have h1 := get_full s hs w' v (h.no hs e) hg gx i (hx.ext e (fun h => h)) hi key
    rw [get_told hT hk] at h1
    cases hq : E.lookup key with
    | none => rw [hq] at h1; exact ⟨[], h1⟩
    | some b => rw [hq] at h1; exact ⟨b, h1⟩)
  have HRG : Hid (∀ w' (e : Ext No w w') g key (hk : may key [] = 0), Blk w' g 32 #[.slice A L.length c] → ∃ b : Bs, Calls Tryz.prog 65 #[.pointer (some ⟨g, 0, none⟩), .string (str key)] w' fun e w'' => e = .returned (.tuple #[.string (str b), .bool (L.lookup key).isSome, .int .i64 0]) ∧ w' = w'') := Lib.hid (fun w' e g key hk hb => by
    have h1 := refget_any w' g A c L key hb (hr.ext e)
    obtain ⟨b, hb⟩ := refGet_form (E := L) hk
    rw [hb] at h1
    exact ⟨b, h1⟩)
  have HR := Lib.hid hr2
  have HM := Lib.hid hm
  obtain ⟨D, hD⟩ : ∃ D, D = countB E L O := ⟨_, rfl⟩
  rw [← hD]
  have hb0 := Lib.hid (Blk.new w 32 #[.slice A L.length c])
  have HE0 := Lib.hid ((Ext.refl No w).alloc (.cells #[.slice A L.length c] 32))
  clear h hg hx hT hr hr2 hm
  go_enter Tryz.func30, Tryz.ntmps30
  go_wp2_with fail
  generalize w.alloc (.cells #[.slice A L.length c] 32) = W0 at *
  go_loopg [20] O.length (fun gk i wr => ∃ (k : Nat), k + gk = O.length ∧ i = .int .i64 (k : Int) ∧ Hid (D = countB E L (O.drop k)) ∧ Ext No W0 wr)
  case atStart => exact ⟨0, by omega, rfl, Lib.hid hD, Ext.refl _ _⟩
  case round =>
    obtain ⟨k, hk, rfl, hd, hE⟩ := hrel
    have HE := Lib.hid hE
    have HK := Lib.hid hk
    by_cases hlt : k < O.length
    · obtain ⟨e, he⟩ : ∃ e, O[k]? = some e := ⟨_, List.getElem?_eq_getElem hlt⟩
      obtain ⟨b, o, rfl, _, k0, k1⟩ := (HR.out.ext (HE0.out.trans_ hE)).entAt he
      have lc := World.block_lt_of_cell? wr _ k0
      simp only at lc
      have hlt' : (k : Int) < (O.length : Int) := by omega
      have hme := HM.out e (List.mem_of_getElem? he)
      have HEA := Lib.hid ((HE0.out.trans_ hE).alloc (.cells #[.string (str e.1), .string (str e.2)] 49))
      have HEB := Lib.hid (hE.alloc (.cells #[.string (str e.1), .string (str e.2)] 49))
      obtain ⟨bg, hg1⟩ := HG.out (wr.alloc (.cells #[.string (str e.1), .string (str e.2)] 49)) HEA.out e.1 hme
      have HGK := Lib.hid hg1
      have HD2 := Lib.hid (hd.out.trans (countB_drop he))
      have HBK := Lib.hid (Blk.new wr 49 #[.string (str e.1), .string (str e.2)])
      have HME := Lib.hid hme
      clear hk hE hd hD hg1 hme
      obtain ⟨W, hW⟩ : ∃ W, W = wr.alloc (.cells #[.string (str e.1), .string (str e.2)] 49) := ⟨_, rfl⟩
      rw [← hW] at HGK HBK HEA HEB
      go_wp2_with fail
      rw [← hW]
      refine (HGK.out).mono ?_
      rintro e' w2 ⟨rfl, hx2⟩
      have hb2 := HBK.out.ext hx2 (fun h => h)
      have c0 := hb2.cell 0
      have c1 := hb2.cell 1
      have cl := hb2.lt
      simp at c0 c1
      obtain ⟨bm, hg2⟩ := HRG.out w2 (HEA.out.trans_ hx2) w.heap.size e.1 HME.out ((hb0.out.ext HEB.out (fun h => h)).ext hx2 (fun h => h))
      have HGM := Lib.hid hg2
      have HX2 := Lib.hid hx2
      clear hx2 hb2 hg2
      go_wp2_with fail
      refine (HGM.out).mono ?_
      rintro e' w3 ⟨rfl, rfl⟩
      generalize (E.lookup e.1).isSome = p at *
      generalize (L.lookup e.1).isSome = q at *
      cases p <;> cases q
      · go_wp2_with fail
        go_roundg (gk - 1)
        case rel => exact ⟨k + 1, by have := HK.out; omega, by go_num, HD2, HEB.out.trans_ HX2.out⟩
        case measure => have := HK.out; omega
      · go_wp2_with fail
        go_ret
        exact ⟨by rw [HD2.out]; rfl, HEA.out.trans_ HX2.out⟩
      · go_wp2_with fail
        go_ret
        exact ⟨by rw [HD2.out]; rfl, HEA.out.trans_ HX2.out⟩
      · go_wp2_with fail
        go_roundg (gk - 1)
        case rel => exact ⟨k + 1, by have := HK.out; omega, by go_num, HD2, HEB.out.trans_ HX2.out⟩
        case measure => have := HK.out; omega
    · have hk' : k = O.length := by omega
      have HDF : Hid (D = true) := Lib.hid (by rw [hd.out, hk', List.drop_length]; rfl)
      subst hk'
      clear hd
      go_wp2_with fail
      go_ret
      exact ⟨by rw [HDF.out]; rfl, HE0.out.trans_ HE.out⟩

end Go.Proofs.YtccnemmlkcmceaaGreatDoor

/- BtreeRoots: the walk. -/
set_option linter.unusedVariables false
set_option linter.unusedSimpArgs false
namespace Go.Proofs.YtccnemmlkcmceaaGreatDoor
open Go.RowKit 

theorem heldB_self {E : List Ent} (h : SortedE E) : heldB E E = true := by
  have key : ∀ {F : List Ent}, SortedE F → ∀ e ∈ F, F.lookup e.1 = some e.2 := by
    intro F hF
    induction F with
    | nil => simp
    | cons a F ih =>
      intro e he
      obtain ⟨k, b⟩ := a
      have h1 := List.pairwise_cons.1 hF
      rcases List.mem_cons.1 he with rfl | he
      · simp
      · have h2 := h1.1 e he
        have h3 : (e.1 == k) = false := by
          have := klt_ne h2
          simpa using fun e1 => this e1.symm
        rw [List.lookup_cons, h3]
        exact ih h1.2 e he
  unfold heldB
  rw [List.all_eq_true]
  intro e he
  rw [key h e he]
  simp
theorem countB_self (E O : List Ent) : countB E E O = true := by
  unfold countB
  rw [List.all_eq_true]
  intro e he
  simp
theorem fillE_may (l : List Ac) : ∀ e ∈ fillE l, may e.1 [] = 0 := by
  have key : ∀ (l : List Ac) (E : List Ent), (∀ e ∈ E, may e.1 [] = 0) → ∀ e ∈ l.foldl Ac.step E, may e.1 [] = 0 := by
    intro l
    induction l with
    | nil => exact fun E h => h
    | cons a l ih =>
      intro E h
      refine ih _ ?_
      intro e he
      unfold Ac.step at he
      split at he
      · exact h e (List.mem_filter.1 he).1
      · rcases insE_mem he with rfl | he
        · exact a.key1_may [] (by simp)
        · exact h e he
  exact key l [] (by simp)
theorem One.check {v : V} {root : Nat} {P : List Nat} {E : List Ent} (hT : TreeOf true v root P E) (hp : P.length ≤ 65000) : v.check root = 0 := by
  obtain ⟨d, hd⟩ := survey_done hT hp
  unfold V.check
  rw [hd]
  rfl

set_option maxRecDepth 100000 in
set_option maxHeartbeats 3200000 in
theorem roots_walk (A : Option Addr) (l : List Ac) (c : Nat) (A2 : Option Addr) (l2 : List Ac) (c2 : Nat) (w : World) (hl : Rd w (fun b => w.heap.size ≤ b) 4 A l.length (acVals l)) (hll : l.length < 2^63) (hf : ∀ a ∈ l, a.fits)
    (hl2 : Rd w (fun b => w.heap.size ≤ b) 4 A2 l2.length (acVals l2)) (hll2 : l2.length < 2^63) (hf2 : ∀ a ∈ l2, a.fits) :
    Calls Tryz.prog 5 #[.slice A l.length c, .slice A2 l2.length c2] w fun e w' => e = .returned (.bool true) ∧ Ext No w w' := by
  have HB := Lib.hid (begin_any 400 (by decide) (by decide) w)
  have HW := Lib.hid works_any
  have HL := Lib.hid hl
  have HLL := Lib.hid hll
  have HFT := Lib.hid hf
  have HL2 := Lib.hid hl2
  have HLL2 := Lib.hid hll2
  have HFT2 := Lib.hid hf2
  clear hl hll hf hl2 hll2 hf2
  go_enter Tryz.func5, Tryz.ntmps5
  go_wp2_with fail
  refine (HB.out).mono ?_
  rintro e w1 ⟨s, hF, rfl, hx1, ht, hm, hxx, _⟩
  have HF := Lib.hid hF
  have HS := Lib.hid hF.ok
  have HFF : Hid (∀ b, s.F b → w.heap.size ≤ b) := Lib.hid (fun b hb => by
    rcases hb with rfl | rfl
    · exact ht
    · exact hm)
  have HOF := Lib.hid (of_any (some ⟨s.t, 0, none⟩) 0 (by decide) w1)
  obtain ⟨W2, hW2⟩ : ∃ W2, W2 = w1.alloc (.cells #[.pointer (some ⟨s.t, 0, none⟩), .int .i64 0] 70) := ⟨_, rfl⟩
  have HOF2 := Lib.hid (of_any (some ⟨s.t, 0, none⟩) 2 (by decide) W2)
  obtain ⟨W3, hW3⟩ : ∃ W3, W3 = W2.alloc (.cells #[.pointer (some ⟨s.t, 0, none⟩), .int .i64 2] 70) := ⟨_, rfl⟩
  have HX2 := Lib.hid (show Blk W3 w1.heap.size 70 (treeCells s 0) from hW3 ▸ (hW2 ▸ Blk.new w1 70 _ : Blk W2 w1.heap.size 70 (treeCells s 0)).alloc _)
  have HY2 := Lib.hid (show Blk W3 W2.heap.size 70 (treeCells s 2) from hW3 ▸ Blk.new W2 70 _)
  have HT2 := Lib.hid (show TxAt W3 s v0 from hW3 ▸ hW2 ▸ hF.tx.no hF.ok (((Ext.refl _ _).alloc _).alloc _))
  have HE2 := Lib.hid (show Ext No w W3 from hW3 ▸ hW2 ▸ (hx1.alloc _).alloc _)
  have hcap : s.cap = 400 := hF.cap
  have HCAP := Lib.hid hcap
  have HFILL := Lib.hid (fill_any s hF.ok W3 v0 HT2.out w1.heap.size 0 HX2.out (by decide) [] [] (One.start hF (by decide) (by decide) 0) l A c
    ((HL.out.ext (HE2.out.of_no)).mono (by decide) (fun b _ hb => HFF.out b hb)) HLL.out HFT.out 20 (by rw [hcap]; decide) (by decide))
  have HOFF := Lib.hid (tree_off HT2.out HX2.out)
  have HOFF2 := Lib.hid (tree_off HT2.out HY2.out)
  have hEl : (fillE (l.take 20)).length ≤ 20 := Nat.le_trans (fillE_len _) (by rw [List.length_take]; omega)
  have hEl2 : (fillE (l2.take 20)).length ≤ 20 := Nat.le_trans (fillE_len _) (by rw [List.length_take]; omega)
  have HMY := Lib.hid (fillE_may (l.take 20))
  have HMY2 := Lib.hid (fillE_may (l2.take 20))
  obtain ⟨E, hE⟩ : ∃ E, E = fillE (l.take 20) := ⟨_, rfl⟩
  obtain ⟨E2, hE2⟩ : ∃ E2, E2 = fillE (l2.take 20) := ⟨_, rfl⟩
  rw [← hE] at HFILL hEl HMY
  rw [← hE2] at hEl2 HMY2
  have HEQ2 := Lib.hid hE2
  have HEL := Lib.hid hEl
  have HEL2 := Lib.hid hEl2
  clear hF hx1 ht hm hxx hcap hE hE2 hEl hEl2
  go_wp2_with fail
  refine (HOF.out).mono ?_
  rintro e w2 ⟨rfl, rfl⟩
  rw [show w1.alloc (.cells #[.pointer (some ⟨s.t, 0, none⟩), .int .i64 ((0 : Nat) : Int)] 70) = W2 from hW2.symm]
  clear hW2
  go_wp2_with fail
  refine (HOF2.out).mono ?_
  rintro e w2 ⟨rfl, rfl⟩
  rw [show W2.alloc (.cells #[.pointer (some ⟨s.t, 0, none⟩), .int .i64 ((2 : Nat) : Int)] 70) = W3 from hW3.symm]
  clear hW3
  have HFILL2 : Hid (Calls Tryz.prog 14 #[.pointer (some ⟨w1.heap.size, 0, none⟩), .slice A l.length c, .int .i64 20] W3 (Filled s W3 v0 0 [] [] E)) := Lib.hid HFILL.out
  go_wp2_with fail
  refine (HFILL2.out).mono ?_
  rintro e w3 ⟨⟨v1, P1, A', c', rfl, ht, ho, htr, hra⟩, hx3⟩
  have HO := Lib.hid ho
  obtain ⟨W4, hW4⟩ : ∃ W4, W4 = w3.alloc (.cells #[.slice A' E.length c'] 32) := ⟨_, rfl⟩
  have hx34 : Ext No w3 W4 := hW4 ▸ (Ext.refl _ _).alloc _
  have HE4 : Hid (Ext s.F W3 W4) := Lib.hid (hx3.trans_ hx34.of_no)
  have HT4 := Lib.hid (ht.no HS.out hx34)
  have HY4 := Lib.hid (HY2.out.ext HE4.out HOFF2.out)
  have HB4 := Lib.hid (show Blk W4 w3.heap.size 32 #[.slice A' E.length c'] from hW4 ▸ Blk.new w3 32 _)
  have HRA := Lib.hid (hra.ext hx34.of_no)
  have hpl : P1.length ≤ 6 * E.length := ho.room.2
  have hO2 : One s.cap v1 2 P1 [] [] := ⟨ho.sane, .inl ⟨htr.r 2 (by decide), rfl, rfl⟩, by have := ho.nodup; simpa using this, fun p => by rw [ho.us p]; simp, by simp⟩
  have hw34 := hx3.size
  have HW34 := Lib.hid hw34
  have HFIL2 := Lib.hid (fill_any s HS.out W4 v1 HT4.out W2.heap.size 2 HY4.out (by decide) P1 [] hO2 l2 A2 c2
    (((HL2.out.ext (HE2.out.of_no)).mono (G := s.F) (by decide) (fun b _ hb => HFF.out b hb)).ext HE4.out) HLL2.out HFT2.out 20 (by rw [HCAP.out]; have := HEL.out; omega) (by decide))
  rw [← HEQ2.out] at HFIL2
  have HFIL2 : Hid (Calls Tryz.prog 14 #[.pointer (some ⟨W2.heap.size, 0, none⟩), .slice A2 l2.length c2, .int .i64 20] W4 (Filled s W4 v1 2 P1 [] E2)) := Lib.hid HFIL2.out
  clear ht ho htr hra hx3 hx34 hpl hO2 hw34
  go_wp2_with fail
  rw [← hW4]
  clear hW4
  refine (HFIL2.out).mono ?_
  rintro e w5 ⟨⟨v2, P2, A7, c7, rfl, ht, ho, htr, hra⟩, hx5⟩
  obtain ⟨W6, hW6⟩ : ∃ W6, W6 = w5.alloc (.cells #[.slice A7 E2.length c7] 32) := ⟨_, rfl⟩
  have hx56 : Ext No w5 W6 := hW6 ▸ (Ext.refl _ _).alloc _
  have HE6 : Hid (Ext s.F W4 W6) := Lib.hid (hx5.trans_ hx56.of_no)
  have HT6 := Lib.hid (ht.no HS.out hx56)
  have HX6 := Lib.hid ((HX2.out.ext HE4.out HOFF.out).ext HE6.out HOFF.out)
  have HY6 := Lib.hid (HY4.out.ext HE6.out HOFF2.out)
  have HB6 := Lib.hid (show Blk W6 w5.heap.size 32 #[.slice A7 E2.length c7] from hW6 ▸ Blk.new w5 32 _)
  have HN4 : Hid (∀ b, W3.heap.size ≤ b → ¬ s.F b) := Lib.hid (fun b hb hf => by have := HT2.out.old hf; omega)
  have HB46 := Lib.hid (HB4.out.ext HE6.out (HN4.out _ HW34.out))
  have HRA6 : Hid (RefAt W6 No A' c' E) := Lib.hid (RefAt.mono (G := No) ((RefAt.mono (G := s.F) HRA.out (fun b _ hb => HT2.out.old hb)).ext HE6.out) (fun _ _ h => h.elim))
  have HRB6 : Hid (RefAt W6 No A7 c7 E2) := Lib.hid (RefAt.mono (G := No) (hra.ext hx56.of_no) (fun _ _ h => h.elim))
  have HEND : Hid (∀ w', Ext No W6 w' → Ext No w w') := Lib.hid (fun w' e => HE2.out.trans ((HE4.out.trans_ HE6.out).trans_ e.of_no) (fun i hi hb => by have := HFF.out i hb; omega))
  have HTR1 : Hid (TreeOf true v2 0 P1 E) := Lib.hid (HO.out.tree.kept (htr.r 0 (by decide)) (fun p hp he => htr.kept he (by simp)))
  have HTR2 : Hid (TreeOf true v2 2 P2 E2) := Lib.hid ho.tree
  have hb1 : E.length < 65536 := by have := HEL.out; omega
  have hb2 : E2.length < 65536 := by have := HEL2.out; omega
  have HHX := Lib.hid (fun w' (e : Ext No W6 w') => holds_any s HS.out w' v2 (HT6.out.no HS.out e) ho.sane.1 w1.heap.size 0 (HX6.out.ext e (fun h => h)) (by decide) P1 E HTR1.out A' c' E (HRA6.out.rd.ext e) hb1 HMY.out)
  have HHY := Lib.hid (fun w' (e : Ext No W6 w') => holds_any s HS.out w' v2 (HT6.out.no HS.out e) ho.sane.1 W2.heap.size 2 (HY6.out.ext e (fun h => h)) (by decide) P2 E2 HTR2.out A7 c7 E2 (HRB6.out.rd.ext e) hb2 HMY2.out)
  have HCX := Lib.hid (fun w' (e : Ext No W6 w') => count_any s HS.out w' v2 (HT6.out.no HS.out e) ho.sane.1 w1.heap.size 0 (HX6.out.ext e (fun h => h)) (by decide) P1 E HTR1.out A' c' E (HRA6.out.ext e) A7 c7 E2 (HRB6.out.rd.ext e) hb2 HMY2.out)
  have HCY := Lib.hid (fun w' (e : Ext No W6 w') => count_any s HS.out w' v2 (HT6.out.no HS.out e) ho.sane.1 W2.heap.size 2 (HY6.out.ext e (fun h => h)) (by decide) P2 E2 HTR2.out A7 c7 E2 (HRB6.out.ext e) A' c' E (HRA6.out.rd.ext e) hb1 HMY.out)
  rw [heldB_self HTR1.out.sorted] at HHX
  rw [heldB_self HTR2.out.sorted] at HHY
  rw [countB_self] at HCX HCY
  have hp1 := HO.out.room.2
  have hp2 := ho.room.2
  have HKX := Lib.hid (fun w' (e : Ext No W6 w') => checkt_any s HS.out w' v2 (HT6.out.no HS.out e) ho.sane.1 w1.heap.size 0 (HX6.out.ext e (fun h => h)) (by decide))
  have HKY := Lib.hid (fun w' (e : Ext No W6 w') => checkt_any s HS.out w' v2 (HT6.out.no HS.out e) ho.sane.1 W2.heap.size 2 (HY6.out.ext e (fun h => h)) (by decide))
  rw [One.check HTR1.out (by have := HEL.out; omega)] at HKX
  rw [One.check HTR2.out (by have := HEL2.out; omega)] at HKY
  clear ht ho htr hra hx5 hx56 hb1 hb2 hp1 hp2
  have hb := HB46.out
  have hd := HB6.out
  have b0 := hb.cell 0
  have bl := hb.lt
  have d0 := hd.cell 0
  have dl := hd.lt
  simp at b0 d0
  clear hb hd
  have HEX6 := Lib.hid (Ext.refl No W6)
  go_upto_region 7 with fail
  rw [← hW6]
  clear hW6
  go_wp2_with fail
  refine (HHX.out _ HEX6.out).mono ?_
  rintro e w7x ⟨rfl, hx7⟩
  have HEX7 := Lib.hid (HEX6.out.trans_ hx7)
  clear b0 bl d0 dl
  have hb := HB46.out.ext HEX7.out (fun h => h)
  have hd := HB6.out.ext HEX7.out (fun h => h)
  have b0 := hb.cell 0
  have bl := hb.lt
  have d0 := hd.cell 0
  have dl := hd.lt
  simp at b0 d0
  clear hb hd
  clear hx7
  go_wp2_with fail
  refine (HHY.out _ HEX7.out).mono ?_
  rintro e w8x ⟨rfl, hx8⟩
  have HEX8 := Lib.hid (HEX7.out.trans_ hx8)
  clear b0 bl d0 dl
  have hb := HB46.out.ext HEX8.out (fun h => h)
  have hd := HB6.out.ext HEX8.out (fun h => h)
  have b0 := hb.cell 0
  have bl := hb.lt
  have d0 := hd.cell 0
  have dl := hd.lt
  simp at b0 d0
  clear hb hd
  clear hx8
  go_wp2_with fail
  refine (HCX.out _ HEX8.out).mono ?_
  rintro e w9x ⟨rfl, hx9⟩
  have HEX9 := Lib.hid (HEX8.out.trans_ hx9)
  clear b0 bl d0 dl
  have hb := HB46.out.ext HEX9.out (fun h => h)
  have hd := HB6.out.ext HEX9.out (fun h => h)
  have b0 := hb.cell 0
  have bl := hb.lt
  have d0 := hd.cell 0
  have dl := hd.lt
  simp at b0 d0
  clear hb hd
  clear hx9
  go_wp2_with fail
  refine (HCY.out _ HEX9.out).mono ?_
  rintro e w10x ⟨rfl, hx10⟩
  have HEX10 := Lib.hid (HEX9.out.trans_ hx10)
  clear hx10
  go_wp2_with fail
  refine (HKX.out _ HEX10.out).mono ?_
  rintro e w11x ⟨rfl, hx11⟩
  have HEX11 := Lib.hid (HEX10.out.trans_ hx11)
  clear hx11
  go_wp2_with fail
  refine (HKY.out _ HEX11.out).mono ?_
  rintro e w12x ⟨rfl, hx12⟩
  have HEX12 := Lib.hid (HEX11.out.trans_ hx12)
  clear hx12
  go_wp2_with fail
  refine (HW.out _).mono ?_
  rintro e w9 ⟨rfl, hx9⟩
  go_wp2_with fail
  go_ret
  exact ⟨rfl, HEND.out _ (HEX12.out.trans_ hx9)⟩

end Go.Proofs.YtccnemmlkcmceaaGreatDoor

/- The law of the wild, in plain: a tree that Check lets by is not high, as the pages of a way are unlike. -/
set_option linter.unusedVariables false
set_option linter.unusedSimpArgs false
namespace Go.Proofs.YtccnemmlkcmceaaGreatDoor
open Go.RowKit 

/-- A node's height is told by its page. -/
theorem Sub.det {g : Bool} {v : V} : ∀ {h h' : Nat} {rt rt' : Bool} {id : Nat} {lo lo' hi hi' : Bs} {P P' : List Nat} {E E' : List Ent}, Sub g v h rt id lo hi P E → Sub g v h' rt' id lo' hi' P' E' → h = h'
  | 0, 0, _, _, _, _, _, _, _, _, _, _, _, _, _ => rfl
  | 0, h' + 1, _, _, _, _, _, _, _, _, _, _, _, h1, h2 => by
    obtain ⟨n, Q, a1, a2, a3, a4, a5, _⟩ := h1
    obtain ⟨n', Q', b1, b2, b3, b4, b5, _⟩ := h2
    rw [a1] at b1
    injection b1 with b1
    subst b1
    rw [a5] at b5; cases b5
  | h + 1, 0, _, _, _, _, _, _, _, _, _, _, _, h1, h2 => by
    obtain ⟨n, Q, a1, a2, a3, a4, a5, _⟩ := h1
    obtain ⟨n', Q', b1, b2, b3, b4, b5, _⟩ := h2
    rw [a1] at b1
    injection b1 with b1
    subst b1
    rw [a5] at b5; cases b5
  | h + 1, h' + 1, _, _, _, _, _, _, _, _, _, _, _, h1, h2 => by
    obtain ⟨n, Q, a1, a2, a3, a4, a5, l, a6, a7, a8⟩ := h1
    obtain ⟨n', Q', b1, b2, b3, b4, b5, l', b6, b7, b8⟩ := h2
    rw [a1] at b1
    injection b1 with b1
    subst b1
    have hne := pairs_ne a7
    match l, l', a6, b6, hne, a8, b8 with
    | (k, x) :: l, [], a6, b6, _, _, _ => rw [a6] at b6; cases b6
    | (k, x) :: l, (k', x') :: l', a6, b6, _, a8, b8 =>
      rw [a6] at b6
      have : k = k' := by simpa using (List.cons.inj b6).1
      subst this
      obtain ⟨_, _, _, _, s1, _⟩ := a8
      obtain ⟨_, _, _, _, s2, _⟩ := b8
      rw [Sub.det s1 s2]
/-- A node of each height lies below. -/
theorem Sub.below {g : Bool} {v : V} : ∀ {h : Nat} {rt : Bool} {id : Nat} {lo hi : Bs} {P : List Nat} {E : List Ent}, Sub g v h rt id lo hi P E → ∀ j, j ≤ h → ∃ rt id lo hi P E, Sub g v j rt id lo hi P E
  | 0, rt, id, lo, hi, P, E, hh, j, hj => by
    obtain rfl : j = 0 := by omega
    exact ⟨_, _, _, _, _, _, hh⟩
  | h + 1, rt, id, lo, hi, P, E, hh, j, hj => by
    rcases Nat.lt_or_ge h j with h1 | h1
    · obtain rfl : j = h + 1 := by omega
      exact ⟨_, _, _, _, _, _, hh⟩
    · obtain ⟨n, Q, a1, a2, a3, a4, a5, l, a6, a7, a8⟩ := hh
      have hne := pairs_ne a7
      match l, hne, a8 with
      | (k, x) :: l, _, a8 =>
        obtain ⟨_, _, _, _, s1, _⟩ := a8
        exact Sub.below s1 j h1
theorem Sub.low {g : Bool} {v : V} {h : Nat} {rt : Bool} {id : Nat} {lo hi : Bs} {P : List Nat} {E : List Ent} (hs : Sub g v h rt id lo hi P E) (hv : 1 ≤ v.high) : h + 1 < v.high := by
  have hx : ∀ j, ∃ i, j ≤ h → ∃ rt lo hi P E, Sub g v j rt i lo hi P E := fun j => by
    rcases Nat.lt_or_ge h j with h1 | h1
    · exact ⟨0, fun h2 => by omega⟩
    · obtain ⟨a, b, c, d, e, f, s⟩ := hs.below j h1
      exact ⟨b, fun _ => ⟨a, c, d, e, f, s⟩⟩
  obtain ⟨f, hf⟩ := Classical.axiomOfChoice hx
  have h1 := nodup_lt ((List.range (h + 1)).map f) v.high ?_ ?_ hv
  · simpa using h1
  · rw [List.nodup_iff_pairwise_ne, List.pairwise_map]
    refine (List.nodup_range (n := h + 1)).imp_of_mem ?_
    intro a b ha hb hne e
    have ha' : a ≤ h := by simpa [Nat.lt_succ_iff] using ha
    have hb' : b ≤ h := by simpa [Nat.lt_succ_iff] using hb
    obtain ⟨_, _, _, _, _, s1⟩ := hf a ha'
    obtain ⟨_, _, _, _, _, s2⟩ := hf b hb'
    rw [← e] at s2
    exact hne (Sub.det s1 s2)
  · intro a ha
    obtain ⟨j, hj, rfl⟩ := List.mem_map.1 ha
    have hj' : j ≤ h := by simpa [Nat.lt_succ_iff] using hj
    obtain ⟨_, _, _, _, _, s1⟩ := hf j hj'
    obtain ⟨n, Q, k1, _⟩ := Sub.iff.1 s1
    have := V.err_ok (V.node_us k1)
    exact ⟨this.1, this.2.1⟩

/-- What Check lets by is a tree, where there are few pages. -/
theorem survey_tree {v : V} {root p : Nat} {d : Option Nat} (h : v.survey root = some (p, d)) (h1 : 1 ≤ v.high) (h2 : v.high ≤ 40) : ∃ P E, TreeOf false v root P E := by
  unfold V.survey at h
  split at h
  · rename_i h0
    exact ⟨[], [], .inl ⟨h0, rfl, rfl⟩⟩
  · obtain ⟨h', P, E, e1, _, hs⟩ := look_sound _ _ _ _ _ _ _ _ _ h
    have := hs.low h1
    exact ⟨P, E, .inr ⟨h', by omega, hs.root⟩⟩
/-- Put's error in such a tree. -/
theorem put_wild {cap : Nat} {v : V} {root : Nat} {key val : Bs} {P : List Nat} {E : List Ent} (hg : v.Sane cap) (hT : TreeOf false v root P E) (hm : may key val = 0) : (v.Put cap root key val).1 = 0 ∨ (v.Put cap root key val).1 = 7 := by
  have e : (v.Put cap root key val).1 = (v.put0 cap root key val).1 := by
    unfold V.Put V.sure
    rw [if_neg (by omega)]
    split <;> rfl
  rw [e]
  rcases put0_codes hg hT hm with h1 | ⟨_, h1, _⟩ | ⟨_, h1, _⟩
  · exact .inl h1
  · exact .inr h1
  · exact .inr h1
theorem get_wild {v : V} {root : Nat} {key : Bs} {P : List Nat} {E : List Ent} (hT : TreeOf false v root P E) (hm : may key [] = 0) : (v.get root key).2.2 = 0 := by
  rw [get_told hT hm]
  split <;> rfl

end Go.Proofs.YtccnemmlkcmceaaGreatDoor
