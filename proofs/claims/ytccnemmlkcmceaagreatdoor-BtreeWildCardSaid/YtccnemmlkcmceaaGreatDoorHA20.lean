/- Proofs about the given program, joined out of the texts C4, Z3, Z4, Z5, Z6, Z7, Y4, Y5. -/
import Derived.Test.YtccnemmlkcmceaaGreatDoorHA19
/- fill. -/
set_option linter.unusedVariables false
set_option linter.unusedSimpArgs false
namespace Go.Proofs.YtccnemmlkcmceaaGreatDoor
open Go.RowKit 

theorem str_k (l : Bs) : (⟨#[107]⟩ : ByteArray) ++ str l = str (107 :: l) := str_app [107] l
theorem fill_back {Q : Ending → World → Prop} {a : Act} {w : World} (b : Nat) (cs : Array Value) (hb : Blk w b 32 cs) {v : Value} (hs : some 1 = some cs.size) (hp : a.tmps.getD 6 undef = .pointer (some ⟨b, 0, none⟩)) (h3 : a.tmps.getD 7 undef = v) (hd : a.defers = [])
    (h : Q (.returned (.tuple #[.agg cs, v])) w) : bodyPost Tryz.prog Tryz.f14 Q Exit.ret a w := by
  refine bodyPost_ret (v := .tuple #[.agg cs, v]) (w := w) ?_ hd h
  have hl := run_loadVar_row w b 32 32 cs (0, 0) _ hb Tryz.underlying32 rfl (by rw [← hs]; kernel_rfl)
  rw [results_ct rfl, hp, h3]
  simp [asAddr, Result.andThen, hl]

set_option maxRecDepth 100000 in
set_option maxHeartbeats 1600000 in
theorem fill_any (s : Sys) (hs : s.Ok) (w : World) (v : V) (h : TxAt w s v) (gx i : Nat) (hx : Blk w gx 70 (treeCells s i)) (hi : i < 4) (X P0 : List Nat) (hO : One s.cap v i X P0 []) (l : List Ac) (A : Option Addr) (c : Nat)
    (hl : Rd w s.F 4 A l.length (acVals l)) (hll : l.length < 2^63) (hf : ∀ a ∈ l, a.fits) (most : Nat) (hm : 6 * most + X.length + 15 ≤ s.cap) (hm2 : most ≤ 60) :
    Calls Tryz.prog 14 #[.pointer (some ⟨gx, 0, none⟩), .slice A l.length c, .int .i64 (most : Int)] w (Filled s w v i X P0 (fillE (l.take most))) := by
  have HPUT := Lib.hid (fun w v h hg hx key val => put_full s hs w v h hg gx i hx hi key val)
  have HDEL := Lib.hid (fun w v h hg hx key => del_full s hs w v h hg gx i hx hi key)
  have HT := Lib.hid h
  have HX := Lib.hid hx
  have HL := Lib.hid hl
  have HF := Lib.hid hf
  have HM := Lib.hid hm
  have HS := Lib.hid hs
  have HLL := Lib.hid hll
  have hfill := Lib.hid (show FillAt s w ((w.alloc (.cells #[.slice none 0 0] 32)).alloc (.cells #[.slice none 0 0] 32)) v v i X P0 P0 [] [] none 0 from
    ⟨h.no hs (((Ext.refl _ _).alloc _).alloc _), hO, Tr.refl _ _ _ hO.tree.us, Blk.new_at (b := w.heap.size + 1) (w.alloc _) 32 _ (by simp), ⟨Rd.nil_ _, by simp, fun _ => rfl, by simp⟩, (Blk.new w 32 _).alloc _, ((Ext.refl _ _).alloc _).alloc _⟩)
  have HOFF := Lib.hid (tree_off h hx)
  obtain ⟨D, hD⟩ : ∃ D, D = Filled s w v i X P0 (fillE (l.take most)) := ⟨_, rfl⟩
  rw [← hD]
  have HD := Lib.hid hD
  clear h hx hl hf hm hs hll hO hD
  go_enter Tryz.func14, Tryz.ntmps14
  go_wp2_with fail
  generalize ((w.alloc (.cells #[.slice none 0 0] 32)).alloc (.cells #[.slice none 0 0] 32)) = W0 at *
  go_loopg [9] l.length (fun gk iv wr => ∃ (k : Nat) (v' : V) (P' : List Nat) (A' : Option Addr) (c' : Nat), k + gk = l.length ∧ k ≤ most ∧ iv = .int .i64 (k : Int) ∧ Hid (FillAt s w wr v v' i X P0 P' (fillE (l.take k)) (fillE (l.take k)) A' c'))
  case atStart => exact ⟨0, v, P0, none, 0, by omega, by omega, rfl, hfill⟩
  case round =>
    obtain ⟨k, v', P', A', c', hk, hkm, rfl, HFA⟩ := hrel
    have HK := Lib.hid hk
    have HKM := Lib.hid hkm
    have hll := HLL.out
    by_cases hlt : k < l.length
    · by_cases hlt2 : k < most
      · obtain ⟨a, ha⟩ : ∃ a, l[k]? = some a := ⟨_, List.getElem?_eq_getElem hlt⟩
        obtain ⟨b, o, hA, _, k0, k1, k2, k3⟩ := (HL.out.ext HFA.out.ex).acAt ha
        subst hA
        have lc := World.block_lt_of_cell? wr _ k0
        simp only at lc
        have hlt' : (k : Int) < (l.length : Int) := by omega
        have hlt2' : (k : Int) < (most : Int) := by omega
        have hfa := HF.out a (List.mem_of_getElem? ha)
        have hkl : a.key.length < 2^63 := hfa.2.2
        have hex : (str a.key).extract 0 (min (a.key.length : Int) 130).toNat = str (a.key.take 130) := by
          rw [str_take]
          congr 1
          rw [show (min (a.key.length : Int) 130).toNat = min 130 a.key.length by omega, ← List.take_take, List.take_length]
        have hcat : (⟨#[107]⟩ : ByteArray) ++ str (a.key.take 130) = str a.key1 := str_k _
        have hks := str_size a.key
        have HVAL := Lib.hid (fun w => value_walk a hfa.1 hfa.2.1 w)
        have hst : fillE (l.take (k + 1)) = a.step (fillE (l.take k)) := by
          rw [List.take_add_one, ha]; exact fillE_snoc _ _
        have hEl : (fillE (l.take k)).length ≤ k := Nat.le_trans (fillE_len _) (by rw [List.length_take]; omega)
        obtain ⟨E, hE⟩ : ∃ E, E = fillE (l.take k) := ⟨_, rfl⟩
        rw [← hE] at HFA hst hEl
        have HST := Lib.hid hst
        have HEL := Lib.hid hEl
        have HSO := Lib.hid (HFA.out.one.sorted)
        have hstl : 6 * E.length + X.length + 15 ≤ s.cap := by have := HM.out; omega
        have HROOM := Lib.hid (show E.length < 100 ∧ 6 * E.length + X.length + 15 ≤ s.cap from ⟨by omega, hstl⟩)
        have hcells : Ac.agg a = .agg #[.int .i64 a.kind, .int .i64 a.n, .string (str a.key), .string (str a.val)] := rfl
        obtain ⟨W, hW⟩ : ∃ W, W = wr.alloc (.cells #[.int .i64 a.kind, .int .i64 a.n, .string (str a.key), .string (str a.val)] 53) := ⟨_, rfl⟩
        have HEW := Lib.hid (show Ext No wr W from hW ▸ (Ext.refl _ _).alloc _)
        have HBW := Lib.hid (show Blk W wr.heap.size 53 #[.int .i64 a.kind, .int .i64 a.n, .string (str a.key), .string (str a.val)] from hW ▸ Blk.new wr 53 _)
        have HFW := Lib.hid (HFA.out.no HS.out HEW.out)
        have hwr := HFA.out.ex.size
        have HWR := Lib.hid hwr
        by_cases hk2 : a.kind = 2
        · have hmay := a.key1_may [] (by simp)
          obtain ⟨d1, d2, P2, d3, d4⟩ := HFW.out.one.del hmay HROOM.out.1 HROOM.out.2
          obtain ⟨bb, hbb⟩ : ∃ bb, bb = decide ((del a.key1 E).length < E.length) := ⟨_, rfl⟩
          have HDE : Hid (Calls Tryz.prog 27 #[.pointer (some ⟨gx, 0, none⟩), .string (str a.key1)] W fun e w2 => e = .returned (.tuple #[.bool bb, .int .i64 0]) ∧ Hid (FillAt s w w2 v (v'.Del s.cap i a.key1).2.2 i X P0 P2 (del a.key1 E) E A' c')) := Lib.hid (by
            refine (HDEL.out W v' HFW.out.tx HFW.out.one.sane.1 (HX.out.ext HFW.out.ex HOFF.out) a.key1).mono ?_
            rintro e w2 ⟨h1, h2, _, h3⟩
            rw [d1, d2, ← hbb] at h1
            exact ⟨h1, Lib.hid (HFW.out.tree HT.out h2 h3 d3 d4)⟩)
          have HRD : Hid (∀ w2, FillAt s w w2 v (v'.Del s.cap i a.key1).2.2 i X P0 P2 (del a.key1 E) E A' c' → Calls Tryz.prog 37 #[.pointer (some ⟨w.heap.size + 1, 0, none⟩), .string (str a.key1)] w2 fun e w3 => e = .returned (.tuple #[.bool bb, .int .i64 0]) ∧ Hid (∃ A3 c3, FillAt s w w3 v (v'.Del s.cap i a.key1).2.2 i X P0 P2 (del a.key1 E) (del a.key1 E) A3 c3)) := Lib.hid (by
            intro w2 hf2
            refine (refdel_any w2 (w.heap.size + 1) A' c' E a.key1 hf2.bm (hf2.ra.mono (fun _ _ h => h.elim)) hmay).mono ?_
            intro e w3 hd
            rw [← hbb] at hd
            exact ⟨hd.e, Lib.hid (hf2.map HS.out HT.out hd)⟩)
          have HSTP : Hid (fillE (l.take (k + 1)) = del a.key1 E) := Lib.hid (by rw [HST.out]; unfold Ac.step; rw [if_pos hk2])
          rw [hk2] at hW
          clear hk hkm hfa hst hEl hmay d1 d2 d3 d4 hbb hE hwr hstl
          go_wp2_with fail
          rw [← hW]
          refine (HDE.out).mono ?_
          rintro e w2 ⟨rfl, HFB⟩
          go_wp2_with fail
          refine (HRD.out _ HFB.out).mono ?_
          rintro e w3 ⟨rfl, HFC⟩
          clear HFB HDE HRD k0 k1 k2 k3 lc hW
          cases bb
          · go_wp2_with fail
            go_roundg (gk - 1)
            case rel =>
              obtain ⟨A3, c3, h3⟩ := HFC.out
              exact ⟨k + 1, _, P2, A3, c3, by have := HK.out; omega, by omega, by go_num, Lib.hid (by rw [HSTP.out]; exact h3)⟩
            case measure => have := HK.out; omega
          · go_wp2_with fail
            go_roundg (gk - 1)
            case rel =>
              obtain ⟨A3, c3, h3⟩ := HFC.out
              exact ⟨k + 1, _, P2, A3, c3, by have := HK.out; omega, by omega, by go_num, Lib.hid (by rw [HSTP.out]; exact h3)⟩
            case measure => have := HK.out; omega
        · have hvl := a.value_le
          have hmay := a.key1_may a.value hvl
          obtain ⟨d1, P2, d3, d4⟩ := HFW.out.one.put hmay hvl HROOM.out.1 HROOM.out.2
          have hins : rput a.key1 a.value false E = ins a.key1 a.value E := rput_ins _ _ _ HSO.out
          have HVW : Hid (∀ w1, Calls Tryz.prog 26 #[.agg #[.int .i64 a.kind, .int .i64 a.n, .string (str a.key), .string (str a.val)]] w1 fun e w' => e = .returned (.string (str a.value)) ∧ Ext No w1 w') := Lib.hid (fun w1 => HVAL.out w1)
          have HDE : Hid (∀ w1, Ext No W w1 → Calls Tryz.prog 25 #[.pointer (some ⟨gx, 0, none⟩), .string (str a.key1), .string (str a.value)] w1 fun e w2 => e = .returned (.int .i64 0) ∧ Hid (Blk w2 wr.heap.size 53 #[.int .i64 a.kind, .int .i64 a.n, .string (str a.key), .string (str a.val)]) ∧ Hid (FillAt s w w2 v (v'.Put s.cap i a.key1 a.value).2 i X P0 P2 (ins a.key1 a.value E) E A' c')) := Lib.hid (by
            intro w1 e1
            have hf1 := HFW.out.no HS.out e1
            refine (HPUT.out w1 v' hf1.tx hf1.one.sane.1 (HX.out.ext hf1.ex HOFF.out) a.key1 a.value).mono ?_
            rintro e w2 ⟨h1, h2, _, h3⟩
            rw [d1] at h1
            refine ⟨h1, Lib.hid ((HBW.out.ext e1 (fun h => h)).ext h3 (fun hf => by have := HT.out.old hf; have := HWR.out; omega)), Lib.hid (hf1.tree HT.out h2 h3 d3 d4)⟩)
          have HRD : Hid (∀ w2, FillAt s w w2 v (v'.Put s.cap i a.key1 a.value).2 i X P0 P2 (ins a.key1 a.value E) E A' c' → Calls Tryz.prog 38 #[.pointer (some ⟨w.heap.size + 1, 0, none⟩), .string (str a.key1), .string (str a.value)] w2 fun e w3 => e = .returned (.int .i64 0) ∧ Hid (∃ A3 c3, FillAt s w w3 v (v'.Put s.cap i a.key1 a.value).2 i X P0 P2 (ins a.key1 a.value E) (ins a.key1 a.value E) A3 c3)) := Lib.hid (by
            intro w2 hf2
            refine (refput_any w2 (w.heap.size + 1) A' c' E a.key1 a.value hf2.bm (hf2.ra.mono (fun _ _ h => h.elim)) (by have := HROOM.out.1; omega) hmay).mono ?_
            intro e w3 hd
            rw [hins] at hd
            exact ⟨hd.e, Lib.hid (hf2.map HS.out HT.out hd)⟩)
          have HSTP : Hid (fillE (l.take (k + 1)) = ins a.key1 a.value E) := Lib.hid (by rw [HST.out]; unfold Ac.step; rw [if_neg hk2])
          have hk2' : (a.kind == 2) = false := by simpa using hk2
          clear hk hkm hfa hst hEl hmay d1 d3 d4 hE hwr hstl hvl hins
          go_wp2_with fail
          rw [← hW]
          refine (HVW.out _).mono ?_
          rintro e w1 ⟨rfl, hx1⟩
          have HX1 := Lib.hid hx1
          clear hx1
          go_wp2_with fail
          refine (HDE.out _ HX1.out).mono ?_
          rintro e w2 ⟨rfl, HB2, HFB⟩
          have b0 := HB2.out.cell 0
          have b1 := HB2.out.cell 1
          have b2 := HB2.out.cell 2
          have b3 := HB2.out.cell 3
          have bl := HB2.out.lt
          simp at b0 b1 b2 b3
          clear k0 k1 k2 k3 lc hW HDE
          go_wp2_with fail
          refine (HVW.out _).mono ?_
          rintro e w3 ⟨rfl, hx3⟩
          have HFB3 := Lib.hid (HFB.out.no HS.out hx3)
          clear hx3 HFB
          go_wp2_with fail
          refine (HRD.out _ HFB3.out).mono ?_
          rintro e w4 ⟨rfl, HFC⟩
          go_wp2_with fail
          go_roundg (gk - 1)
          case rel =>
            obtain ⟨A3, c3, h3⟩ := HFC.out
            exact ⟨k + 1, _, P2, A3, c3, by have := HK.out; omega, by omega, by go_num, Lib.hid (by rw [HSTP.out]; exact h3)⟩
          case measure => have := HK.out; omega
      · have hkm' : k = most := by omega
        have hge : ¬ ((k : Int) < (most : Int)) := by omega
        have hlt' : (k : Int) < (l.length : Int) := by omega
        have hE : l.take k = l.take most := by rw [hkm']
        rw [hE] at HFA
        have c0 := HFA.out.bm.cell 0
        have cl := HFA.out.bm.lt
        have rl := HFA.out.br.lt
        have rf := HFA.out.br.frozen 0
        have r0 := HFA.out.br.cell 0
        simp at c0 r0
        have HRES := Lib.hid (HFA.out.br.set_ 0 (.slice A' (fillE (l.take most)).length c'))
        have HFIN : Hid (D (.returned (.tuple #[.agg #[.slice A' (fillE (l.take most)).length c'], .bool true])) (wr.setCell ⟨w.heap.size, 0, none⟩ (.slice A' (fillE (l.take most)).length c'))) := Lib.hid (by
          rw [HD.out]
          have hx2 : Ext No w (wr.setCell ⟨w.heap.size, 0, none⟩ (.slice A' (fillE (l.take most)).length c')) → True := fun _ => trivial
          have hloc : Ext (On w.heap.size) wr (wr.setCell ⟨w.heap.size, 0, none⟩ (.slice A' (fillE (l.take most)).length c')) := Ext.setF (F := On w.heap.size) (Ext.refl _ _) (b := w.heap.size) (show On w.heap.size w.heap.size from rfl) _ _
          have hex2 : Ext s.F w (wr.setCell ⟨w.heap.size, 0, none⟩ (.slice A' (fillE (l.take most)).length c')) := HFA.out.ex.trans hloc (fun b hb he => by have : b = w.heap.size := he; omega)
          refine ⟨⟨v', P', A', c', rfl, HFA.out.tx.local_ hloc (fun he => ?_) (fun he => ?_) (HS.out.keep _ _ hex2 HT.out.db), HFA.out.one, HFA.out.tr, ?_⟩, hex2⟩
          · have h1 : s.t = w.heap.size := he
            have := HT.out.old (b := s.t) (.inl rfl); omega
          · have h1 : s.m = w.heap.size := he
            have := HT.out.old (b := s.m) (.inr rfl); omega
          · exact (HFA.out.ra.ext (hloc.mono fun b _ he => by have h1 : b = w.heap.size := he; show b < w.heap.size + 2; omega)).mono (fun b _ hb => by have h1 : b < w.heap.size := hb; show b < w.heap.size + 2; omega))
        clear hk hkm hkm' hE HFA
        go_wp2_with fail
        refine fill_back _ _ HRES.out rfl (by rfl) (by rfl) (by rfl) ?_
        exact HFIN.out
    · have hkm' : l.take k = l.take most := by rw [List.take_of_length_le (by omega), List.take_of_length_le (by omega)]
      have hge : ¬ ((k : Int) < (l.length : Int)) := by omega
      have hE := hkm'
      rw [hE] at HFA
      have c0 := HFA.out.bm.cell 0
      have cl := HFA.out.bm.lt
      have rl := HFA.out.br.lt
      have rf := HFA.out.br.frozen 0
      have r0 := HFA.out.br.cell 0
      simp at c0 r0
      have HRES := Lib.hid (HFA.out.br.set_ 0 (.slice A' (fillE (l.take most)).length c'))
      have HFIN : Hid (D (.returned (.tuple #[.agg #[.slice A' (fillE (l.take most)).length c'], .bool true])) (wr.setCell ⟨w.heap.size, 0, none⟩ (.slice A' (fillE (l.take most)).length c'))) := Lib.hid (by
        rw [HD.out]
        have hx2 : Ext No w (wr.setCell ⟨w.heap.size, 0, none⟩ (.slice A' (fillE (l.take most)).length c')) → True := fun _ => trivial
        have hloc : Ext (On w.heap.size) wr (wr.setCell ⟨w.heap.size, 0, none⟩ (.slice A' (fillE (l.take most)).length c')) := Ext.setF (F := On w.heap.size) (Ext.refl _ _) (b := w.heap.size) (show On w.heap.size w.heap.size from rfl) _ _
        have hex2 : Ext s.F w (wr.setCell ⟨w.heap.size, 0, none⟩ (.slice A' (fillE (l.take most)).length c')) := HFA.out.ex.trans hloc (fun b hb he => by have : b = w.heap.size := he; omega)
        refine ⟨⟨v', P', A', c', rfl, HFA.out.tx.local_ hloc (fun he => ?_) (fun he => ?_) (HS.out.keep _ _ hex2 HT.out.db), HFA.out.one, HFA.out.tr, ?_⟩, hex2⟩
        · have h1 : s.t = w.heap.size := he
          have := HT.out.old (b := s.t) (.inl rfl); omega
        · have h1 : s.m = w.heap.size := he
          have := HT.out.old (b := s.m) (.inr rfl); omega
        · exact (HFA.out.ra.ext (hloc.mono fun b _ he => by have h1 : b = w.heap.size := he; show b < w.heap.size + 2; omega)).mono (fun b _ hb => by have h1 : b < w.heap.size := hb; show b < w.heap.size + 2; omega))
      clear hk hkm hkm' hE HFA
      go_wp2_with fail
      refine fill_back _ _ HRES.out rfl (by rfl) (by rfl) (by rfl) ?_
      exact HFIN.out

end Go.Proofs.YtccnemmlkcmceaaGreatDoor

/- The log on a new disk; its records: none. -/
set_option linter.unusedVariables false
set_option linter.unusedSimpArgs false
namespace Go.Proofs.YtccnemmlkcmceaaGreatDoor
open Go.RowKit 

theorem repeat_zs (n : Nat) : (⟨(Lib.repeatL [0] n).toArray⟩ : ByteArray) = str (zs n) := by
  induction n with
  | zero => rfl
  | succ n ih =>
    have h := congrArg (fun s : ByteArray => s.data.toList) ih
    simp only [str] at h ⊢
    congr 1
    simp only [Lib.repeatL, zs, List.replicate_succ] at h ⊢
    simp at h ⊢
    exact h

def logCells (d n : Nat) : Array Value := #[.pointer (some ⟨d, 0, none⟩), .int .i64 0, .int .i64 (n : Int), .int .i64 0, .slice none 0 0, .slice none 0 0, .slice none 0 0, .bool false]

set_option maxRecDepth 100000 in
set_option maxHeartbeats 800000 in
theorem wal_new (d kb n m : Nat) (hm : 2 ≤ m) (hmn : m ≤ n) (hn : n ≤ 65536) (w : World) (h : Blk w d 140 (diskCells kb n)) (hk : Blk w kb 142 (madeCells zero64 (n * 64))) :
    Calls Tryz.prog 80 #[.pointer (some ⟨d, 0, none⟩), .int .i64 0, .int .i64 (m : Int)] w fun e w' => e = .returned (.tuple #[.pointer (some ⟨w.heap.size, 0, none⟩), .int .i64 0]) ∧
      Blk w' w.heap.size 179 (logCells d m) ∧ Ext No w w' := by
  have c0 := h.cell 0
  have c2 := h.cell 2
  simp [diskCells] at c0 c2
  have HD := Lib.hid h; have HK := Lib.hid hk
  have HS := Lib.hid (fun w c0 => dsize_any d n ⟨kb, 0, none⟩ w c0 (by omega))
  have HW := Lib.hid (fun w c0 c2 => ddown_any d n ⟨kb, 0, none⟩ w false c0 (by omega) c2)
  have HR := Lib.hid (fun w h hk => disk_read d kb n 0 (by omega) hn w h hk)
  have HP := Lib.hid (fun w => Tryz.strings_Repeat ⟨#[0]⟩ 64 w (by omega) (by show 1 * 64 ≤ _; omega))
  have hrep : (⟨(Lib.repeatL (⟨#[0]⟩ : ByteArray).data.toList 64).toArray⟩ : ByteArray) = str (zs 64) := repeat_zs 64
  rw [hrep] at HP
  obtain ⟨z, hz⟩ : ∃ z, z = str (zs 64) := ⟨_, rfl⟩
  rw [← hz] at HR HP
  have g1 : ¬ ((m : Int) < 2) := by omega
  have g2 : ¬ ((n : Int) < m) := by omega
  have g3 : ((n : Int) == 0) = false := by simpa using (by omega : ¬ (n : Int) = 0)
  have g4 : ¬ ((n : Int) < 0) := by omega
  have hlt := h.lt
  clear h hk hrep hz
  go_enter Tryz.func80, Tryz.ntmps80
  go_wp2_with (first | (go_at_call 93; refine (HS.out _ c0).mono ?_; rintro e w' ⟨rfl, rfl⟩) | (go_at_call 40; refine (HW.out _ c0 c2).mono ?_; rintro e w' ⟨rfl, rfl⟩))
  have hb := Blk.new w 179 (logCells d m)
  refine (HR.out _ (HD.out.alloc _) (HK.out.alloc _)).mono ?_
  rintro e w1 ⟨rfl, hx1⟩
  have hb1 := hb.ext hx1 (fun h => h)
  go_wp2_with fail
  refine (HP.out _).mono ?_
  rintro e w2 ⟨rfl, hx2⟩
  have hx2' := Ext.of_below hx2 No
  have hb2 := hb1.ext hx2' (fun h => h)
  go_wp2_with fail
  go_ret2
  exact ⟨rfl, hb2, (((Ext.refl No w).alloc _).trans_ hx1).trans_ hx2'⟩

end Go.Proofs.YtccnemmlkcmceaaGreatDoor

/- The database on a new disk. -/
set_option linter.unusedVariables false
set_option linter.unusedSimpArgs false
namespace Go.Proofs.YtccnemmlkcmceaaGreatDoor
open Go.RowKit 

theorem log_none (l d m : Nat) (w : World) (h : Blk w l 179 (logCells d m)) :
    Calls Tryz.prog 109 #[.pointer (some ⟨l, 0, none⟩)] w fun e w' => e = .returned (.bool false) ∧ w = w' := by
  have c0 := h.cell 0
  simp [logCells] at c0
  go_enter Tryz.func109, Tryz.ntmps109
  go_wp2
  go_ret
  exact ⟨rfl, rfl⟩

set_option maxHeartbeats 400000 in
theorem log_records (l d m : Nat) (w : World) (h : Blk w l 179 (logCells d m)) :
    Calls Tryz.prog 81 #[.pointer (some ⟨l, 0, none⟩)] w fun e w' => e = .returned (.slice none 0 0) ∧ Ext No w w' := by
  have HN := Lib.hid (log_none l d m w h)
  have HC := Lib.hid (fun w => Tryz.slices_Clone_nil_f124 0 0 w)
  have c5 := h.cell 5
  simp [logCells] at c5
  clear h
  go_enter Tryz.func81, Tryz.ntmps81
  go_wp2_with fail
  refine (HN.out).mono ?_
  rintro e w1 ⟨rfl, rfl⟩
  go_wp2_with fail
  refine (HC.out _).mono ?_
  rintro e w2 ⟨rfl, rfl⟩
  go_wp2_with fail
  go_ret
  exact ⟨rfl, Ext.refl _ _⟩

/-- The database's cells. -/
def dbCells (d l log high : Nat) (o : Option Addr) : Array Value :=
  #[.pointer (some ⟨d, 0, none⟩), .pointer (some ⟨l, 0, none⟩), .int .i64 (log : Int), .int .i64 0, .int .i64 0, .int .i64 0, .int .i64 0, .int .i64 (high : Int), .int .i64 0, .int .i64 0, .pointer o, .bool false]

set_option maxHeartbeats 400000 in
theorem db_settle (x d l m log high : Nat) (o : Option Addr) (w : World) (h : Blk w l 179 (logCells d m)) (hx : Blk w x 131 (dbCells d l log high o)) :
    Calls Tryz.prog 70 #[.pointer (some ⟨x, 0, none⟩)] w fun e w' => e = .returned (.int .i64 0) ∧ Ext No w w' := by
  have HR := Lib.hid (log_records l d m w h)
  have c1 := hx.cell 1
  simp [dbCells] at c1
  clear h hx
  go_enter Tryz.func70, Tryz.ntmps70
  go_wp2_with fail
  refine (HR.out).mono ?_
  rintro e w1 ⟨rfl, hx1⟩
  go_wp2_with fail
  go_ret
  exact ⟨rfl, hx1⟩

theorem trim_zs (n : Nat) : Lib.trimB (zs n) 0 = [] := by simp [Lib.trimB, Lib.trimLeftB, Lib.trimRightB, zs]

set_option maxHeartbeats 400000 in
theorem blank_zs (w : World) :
    Calls Tryz.prog 84 #[.string (str (zs 512))] w fun e w' => e = .returned (.bool true) ∧ Ext No w w' := by
  have hsz : (str (zs 512)).size = 512 := by rw [str_size, zs_len]
  have HT := Lib.hid (fun w => Tryz.strings_Trim_one (str (zs 512)) 0 (by decide) w (by omega))
  have ht : (⟨(Lib.trimB (str (zs 512)).data.toList 0).toArray⟩ : ByteArray) = str [] := by rw [str_toList, trim_zs]; rfl
  rw [ht] at HT
  obtain ⟨z, hz⟩ : ∃ z, z = str (zs 512) := ⟨_, rfl⟩
  rw [← hz] at HT hsz ⊢
  clear hz ht
  go_enter Tryz.func84, Tryz.ntmps84
  go_wp2_with fail
  refine (HT.out _).mono ?_
  rintro e w1 ⟨rfl, hw⟩
  have hE : Ext No w w1 := by
    rcases hw with rfl | rfl
    · exact Ext.refl _ _
    · exact (Ext.refl _ _).drew
  simp only [str]
  go_wp2_with fail
  go_ret
  exact ⟨rfl, hE⟩

set_option maxHeartbeats 400000 in
theorem db_count (x d kb n log : Nat) (w : World) (x0 : w.cell? ⟨x, 0, none⟩ = some (.pointer (some ⟨d, 0, none⟩))) (x2 : w.cell? ⟨x, 2, none⟩ = some (.int .i64 (log : Int)))
    (h : Blk w d 140 (diskCells kb n)) (h1 : 1 ≤ n) (hn : n ≤ 65536) (hl : log ≤ n) :
    Calls Tryz.prog 56 #[.pointer (some ⟨x, 0, none⟩)] w fun e w' => e = .returned (.int .i64 (((n - log) / 8 : Nat) : Int)) ∧ ∃ k, w' = w.drewN k := by
  have HD := Lib.hid h
  have g1 : (0 : Int) ≤ (n : Int) - log := by omega
  go_enter Tryz.func56, Tryz.ntmps56
  go_wp2_with (go_at_call 76; refine (xnone_no x d _ x0).mono ?_; rintro e w' ⟨rfl, rfl⟩)
  go_quiet ((go_at_call 93; exact Calls.quiet_of_same ((dsize_any d n ⟨kb, 0, none⟩ _ (by exact HD.out.cell 0) h1).mono fun _ _ ⟨h1, h2⟩ => ⟨h1, h2.symm⟩)))
  go_wp2
  go_ret
  exact ⟨ret_int (by omega), _, rfl⟩

end Go.Proofs.YtccnemmlkcmceaaGreatDoor

/- The database on a new disk: Open, Begin. -/
set_option linter.unusedVariables false
set_option linter.unusedSimpArgs false
namespace Go.Proofs.YtccnemmlkcmceaaGreatDoor
open Go.RowKit 

/-- A database on a new disk. -/
structure NewDb (w : World) (kb d l x n log : Nat) (o : Option Addr) : Prop where
  kept : Blk w kb 142 (madeCells zero64 (n * 64))
  disk : Blk w d 140 (diskCells kb n)
  wal : Blk w l 179 (logCells d log)
  db : Blk w x 131 (dbCells d l log 1 o)

set_option maxRecDepth 100000 in
set_option maxHeartbeats 800000 in
theorem db_open (d kb n log : Nat) (w : World) (h : Blk w d 140 (diskCells kb n)) (hk : Blk w kb 142 (madeCells zero64 (n * 64))) (hn : n ≤ 65536) (hl : 2 ≤ log) (hln : log + 32 ≤ n) :
    Calls Tryz.prog 43 #[.pointer (some ⟨d, 0, none⟩), .int .i64 (log : Int)] w fun e w' => ∃ l x, e = .returned (.tuple #[.pointer (some ⟨x, 0, none⟩), .int .i64 0]) ∧ NewDb w' kb d l x n log none ∧ Ext No w w' ∧ w.heap.size ≤ x := by
  have HD := Lib.hid h; have HK := Lib.hid hk
  have HW := Lib.hid (wal_new d kb n log hl (by omega) hn w h hk)
  have g1 : ¬ ((((n - log) / 8 : Nat) : Int) < 4) := by omega
  generalize hcn : (n - log) / 8 = cn at g1
  have HCN := Lib.hid hcn
  clear h hk hcn
  go_enter Tryz.func43, Tryz.ntmps43
  go_wp2_with fail
  refine (HW.out).mono ?_
  rintro e w1 ⟨rfl, hb1, hx1⟩
  have HB1 := Lib.hid hb1
  have HX1 := Lib.hid hx1
  have hx2 : Ext No w1 (w1.alloc (.cells (dbCells d w.heap.size log 0 none) 131)) := (Ext.refl No w1).alloc _
  have hb2 := Blk.new w1 131 (dbCells d w.heap.size log 0 none)
  have hl2 := hb1.ext hx2 (fun h => h)
  have hd2 := (HD.out.ext hx1 (fun h => h)).ext hx2 (fun h => h)
  have hk2 := (HK.out.ext hx1 (fun h => h)).ext hx2 (fun h => h)
  have HC := Lib.hid (db_count w1.heap.size d kb n log _ (hb2.cell 0) (hb2.cell 2) hd2 (by omega) hn (by omega))
  rw [HCN.out] at HC
  have HB2 := Lib.hid hb2; have HL2 := Lib.hid hl2; have HD2 := Lib.hid hd2; have HK2 := Lib.hid hk2; have HX2 := Lib.hid hx2
  clear hb1 hx1 hx2 hb2 hl2 hd2 hk2
  go_wp2_with fail
  refine (HC.out).mono ?_
  rintro e w3 ⟨rfl, k, hw3⟩
  have hx3 : Ext No (w1.alloc (.cells (dbCells d w.heap.size log 0 none) 131)) w3 := by rw [hw3]; exact (Ext.refl No _).drewN k
  have HX3 := Lib.hid hx3
  have HR := Lib.hid (log_records w.heap.size d log w3 (HL2.out.ext hx3 (fun h => h)))
  clear hw3 hx3
  go_wp2_with fail
  refine (HR.out).mono ?_
  rintro e w4 ⟨rfl, hx4⟩
  have HX4 := Lib.hid ((HX2.out.trans_ HX3.out).trans_ hx4)
  have hb4 := HB2.out.ext (HX3.out.trans_ hx4) (fun h => h)
  have HB4 := Lib.hid hb4
  have hl4 := Lib.hid (HL2.out.ext (HX3.out.trans_ hx4) (fun h => h))
  have hd4 := Lib.hid (HD2.out.ext (HX3.out.trans_ hx4) (fun h => h))
  have hk4 := Lib.hid (HK2.out.ext (HX3.out.trans_ hx4) (fun h => h))
  clear hx4 hb4
  go_wp2_with fail
  go_loopg [38] 0 (fun gk k wr => k = .int .i64 0 ∧ w4 = wr)
  case atStart => exact ⟨rfl, rfl⟩
  case round =>
    obtain ⟨rfl, rfl⟩ := hrel
    have HS := Lib.hid (db_settle w1.heap.size d w.heap.size log log 0 none w4 hl4.out HB4.out)
    go_wp2_with fail
    refine (HS.out).mono ?_
    rintro e w5 ⟨rfl, hx5⟩
    have HX5 := Lib.hid hx5
    have hb5 := HB4.out.ext hx5 (fun h => h)
    have HB5 := Lib.hid hb5
    have HI := Lib.hid (image_zero w1.heap.size d kb n log 0 w5 (hb5.cell 0) (hb5.cell 2) (hd4.out.ext hx5 (fun h => h)) (hk4.out.ext hx5 (fun h => h)) hn (by omega))
    clear hx5 hb5
    go_wp2_with fail
    refine (HI.out).mono ?_
    rintro e w6 ⟨rfl, hx6⟩
    have HX6 := Lib.hid hx6
    have HBL := Lib.hid (fun w => blank_zs w)
    clear hx6
    obtain ⟨z, hz⟩ : ∃ z, z = str (zs 512) := ⟨_, rfl⟩
    rw [← hz] at HBL ⊢
    clear hz
    go_wp2_with fail
    refine (HBL.out _).mono ?_
    rintro e w7 ⟨rfl, hx7⟩
    have hx57 := (HX5.out.trans_ HX6.out).trans_ hx7
    have hb7 := HB4.out.ext hx57 (fun h => h)
    have f7 := hb7.frozen 7
    have c7 := hb7.cell 7
    simp [dbCells] at c7
    have l7 := hb7.lt
    have hne1 : d ≠ w1.heap.size := by have := HD.out.lt; have := HX1.out.size; omega
    have hne2 : kb ≠ w1.heap.size := by have := HK.out.lt; have := HX1.out.size; omega
    have hne3 : w.heap.size ≠ w1.heap.size := by have := HB1.out.lt; omega
    have HB7 := Lib.hid hb7; have HX7 := Lib.hid hx57
    clear hb7 hx57 hx7
    go_wp2_with fail
    go_ret2
    refine ⟨w.heap.size, w1.heap.size, rfl, ⟨?_, ?_, ?_, ?_⟩, ?_, HX1.out.size⟩
    · exact (hk4.out.ext HX7.out (fun h => h)).far hne2 _
    · exact (hd4.out.ext HX7.out (fun h => h)).far hne1 _
    · exact (hl4.out.ext HX7.out (fun h => h)).far hne3 _
    · exact HB7.out.set_ 7 (.int .i64 1)
    · exact ((HX1.out.trans_ HX4.out).trans_ HX7.out).setNew HX1.out.size _ _

end Go.Proofs.YtccnemmlkcmceaaGreatDoor

/- The database on a new disk: Begin. -/
set_option linter.unusedVariables false
set_option linter.unusedSimpArgs false
namespace Go.Proofs.YtccnemmlkcmceaaGreatDoor
open Go.RowKit 

theorem newDb_up (w : World) (kb d l x n log : Nat) (o : Option Addr) (h : NewDb w kb d l x n log o) (hn : 1 ≤ n) :
    Calls Tryz.prog 74 #[.pointer (some ⟨x, 0, none⟩)] w fun e w' => e = .returned (.int .i64 0) ∧ w = w' := by
  exact xup_any x d n ⟨kb, 0, none⟩ w false false (h.disk.cell 0) hn (h.disk.cell 2) (h.db.cell 0) (h.db.cell 11)

/-- The parts of a new transaction of a new database. -/
def newSys (kb d l x n log t : Nat) (m : Nat) : Sys := ⟨d, x, t, m, ⟨kb, 0, none⟩, n, log, fun w => NewDb w kb d l x n log (some ⟨t, 0, none⟩), 1, fun _ => ⟨0, []⟩, fun _ => str []⟩
/-- What it shows. -/
def v0 : V := ⟨fun _ => 0, 1, 0, 0, fun _ => ⟨0, []⟩, false, false⟩

theorem v0_good : v0.Good := ⟨[], by simp, rfl, rfl, fun a => by simp only [v0]; constructor <;> (intro h; first | (obtain ⟨h1, h2, _⟩ := h; omega) | cases h), fun k a h => by simp at h, by decide, by decide, fun a h1 h2 => by simp [v0]⟩

theorem NewDb.ext {F : Nat → Prop} {w w' : World} {kb d l x n log : Nat} {o : Option Addr} (h : NewDb w kb d l x n log o) (he : Ext F w w') (h1 : ¬ F kb) (h2 : ¬ F d) (h3 : ¬ F l) (h4 : ¬ F x) : NewDb w' kb d l x n log o :=
  ⟨h.kept.ext he h1, h.disk.ext he h2, h.wal.ext he h3, h.db.ext he h4⟩

theorem newSys_ok {kb d l x n log t m H : Nat} (h1 : 1 ≤ n) (h2 : n ≤ 65536) (h3 : log ≤ n) (ht : H ≤ t) (hm : H ≤ m) (k1 : kb < H) (k2 : d < H) (k3 : l < H) (k4 : x < H) : (newSys kb d l x n log t m).Ok := by
  have off : ∀ b, b < H → ¬ (newSys kb d l x n log t m).F b := fun b hb hf => by
    rcases hf with hf | hf
    · have : b = t := hf
      omega
    · have : b = m := hf
      omega
  refine ⟨fun w w' he h => NewDb.ext h he (off _ k1) (off _ k2) (off _ k3) (off _ k4), fun w h => NewDb.db h |>.cell 0, fun w h => NewDb.db h |>.cell 2, fun w h => NewDb.db h |>.cell 10, fun w h => NewDb.db h |>.cell 11,
    fun w h => NewDb.disk h |>.cell 0, fun w h => NewDb.disk h |>.cell 2, ?_, ?_, h1, h2, h3, ?_, ?_⟩
  · show t ≠ x; omega
  · show t ≠ d; omega
  · intro w id _ a b; have : id < 1 := b; omega
  · intro w id a b; have : id < 1 := b; omega

set_option maxRecDepth 100000 in
set_option maxHeartbeats 800000 in
theorem db_begin (w : World) (kb d l x n log : Nat) (h : NewDb w kb d l x n log none) (hn : 1 ≤ n) (hln : log + 8 ≤ n) :
    Calls Tryz.prog 33 #[.pointer (some ⟨x, 0, none⟩)] w fun e w' => e = .returned (.tuple #[.pointer (some ⟨w.heap.size + 1, 0, none⟩), .int .i64 0]) ∧
      TxAt w' (newSys kb d l x n log (w.heap.size + 1) w.heap.size) v0 ∧ Ext (fun b => b = x) w w' := by
  have HU := Lib.hid (newDb_up w kb d l x n log none h hn)
  have hx := h.db
  obtain ⟨y0, y1, y2, y3, y4, y5, y6, y7, y8, y9, y10, y11⟩ : w.cell? ⟨x, 0, none⟩ = _ ∧ w.cell? ⟨x, 1, none⟩ = _ ∧ w.cell? ⟨x, 2, none⟩ = _ ∧ w.cell? ⟨x, 3, none⟩ = _ ∧ w.cell? ⟨x, 4, none⟩ = _ ∧ w.cell? ⟨x, 5, none⟩ = _ ∧ w.cell? ⟨x, 6, none⟩ = _ ∧ w.cell? ⟨x, 7, none⟩ = _ ∧ w.cell? ⟨x, 8, none⟩ = _ ∧ w.cell? ⟨x, 9, none⟩ = _ ∧ w.cell? ⟨x, 10, none⟩ = _ ∧ w.cell? ⟨x, 11, none⟩ = _ :=
    ⟨hx.cell 0, hx.cell 1, hx.cell 2, hx.cell 3, hx.cell 4, hx.cell 5, hx.cell 6, hx.cell 7, hx.cell 8, hx.cell 9, hx.cell 10, hx.cell 11⟩
  simp [dbCells] at y0 y1 y2 y3 y4 y5 y6 y7 y8 y9 y10 y11
  have fz := hx.frozen
  have lx := hx.lt
  have HX := Lib.hid h
  have hmk : ∀ w, (Instr.makeMap 109 none).run Tryz.prog w = .ok (.map (some w.heap.size)) (w.alloc (.map #[] 0)) := fun w => rfl
  clear h hx
  go_enter Tryz.func33, Tryz.ntmps33
  go_wp2_with fail
  refine (HU.out).mono ?_
  rintro e w1 ⟨rfl, rfl⟩
  go_wp2_with fail
  go_ret2
  obtain ⟨u, hu⟩ : ∃ u, u = w.setCell ⟨x, 10, none⟩ (.pointer (some ⟨w.heap.size + 1, 0, none⟩)) := ⟨_, rfl⟩
  rw [← hu]
  have hE0 : Ext (fun b => b = x) w u := by rw [hu]; exact (Ext.refl (fun b => b = x) w).setF (b := x) rfl _ _
  have hus : u.heap.size = w.heap.size := by rw [hu]; simp [World.setCell]
  obtain ⟨cs, hcs⟩ : ∃ cs, cs = v0.cells (newSys kb d l x n log (w.heap.size + 1) w.heap.size) := ⟨_, rfl⟩
  have hE : Ext (fun b => b = x) w ((u.alloc (.map #[] 0)).alloc (.cells cs 111)) := (hE0.alloc _).alloc _
  rw [hcs] at hE
  have hE1 : Ext No u ((u.alloc (.map #[] 0)).alloc (.cells cs 111)) := ((Ext.refl No u).alloc _).alloc _
  rw [hcs] at hE1
  have hx := HX.out
  have hb : Blk u x 131 (dbCells d l log 1 (some ⟨w.heap.size + 1, 0, none⟩)) := by rw [hu]; exact hx.db.set_ 10 _
  refine ⟨rfl, ⟨?_, ⟨?_, ?_, ?_, ?_⟩, by decide, ?_, Nat.le_refl _, by decide, [], ⟨by simp, #[], 0, ?_, rfl⟩, by simp, ?_⟩, hE⟩
  · have := Blk.new (u.alloc (.map #[] 0)) 111 (v0.cells (newSys kb d l x n log (w.heap.size + 1) w.heap.size))
    have e : (u.alloc (.map #[] 0)).heap.size = w.heap.size + 1 := by simp [hus]
    rw [e] at this
    exact this
  · exact (hx.kept.ext hE (hx.kept.ne_ hx.db (by decide)))
  · exact (hx.disk.ext hE (hx.disk.ne_ hx.db (by decide)))
  · exact (hx.wal.ext hE (hx.wal.ne_ hx.db (by decide)))
  · exact hb.ext hE1 (fun h => h)
  · show 1 ≤ (n - log) / 8; omega
  · have h1 : (u.alloc (.map #[] 0)).heap[w.heap.size]? = some (.map #[] 0) := by rw [← hus]; exact heap_alloc_new u _
    exact (Below.heap_alloc _ _ _ (by show w.heap.size < _; simp [hus])).trans h1
  · intro i h1 h2
    have h2' : i < 1 := h2
    omega

end Go.Proofs.YtccnemmlkcmceaaGreatDoor

/- begin: a new database, and a transaction of it. -/
set_option linter.unusedVariables false
set_option linter.unusedSimpArgs false
namespace Go.Proofs.YtccnemmlkcmceaaGreatDoor
open Go.RowKit 

/-- A new transaction of a new database of p pages. -/
structure Fresh (w : World) (s : Sys) (p : Nat) : Prop where
  ok : s.Ok
  tx : TxAt w s v0
  cap : s.cap = p
  sys : ∃ kb d l x t m, s = newSys kb d l x (400 + 8 * p) 400 t m ∧ t < w.heap.size ∧ m < w.heap.size ∧ t ≠ kb ∧ t ≠ d ∧ t ≠ l ∧ t ≠ x ∧ m ≠ kb ∧ m ≠ d ∧ m ≠ l ∧ m ≠ x

set_option maxRecDepth 100000 in
set_option maxHeartbeats 800000 in
theorem begin_any (p : Nat) (h1 : 4 ≤ p) (h2 : p ≤ 4000) (w : World) :
    Calls Tryz.prog 12 #[.int .i64 (p : Int)] w fun e w' => ∃ s, Fresh w' s p ∧ e = .returned (.tuple #[.pointer (some ⟨s.d, 0, none⟩), .pointer (some ⟨s.x, 0, none⟩), .pointer (some ⟨s.t, 0, none⟩)]) ∧ Ext No w w' ∧
      w.heap.size ≤ s.t ∧ w.heap.size ≤ s.m ∧ w.heap.size ≤ s.x ∧ w.heap.size ≤ s.d := by
  have HN := Lib.hid (disk_new (400 + 8 * p) (by omega) (by omega) w)
  have e1 : ((400 + 8 * p : Nat) : Int) = 400 + 8 * (p : Int) := by omega
  rw [e1] at HN
  have g1 : (p : Int) ≤ 4000 := by omega
  have g2 : (0 : Int) ≤ p := by omega
  have H1 := Lib.hid h1; have H2 := Lib.hid h2
  clear e1 h1 h2
  go_enter Tryz.func12, Tryz.ntmps12
  go_wp2_with fail
  refine (HN.out).mono ?_
  rintro e w1 ⟨rfl, hd, hk, hsz, hx1⟩
  have HO := Lib.hid (db_open (w.heap.size + 1) w.heap.size (400 + 8 * p) 400 w1 hd hk (by have := H2.out; omega) (by omega) (by have := H1.out; omega))
  have HX1 := Lib.hid hx1
  have HSZ := Lib.hid hsz
  clear hd hk hsz hx1 g1 g2
  go_wp2_with fail
  refine (HO.out).mono ?_
  rintro e w2 ⟨l, x, rfl, hnew, hx2, hxl⟩
  have HNW := Lib.hid hnew; have HX2 := Lib.hid hx2; have HXL := Lib.hid hxl
  have HB := Lib.hid (db_begin w2 w.heap.size (w.heap.size + 1) l x (400 + 8 * p) 400 hnew (by omega) (by have := H1.out; omega))
  clear hnew hx2 hxl
  go_wp2_with fail
  refine (HB.out).mono ?_
  rintro e w3 ⟨rfl, hT, hx3⟩
  have HT := Lib.hid hT; have HX3 := Lib.hid hx3
  clear hT hx3
  go_wp2_with fail
  go_ret3
  have a1 := HNW.out.kept.lt
  have a2 := HNW.out.disk.lt
  have a3 := HNW.out.wal.lt
  have a4 := HNW.out.db.lt
  have a5 := HT.out.tx.lt
  have a6 : w2.heap.size < w3.heap.size := HT.out.old (.inr rfl)
  have a7 := HSZ.out
  have a8 := HXL.out
  have a9 := HX2.out.size
  have b1 := H1.out
  have b2 := H2.out
  refine ⟨newSys w.heap.size (w.heap.size + 1) l x (400 + 8 * p) 400 (w2.heap.size + 1) w2.heap.size, ⟨?_, HT.out, ?_, ?_⟩, rfl, ?_, ?_, ?_, ?_, ?_⟩
  · exact newSys_ok (H := w2.heap.size) (by omega) (by omega) (by omega) (by omega) (Nat.le_refl _) a1 a2 a3 a4
  · show (400 + 8 * p - 400) / 8 = p; omega
  · refine ⟨w.heap.size, w.heap.size + 1, l, x, w2.heap.size + 1, w2.heap.size, rfl, a5, a6, ?_⟩
    omega
  · exact (HX1.out.trans_ HX2.out).trans HX3.out (fun b hb e => by
      have e' : b = x := e
      omega)
  · show w.heap.size ≤ w2.heap.size + 1; omega
  · show w.heap.size ≤ w2.heap.size; omega
  · show w.heap.size ≤ x; omega
  · show w.heap.size ≤ w.heap.size + 1; omega

end Go.Proofs.YtccnemmlkcmceaaGreatDoor

/- The example's states. -/
set_option linter.unusedVariables false
set_option linter.unusedSimpArgs false
namespace Go.Proofs.YtccnemmlkcmceaaGreatDoor
open Go.RowKit 

def ka : Bs := [97]
def kb : Bs := [98]
def vx : Bs := [120]
def vy : Bs := [121]
def e1 : V := (v0.Put 20 0 ka vx).2
def e2 : V := (e1.Put 20 0 kb vy).2
def e3 : V := (e2.Del 20 0 ka).2.2
def e4 : V := (e3.Del 20 0 kb).2.2
def cA : Cell := ⟨ka, vx, 0, 0⟩
def cB : Cell := ⟨kb, vy, 0, 0⟩

theorem f1 : v0.way 0 ka = some [] := by kernel_rfl
theorem f1e : (v0.Put 20 0 ka vx).1 = 0 := by kernel_rfl
theorem f2 : e1.way 0 kb = some [⟨1, ⟨true, [cA], [], []⟩, 1⟩] := by kernel_rfl
theorem f2e : (e1.Put 20 0 kb vy).1 = 0 := by kernel_rfl
theorem f2w : (e1.wr 1 ((⟨true, [cA], [], []⟩ : Nd).put cB)).1 = 0 := by kernel_rfl
theorem f2h : e2.height 0 = (1, 0) := by kernel_rfl
theorem f2r : e2.r 0 = 1 := by kernel_rfl
theorem f2n : e2.node 1 = some ⟨true, [cA, cB], [], []⟩ := by kernel_rfl
theorem f2g : e2.get 0 kb = (vy, true, 0) := by kernel_rfl
theorem f2y : e2.way 0 kb = some [⟨1, ⟨true, [cA, cB], [], []⟩, 1⟩] := by kernel_rfl
theorem f3 : e2.way 0 ka = some [⟨1, ⟨true, [cA, cB], [], []⟩, 0⟩] := by kernel_rfl
theorem f3e : (e2.Del 20 0 ka).1 = true ∧ (e2.Del 20 0 ka).2.1 = 0 := ⟨by kernel_rfl, by kernel_rfl⟩
theorem f4 : e3.way 0 kb = some [⟨1, ⟨true, [cB], [], []⟩, 0⟩] := by kernel_rfl
theorem f4e : (e3.Del 20 0 kb).1 = true ∧ (e3.Del 20 0 kb).2.1 = 0 := ⟨by kernel_rfl, by kernel_rfl⟩
theorem f5h : e4.height 0 = (0, 0) := by kernel_rfl
theorem f5r : e4.r 0 = 0 := by kernel_rfl

end Go.Proofs.YtccnemmlkcmceaaGreatDoor

/- The example: works. -/
set_option linter.unusedVariables false
set_option linter.unusedSimpArgs false
namespace Go.Proofs.YtccnemmlkcmceaaGreatDoor
open Go.RowKit 

section
variable {s : Sys} {w : World} {gx : Nat}

theorem ex1 (hs : s.Ok) (hc : s.cap = 20) (h : TxAt w s v0) (hx : Blk w gx 70 (treeCells s 0)) :
    Calls Tryz.prog 25 #[.pointer (some ⟨gx, 0, none⟩), .string ⟨#[97]⟩, .string ⟨#[120]⟩] w (Did s w (0, e1)) := by
  have := Put_room s hs w v0 h v0_good gx 0 hx (by decide) ka vx (by decide) (by decide) [] f1 rfl (fun st h => by cases h)
  rw [hc] at this
  exact (show v0.Put 20 0 ka vx = (0, e1) from Prod.ext f1e rfl) ▸ this
theorem ex2 (hs : s.Ok) (hc : s.cap = 20) (h : TxAt w s e1) (hg : e1.Good) (hx : Blk w gx 70 (treeCells s 0)) :
    Calls Tryz.prog 25 #[.pointer (some ⟨gx, 0, none⟩), .string ⟨#[98]⟩, .string ⟨#[121]⟩] w (Did s w (0, e2)) := by
  have := Put_room s hs w e1 h hg gx 0 hx (by decide) kb vy (by decide) (by decide) _ f2 (by kernel_rfl) (fun st h => by
    simp at h
    subst h
    have := f2w
    intro e
    rw [show (⟨kb, vy, 0, 0⟩ : Cell) = cB from rfl, f2w] at e
    cases e)
  rw [hc] at this
  exact (show e1.Put 20 0 kb vy = (0, e2) from Prod.ext f2e rfl) ▸ this
theorem ex3 (hs : s.Ok) (h : TxAt w s e2) (hg : e2.Good) (hx : Blk w gx 70 (treeCells s 0)) :
    Calls Tryz.prog 28 #[.pointer (some ⟨gx, 0, none⟩)] w fun e w' => e = .returned (.tuple #[.int .i64 1, .int .i64 0]) ∧ Ext No w w' := by
  have := height_any s hs w e2 h hg gx 0 hx (by decide)
  rw [f2h] at this
  exact this
theorem ex4 (hs : s.Ok) (h : TxAt w s e2) (hg : e2.Good) (hx : Blk w gx 70 (treeCells s 0)) :
    Calls Tryz.prog 24 #[.pointer (some ⟨gx, 0, none⟩)] w fun e w' => e = .returned (.tuple #[.int .i64 1, .int .i64 0]) ∧ Ext No w w' := by
  refine pages_of _ w 1 0 (survey_leaf s hs w e2 h hg gx 0 hx (by decide) (by rw [f2r]; decide) ⟨true, [cA, cB], [], []⟩ (by rw [f2r]; exact f2n) rfl (by simp) (fun c hc => ?_))
  simp at hc
  rcases hc with rfl | rfl <;> rfl
theorem ex5 (hs : s.Ok) (h : TxAt w s e2) (hg : e2.Good) (hx : Blk w gx 70 (treeCells s 0)) :
    Calls Tryz.prog 23 #[.pointer (some ⟨gx, 0, none⟩), .string ⟨#[98]⟩] w fun e w' => e = .returned (.tuple #[.string (str vy), .bool true, .int .i64 0]) ∧ Ext No w w' := by
  have := get_any' s hs w e2 h hg gx 0 hx (by decide) kb (fun ws c h1 h2 => value_small s e2 c (by
    rw [f2y] at h1
    injection h1 with h1
    subst h1
    have : hit [⟨1, ⟨true, [cA, cB], [], []⟩, 1⟩] kb = some cB := by kernel_rfl
    rw [this] at h2
    injection h2 with h2
    subst h2
    rfl))
  rw [f2g] at this
  exact this
theorem ex6 (hs : s.Ok) (hc : s.cap = 20) (h : TxAt w s e2) (hg : e2.Good) (hx : Blk w gx 70 (treeCells s 0)) :
    Calls Tryz.prog 27 #[.pointer (some ⟨gx, 0, none⟩), .string ⟨#[97]⟩] w (DidB s w (true, 0, e3)) := by
  have := Del_room s hs w e2 h hg gx 0 hx (by decide) ka (by decide) _ f3 cA (by kernel_rfl) rfl rfl rfl
  rw [hc] at this
  exact (show e2.Del 20 0 ka = (true, 0, e3) from Prod.ext f3e.1 (Prod.ext f3e.2 rfl)) ▸ this
theorem ex7 (hs : s.Ok) (hc : s.cap = 20) (h : TxAt w s e3) (hg : e3.Good) (hx : Blk w gx 70 (treeCells s 0)) :
    Calls Tryz.prog 27 #[.pointer (some ⟨gx, 0, none⟩), .string ⟨#[98]⟩] w (DidB s w (true, 0, e4)) := by
  have := Del_room s hs w e3 h hg gx 0 hx (by decide) kb (by decide) _ f4 cB (by kernel_rfl) rfl rfl rfl
  rw [hc] at this
  exact (show e3.Del 20 0 kb = (true, 0, e4) from Prod.ext f4e.1 (Prod.ext f4e.2 rfl)) ▸ this
theorem ex8 (hs : s.Ok) (h : TxAt w s e4) (hg : e4.Good) (hx : Blk w gx 70 (treeCells s 0)) :
    Calls Tryz.prog 28 #[.pointer (some ⟨gx, 0, none⟩)] w fun e w' => e = .returned (.tuple #[.int .i64 0, .int .i64 0]) ∧ Ext No w w' := by
  have := height_any s hs w e4 h hg gx 0 hx (by decide)
  rw [f5h] at this
  exact this
theorem ex9 (hs : s.Ok) (h : TxAt w s e4) (hx : Blk w gx 70 (treeCells s 0)) :
    Calls Tryz.prog 24 #[.pointer (some ⟨gx, 0, none⟩)] w fun e w' => e = .returned (.tuple #[.int .i64 0, .int .i64 0]) ∧ Ext No w w' :=
  pages_of _ w 0 (-1) (survey_zero s hs w e4 h gx 0 hx (by decide) f5r)
end

theorem Ext.more {s : Sys} {w w1 w2 : World} (h : Ext No w w1) (hx : Ext s.F w1 w2) (hF : ∀ b, s.F b → w.heap.size ≤ b) : Ext No w w2 :=
  h.trans hx fun i hi hf => absurd (hF i hf) (by omega)

set_option maxRecDepth 100000 in
set_option maxHeartbeats 1600000 in
theorem works_any (w : World) : Calls Tryz.prog 18 #[] w fun e w' => e = .returned (.bool true) ∧ Ext No w w' := by
  have HB := Lib.hid (begin_any 20 (by decide) (by decide) w)
  go_enter Tryz.func18, Tryz.ntmps18
  go_wp2_with fail
  refine HB.out.mono ?_
  rintro e w1 ⟨s, hF, rfl, hx1, ht, hm, _, _⟩
  have hs := hF.ok
  have hc := hF.cap
  have HS := Lib.hid hs; have HC := Lib.hid hc
  have HT1 := Lib.hid hF.tx
  have HE1 := Lib.hid hx1
  have HFF : Hid (∀ b, s.F b → w.heap.size ≤ b) := Lib.hid (fun b hb => by
    rcases hb with rfl | rfl
    · exact ht
    · exact hm)
  have HOF := Lib.hid (of_any (some ⟨s.t, 0, none⟩) 0 (by decide) w1)
  have hTa : TxAt (w1.alloc (.cells (treeCells s 0) 70)) s v0 := hF.tx.no hs ((Ext.refl No w1).alloc _)
  have hXa : Blk (w1.alloc (.cells (treeCells s 0) 70)) w1.heap.size 70 (treeCells s 0) := Blk.new w1 70 _
  have HXa := Lib.hid hXa
  have H1 := Lib.hid (ex1 hs hc hTa hXa)
  have HEa := Lib.hid (hx1.alloc (.cells (treeCells s 0) 70))
  have HTa := Lib.hid hTa
  clear hF hs hc hx1 ht hm hTa hXa
  go_wp2_with fail
  refine HOF.out.mono ?_
  rintro e w2 ⟨rfl, rfl⟩
  go_wp2_with fail
  refine H1.out.mono ?_
  rintro e w3 ⟨rfl, hT3, hG3, hx3⟩
  have hX3 := tree_ext HTa.out HXa.out hx3
  have HX3 := Lib.hid hX3; have HT3 := Lib.hid hT3
  have HE3 := Lib.hid (HEa.out.more hx3 HFF.out)
  have H2 := Lib.hid (ex2 HS.out HC.out hT3 hG3 hX3)
  clear hT3 hG3 hx3 hX3
  go_wp2_with fail
  refine H2.out.mono ?_
  rintro e w4 ⟨rfl, hT4, hG4, hx4⟩
  have hX4 := tree_ext HT3.out HX3.out hx4
  have HX4 := Lib.hid hX4; have HT4 := Lib.hid hT4; have HG4 := Lib.hid hG4
  have HE4 := Lib.hid (HE3.out.more hx4 HFF.out)
  have H3 := Lib.hid (ex3 HS.out hT4 hG4 hX4)
  clear hT4 hG4 hx4 hX4
  go_wp2_with fail
  refine H3.out.mono ?_
  rintro e w5 ⟨rfl, hx5⟩
  have HX5 := Lib.hid (HX4.out.ext hx5 (fun h => h)); have HT5 := Lib.hid (HT4.out.no HS.out hx5)
  have HE5 := Lib.hid (HE4.out.trans_ hx5)
  have H4 := Lib.hid (ex4 HS.out HT5.out HG4.out HX5.out)
  clear hx5
  go_wp2_with fail
  refine H4.out.mono ?_
  rintro e w6 ⟨rfl, hx6⟩
  have HX6 := Lib.hid (HX5.out.ext hx6 (fun h => h)); have HT6 := Lib.hid (HT5.out.no HS.out hx6)
  have HE6 := Lib.hid (HE5.out.trans_ hx6)
  have H5 := Lib.hid (ex5 HS.out HT6.out HG4.out HX6.out)
  clear hx6
  go_wp2_with fail
  refine H5.out.mono ?_
  rintro e w7 ⟨rfl, hx7⟩
  have HX7 := Lib.hid (HX6.out.ext hx7 (fun h => h)); have HT7 := Lib.hid (HT6.out.no HS.out hx7)
  have HE7 := Lib.hid (HE6.out.trans_ hx7)
  have H6 := Lib.hid (ex6 HS.out HC.out HT7.out HG4.out HX7.out)
  clear hx7
  simp only [vy]
  go_wp2_with fail
  refine H6.out.mono ?_
  rintro e w8 ⟨rfl, hT8, hG8, hx8⟩
  have hX8 := tree_ext HT7.out HX7.out hx8
  have HX8 := Lib.hid hX8; have HT8 := Lib.hid hT8
  have HE8 := Lib.hid (HE7.out.more hx8 HFF.out)
  have H7 := Lib.hid (ex7 HS.out HC.out hT8 hG8 hX8)
  clear hT8 hG8 hx8 hX8
  go_wp2_with fail
  refine H7.out.mono ?_
  rintro e w9 ⟨rfl, hT9, hG9, hx9⟩
  have hX9 := tree_ext HT8.out HX8.out hx9
  have HX9 := Lib.hid hX9; have HT9 := Lib.hid hT9
  have HE9 := Lib.hid (HE8.out.more hx9 HFF.out)
  have H8 := Lib.hid (ex8 HS.out hT9 hG9 hX9)
  clear hT9 hG9 hx9 hX9
  go_wp2_with fail
  refine H8.out.mono ?_
  rintro e w10 ⟨rfl, hx10⟩
  have HX10 := Lib.hid (HX9.out.ext hx10 (fun h => h)); have HT10 := Lib.hid (HT9.out.no HS.out hx10)
  have HE10 := Lib.hid (HE9.out.trans_ hx10)
  have H9 := Lib.hid (ex9 HS.out HT10.out HX10.out)
  clear hx10
  go_wp2_with fail
  refine H9.out.mono ?_
  rintro e w11 ⟨rfl, hx11⟩
  go_wp2_with fail
  go_ret
  exact ⟨rfl, HE10.out.trans_ hx11⟩

end Go.Proofs.YtccnemmlkcmceaaGreatDoor
