/- Proofs about the given program, joined out of the texts Y1, N1, Y2, Y3, Z2, Z3, Z4, Z5, Z6, Z7, Y4. -/
import Derived.Test.YtccnemmlkcmceaaGreatDoorH10
import Derived.Deep.RegionHeld3
/- The tree's calls: look, at a leaf that is the first node. -/
set_option linter.unusedVariables false
set_option linter.unusedSimpArgs false
namespace Go.Proofs.YtccnemmlkcmceaaGreatDoor
open Go.RowKit 

set_option maxHeartbeats 400000 in
theorem in_any (k low high : Bs) (w : World) (bl bh : Nat) (h1 : w.cell? ⟨bl, 0, none⟩ = some (.string (str low))) (h2 : w.cell? ⟨bh, 0, none⟩ = some (.string (str high))) :
    Calls Tryz.prog 134 #[.string (str k), .pointer (some ⟨bl, 0, none⟩), .pointer (some ⟨bh, 0, none⟩)] w fun e w' => e = .returned (.bool (inB low high k)) ∧ w = w' := by
  unfold inB
  cases ha : klt k low
  · cases high with
    | nil =>
      go_enter Tryz.func134, Tryz.ntmps134
      go_wp2_with fail
      go_ret
      exact ⟨rfl, rfl⟩
    | cons x high =>
      have hne : (x :: high).isEmpty = false := rfl
      generalize x :: high = hh at *
      go_enter Tryz.func134, Tryz.ntmps134
      go_wp2_with fail
      go_ret
      exact ⟨ret_bool (by simp [hne]), rfl⟩
  · go_enter Tryz.func134, Tryz.ntmps134
    go_wp2_with fail
    go_ret
    exact ⟨rfl, rfl⟩

set_option maxRecDepth 100000 in
set_option maxHeartbeats 1600000 in
theorem look_small (s : Sys) (hs : s.Ok) (wz w : World) (v : V) (hz : TxAt wz s v) (hg : v.Good) (gx i : Nat) (hxz : Blk wz gx 70 (treeCells s i)) (hez : Ext No wz w) (gs id : Nat) (hgs : wz.heap.size ≤ gs) (hsv : Blk w gs 118 #[.int .i64 0, .int .i64 (-1)]) (n : Nd) (hn : v.node id = some n)
    (hlf : n.leaf = true) (hc0 : n.cells ≠ []) (hc : ∀ c ∈ n.cells, c.over = 0) :
    Calls Tryz.prog 94 #[.pointer (some ⟨gx, 0, none⟩), .pointer (some ⟨gs, 0, none⟩), .int .i64 (id : Int), .int .i64 0, .string (str []), .string (str [])] w fun e w' => e = .returned (.int .i64 0) ∧
      Blk w' gs 118 #[.int .i64 1, .int .i64 0] ∧ Ext (On gs) w w' := by
  have h := hz.no hs hez
  have hx := hxz.ext hez (fun h => h)
  have HN := Lib.hid (fun w' (e : Ext No w w') => node_any s hs w' v (h.no hs e) hg gx i (hx.ext e (fun h => h)) id)
  have HIN := Lib.hid (fun k w bl bh h1 h2 => in_any k [] [] w bl bh h1 h2)
  have hin : ∀ k, inB [] [] k = true := by intro k; simp [inB, klt_nil_right]
  have HV := Lib.hid (fun c (hc1 : c ∈ n.cells) w' (hT : TxAt w' s v) (hX : Blk w' gx 70 (treeCells s i)) => value_small s v c (hc c hc1) w' gx i hT hX)
  have hpos : (0 : Int) < (n.cells.length : Int) := by have := List.length_pos_iff.2 hc0; omega
  have hok := V.node_ok hn
  have hOk := Nd.Ok.of hok
  have hb255 := hOk.a1
  have hofft : ¬ (gs = s.t) := fun e => (hsv.ne_ h.tx (by decide)) e
  rw [hn] at HN
  have HT := Lib.hid (fun w' (e : Ext No w w') => h.no hs e)
  have HX := Lib.hid (fun w' (e : Ext No w w') => hx.ext e (fun h => h))
  have HSV := Lib.hid hsv
  have HC := Lib.hid hc
  have HLF := Lib.hid hlf
  simp only [hin] at HIN
  clear h hg hx hn hc hc0 hok hOk hsv
  go_enter Tryz.func94, Tryz.ntmps94
  go_wp2_with fail
  refine (HN.out _ (by (repeat' (first | exact Ext.refl _ _ | assumption | apply Ext.alloc | apply Ext.drewN | apply Ext.drew | refine Ext.setNew ?_ (by first | omega | (simp; omega) | simp) _ _ | refine Ext.setF ?_ (by first | exact Or.inl rfl | exact Or.inr rfl | rfl) _ _ | refine Ext.trans_ ?_ (by assumption) | refine Ext.trans_ ?_ (Ext.of_no (by assumption)))))).mono ?_
  rintro e w1 ⟨hx1, A1, c1, A2, c2, A3, c3, rfl, hnode⟩
  have hE1 : Ext No w w1 := (((Ext.refl No w).alloc _).alloc _).trans_ hx1
  have hsv1 := HSV.out.ext hE1 (fun h => h)
  have s0 := hsv1.cell 0
  have s1 := hsv1.cell 1
  have sf := hsv1.frozen
  have sl := hsv1.lt
  simp at s0 s1
  have hlow := (Blk.new w 9 #[.string (str [])]).alloc (.cells #[.string (str [])] 9)
  have hlow1 := hlow.ext hx1 (fun h => h)
  have hhigh1 := (Blk.new_at (b := w.heap.size + 1) (w.alloc (.cells #[.string (str [])] 9)) 9 #[.string (str [])] (by simp)).ext hx1 (fun h => h)
  simp only [Nd.value, hlf]
  go_wp2_with fail
  obtain ⟨W1, hW1⟩ : ∃ W1, W1 = w1.setCell ⟨gs, 0, none⟩ (.int .i64 1) := ⟨_, rfl⟩
  have hWs : W1.heap.size = w1.heap.size := by rw [hW1]; simp [World.setCell]
  have hEg : Ext (On gs) w1 W1 := by rw [hW1]; exact (Ext.refl (On gs) w1).setF (b := gs) rfl _ _
  have gold : gs < w.heap.size := HSV.out.lt
  have hoff : ∀ b, w.heap.size ≤ b → ¬ On gs b := fun b hb e => by
    have e' : b = gs := e
    omega
  obtain ⟨o, ho⟩ : ∃ o, o = Obj.cells #[.bool true, .slice A1 n.cells.length c1, .slice A2 n.keys.length c2, .slice A3 n.kids.length c3] 40 := ⟨_, rfl⟩
  have hEa : Ext No W1 (W1.alloc o) := (Ext.refl No W1).alloc o
  have hb2 : Blk (W1.alloc o) gs 118 #[.int .i64 1, .int .i64 (-1)] := by rw [hW1]; exact (hsv1.set_ 0 _).alloc _
  have hl2 := (hlow1.ext hEg (hoff _ (Nat.le_refl _))).ext hEa (fun h => h)
  have hh2 := (hhigh1.ext hEg (hoff _ (Nat.le_succ _))).ext hEa (fun h => h)
  have hbn2 : Blk (W1.alloc o) w1.heap.size 40 #[.bool true, .slice A1 n.cells.length c1, .slice A2 n.keys.length c2, .slice A3 n.kids.length c3] := by rw [ho, ← hWs]; exact Blk.new W1 40 _
  have hno2 : NodeAt (W1.alloc o) (On gs) A1 c1 A2 c2 A3 c3 n := ((hnode.mono (G := On gs) (fun b _ hb => by
    have e' : b = gs := hb
    show b < _
    simp
    omega)).ext hEg).ext hEa.of_no
  have hE2 : Ext (On gs) w (W1.alloc o) := (hE1.of_no.trans_ hEg).trans_ hEa.of_no
  have HB2 := Lib.hid hb2; have HL2 := Lib.hid hl2; have HH2 := Lib.hid hh2; have HBN2 := Lib.hid hbn2; have HNO2 := Lib.hid hno2; have HE2 := Lib.hid hE2
  have hEz := ((hez.trans_ hE1).on_new hEg hgs).trans_ hEa
  have HXT : Hid (∀ wr, Ext No (W1.alloc o) wr → TxAt wr s v ∧ Blk wr gx 70 (treeCells s i)) := Lib.hid (fun wr e => ⟨hz.no hs (hEz.trans_ e), hxz.ext (hEz.trans_ e) (fun h => h)⟩)
  rw [← hW1, ← ho]
  have hsz0 := hE1.size
  clear hz hxz hez hEz hW1 hEg hEa hb2 hl2 hh2 hbn2 hno2 hE2 hlow hlow1 hhigh1 hnode hsv1 s0 s1 sf sl hE1 hx1
  go_loopg [53] n.cells.length (fun gk k wr => ∃ K : Nat, K + gk = n.cells.length ∧ k = .int .i64 (K : Int) ∧ Ext No (W1.alloc o) wr)
  case atStart => exact ⟨0, by omega, rfl, Ext.refl _ _⟩
  case round =>
    obtain ⟨K, hK, rfl, hE⟩ := hrel
    have lo := (HL2.out.ext hE (fun h => h)).cell 0
    have hi := (HH2.out.ext hE (fun h => h)).cell 0
    obtain ⟨p0, p1, p2, p3, g0, g1, g2, g3, ln⟩ := (HBN2.out.ext hE (fun h => h)).p4
    have hl0 := World.block_lt_of_cell? wr _ lo
    have hh0 := World.block_lt_of_cell? wr _ hi
    simp at lo hi hl0 hh0
    have HE := Lib.hid hE
    have HKK := Lib.hid hK
    by_cases hlt : K < n.cells.length
    · obtain ⟨c, hc⟩ : ∃ c, n.cells[K]? = some c := ⟨_, List.getElem?_eq_getElem hlt⟩
      obtain ⟨cb, co, hA1, _, k0, k1, k2, k3⟩ := (HNO2.out.ext hE.of_no).cells.cellAt hc
      have lc := World.block_lt_of_cell? wr _ k0
      simp only at lc
      subst hA1
      have hcl1 := HNO2.out.l1
      have hlt' : (K : Int) < (n.cells.length : Int) := by omega
      have HVC := Lib.hid (fun w' (e : Ext No (W1.alloc o) w') => HV.out c (List.mem_of_getElem? hc) w' (HXT.out w' e).1 (HXT.out w' e).2)
      have HCK := Lib.hid hc
      clear hE hK hc
      generalize n.cells.length = cl at *
      simp only [Cell.agg] at HVC
      have HC0 := Lib.hid (HC.out c (List.mem_of_getElem? HCK.out))
      have HIN1 := Lib.hid (HIN.out c.key _ w.heap.size (w.heap.size + 1) (((HL2.out.ext HE.out (fun h => h)).alloc (.cells #[.string (str c.key), .string (str c.val), .int .i64 (c.over : Int), .int .i64 (c.len : Int)] 45)).cell 0) (((HH2.out.ext HE.out (fun h => h)).alloc _).cell 0))
      rw [HC0.out] at k2 HVC HIN1
      have hvv : v.value c = some c.val := by simp [V.value, HC0.out]
      rw [hvv] at HVC
      simp only [valOut] at HVC
      clear hvv
      go_wp2_with fail
      refine HIN1.out.mono ?_
      rintro e w5 ⟨rfl, rfl⟩
      go_wp2_with fail
      refine (HVC.out _ (HE.out.alloc _)).mono ?_
      rintro e w6 ⟨rfl, hx6⟩
      have bc := (Blk.new wr 45 #[.string (str c.key), .string (str c.val), .int .i64 ((0 : Nat) : Int), .int .i64 (c.len : Int)]).ext hx6 (fun h => h)
      obtain ⟨z0, z1, z2, z3, _, _, _, _, lz⟩ := bc.p4
      have hE6 := Lib.hid ((HE.out.alloc _).trans_ hx6)
      clear bc hx6
      go_wp2_with fail
      go_roundg (gk - 1)
      case rel => exact ⟨K + 1, by have := HKK.out; omega, by go_num, hE6.out⟩
      case measure => have := HKK.out; omega
    · have hK' : K = n.cells.length := by omega
      subst hK'
      have gb := HB2.out.ext hE (fun h => h)
      have y0 := gb.cell 0
      have y1 := gb.cell 1
      have yf := gb.frozen
      have yl := gb.lt
      simp at y0 y1
      have HGB := Lib.hid gb
      clear hE hK gb
      generalize n.cells.length = cl at *
      go_wp2_with fail
      go_ret
      refine ⟨rfl, HGB.out.set_ 1 _, (HE2.out.trans_ HE.out.of_no).setF (b := gs) rfl _ _⟩

end Go.Proofs.YtccnemmlkcmceaaGreatDoor

/- Trees that Of did not make, and those of no transaction: their calls. -/
set_option linter.unusedVariables false
set_option linter.unusedSimpArgs false
namespace Go.Proofs.YtccnemmlkcmceaaGreatDoor
open Go.RowKit 

/-- Such a tree. -/
inductive NoTree (w : World) : Value → Prop
  | nil : NoTree w (.pointer none)
  | tx (gx : Nat) (i : Value) (h : Blk w gx 70 #[.pointer none, i]) : NoTree w (.pointer (some ⟨gx, 0, none⟩))

theorem NoTree.ext {w w' : World} {v : Value} (h : NoTree w v) (he : Ext No w w') : NoTree w' v := by
  cases h with
  | nil => exact .nil
  | tx gx i h => exact .tx gx i (h.ext he (fun h => h))

set_option maxHeartbeats 400000 in
theorem none_yes {w : World} {v : Value} (h : NoTree w v) :
    Calls Tryz.prog 45 #[v] w fun e w' => e = .returned (.bool true) ∧ w = w' := by
  cases h with
  | nil =>
    go_enter Tryz.func45, Tryz.ntmps45
    go_wp2
    go_ret
    exact ⟨rfl, rfl⟩
  | tx gx i h =>
    have c0 := h.cell 0
    simp at c0
    go_enter Tryz.func45, Tryz.ntmps45
    go_wp2
    go_ret
    exact ⟨rfl, rfl⟩

theorem nil_may {w : World} {v : Value} (h : NoTree w v) (key val : Value) :
    Calls Tryz.prog 59 #[v, key, val] w fun e w' => e = .returned (.int .i64 1) ∧ w = w' := by
  have HN := Lib.hid (none_yes h)
  go_enter Tryz.func59, Tryz.ntmps59
  go_wp2_with fail
  refine (HN.out).mono ?_
  rintro e w1 ⟨rfl, rfl⟩
  go_wp2_with fail
  go_ret
  exact ⟨rfl, rfl⟩

theorem nil_get {w : World} {v : Value} (h : NoTree w v) (key : Value) :
    Calls Tryz.prog 23 #[v, key] w fun e w' => e = .returned (.tuple #[.string (str []), .bool false, .int .i64 1]) ∧ w = w' := by
  have HN := Lib.hid (nil_may h key (.string ⟨#[]⟩))
  go_enter Tryz.func23, Tryz.ntmps23
  go_wp2_with fail
  refine (HN.out).mono ?_
  rintro e w1 ⟨rfl, rfl⟩
  go_wp2_with fail
  go_ret3
  exact ⟨rfl, rfl⟩

theorem nil_put {w : World} {v : Value} (h : NoTree w v) (key val : Value) :
    Calls Tryz.prog 25 #[v, key, val] w fun e w' => e = .returned (.int .i64 1) ∧ w = w' := by
  have HN := Lib.hid (nil_may h key val)
  go_enter Tryz.func25, Tryz.ntmps25
  go_wp2_with fail
  refine (HN.out).mono ?_
  rintro e w1 ⟨rfl, rfl⟩
  go_wp2_with fail
  go_ret
  exact ⟨rfl, rfl⟩

theorem nil_delete {w : World} {v : Value} (h : NoTree w v) (key : Value) :
    Calls Tryz.prog 27 #[v, key] w fun e w' => e = .returned (.tuple #[.bool false, .int .i64 1]) ∧ w = w' := by
  have HN := Lib.hid (nil_may h key (.string ⟨#[]⟩))
  go_enter Tryz.func27, Tryz.ntmps27
  go_wp2_with fail
  refine (HN.out).mono ?_
  rintro e w1 ⟨rfl, rfl⟩
  go_wp2_with fail
  go_ret2
  exact ⟨rfl, rfl⟩

theorem nil_height {w : World} {v : Value} (h : NoTree w v) :
    Calls Tryz.prog 28 #[v] w fun e w' => e = .returned (.tuple #[.int .i64 0, .int .i64 1]) ∧ w = w' := by
  have HN := Lib.hid (none_yes h)
  go_enter Tryz.func28, Tryz.ntmps28
  go_wp2_with fail
  refine (HN.out).mono ?_
  rintro e w1 ⟨rfl, rfl⟩
  go_wp2_with fail
  go_ret2
  exact ⟨rfl, rfl⟩

theorem nil_root {w : World} {v : Value} (h : NoTree w v) :
    Calls Tryz.prog 15 #[v] w fun e w' => e = .returned (.int .i64 0) ∧ w = w' := by
  have HN := Lib.hid (none_yes h)
  go_enter Tryz.func15, Tryz.ntmps15
  go_wp2_with fail
  refine (HN.out).mono ?_
  rintro e w1 ⟨rfl, rfl⟩
  go_wp2_with fail
  go_ret
  exact ⟨rfl, rfl⟩

theorem nil_value {w : World} {v : Value} (h : NoTree w v) (c : Cell) :
    Calls Tryz.prog 17 #[v, c.agg] w fun e w' => e = .returned (.tuple #[.string (str []), .int .i64 1]) ∧ Ext No w w' := by
  have HN := Lib.hid (fun o => none_yes (h.ext ((Ext.refl No w).alloc o)))
  simp only [Cell.agg]
  go_enter Tryz.func17, Tryz.ntmps17
  go_wp2_with fail
  refine (HN.out _).mono ?_
  rintro e w1 ⟨rfl, rfl⟩
  go_wp2_with fail
  go_ret2
  exact ⟨rfl, (Ext.refl No w).alloc _⟩

theorem node_ret {Q : Ending → World → Prop} {a : Act} {w : World} (b : Nat) (cs : Array Value) (hb : Blk w b 40 cs) {v : Value} (hs : some 4 = some cs.size) (hp : a.tmps.getD 4 undef = .pointer (some ⟨b, 0, none⟩)) (h3 : a.tmps.getD 5 undef = v) (hd : a.defers = [])
    (h : Q (.returned (.tuple #[.agg cs, v])) w) : bodyPost Tryz.prog Tryz.f16 Q Exit.ret a w := by
  refine bodyPost_ret (v := .tuple #[.agg cs, v]) (w := w) ?_ hd h
  have hl := run_loadVar_row w b 40 40 cs (0, 0) _ hb Tryz.underlying40 rfl (by rw [← hs]; kernel_rfl)
  rw [results_cell_tmp rfl, hp, h3]
  simp [asAddr, Result.andThen, hl]

theorem nil_node {w : World} {v : Value} (h : NoTree w v) (id : Value) :
    Calls Tryz.prog 16 #[v, id] w fun e w' => e = .returned (.tuple #[.agg #[.bool false, .slice none 0 0, .slice none 0 0, .slice none 0 0], .int .i64 1]) ∧ Ext No w w' := by
  have HN := Lib.hid (fun o => none_yes (h.ext ((Ext.refl No w).alloc o)))
  go_enter Tryz.func16, Tryz.ntmps16
  go_wp2_with fail
  refine (HN.out _).mono ?_
  rintro e w1 ⟨rfl, rfl⟩
  go_wp2_with fail
  refine node_ret w.heap.size _ (Blk.new w 40 _) rfl rfl rfl rfl ⟨rfl, (Ext.refl No w).alloc _⟩

theorem survey_back {Q : Ending → World → Prop} {a : Act} {w : World} (b : Nat) (cs : Array Value) (hb : Blk w b 118 cs) {v : Value} (hs : some 2 = some cs.size) (hp : a.tmps.getD 2 undef = .pointer (some ⟨b, 0, none⟩)) (h3 : a.tmps.getD 3 undef = v) (hd : a.defers = [])
    (h : Q (.returned (.tuple #[.agg cs, v])) w) : bodyPost Tryz.prog Tryz.f58 Q Exit.ret a w := by
  refine bodyPost_ret (v := .tuple #[.agg cs, v]) (w := w) ?_ hd h
  have hl := run_loadVar_row w b 118 118 cs (0, 0) _ hb Tryz.underlying118 rfl (by rw [← hs]; kernel_rfl)
  rw [results_cell_tmp rfl, hp, h3]
  simp [asAddr, Result.andThen, hl]

theorem nil_survey {w : World} {v : Value} (h : NoTree w v) :
    Calls Tryz.prog 58 #[v] w fun e w' => e = .returned (.tuple #[.agg #[.int .i64 0, .int .i64 (-1)], .int .i64 1]) ∧ Ext No w w' := by
  have HN := Lib.hid (fun w' (e : Ext No w w') => none_yes (h.ext e))
  go_enter Tryz.func58, Tryz.ntmps58
  go_wp2_with fail
  refine (HN.out _ (by (repeat' (first | exact Ext.refl _ _ | assumption | apply Ext.alloc | apply Ext.drewN | apply Ext.drew | refine Ext.setNew ?_ (by first | omega | (simp; omega) | simp) _ _ | refine Ext.setF ?_ (by first | exact Or.inl rfl | exact Or.inr rfl | rfl) _ _ | refine Ext.trans_ ?_ (by assumption) | refine Ext.trans_ ?_ (Ext.of_no (by assumption)))))).mono ?_
  rintro e w1 ⟨rfl, rfl⟩
  go_wp2_with fail
  exact survey_back w.heap.size _ ((Blk.new w 118 _).alloc _) rfl rfl rfl rfl ⟨rfl, by (repeat' (first | exact Ext.refl _ _ | assumption | apply Ext.alloc | apply Ext.drewN | apply Ext.drew | refine Ext.setNew ?_ (by first | omega | (simp; omega) | simp) _ _ | refine Ext.setF ?_ (by first | exact Or.inl rfl | exact Or.inr rfl | rfl) _ _ | refine Ext.trans_ ?_ (by assumption) | refine Ext.trans_ ?_ (Ext.of_no (by assumption))))⟩

theorem nil_pages {w : World} {v : Value} (h : NoTree w v) :
    Calls Tryz.prog 24 #[v] w fun e w' => e = .returned (.tuple #[.int .i64 0, .int .i64 1]) ∧ Ext No w w' := by
  have HN := Lib.hid (nil_survey h)
  go_enter Tryz.func24, Tryz.ntmps24
  go_wp2_with fail
  refine (HN.out).mono ?_
  rintro e w1 ⟨rfl, hx1⟩
  go_wp2_with fail
  go_ret2
  exact ⟨rfl, by (repeat' (first | exact Ext.refl _ _ | assumption | apply Ext.alloc | apply Ext.drewN | apply Ext.drew | refine Ext.setNew ?_ (by first | omega | (simp; omega) | simp) _ _ | refine Ext.setF ?_ (by first | exact Or.inl rfl | exact Or.inr rfl | rfl) _ _ | refine Ext.trans_ ?_ (by assumption) | refine Ext.trans_ ?_ (Ext.of_no (by assumption))))⟩

theorem nil_check {w : World} {v : Value} (h : NoTree w v) :
    Calls Tryz.prog 22 #[v] w fun e w' => e = .returned (.int .i64 1) ∧ Ext No w w' := by
  have HN := Lib.hid (nil_survey h)
  go_enter Tryz.func22, Tryz.ntmps22
  go_wp2_with fail
  refine (HN.out).mono ?_
  rintro e w1 ⟨rfl, hx1⟩
  go_wp2_with fail
  go_ret
  exact ⟨rfl, by (repeat' (first | exact Ext.refl _ _ | assumption | apply Ext.alloc | apply Ext.drewN | apply Ext.drew | refine Ext.setNew ?_ (by first | omega | (simp; omega) | simp) _ _ | refine Ext.setF ?_ (by first | exact Or.inl rfl | exact Or.inr rfl | rfl) _ _ | refine Ext.trans_ ?_ (by assumption) | refine Ext.trans_ ?_ (Ext.of_no (by assumption))))⟩

end Go.Proofs.YtccnemmlkcmceaaGreatDoor

/- The tree's calls: survey, Pages, at an empty tree and at one leaf. -/
set_option linter.unusedVariables false
set_option linter.unusedSimpArgs false
namespace Go.Proofs.YtccnemmlkcmceaaGreatDoor
open Go.RowKit 

set_option maxRecDepth 100000 in
set_option maxHeartbeats 800000 in
theorem survey_zero (s : Sys) (hs : s.Ok) (w : World) (v : V) (h : TxAt w s v) (gx i : Nat) (hx : Blk w gx 70 (treeCells s i)) (hi : i < 4) (h0 : v.r i = 0) :
    Calls Tryz.prog 58 #[.pointer (some ⟨gx, 0, none⟩)] w fun e w' => e = .returned (.tuple #[.agg #[.int .i64 0, .int .i64 (-1)], .int .i64 0]) ∧ Ext No w w' := by
  have HN := Lib.hid (fun w' (e : Ext No w w') => none_no ⟨s.t, 0, none⟩ (.int .i64 (i : Int)) gx w' (hx.ext e (fun h => h)))
  have HA := Lib.hid (fun w' (e : Ext No w w') => alive_any s hs w' v (h.no hs e) gx i (hx.ext e (fun h => h)))
  have HR := Lib.hid (fun w' (e : Ext No w w') => treeroot_any s hs w' v (h.no hs e) gx i (hx.ext e (fun h => h)) hi)
  rw [h0] at HR
  clear h hx h0
  go_enter Tryz.func58, Tryz.ntmps58
  go_wp2_with fail
  have hE0 : Ext No w ((w.alloc (.cells #[.int .i64 0, .int .i64 0] 118)).alloc (.cells #[.int .i64 0, .int .i64 (-1)] 118)) := ((Ext.refl No w).alloc _).alloc _
  refine (HN.out _ (by (repeat' (first | exact Ext.refl _ _ | assumption | apply Ext.alloc | apply Ext.drewN | apply Ext.drew | refine Ext.setNew ?_ (by first | omega | (simp; omega) | simp) _ _ | refine Ext.setF ?_ (by first | exact Or.inl rfl | exact Or.inr rfl | rfl) _ _ | refine Ext.trans_ ?_ (by assumption) | refine Ext.trans_ ?_ (Ext.of_no (by assumption)))))).mono ?_
  rintro e w1 ⟨rfl, rfl⟩
  go_wp2_with fail
  refine (HA.out _ (by (repeat' (first | exact Ext.refl _ _ | assumption | apply Ext.alloc | apply Ext.drewN | apply Ext.drew | refine Ext.setNew ?_ (by first | omega | (simp; omega) | simp) _ _ | refine Ext.setF ?_ (by first | exact Or.inl rfl | exact Or.inr rfl | rfl) _ _ | refine Ext.trans_ ?_ (by assumption) | refine Ext.trans_ ?_ (Ext.of_no (by assumption)))))).mono ?_
  rintro e w2 ⟨rfl, hx2⟩
  go_wp2_with fail
  have hE2 := hE0.trans_ hx2
  have ba := ((Blk.new w 118 #[.int .i64 0, .int .i64 0]).alloc (.cells #[.int .i64 0, .int .i64 (-1)] 118)).ext hx2 (fun h => h)
  have bb := (Blk.new_at (b := w.heap.size + 1) (w.alloc (.cells #[.int .i64 0, .int .i64 0] 118)) 118 #[.int .i64 0, .int .i64 (-1)] (by simp)).ext hx2 (fun h => h)
  refine (HR.out _ hE2).mono ?_
  rintro e w3 ⟨rfl, hx3⟩
  have ba3 := ba.ext hx3 (fun h => h)
  have bb3 := bb.ext hx3 (fun h => h)
  have a0 := ba3.cell 0
  have a1 := ba3.cell 1
  have af := ba3.frozen
  have al := ba3.lt
  have b0 := bb3.cell 0
  have b1 := bb3.cell 1
  simp at a0 a1 b0 b1
  have BA := Lib.hid ba3; have HE3 := Lib.hid (hE2.trans_ hx3)
  clear ba bb ba3 bb3 hx2 hx3 hE0 hE2
  go_wp2_with fail
  exact survey_back w.heap.size _ ((BA.out.set_ 0 (.int .i64 0)).set_ 1 (.int .i64 (-1))) rfl rfl rfl rfl ⟨rfl, (HE3.out.setNew (Nat.le_refl _) _ _).setNew (Nat.le_refl _) _ _⟩

set_option maxRecDepth 100000 in
set_option maxHeartbeats 800000 in
theorem survey_leaf (s : Sys) (hs : s.Ok) (w : World) (v : V) (h : TxAt w s v) (hg : v.Good) (gx i : Nat) (hx : Blk w gx 70 (treeCells s i)) (hi : i < 4) (h0 : v.r i ≠ 0) (n : Nd) (hn : v.node (v.r i) = some n)
    (hlf : n.leaf = true) (hc0 : n.cells ≠ []) (hc : ∀ c ∈ n.cells, c.over = 0) :
    Calls Tryz.prog 58 #[.pointer (some ⟨gx, 0, none⟩)] w fun e w' => e = .returned (.tuple #[.agg #[.int .i64 1, .int .i64 0], .int .i64 0]) ∧ Ext No w w' := by
  have HN := Lib.hid (fun w' (e : Ext No w w') => none_no ⟨s.t, 0, none⟩ (.int .i64 (i : Int)) gx w' (hx.ext e (fun h => h)))
  have HA := Lib.hid (fun w' (e : Ext No w w') => alive_any s hs w' v (h.no hs e) gx i (hx.ext e (fun h => h)))
  have HR := Lib.hid (fun w' (e : Ext No w w') => treeroot_any s hs w' v (h.no hs e) gx i (hx.ext e (fun h => h)) hi)
  have HLK := Lib.hid (fun w' (e : Ext No w w') (hsv : Blk w' (w.heap.size + 1) 118 #[.int .i64 0, .int .i64 (-1)]) => look_small s hs w w' v h hg gx i hx e (w.heap.size + 1) (v.r i) (Nat.le_succ _) hsv n hn hlf hc0 hc)
  have h0' : ((v.r i : Int) == 0) = false := by simpa using (by omega : ¬ (v.r i : Int) = 0)
  obtain ⟨rt, hrt⟩ : ∃ rt, rt = v.r i := ⟨_, rfl⟩
  rw [← hrt] at HR HLK h0'
  clear h hg hx h0 hn hlf hc0 hc hrt
  go_enter Tryz.func58, Tryz.ntmps58
  go_wp2_with fail
  have hE0 : Ext No w ((w.alloc (.cells #[.int .i64 0, .int .i64 0] 118)).alloc (.cells #[.int .i64 0, .int .i64 (-1)] 118)) := ((Ext.refl No w).alloc _).alloc _
  refine (HN.out _ (by (repeat' (first | exact Ext.refl _ _ | assumption | apply Ext.alloc | apply Ext.drewN | apply Ext.drew | refine Ext.setNew ?_ (by first | omega | (simp; omega) | simp) _ _ | refine Ext.setF ?_ (by first | exact Or.inl rfl | exact Or.inr rfl | rfl) _ _ | refine Ext.trans_ ?_ (by assumption) | refine Ext.trans_ ?_ (Ext.of_no (by assumption)))))).mono ?_
  rintro e w1 ⟨rfl, rfl⟩
  go_wp2_with fail
  refine (HA.out _ (by (repeat' (first | exact Ext.refl _ _ | assumption | apply Ext.alloc | apply Ext.drewN | apply Ext.drew | refine Ext.setNew ?_ (by first | omega | (simp; omega) | simp) _ _ | refine Ext.setF ?_ (by first | exact Or.inl rfl | exact Or.inr rfl | rfl) _ _ | refine Ext.trans_ ?_ (by assumption) | refine Ext.trans_ ?_ (Ext.of_no (by assumption)))))).mono ?_
  rintro e w2 ⟨rfl, hx2⟩
  have hE2 := hE0.trans_ hx2
  have ba := ((Blk.new w 118 #[.int .i64 0, .int .i64 0]).alloc (.cells #[.int .i64 0, .int .i64 (-1)] 118)).ext hx2 (fun h => h)
  have bb := (Blk.new_at (b := w.heap.size + 1) (w.alloc (.cells #[.int .i64 0, .int .i64 0] 118)) 118 #[.int .i64 0, .int .i64 (-1)] (by simp)).ext hx2 (fun h => h)
  have HE2 := Lib.hid hE2; have BA := Lib.hid ba; have BB := Lib.hid bb
  clear hE0 hx2 hE2 ba bb
  go_wp2_with fail
  refine (HR.out _ HE2.out).mono ?_
  rintro e w3 ⟨rfl, hx3⟩
  go_wp2_with fail
  refine (HR.out _ (HE2.out.trans_ hx3)).mono ?_
  rintro e w4 ⟨rfl, hx4⟩
  have hE4 := (HE2.out.trans_ hx3).trans_ hx4
  have bb4 := (BB.out.ext hx3 (fun h => h)).ext hx4 (fun h => h)
  have ba4 := (BA.out.ext hx3 (fun h => h)).ext hx4 (fun h => h)
  have HL := Lib.hid (HLK.out w4 hE4 bb4)
  have HE4 := Lib.hid hE4; have BA4 := Lib.hid ba4
  clear hx3 hx4 hE4 bb4 ba4
  go_wp2_with fail
  refine (HL.out).mono ?_
  rintro e w5 ⟨rfl, bb5, hx5⟩
  have ba5 := BA4.out.ext hx5 (fun h => by
    have h' : w.heap.size = w.heap.size + 1 := h
    omega)
  have hE5 := HE4.out.on_new hx5 (Nat.le_succ _)
  have a0 := ba5.cell 0
  have a1 := ba5.cell 1
  have af := ba5.frozen
  have al := ba5.lt
  have b0 := bb5.cell 0
  have b1 := bb5.cell 1
  simp at a0 a1 b0 b1
  have BA5 := Lib.hid ba5; have HE5 := Lib.hid hE5
  clear bb5 hx5 ba5 hE5
  go_wp2_with fail
  exact survey_back w.heap.size _ ((BA5.out.set_ 0 (.int .i64 1)).set_ 1 (.int .i64 0)) rfl rfl rfl rfl ⟨rfl, (HE5.out.setNew (Nat.le_refl _) _ _).setNew (Nat.le_refl _) _ _⟩

/-- Pages, off the survey. -/
theorem pages_of (x : Value) (w : World) (p : Int) (d : Int) (hS : Calls Tryz.prog 58 #[x] w fun e w' => e = .returned (.tuple #[.agg #[.int .i64 p, .int .i64 d], .int .i64 0]) ∧ Ext No w w') :
    Calls Tryz.prog 24 #[x] w fun e w' => e = .returned (.tuple #[.int .i64 p, .int .i64 0]) ∧ Ext No w w' := by
  have HS := Lib.hid hS
  clear hS
  go_enter Tryz.func24, Tryz.ntmps24
  go_wp2_with fail
  refine (HS.out).mono ?_
  rintro e w1 ⟨rfl, hx1⟩
  go_wp2_with fail
  go_ret2
  exact ⟨rfl, by (repeat' (first | exact Ext.refl _ _ | assumption | apply Ext.alloc | apply Ext.drewN | apply Ext.drew | refine Ext.setNew ?_ (by first | omega | (simp; omega) | simp) _ _ | refine Ext.setF ?_ (by first | exact Or.inl rfl | exact Or.inr rfl | rfl) _ _ | refine Ext.trans_ ?_ (by assumption) | refine Ext.trans_ ?_ (Ext.of_no (by assumption))))⟩

end Go.Proofs.YtccnemmlkcmceaaGreatDoor

/- Put and Delete, where there is room. -/
set_option linter.unusedVariables false
set_option linter.unusedSimpArgs false
namespace Go.Proofs.YtccnemmlkcmceaaGreatDoor
open Go.RowKit 

theorem mk_small_eq {cap : Nat} {v : V} {key val : Bs} (hl : 3 + key.length + val.length ≤ 160) : v.mkCell cap key val = (⟨key, val, 0, 0⟩, 0, v) := by unfold V.mkCell; rw [if_pos hl]

theorem Put_room (s : Sys) (hs : s.Ok) (w : World) (v : V) (h : TxAt w s v) (hg : v.Good) (gx i : Nat) (hx : Blk w gx 70 (treeCells s i)) (hi : i < 4) (key val : Bs) (hm : may key val = 0) (hl : 3 + key.length + val.length ≤ 160)
    (ws : List Stp) (hw : v.way i key = some ws) (hh : hit ws key = none) (hr : ∀ st, ws.getLast? = some st → (v.wr st.id (st.n.put ⟨key, val, 0, 0⟩)).1 ≠ 3) :
    Calls Tryz.prog 25 #[.pointer (some ⟨gx, 0, none⟩), .string (str key), .string (str val)] w (Did s w (v.Put s.cap i key val)) := by
  have hM := mk_small s hs v key val hl
  have he := mk_small_eq (cap := s.cap) (v := v) hl
  refine Put_of s hs w v h hg gx i hx key val hm fun w' e => ?_
  have h' := h.no hs e
  have hx' := hx.ext e (fun h => h)
  match ws, hw, hh, hr with
  | [], hw, _, _ => exact put0_first s hs w' v h' hg gx i hx' hi key val hw hM (by rw [he])
  | a :: l, hw, hh, hr =>
    obtain ⟨st, hst⟩ : ∃ st, (a :: l).getLast? = some st := ⟨_, List.getLast?_eq_some_getLast (by simp)⟩
    have hG : GrowOk s i v (a :: l) (st.n.put ⟨key, val, 0, 0⟩) := grow_one s hs i v (a :: l) _ st hst (hr st hst)
    have hp : v.put0 s.cap i key val = V.grow s.cap i (a :: l).reverse (st.n.put ⟨key, val, 0, 0⟩) v := by
      unfold V.put0
      rw [hw, he]
      simp only [ne_eq, not_true, if_false, hst, hh]
    rw [hp]
    have := put0_new s hs w' v h' hg gx i hx' hi key val (a :: l) hw st hst hM (by rw [he]) hh (by rw [he]; exact hG)
    rw [he] at this
    exact this

theorem letGo_small {v : V} {c : Cell} (h : c.over = 0) : v.letGo c = (0, v) := by unfold V.letGo; rw [h]; exact drop_stop _ _

theorem Del_room (s : Sys) (hs : s.Ok) (w : World) (v : V) (h : TxAt w s v) (hg : v.Good) (gx i : Nat) (hx : Blk w gx 70 (treeCells s i)) (hi : i < 4) (key : Bs) (hm : may key [] = 0)
    (st : Stp) (hw : v.way i key = some [st]) (c : Cell) (hh : hit [st] key = some c) (hc : c.over = 0) (hlf : st.n.leaf = true) (hks : st.n.keys = []) :
    Calls Tryz.prog 27 #[.pointer (some ⟨gx, 0, none⟩), .string (str key)] w (DidB s w (v.Del s.cap i key)) := by
  refine Del_of s hs w v h gx i hx key hm fun w' e => ?_
  have h' := h.no hs e
  have hx' := hx.ext e (fun h => h)
  have hlg := letGo_small (v := v) hc
  have := del0_hit s hs w' v h' hg gx i hx' hi key [st] hw st rfl c hh (by rw [hlg]; exact fun _ => shrink_one s hs i hi v st (st.n.cut st.i) hlf hks)
  have hp : v.del0 s.cap i key = if (v.letGo c).1 ≠ 0 then (false, v.letGo c) else (true, V.shrink s.cap i [st].reverse (st.n.cut st.i) (v.letGo c).2) := by
    unfold V.del0
    rw [hw]
    simp only [hh]
    rfl
  rw [hp]
  exact this

end Go.Proofs.YtccnemmlkcmceaaGreatDoor

/- A page's bytes, as a new disk has them. -/
set_option linter.unusedVariables false
set_option linter.unusedSimpArgs false
namespace Go.Proofs.YtccnemmlkcmceaaGreatDoor
open Go.RowKit Go.BigFrame

theorem str_app (a b : List UInt8) : str a ++ str b = str (a ++ b) := by
  apply ByteArray.ext
  simp [str, ByteArray.data_append]
theorem zs_app (a b : Nat) : zs a ++ zs b = zs (a + b) := by simp [zs]

set_option maxRecDepth 100000 in
set_option maxHeartbeats 800000 in
theorem image_zero (x d kb n log id : Nat) (w : World) (x0 : w.cell? ⟨x, 0, none⟩ = some (.pointer (some ⟨d, 0, none⟩))) (x2 : w.cell? ⟨x, 2, none⟩ = some (.int .i64 (log : Int)))
    (h : Blk w d 140 (diskCells kb n)) (hk : Blk w kb 142 (madeCells zero64 (n * 64))) (hn : n ≤ 65536) (hi : log + id * 8 + 8 ≤ n) :
    Calls Tryz.prog 83 #[.pointer (some ⟨x, 0, none⟩), .int .i64 (id : Int)] w fun e w' => e = .returned (.tuple #[.string (str (zs 512)), .int .i64 0]) ∧ Ext No w w' := by
  have HD := Lib.hid h; have HK := Lib.hid hk
  have HR := Lib.hid (fun k (hk8 : k < 8) w (h : Blk w d 140 (diskCells kb n)) (hk : Blk w kb 142 (madeCells zero64 (n * 64))) => (show ((log + id * 8 + k : Nat) : Int) = (log : Int) + (id : Int) * 8 + (k : Int) by omega) ▸ disk_read d kb n (log + id * 8 + k) (by omega) hn w h hk)
  obtain ⟨z, hz⟩ : ∃ z, z = str (zs 64) := ⟨_, rfl⟩
  rw [← hz] at HR
  have HZ := Lib.hid hz
  clear h hk hz
  go_enter Tryz.func83, Tryz.ntmps83
  go_wp2_with fail
  go_loopg [6, 10] 8 (fun gk s k wr => ∃ K : Nat, K + gk = 8 ∧ k = .int .i64 (K : Int) ∧ s = .string (str (List.replicate (K * 64) 0)) ∧ Ext No w wr)
  case atStart => exact ⟨0, rfl, rfl, rfl, Ext.refl _ _⟩
  case round =>
    obtain ⟨K, hK, rfl, rfl, hE⟩ := hrel
    have y0 := cell_ext hE x0 (fun h => h)
    have y2 := cell_ext hE x2 (fun h => h)
    have l0 := World.block_lt_of_cell? wr _ y0
    simp only at l0
    have HE := Lib.hid hE
    have HKK := Lib.hid hK
    clear hE
    by_cases h8 : K < 8
    · have HR1 := Lib.hid (fun (i : Upd wr) => HR.out K h8 (up wr i) (HD.out.ext (HE.out.trans_ (up_ext wr i)) (fun h => h)) (HK.out.ext (HE.out.trans_ (up_ext wr i)) (fun h => h)))
      have h8' : (K : Int) < 8 := by omega
      have b1 : (log : Int) + (id : Int) * 8 + K < 65536 := by omega
      have b2 : (0 : Int) ≤ (log : Int) + (id : Int) * 8 + K := by omega
      clear hK h8 hi
      go_wp2_with fail
      refine wp_region_up (by kernel_rfl) (by kernel_rfl) ?_; (repeat (go_big_quiet_step ((go_at_call 119; exact Calls.up_of (HR1.out _))))); refine wpQuiet_nil ?_; intro _ hw'; obtain ⟨⟨wq, hq⟩, hw''⟩ := hw'; change _ = wq at hw''; subst hw''
      clear HR HD HK HR1 b1 b2 hn x0 x2 y0 y2 l0
      have hzs : z.size = 64 := by rw [HZ.out, str_size, zs_len]
      have hK7 : K * 64 ≤ 448 := by omega
      go_wp2_with fail

      go_roundg (gk - 1)
      case rel => exact ⟨K + 1, by have := HKK.out; omega, by go_num, by rw [HZ.out, str_app]; show Value.string (str (zs (K * 64) ++ zs 64)) = Value.string (str (zs ((K + 1) * 64))); rw [zs_app, Nat.succ_mul], HE.out.trans_ hq⟩
      case measure => have := HKK.out; omega
    · have hK8 : K = 8 := by omega
      subst hK8
      clear hK h8 hi
      go_wp2_with fail
      go_ret2
      exact ⟨rfl, HE.out⟩

end Go.Proofs.YtccnemmlkcmceaaGreatDoor

/- The log on a new disk; its records: none. -/
set_option linter.unusedVariables false
set_option linter.unusedSimpArgs false
namespace Go.Proofs.YtccnemmlkcmceaaGreatDoor
open Go.RowKit 

theorem repeat_zs (n : Nat) : (⟨(Lib.repeatL [0] n).toArray⟩ : ByteArray) = str (zs n) := by
  induction n with
  | zero => rfl
  | succ n ih =>
    have h := congrArg (fun s : ByteArray => s.data.toList) ih
    simp only [str] at h ⊢
    congr 1
    simp only [Lib.repeatL, zs, List.replicate_succ] at h ⊢
    simp at h ⊢
    exact h

def logCells (d n : Nat) : Array Value := #[.pointer (some ⟨d, 0, none⟩), .int .i64 0, .int .i64 (n : Int), .int .i64 0, .slice none 0 0, .slice none 0 0, .slice none 0 0, .bool false]

set_option maxRecDepth 100000 in
set_option maxHeartbeats 800000 in
theorem wal_new (d kb n m : Nat) (hm : 2 ≤ m) (hmn : m ≤ n) (hn : n ≤ 65536) (w : World) (h : Blk w d 140 (diskCells kb n)) (hk : Blk w kb 142 (madeCells zero64 (n * 64))) :
    Calls Tryz.prog 80 #[.pointer (some ⟨d, 0, none⟩), .int .i64 0, .int .i64 (m : Int)] w fun e w' => e = .returned (.tuple #[.pointer (some ⟨w.heap.size, 0, none⟩), .int .i64 0]) ∧
      Blk w' w.heap.size 179 (logCells d m) ∧ Ext No w w' := by
  have c0 := h.cell 0
  have c2 := h.cell 2
  simp [diskCells] at c0 c2
  have HD := Lib.hid h; have HK := Lib.hid hk
  have HS := Lib.hid (fun w c0 => dsize_any d n ⟨kb, 0, none⟩ w c0 (by omega))
  have HW := Lib.hid (fun w c0 c2 => ddown_any d n ⟨kb, 0, none⟩ w false c0 (by omega) c2)
  have HR := Lib.hid (fun w h hk => disk_read d kb n 0 (by omega) hn w h hk)
  have HP := Lib.hid (fun w => Tryz.strings_Repeat ⟨#[0]⟩ 64 w (by omega) (by show 1 * 64 ≤ _; omega))
  have hrep : (⟨(Lib.repeatL (⟨#[0]⟩ : ByteArray).data.toList 64).toArray⟩ : ByteArray) = str (zs 64) := repeat_zs 64
  rw [hrep] at HP
  obtain ⟨z, hz⟩ : ∃ z, z = str (zs 64) := ⟨_, rfl⟩
  rw [← hz] at HR HP
  have g1 : ¬ ((m : Int) < 2) := by omega
  have g2 : ¬ ((n : Int) < m) := by omega
  have g3 : ((n : Int) == 0) = false := by simpa using (by omega : ¬ (n : Int) = 0)
  have g4 : ¬ ((n : Int) < 0) := by omega
  have hlt := h.lt
  clear h hk hrep hz
  go_enter Tryz.func80, Tryz.ntmps80
  go_wp2_with (first | (go_at_call 93; refine (HS.out _ c0).mono ?_; rintro e w' ⟨rfl, rfl⟩) | (go_at_call 40; refine (HW.out _ c0 c2).mono ?_; rintro e w' ⟨rfl, rfl⟩))
  have hb := Blk.new w 179 (logCells d m)
  refine (HR.out _ (HD.out.alloc _) (HK.out.alloc _)).mono ?_
  rintro e w1 ⟨rfl, hx1⟩
  have hb1 := hb.ext hx1 (fun h => h)
  go_wp2_with fail
  refine (HP.out _).mono ?_
  rintro e w2 ⟨rfl, hx2⟩
  have hx2' := Ext.of_below hx2 No
  have hb2 := hb1.ext hx2' (fun h => h)
  go_wp2_with fail
  go_ret2
  exact ⟨rfl, hb2, (((Ext.refl No w).alloc _).trans_ hx1).trans_ hx2'⟩

end Go.Proofs.YtccnemmlkcmceaaGreatDoor

/- The database on a new disk. -/
set_option linter.unusedVariables false
set_option linter.unusedSimpArgs false
namespace Go.Proofs.YtccnemmlkcmceaaGreatDoor
open Go.RowKit 

theorem log_none (l d m : Nat) (w : World) (h : Blk w l 179 (logCells d m)) :
    Calls Tryz.prog 109 #[.pointer (some ⟨l, 0, none⟩)] w fun e w' => e = .returned (.bool false) ∧ w = w' := by
  have c0 := h.cell 0
  simp [logCells] at c0
  go_enter Tryz.func109, Tryz.ntmps109
  go_wp2
  go_ret
  exact ⟨rfl, rfl⟩

set_option maxHeartbeats 400000 in
theorem log_records (l d m : Nat) (w : World) (h : Blk w l 179 (logCells d m)) :
    Calls Tryz.prog 81 #[.pointer (some ⟨l, 0, none⟩)] w fun e w' => e = .returned (.slice none 0 0) ∧ Ext No w w' := by
  have HN := Lib.hid (log_none l d m w h)
  have HC := Lib.hid (fun w => Tryz.slices_Clone_nil_f124 0 0 w)
  have c5 := h.cell 5
  simp [logCells] at c5
  clear h
  go_enter Tryz.func81, Tryz.ntmps81
  go_wp2_with fail
  refine (HN.out).mono ?_
  rintro e w1 ⟨rfl, rfl⟩
  go_wp2_with fail
  refine (HC.out _).mono ?_
  rintro e w2 ⟨rfl, rfl⟩
  go_wp2_with fail
  go_ret
  exact ⟨rfl, Ext.refl _ _⟩

/-- The database's cells. -/
def dbCells (d l log high : Nat) (o : Option Addr) : Array Value :=
  #[.pointer (some ⟨d, 0, none⟩), .pointer (some ⟨l, 0, none⟩), .int .i64 (log : Int), .int .i64 0, .int .i64 0, .int .i64 0, .int .i64 0, .int .i64 (high : Int), .int .i64 0, .int .i64 0, .pointer o, .bool false]

set_option maxHeartbeats 400000 in
theorem db_settle (x d l m log high : Nat) (o : Option Addr) (w : World) (h : Blk w l 179 (logCells d m)) (hx : Blk w x 131 (dbCells d l log high o)) :
    Calls Tryz.prog 70 #[.pointer (some ⟨x, 0, none⟩)] w fun e w' => e = .returned (.int .i64 0) ∧ Ext No w w' := by
  have HR := Lib.hid (log_records l d m w h)
  have c1 := hx.cell 1
  simp [dbCells] at c1
  clear h hx
  go_enter Tryz.func70, Tryz.ntmps70
  go_wp2_with fail
  refine (HR.out).mono ?_
  rintro e w1 ⟨rfl, hx1⟩
  go_wp2_with fail
  go_ret
  exact ⟨rfl, hx1⟩

theorem trim_zs (n : Nat) : Lib.trimB (zs n) 0 = [] := by simp [Lib.trimB, Lib.trimLeftB, Lib.trimRightB, zs]

set_option maxHeartbeats 400000 in
theorem blank_zs (w : World) :
    Calls Tryz.prog 84 #[.string (str (zs 512))] w fun e w' => e = .returned (.bool true) ∧ Ext No w w' := by
  have hsz : (str (zs 512)).size = 512 := by rw [str_size, zs_len]
  have HT := Lib.hid (fun w => Tryz.strings_Trim_one (str (zs 512)) 0 (by decide) w (by omega))
  have ht : (⟨(Lib.trimB (str (zs 512)).data.toList 0).toArray⟩ : ByteArray) = str [] := by rw [str_toList, trim_zs]; rfl
  rw [ht] at HT
  obtain ⟨z, hz⟩ : ∃ z, z = str (zs 512) := ⟨_, rfl⟩
  rw [← hz] at HT hsz ⊢
  clear hz ht
  go_enter Tryz.func84, Tryz.ntmps84
  go_wp2_with fail
  refine (HT.out _).mono ?_
  rintro e w1 ⟨rfl, hw⟩
  have hE : Ext No w w1 := by
    rcases hw with rfl | rfl
    · exact Ext.refl _ _
    · exact (Ext.refl _ _).drew
  simp only [str]
  go_wp2_with fail
  go_ret
  exact ⟨rfl, hE⟩

set_option maxHeartbeats 400000 in
theorem db_count (x d kb n log : Nat) (w : World) (x0 : w.cell? ⟨x, 0, none⟩ = some (.pointer (some ⟨d, 0, none⟩))) (x2 : w.cell? ⟨x, 2, none⟩ = some (.int .i64 (log : Int)))
    (h : Blk w d 140 (diskCells kb n)) (h1 : 1 ≤ n) (hn : n ≤ 65536) (hl : log ≤ n) :
    Calls Tryz.prog 56 #[.pointer (some ⟨x, 0, none⟩)] w fun e w' => e = .returned (.int .i64 (((n - log) / 8 : Nat) : Int)) ∧ ∃ k, w' = w.drewN k := by
  have HD := Lib.hid h
  have g1 : (0 : Int) ≤ (n : Int) - log := by omega
  go_enter Tryz.func56, Tryz.ntmps56
  go_wp2_with (go_at_call 76; refine (xnone_no x d _ x0).mono ?_; rintro e w' ⟨rfl, rfl⟩)
  go_quiet ((go_at_call 93; exact Calls.quiet_of_same ((dsize_any d n ⟨kb, 0, none⟩ _ (by exact HD.out.cell 0) h1).mono fun _ _ ⟨h1, h2⟩ => ⟨h1, h2.symm⟩)))
  go_wp2
  go_ret
  exact ⟨ret_int (by omega), _, rfl⟩

end Go.Proofs.YtccnemmlkcmceaaGreatDoor

/- The database on a new disk: Open, Begin. -/
set_option linter.unusedVariables false
set_option linter.unusedSimpArgs false
namespace Go.Proofs.YtccnemmlkcmceaaGreatDoor
open Go.RowKit 

/-- A database on a new disk. -/
structure NewDb (w : World) (kb d l x n log : Nat) (o : Option Addr) : Prop where
  kept : Blk w kb 142 (madeCells zero64 (n * 64))
  disk : Blk w d 140 (diskCells kb n)
  wal : Blk w l 179 (logCells d log)
  db : Blk w x 131 (dbCells d l log 1 o)

set_option maxRecDepth 100000 in
set_option maxHeartbeats 800000 in
theorem db_open (d kb n log : Nat) (w : World) (h : Blk w d 140 (diskCells kb n)) (hk : Blk w kb 142 (madeCells zero64 (n * 64))) (hn : n ≤ 65536) (hl : 2 ≤ log) (hln : log + 32 ≤ n) :
    Calls Tryz.prog 43 #[.pointer (some ⟨d, 0, none⟩), .int .i64 (log : Int)] w fun e w' => ∃ l x, e = .returned (.tuple #[.pointer (some ⟨x, 0, none⟩), .int .i64 0]) ∧ NewDb w' kb d l x n log none ∧ Ext No w w' ∧ w.heap.size ≤ x := by
  have HD := Lib.hid h; have HK := Lib.hid hk
  have HW := Lib.hid (wal_new d kb n log hl (by omega) hn w h hk)
  have g1 : ¬ ((((n - log) / 8 : Nat) : Int) < 4) := by omega
  generalize hcn : (n - log) / 8 = cn at g1
  have HCN := Lib.hid hcn
  clear h hk hcn
  go_enter Tryz.func43, Tryz.ntmps43
  go_wp2_with fail
  refine (HW.out).mono ?_
  rintro e w1 ⟨rfl, hb1, hx1⟩
  have HB1 := Lib.hid hb1
  have HX1 := Lib.hid hx1
  have hx2 : Ext No w1 (w1.alloc (.cells (dbCells d w.heap.size log 0 none) 131)) := (Ext.refl No w1).alloc _
  have hb2 := Blk.new w1 131 (dbCells d w.heap.size log 0 none)
  have hl2 := hb1.ext hx2 (fun h => h)
  have hd2 := (HD.out.ext hx1 (fun h => h)).ext hx2 (fun h => h)
  have hk2 := (HK.out.ext hx1 (fun h => h)).ext hx2 (fun h => h)
  have HC := Lib.hid (db_count w1.heap.size d kb n log _ (hb2.cell 0) (hb2.cell 2) hd2 (by omega) hn (by omega))
  rw [HCN.out] at HC
  have HB2 := Lib.hid hb2; have HL2 := Lib.hid hl2; have HD2 := Lib.hid hd2; have HK2 := Lib.hid hk2; have HX2 := Lib.hid hx2
  clear hb1 hx1 hx2 hb2 hl2 hd2 hk2
  go_wp2_with fail
  refine (HC.out).mono ?_
  rintro e w3 ⟨rfl, k, hw3⟩
  have hx3 : Ext No (w1.alloc (.cells (dbCells d w.heap.size log 0 none) 131)) w3 := by rw [hw3]; exact (Ext.refl No _).drewN k
  have HX3 := Lib.hid hx3
  have HR := Lib.hid (log_records w.heap.size d log w3 (HL2.out.ext hx3 (fun h => h)))
  clear hw3 hx3
  go_wp2_with fail
  refine (HR.out).mono ?_
  rintro e w4 ⟨rfl, hx4⟩
  have HX4 := Lib.hid ((HX2.out.trans_ HX3.out).trans_ hx4)
  have hb4 := HB2.out.ext (HX3.out.trans_ hx4) (fun h => h)
  have HB4 := Lib.hid hb4
  have hl4 := Lib.hid (HL2.out.ext (HX3.out.trans_ hx4) (fun h => h))
  have hd4 := Lib.hid (HD2.out.ext (HX3.out.trans_ hx4) (fun h => h))
  have hk4 := Lib.hid (HK2.out.ext (HX3.out.trans_ hx4) (fun h => h))
  clear hx4 hb4
  go_wp2_with fail
  go_loopg [38] 0 (fun gk k wr => k = .int .i64 0 ∧ w4 = wr)
  case atStart => exact ⟨rfl, rfl⟩
  case round =>
    obtain ⟨rfl, rfl⟩ := hrel
    have HS := Lib.hid (db_settle w1.heap.size d w.heap.size log log 0 none w4 hl4.out HB4.out)
    go_wp2_with fail
    refine (HS.out).mono ?_
    rintro e w5 ⟨rfl, hx5⟩
    have HX5 := Lib.hid hx5
    have hb5 := HB4.out.ext hx5 (fun h => h)
    have HB5 := Lib.hid hb5
    have HI := Lib.hid (image_zero w1.heap.size d kb n log 0 w5 (hb5.cell 0) (hb5.cell 2) (hd4.out.ext hx5 (fun h => h)) (hk4.out.ext hx5 (fun h => h)) hn (by omega))
    clear hx5 hb5
    go_wp2_with fail
    refine (HI.out).mono ?_
    rintro e w6 ⟨rfl, hx6⟩
    have HX6 := Lib.hid hx6
    have HBL := Lib.hid (fun w => blank_zs w)
    clear hx6
    obtain ⟨z, hz⟩ : ∃ z, z = str (zs 512) := ⟨_, rfl⟩
    rw [← hz] at HBL ⊢
    clear hz
    go_wp2_with fail
    refine (HBL.out _).mono ?_
    rintro e w7 ⟨rfl, hx7⟩
    have hx57 := (HX5.out.trans_ HX6.out).trans_ hx7
    have hb7 := HB4.out.ext hx57 (fun h => h)
    have f7 := hb7.frozen 7
    have c7 := hb7.cell 7
    simp [dbCells] at c7
    have l7 := hb7.lt
    have hne1 : d ≠ w1.heap.size := by have := HD.out.lt; have := HX1.out.size; omega
    have hne2 : kb ≠ w1.heap.size := by have := HK.out.lt; have := HX1.out.size; omega
    have hne3 : w.heap.size ≠ w1.heap.size := by have := HB1.out.lt; omega
    have HB7 := Lib.hid hb7; have HX7 := Lib.hid hx57
    clear hb7 hx57 hx7
    go_wp2_with fail
    go_ret2
    refine ⟨w.heap.size, w1.heap.size, rfl, ⟨?_, ?_, ?_, ?_⟩, ?_, HX1.out.size⟩
    · exact (hk4.out.ext HX7.out (fun h => h)).far hne2 _
    · exact (hd4.out.ext HX7.out (fun h => h)).far hne1 _
    · exact (hl4.out.ext HX7.out (fun h => h)).far hne3 _
    · exact HB7.out.set_ 7 (.int .i64 1)
    · exact ((HX1.out.trans_ HX4.out).trans_ HX7.out).setNew HX1.out.size _ _

end Go.Proofs.YtccnemmlkcmceaaGreatDoor

/- The database on a new disk: Begin. -/
set_option linter.unusedVariables false
set_option linter.unusedSimpArgs false
namespace Go.Proofs.YtccnemmlkcmceaaGreatDoor
open Go.RowKit 

theorem newDb_up (w : World) (kb d l x n log : Nat) (o : Option Addr) (h : NewDb w kb d l x n log o) (hn : 1 ≤ n) :
    Calls Tryz.prog 74 #[.pointer (some ⟨x, 0, none⟩)] w fun e w' => e = .returned (.int .i64 0) ∧ w = w' := by
  exact xup_any x d n ⟨kb, 0, none⟩ w false false (h.disk.cell 0) hn (h.disk.cell 2) (h.db.cell 0) (h.db.cell 11)

/-- The parts of a new transaction of a new database. -/
def newSys (kb d l x n log t : Nat) (m : Nat) : Sys := ⟨d, x, t, m, ⟨kb, 0, none⟩, n, log, fun w => NewDb w kb d l x n log (some ⟨t, 0, none⟩), 1, fun _ => ⟨0, []⟩, fun _ => str []⟩
/-- What it shows. -/
def v0 : V := ⟨fun _ => 0, 1, 0, 0, fun _ => ⟨0, []⟩, false, false⟩

theorem v0_good : v0.Good := ⟨[], by simp, rfl, rfl, fun a => by simp only [v0]; constructor <;> (intro h; first | (obtain ⟨h1, h2, _⟩ := h; omega) | cases h), fun k a h => by simp at h, by decide, by decide, fun a h1 h2 => by simp [v0]⟩

theorem NewDb.ext {F : Nat → Prop} {w w' : World} {kb d l x n log : Nat} {o : Option Addr} (h : NewDb w kb d l x n log o) (he : Ext F w w') (h1 : ¬ F kb) (h2 : ¬ F d) (h3 : ¬ F l) (h4 : ¬ F x) : NewDb w' kb d l x n log o :=
  ⟨h.kept.ext he h1, h.disk.ext he h2, h.wal.ext he h3, h.db.ext he h4⟩

theorem newSys_ok {kb d l x n log t m H : Nat} (h1 : 1 ≤ n) (h2 : n ≤ 65536) (h3 : log ≤ n) (ht : H ≤ t) (hm : H ≤ m) (k1 : kb < H) (k2 : d < H) (k3 : l < H) (k4 : x < H) : (newSys kb d l x n log t m).Ok := by
  have off : ∀ b, b < H → ¬ (newSys kb d l x n log t m).F b := fun b hb hf => by
    rcases hf with hf | hf
    · have : b = t := hf
      omega
    · have : b = m := hf
      omega
  refine ⟨fun w w' he h => NewDb.ext h he (off _ k1) (off _ k2) (off _ k3) (off _ k4), fun w h => NewDb.db h |>.cell 0, fun w h => NewDb.db h |>.cell 2, fun w h => NewDb.db h |>.cell 10, fun w h => NewDb.db h |>.cell 11,
    fun w h => NewDb.disk h |>.cell 0, fun w h => NewDb.disk h |>.cell 2, ?_, ?_, h1, h2, h3, ?_, ?_⟩
  · show t ≠ x; omega
  · show t ≠ d; omega
  · intro w id _ a b; have : id < 1 := b; omega
  · intro w id a b; have : id < 1 := b; omega

set_option maxRecDepth 100000 in
set_option maxHeartbeats 800000 in
theorem db_begin (w : World) (kb d l x n log : Nat) (h : NewDb w kb d l x n log none) (hn : 1 ≤ n) (hln : log + 8 ≤ n) :
    Calls Tryz.prog 33 #[.pointer (some ⟨x, 0, none⟩)] w fun e w' => e = .returned (.tuple #[.pointer (some ⟨w.heap.size + 1, 0, none⟩), .int .i64 0]) ∧
      TxAt w' (newSys kb d l x n log (w.heap.size + 1) w.heap.size) v0 ∧ Ext (fun b => b = x) w w' := by
  have HU := Lib.hid (newDb_up w kb d l x n log none h hn)
  have hx := h.db
  obtain ⟨y0, y1, y2, y3, y4, y5, y6, y7, y8, y9, y10, y11⟩ : w.cell? ⟨x, 0, none⟩ = _ ∧ w.cell? ⟨x, 1, none⟩ = _ ∧ w.cell? ⟨x, 2, none⟩ = _ ∧ w.cell? ⟨x, 3, none⟩ = _ ∧ w.cell? ⟨x, 4, none⟩ = _ ∧ w.cell? ⟨x, 5, none⟩ = _ ∧ w.cell? ⟨x, 6, none⟩ = _ ∧ w.cell? ⟨x, 7, none⟩ = _ ∧ w.cell? ⟨x, 8, none⟩ = _ ∧ w.cell? ⟨x, 9, none⟩ = _ ∧ w.cell? ⟨x, 10, none⟩ = _ ∧ w.cell? ⟨x, 11, none⟩ = _ :=
    ⟨hx.cell 0, hx.cell 1, hx.cell 2, hx.cell 3, hx.cell 4, hx.cell 5, hx.cell 6, hx.cell 7, hx.cell 8, hx.cell 9, hx.cell 10, hx.cell 11⟩
  simp [dbCells] at y0 y1 y2 y3 y4 y5 y6 y7 y8 y9 y10 y11
  have fz := hx.frozen
  have lx := hx.lt
  have HX := Lib.hid h
  have hmk : ∀ w, (Instr.makeMap 109 none).run Tryz.prog w = .ok (.map (some w.heap.size)) (w.alloc (.map #[] 0)) := fun w => rfl
  clear h hx
  go_enter Tryz.func33, Tryz.ntmps33
  go_wp2_with fail
  refine (HU.out).mono ?_
  rintro e w1 ⟨rfl, rfl⟩
  go_wp2_with fail
  go_ret2
  obtain ⟨u, hu⟩ : ∃ u, u = w.setCell ⟨x, 10, none⟩ (.pointer (some ⟨w.heap.size + 1, 0, none⟩)) := ⟨_, rfl⟩
  rw [← hu]
  have hE0 : Ext (fun b => b = x) w u := by rw [hu]; exact (Ext.refl (fun b => b = x) w).setF (b := x) rfl _ _
  have hus : u.heap.size = w.heap.size := by rw [hu]; simp [World.setCell]
  obtain ⟨cs, hcs⟩ : ∃ cs, cs = v0.cells (newSys kb d l x n log (w.heap.size + 1) w.heap.size) := ⟨_, rfl⟩
  have hE : Ext (fun b => b = x) w ((u.alloc (.map #[] 0)).alloc (.cells cs 111)) := (hE0.alloc _).alloc _
  rw [hcs] at hE
  have hE1 : Ext No u ((u.alloc (.map #[] 0)).alloc (.cells cs 111)) := ((Ext.refl No u).alloc _).alloc _
  rw [hcs] at hE1
  have hx := HX.out
  have hb : Blk u x 131 (dbCells d l log 1 (some ⟨w.heap.size + 1, 0, none⟩)) := by rw [hu]; exact hx.db.set_ 10 _
  refine ⟨rfl, ⟨?_, ⟨?_, ?_, ?_, ?_⟩, by decide, ?_, Nat.le_refl _, by decide, [], ⟨by simp, #[], 0, ?_, rfl⟩, by simp, ?_⟩, hE⟩
  · have := Blk.new (u.alloc (.map #[] 0)) 111 (v0.cells (newSys kb d l x n log (w.heap.size + 1) w.heap.size))
    have e : (u.alloc (.map #[] 0)).heap.size = w.heap.size + 1 := by simp [hus]
    rw [e] at this
    exact this
  · exact (hx.kept.ext hE (hx.kept.ne_ hx.db (by decide)))
  · exact (hx.disk.ext hE (hx.disk.ne_ hx.db (by decide)))
  · exact (hx.wal.ext hE (hx.wal.ne_ hx.db (by decide)))
  · exact hb.ext hE1 (fun h => h)
  · show 1 ≤ (n - log) / 8; omega
  · have h1 : (u.alloc (.map #[] 0)).heap[w.heap.size]? = some (.map #[] 0) := by rw [← hus]; exact heap_alloc_new u _
    exact (Below.heap_alloc _ _ _ (by show w.heap.size < _; simp [hus])).trans h1
  · intro i h1 h2
    have h2' : i < 1 := h2
    omega

end Go.Proofs.YtccnemmlkcmceaaGreatDoor

/- begin: a new database, and a transaction of it. -/
set_option linter.unusedVariables false
set_option linter.unusedSimpArgs false
namespace Go.Proofs.YtccnemmlkcmceaaGreatDoor
open Go.RowKit 

/-- A new transaction of a new database of p pages. -/
structure Fresh (w : World) (s : Sys) (p : Nat) : Prop where
  ok : s.Ok
  tx : TxAt w s v0
  cap : s.cap = p
  sys : ∃ kb d l x t m, s = newSys kb d l x (400 + 8 * p) 400 t m ∧ t < w.heap.size ∧ m < w.heap.size ∧ t ≠ kb ∧ t ≠ d ∧ t ≠ l ∧ t ≠ x ∧ m ≠ kb ∧ m ≠ d ∧ m ≠ l ∧ m ≠ x

set_option maxRecDepth 100000 in
set_option maxHeartbeats 800000 in
theorem begin_any (p : Nat) (h1 : 4 ≤ p) (h2 : p ≤ 4000) (w : World) :
    Calls Tryz.prog 12 #[.int .i64 (p : Int)] w fun e w' => ∃ s, Fresh w' s p ∧ e = .returned (.tuple #[.pointer (some ⟨s.d, 0, none⟩), .pointer (some ⟨s.x, 0, none⟩), .pointer (some ⟨s.t, 0, none⟩)]) ∧ Ext No w w' ∧
      w.heap.size ≤ s.t ∧ w.heap.size ≤ s.m ∧ w.heap.size ≤ s.x ∧ w.heap.size ≤ s.d := by
  have HN := Lib.hid (disk_new (400 + 8 * p) (by omega) (by omega) w)
  have e1 : ((400 + 8 * p : Nat) : Int) = 400 + 8 * (p : Int) := by omega
  rw [e1] at HN
  have g1 : (p : Int) ≤ 4000 := by omega
  have g2 : (0 : Int) ≤ p := by omega
  have H1 := Lib.hid h1; have H2 := Lib.hid h2
  clear e1 h1 h2
  go_enter Tryz.func12, Tryz.ntmps12
  go_wp2_with fail
  refine (HN.out).mono ?_
  rintro e w1 ⟨rfl, hd, hk, hsz, hx1⟩
  have HO := Lib.hid (db_open (w.heap.size + 1) w.heap.size (400 + 8 * p) 400 w1 hd hk (by have := H2.out; omega) (by omega) (by have := H1.out; omega))
  have HX1 := Lib.hid hx1
  have HSZ := Lib.hid hsz
  clear hd hk hsz hx1 g1 g2
  go_wp2_with fail
  refine (HO.out).mono ?_
  rintro e w2 ⟨l, x, rfl, hnew, hx2, hxl⟩
  have HNW := Lib.hid hnew; have HX2 := Lib.hid hx2; have HXL := Lib.hid hxl
  have HB := Lib.hid (db_begin w2 w.heap.size (w.heap.size + 1) l x (400 + 8 * p) 400 hnew (by omega) (by have := H1.out; omega))
  clear hnew hx2 hxl
  go_wp2_with fail
  refine (HB.out).mono ?_
  rintro e w3 ⟨rfl, hT, hx3⟩
  have HT := Lib.hid hT; have HX3 := Lib.hid hx3
  clear hT hx3
  go_wp2_with fail
  go_ret3
  have a1 := HNW.out.kept.lt
  have a2 := HNW.out.disk.lt
  have a3 := HNW.out.wal.lt
  have a4 := HNW.out.db.lt
  have a5 := HT.out.tx.lt
  have a6 : w2.heap.size < w3.heap.size := HT.out.old (.inr rfl)
  have a7 := HSZ.out
  have a8 := HXL.out
  have a9 := HX2.out.size
  have b1 := H1.out
  have b2 := H2.out
  refine ⟨newSys w.heap.size (w.heap.size + 1) l x (400 + 8 * p) 400 (w2.heap.size + 1) w2.heap.size, ⟨?_, HT.out, ?_, ?_⟩, rfl, ?_, ?_, ?_, ?_, ?_⟩
  · exact newSys_ok (H := w2.heap.size) (by omega) (by omega) (by omega) (by omega) (Nat.le_refl _) a1 a2 a3 a4
  · show (400 + 8 * p - 400) / 8 = p; omega
  · refine ⟨w.heap.size, w.heap.size + 1, l, x, w2.heap.size + 1, w2.heap.size, rfl, a5, a6, ?_⟩
    omega
  · exact (HX1.out.trans_ HX2.out).trans HX3.out (fun b hb e => by
      have e' : b = x := e
      omega)
  · show w.heap.size ≤ w2.heap.size + 1; omega
  · show w.heap.size ≤ w2.heap.size; omega
  · show w.heap.size ≤ x; omega
  · show w.heap.size ≤ w.heap.size + 1; omega

end Go.Proofs.YtccnemmlkcmceaaGreatDoor

/- The example's states. -/
set_option linter.unusedVariables false
set_option linter.unusedSimpArgs false
namespace Go.Proofs.YtccnemmlkcmceaaGreatDoor
open Go.RowKit 

def ka : Bs := [97]
def kb : Bs := [98]
def vx : Bs := [120]
def vy : Bs := [121]
def e1 : V := (v0.Put 20 0 ka vx).2
def e2 : V := (e1.Put 20 0 kb vy).2
def e3 : V := (e2.Del 20 0 ka).2.2
def e4 : V := (e3.Del 20 0 kb).2.2
def cA : Cell := ⟨ka, vx, 0, 0⟩
def cB : Cell := ⟨kb, vy, 0, 0⟩

theorem f1 : v0.way 0 ka = some [] := by kernel_rfl
theorem f1e : (v0.Put 20 0 ka vx).1 = 0 := by kernel_rfl
theorem f2 : e1.way 0 kb = some [⟨1, ⟨true, [cA], [], []⟩, 1⟩] := by kernel_rfl
theorem f2e : (e1.Put 20 0 kb vy).1 = 0 := by kernel_rfl
theorem f2w : (e1.wr 1 ((⟨true, [cA], [], []⟩ : Nd).put cB)).1 = 0 := by kernel_rfl
theorem f2h : e2.height 0 = (1, 0) := by kernel_rfl
theorem f2r : e2.r 0 = 1 := by kernel_rfl
theorem f2n : e2.node 1 = some ⟨true, [cA, cB], [], []⟩ := by kernel_rfl
theorem f2g : e2.get 0 kb = (vy, true, 0) := by kernel_rfl
theorem f2y : e2.way 0 kb = some [⟨1, ⟨true, [cA, cB], [], []⟩, 1⟩] := by kernel_rfl
theorem f3 : e2.way 0 ka = some [⟨1, ⟨true, [cA, cB], [], []⟩, 0⟩] := by kernel_rfl
theorem f3e : (e2.Del 20 0 ka).1 = true ∧ (e2.Del 20 0 ka).2.1 = 0 := ⟨by kernel_rfl, by kernel_rfl⟩
theorem f4 : e3.way 0 kb = some [⟨1, ⟨true, [cB], [], []⟩, 0⟩] := by kernel_rfl
theorem f4e : (e3.Del 20 0 kb).1 = true ∧ (e3.Del 20 0 kb).2.1 = 0 := ⟨by kernel_rfl, by kernel_rfl⟩
theorem f5h : e4.height 0 = (0, 0) := by kernel_rfl
theorem f5r : e4.r 0 = 0 := by kernel_rfl

end Go.Proofs.YtccnemmlkcmceaaGreatDoor
