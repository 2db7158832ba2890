/- BtreeLasts: for every input, in whatever memory, the law returns true, and its arguments read as before. Conditions: the listed package variables hold what the program's text lays. -/
import Derived.Test.YtccnemmlkcmceaaGreatDoorHL22
set_option linter.unusedVariables false
set_option linter.unusedSimpArgs false
namespace Go.Proofs.YtccnemmlkcmceaaGreatDoor
open Go.RowKit Go.ChangeShapes Go.WideShapes Go.ChangeAt

set_option maxRecDepth 100000 in
/-- WHAT THE WALK GIVES, FOR EVERY ARGUMENT AND EVERY WORLD. -/
theorem CV (H : Type) (enc : TypeId × Value → H) (W : World) (base : Nat) (args : Array Value) (ds gs : List (DataW H)) (before : List MemPlace)
    (EX : ∀ (j : Nat) t v, Tryz.f11.params[j]? = some t → args[j]? = some v → Value.okWide Tryz.prog W .any base t v)
    (hW : DataW.Whole enc Tryz.prog Tryz.f11.params.toList Rows.btreeLastsSpec.vars false W args.toList ds gs before) (hT : gJ W Gj) :
    Calls Tryz.prog 11 args W fun e W' => ∃ v, e = .returned v ∧ Rows.btreeLastsSpec.post enc Tryz.prog Tryz.f11 false true false false W args v W' := by
  have hW' := hW
  have bu := fun x hx => hW.lt x hx
  obtain ⟨p, q, hA0, hV, rfl, xI, gN⟩ := hW
  have hA : DataW.TrodAll enc Tryz.prog W 0 (fun _ => true) true Tryz.f11.params.toList args.toList ds p := hA0
  rw [Tryz.params11] at hA EX
  obtain ⟨v0, v1, v2, d0, d1, d2, p0, p1, p2, rfl, rfl, rfl, h0, h1, h2⟩ := trodAll_three hA
  obtain ⟨rfl, rfl⟩ := trodVars_none hV
  obtain ⟨A0, l0, c0, rfl, rd0, ll0, ft0⟩ := G5 (EX 0 22 v0 rfl rfl) h0
  obtain ⟨A1, l1, c1, rfl, rd1, ll1, ft1⟩ := G5 (EX 1 22 v1 rfl rfl) h1
  obtain ⟨m2, n2, rfl, wm2, wn2⟩ := RB (EX 2 83 v2 rfl rfl) h2
  clear hA0
  simp only [List.append_nil] at hW' bu
  refine (CU A0 l0 c0 A1 l1 c1 m2 n2 W Gj hT rd0 ll0 ft0 rd1 ll1 ft1 wm2 wn2).mono fun e W' ⟨he, hx⟩ => ?_
  subst he
  have hb := hx.below
  refine ⟨_, rfl, _, _, _, [], p0 ++ p1 ++ p2, [], hW', ?_, ?_, ?_, WN hx _, fun h => by cases h⟩
  · exact trodAll_mk1 (shut_bool Tryz.underlying4 true)
  · rw [List.append_assoc]; exact trodAll_mk3 (Below.trod Tryz.laidOut (by kernel_rfl) (of_decide_eq_true (by kernel_rfl)) h0 hb (fun x hx => bu x (List.mem_append.2 (.inl (List.mem_append.2 (.inl hx)))))) (Below.trod Tryz.laidOut (by kernel_rfl) (of_decide_eq_true (by kernel_rfl)) h1 hb (fun x hx => bu x (List.mem_append.2 (.inl (List.mem_append.2 (.inr hx)))))) (Below.trod Tryz.laidOut (by kernel_rfl) (of_decide_eq_true (by kernel_rfl)) h2 hb (fun x hx => bu x (List.mem_append.2 (.inr hx))))
  · exact rfl

theorem K9 (os : Os) {H : Type} (enc : TypeId × Value → H) : ∃ places, DataW.whole enc Tryz.prog ((yR os).forCall (fun _ _ => 0) ⟨#[], #[.slice none 0 0, .slice none 0 0, .agg #[.int .i64 0, .int .i64 0]], []⟩).memory Tryz.f11.params.toList Rows.btreeLastsSpec.vars false (#[.slice none 0 0, .slice none 0 0, .agg #[.int .i64 0, .int .i64 0]] : Array Value).toList 8 = some ([.nil, .nil, .agg [.lit (.int .i64 0), .lit (.int .i64 0)]], [], places) :=
  ⟨[], by kernel_rfl⟩

set_option maxRecDepth 100000 in
theorem Il (os : Os) (started : os.Started) (H : Type) (enc : TypeId × Value → H) (F : Stop.Interp) :
    ReturnsInHanded {} Tryz.checked os 11 .any ((OpenSpec.ofChange Rows.btreeLastsSpec).preRow enc Tryz.prog Tryz.f11 Rows.btreeLastsRow.domain false Rows.btreeLastsRow.laid) (((OpenSpec.ofChange Rows.btreeLastsSpec).at F).post enc Tryz.prog Tryz.f11 false true false false) := by
  obtain ⟨places, hx⟩ := K9 os enc
  refine returnsInHanded_of_row (C := Tryz.checked) (s := OpenSpec.ofChange Rows.btreeLastsSpec) Tryz.own started (by kernel_rfl) Tryz.func11
    (witness_row_at (enc := enc) (C := Tryz.checked) false (yR os) #[.slice none 0 0, .slice none 0 0, .agg #[.int .i64 0, .int .i64 0]] rfl (by kernel_rfl) (by kernel_rfl) (by kernel_rfl)
      (OpenSpec.preRow_of_cond 8 hx (by kernel_rfl) (fun k hk => by cases hk) (by kernel_rfl) (Vf os _))) ?_
  intro W base args ds gs before EX hW _ _ _ hL _ _
  exact CV H enc W base args ds gs before EX hW (IQ hL)

set_option maxRecDepth 100000 in
theorem Om : Rows.BtreeLastsSaid :=
  OpenClaim.holds_of_cond 11 Tryz.f11 rfl rfl rfl rfl rfl rfl rfl ⟨rfl, rfl, rfl, rfl, rfl⟩ rfl rfl rfl rfl rfl (by kernel_rfl) Tryz.func11 (by kernel_rfl)
    (of_decide_eq_true (by kernel_rfl)) (by unfold Func.isWrapper; first | (rw [if_pos (by decide +kernel)]; kernel_rfl) | (rw [if_neg (by decide +kernel)]; exact ⟨rfl, rfl⟩))
    (fun os started H enc _ F => by rw [OpenClaim.pre_eq_preRow]; exact Il os started H enc F)

/-- No parameter wants a stand-in; the program's own looks are off: what the card asks. -/
theorem K_ (f : FuncId) (fn : Func) (hf : Tryz.pinned.checked.prog.funcNamed "aquifer/aquiferlaw12.BtreeLasts" = some f) (hfn : Tryz.pinned.checked.prog.funcs[f]? = some fn) :
    false = Tryz.pinned.checked.prog.looks [] ∧ ∀ (j : Nat) t, fn.params[j]? = some t → Tryz.pinned.checked.prog.wantsStandIn t = false := by
  obtain rfl : f = 11 := Option.some.inj ((show Tryz.prog.funcNamed "aquifer/aquiferlaw12.BtreeLasts" = some 11 by kernel_rfl).symm.trans hf) |>.symm
  obtain rfl : fn = Tryz.f11 := (Option.some.inj (Tryz.func11.symm.trans hfn)).symm
  refine ⟨by kernel_rfl, fun j t ht => ?_⟩
  rw [Tryz.params11] at ht
  have hm : t = 22 ∨ t = 22 ∨ t = 83 := by simpa using Array.mem_of_getElem? ht
  rcases hm with rfl | rfl | rfl
  · exact (show Tryz.prog.wantsStandIn 22 = false by kernel_rfl)
  · exact (show Tryz.prog.wantsStandIn 22 = false by kernel_rfl)
  · exact (show Tryz.prog.wantsStandIn 83 = false by kernel_rfl)

set_option maxRecDepth 100000 in
/-- THE CARD. -/
theorem lasts_card : Rows.BtreeLastsCardSaid :=
  Claim7.holds_tied_plain_at .later [] _ _ _ _ Om (fun _ h => by cases h) (by kernel_rfl) (fun _ h => by cases h) btreeLasts_row_tie rfl ⟨rfl, rfl⟩ (by kernel_rfl) rfl K_ (by kernel_rfl)
#print axioms lasts_card

end Go.Proofs.YtccnemmlkcmceaaGreatDoor
