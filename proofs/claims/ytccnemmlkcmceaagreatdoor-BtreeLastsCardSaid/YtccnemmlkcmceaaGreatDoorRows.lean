/-
  NARROWER THAN 'FOR EVERY INPUT', by the rows' own cells (each row's printed sentence says how): BtreeCells: laid · BtreeWild: laid · BtreeRoots: laid · BtreeNobody: laid · BtreeFull: laid · BtreePlays: laid · BtreeLean: laid · BtreeEmpty: laid · BtreeLasts: laid.
  DERIVED. THE GIVEN ROWS OF THIS SEAT. 9 by the template 'for every input the law returns true; each argument reads behind the call as it read before'; 0 by the template 'total and deterministic' (their statements: YtccnemmlkcmceaaGreatDoorTotals.lean).
  GIVEN WITH THE SEED: the statements are not yours to turn. If you find one false, say at which input.
  Laid BY PROGRAM, IN A SANDBOX (cutbox-rows.mjs): the forced cells as the released guide's own fill.sh prints them over the translation 79e9237128403fd9… (all of the seat's roots in one cut). By AI agents, Wed Nov 11 2026. No macro, syntax, notation, axiom, sorry.
-/
import Derived.Test.YtccnemmlkcmceaaGreatDoorChecked
import GoSem.PinnedTables
import GoSem.Claim
import GoSem.ClaimJoined
import GoSem.ClaimMapViews
import Derived.JoinedTies
import Derived.KernelRfl
namespace Go.Proofs.YtccnemmlkcmceaaGreatDoor
/- THE CELL 'sum', in the pinned program and in every row, IS THE sha256 OF THE DUMP (.gsa) THAT YtccnemmlkcmceaaGreatDoorProg.lean LOADS. Nothing in Lean hashes anything: it is a label: what it is worth is what the hold of that sum in a sandbox is worth. -/
noncomputable def Tryz.pinned : Pinned := { name := "ytccnemmlkcmceaagreatdoor", sum := "79e9237128403fd9deb9ce04bc7378faf29127fe5a729f49b4766fcf9c50ba50", checked := Tryz.checked }
namespace Rows
def none {H : Type} : Left H := { results := [], args := [] }

/- WHAT THE LISTED PACKAGE-LEVEL VARIABLES READ AS WHEN THE CALL BEGINS. Each datum BY PROGRAM (the guide's laid-datum.mjs) off the statement by which the dump's own 'gosem.cut.vars' lays the variable. In a bare row this is a premise. The card (YtccnemmlkcmceaaGreatDoorCards.lean) ties it to the program's text. -/
def laid_aquifer_castagnoli_half {H : Type} : DataW H := .agg [.lit (.int .u32 0), .lit (.int .u32 274646895), .lit (.int .u32 549293790), .lit (.int .u32 820201905), .lit (.int .u32 1098587580), .lit (.int .u32 1361435347), .lit (.int .u32 1640403810), .lit (.int .u32 1905808397), .lit (.int .u32 2197175160), .lit (.int .u32 2460548119), .lit (.int .u32 2722870694), .lit (.int .u32 2987750089), .lit (.int .u32 3280807620), .lit (.int .u32 3553878443), .lit (.int .u32 3811616794), .lit (.int .u32 4084100981)]
def laid_unicode_utf8_acceptRanges {H : Type} : DataW H := .agg [.agg [.lit (.int .u8 128), .lit (.int .u8 191)], .agg [.lit (.int .u8 160), .lit (.int .u8 191)], .agg [.lit (.int .u8 128), .lit (.int .u8 159)], .agg [.lit (.int .u8 144), .lit (.int .u8 191)], .agg [.lit (.int .u8 128), .lit (.int .u8 143)], .agg [.lit (.int .u8 0), .lit (.int .u8 0)], .agg [.lit (.int .u8 0), .lit (.int .u8 0)], .agg [.lit (.int .u8 0), .lit (.int .u8 0)], .agg [.lit (.int .u8 0), .lit (.int .u8 0)], .agg [.lit (.int .u8 0), .lit (.int .u8 0)], .agg [.lit (.int .u8 0), .lit (.int .u8 0)], .agg [.lit (.int .u8 0), .lit (.int .u8 0)], .agg [.lit (.int .u8 0), .lit (.int .u8 0)], .agg [.lit (.int .u8 0), .lit (.int .u8 0)], .agg [.lit (.int .u8 0), .lit (.int .u8 0)], .agg [.lit (.int .u8 0), .lit (.int .u8 0)]]
/-- One of Go's own tables, pinned by name: the form's constant. -/
def laid_unicode_utf8_first : DataW Unit := Go.Pinned.utf8First

/-- 'aquiferlaw12.BtreeCells': WHATEVER THE INPUT: true; the input reads as it did. -/
def btreeCellsSpec : ChangeSpec := { name := "btreeCells", fn := fun _ => fun
  | [d] => { results := [.lit (.bool true)], args := [d] }
  | _ => none }
def btreeCellsRow : OpenClaim := { program := "ytccnemmlkcmceaagreatdoor", sum := "79e9237128403fd9deb9ce04bc7378faf29127fe5a729f49b4766fcf9c50ba50", func := "aquifer/aquiferlaw12.BtreeCells", spec := "btreeCells", inPlace := ["internal/abi.NoEscape", "internal/bytealg.MakeNoZero", "internal/bytealg.IndexByteString", "internal/bytealg.IndexString", "internal/bytealg.abigen_runtime_cmpstring", "slices.overlaps[string]", "slices.overlaps[int]"], unfollowed := true, recurses := true, named := ["aquifer/castagnoli.half", "unicode/utf8.first", "unicode/utf8.acceptRanges", "internal/bytealg.MaxLen"], apart := false, laid := [("aquifer/castagnoli.half", laid_aquifer_castagnoli_half), ("unicode/utf8.acceptRanges", laid_unicode_utf8_acceptRanges), ("unicode/utf8.first", laid_unicode_utf8_first)] }
def BtreeCellsSaid : Prop := btreeCellsRow.holds Tryz.pinned (OpenSpec.ofChange btreeCellsSpec)

/-- ITS FALSE NEIGHBOUR: 'it returns false'. Refute it at one input. -/
def btreeCellsWrong : ChangeSpec := { name := "btreeCells", fn := fun _ => fun
  | [d] => { results := [.lit (.bool false)], args := [d] }
  | _ => none }
def BtreeCellsWrongFalsely : Prop := btreeCellsRow.holds Tryz.pinned (OpenSpec.ofChange btreeCellsWrong)

/-- 'aquiferlaw12.BtreeWild': WHATEVER THE INPUT: true; the input reads as it did. -/
def btreeWildSpec : ChangeSpec := { name := "btreeWild", fn := fun _ => fun
  | [d1, d2, d3] => { results := [.lit (.bool true)], args := [d1, d2, d3] }
  | _ => none }
def btreeWildRow : OpenClaim := { program := "ytccnemmlkcmceaagreatdoor", sum := "79e9237128403fd9deb9ce04bc7378faf29127fe5a729f49b4766fcf9c50ba50", func := "aquifer/aquiferlaw12.BtreeWild", spec := "btreeWild", inPlace := ["internal/abi.NoEscape", "internal/bytealg.MakeNoZero", "internal/bytealg.IndexByteString", "internal/bytealg.IndexString", "internal/bytealg.abigen_runtime_cmpstring", "slices.overlaps[string]", "slices.overlaps[int]"], unfollowed := true, recurses := true, named := ["aquifer/castagnoli.half", "unicode/utf8.first", "unicode/utf8.acceptRanges", "internal/bytealg.MaxLen"], apart := false, laid := [("aquifer/castagnoli.half", laid_aquifer_castagnoli_half), ("unicode/utf8.acceptRanges", laid_unicode_utf8_acceptRanges), ("unicode/utf8.first", laid_unicode_utf8_first)] }
def BtreeWildSaid : Prop := btreeWildRow.holds Tryz.pinned (OpenSpec.ofChange btreeWildSpec)

/-- ITS FALSE NEIGHBOUR: 'it returns false'. Refute it at one input. -/
def btreeWildWrong : ChangeSpec := { name := "btreeWild", fn := fun _ => fun
  | [d1, d2, d3] => { results := [.lit (.bool false)], args := [d1, d2, d3] }
  | _ => none }
def BtreeWildWrongFalsely : Prop := btreeWildRow.holds Tryz.pinned (OpenSpec.ofChange btreeWildWrong)

/-- 'aquiferlaw12.BtreeRoots': WHATEVER THE INPUT: true; the input reads as it did. -/
def btreeRootsSpec : ChangeSpec := { name := "btreeRoots", fn := fun _ => fun
  | [d1, d2] => { results := [.lit (.bool true)], args := [d1, d2] }
  | _ => none }
def btreeRootsRow : OpenClaim := { program := "ytccnemmlkcmceaagreatdoor", sum := "79e9237128403fd9deb9ce04bc7378faf29127fe5a729f49b4766fcf9c50ba50", func := "aquifer/aquiferlaw12.BtreeRoots", spec := "btreeRoots", inPlace := ["internal/abi.NoEscape", "internal/bytealg.MakeNoZero", "internal/bytealg.IndexByteString", "internal/bytealg.IndexString", "internal/bytealg.abigen_runtime_cmpstring", "slices.overlaps[string]", "slices.overlaps[int]"], unfollowed := true, recurses := true, named := ["aquifer/castagnoli.half", "unicode/utf8.first", "unicode/utf8.acceptRanges", "internal/bytealg.MaxLen"], apart := false, laid := [("aquifer/castagnoli.half", laid_aquifer_castagnoli_half), ("unicode/utf8.acceptRanges", laid_unicode_utf8_acceptRanges), ("unicode/utf8.first", laid_unicode_utf8_first)] }
def BtreeRootsSaid : Prop := btreeRootsRow.holds Tryz.pinned (OpenSpec.ofChange btreeRootsSpec)

/-- ITS FALSE NEIGHBOUR: 'it returns false'. Refute it at one input. -/
def btreeRootsWrong : ChangeSpec := { name := "btreeRoots", fn := fun _ => fun
  | [d1, d2] => { results := [.lit (.bool false)], args := [d1, d2] }
  | _ => none }
def BtreeRootsWrongFalsely : Prop := btreeRootsRow.holds Tryz.pinned (OpenSpec.ofChange btreeRootsWrong)

/-- 'aquiferlaw12.BtreeNobody': WHATEVER THE INPUT: true; the input reads as it did. -/
def btreeNobodySpec : ChangeSpec := { name := "btreeNobody", fn := fun _ => fun
  | [d1, d2] => { results := [.lit (.bool true)], args := [d1, d2] }
  | _ => none }
def btreeNobodyRow : OpenClaim := { program := "ytccnemmlkcmceaagreatdoor", sum := "79e9237128403fd9deb9ce04bc7378faf29127fe5a729f49b4766fcf9c50ba50", func := "aquifer/aquiferlaw12.BtreeNobody", spec := "btreeNobody", inPlace := ["internal/abi.NoEscape", "internal/bytealg.MakeNoZero", "internal/bytealg.IndexByteString", "internal/bytealg.IndexString", "internal/bytealg.abigen_runtime_cmpstring", "slices.overlaps[string]", "slices.overlaps[int]"], unfollowed := true, recurses := true, named := ["aquifer/castagnoli.half", "unicode/utf8.first", "unicode/utf8.acceptRanges", "internal/bytealg.MaxLen"], apart := false, laid := [("aquifer/castagnoli.half", laid_aquifer_castagnoli_half), ("unicode/utf8.acceptRanges", laid_unicode_utf8_acceptRanges), ("unicode/utf8.first", laid_unicode_utf8_first)] }
def BtreeNobodySaid : Prop := btreeNobodyRow.holds Tryz.pinned (OpenSpec.ofChange btreeNobodySpec)

/-- ITS FALSE NEIGHBOUR: 'it returns false'. Refute it at one input. -/
def btreeNobodyWrong : ChangeSpec := { name := "btreeNobody", fn := fun _ => fun
  | [d1, d2] => { results := [.lit (.bool false)], args := [d1, d2] }
  | _ => none }
def BtreeNobodyWrongFalsely : Prop := btreeNobodyRow.holds Tryz.pinned (OpenSpec.ofChange btreeNobodyWrong)

/-- 'aquiferlaw12.BtreeFull': WHATEVER THE INPUT: true; the input reads as it did. -/
def btreeFullSpec : ChangeSpec := { name := "btreeFull", fn := fun _ => fun
  | [d1, d2] => { results := [.lit (.bool true)], args := [d1, d2] }
  | _ => none }
def btreeFullRow : OpenClaim := { program := "ytccnemmlkcmceaagreatdoor", sum := "79e9237128403fd9deb9ce04bc7378faf29127fe5a729f49b4766fcf9c50ba50", func := "aquifer/aquiferlaw12.BtreeFull", spec := "btreeFull", inPlace := ["internal/abi.NoEscape", "internal/bytealg.MakeNoZero", "internal/bytealg.IndexByteString", "internal/bytealg.IndexString", "internal/bytealg.abigen_runtime_cmpstring", "slices.overlaps[string]", "slices.overlaps[int]"], unfollowed := true, recurses := true, named := ["aquifer/castagnoli.half", "unicode/utf8.first", "unicode/utf8.acceptRanges", "internal/bytealg.MaxLen"], apart := false, laid := [("aquifer/castagnoli.half", laid_aquifer_castagnoli_half), ("unicode/utf8.acceptRanges", laid_unicode_utf8_acceptRanges), ("unicode/utf8.first", laid_unicode_utf8_first)] }
def BtreeFullSaid : Prop := btreeFullRow.holds Tryz.pinned (OpenSpec.ofChange btreeFullSpec)

/-- ITS FALSE NEIGHBOUR: 'it returns false'. Refute it at one input. -/
def btreeFullWrong : ChangeSpec := { name := "btreeFull", fn := fun _ => fun
  | [d1, d2] => { results := [.lit (.bool false)], args := [d1, d2] }
  | _ => none }
def BtreeFullWrongFalsely : Prop := btreeFullRow.holds Tryz.pinned (OpenSpec.ofChange btreeFullWrong)

/-- 'aquiferlaw12.BtreePlays': WHATEVER THE INPUT: true; the input reads as it did. -/
def btreePlaysSpec : ChangeSpec := { name := "btreePlays", fn := fun _ => fun
  | [d] => { results := [.lit (.bool true)], args := [d] }
  | _ => none }
def btreePlaysRow : OpenClaim := { program := "ytccnemmlkcmceaagreatdoor", sum := "79e9237128403fd9deb9ce04bc7378faf29127fe5a729f49b4766fcf9c50ba50", func := "aquifer/aquiferlaw12.BtreePlays", spec := "btreePlays", inPlace := ["internal/abi.NoEscape", "internal/bytealg.MakeNoZero", "internal/bytealg.IndexByteString", "internal/bytealg.IndexString", "internal/bytealg.abigen_runtime_cmpstring", "slices.overlaps[string]", "slices.overlaps[int]"], unfollowed := true, recurses := true, named := ["aquifer/castagnoli.half", "unicode/utf8.first", "unicode/utf8.acceptRanges", "internal/bytealg.MaxLen"], apart := false, laid := [("aquifer/castagnoli.half", laid_aquifer_castagnoli_half), ("unicode/utf8.acceptRanges", laid_unicode_utf8_acceptRanges), ("unicode/utf8.first", laid_unicode_utf8_first)] }
def BtreePlaysSaid : Prop := btreePlaysRow.holds Tryz.pinned (OpenSpec.ofChange btreePlaysSpec)

/-- ITS FALSE NEIGHBOUR: 'it returns false'. Refute it at one input. -/
def btreePlaysWrong : ChangeSpec := { name := "btreePlays", fn := fun _ => fun
  | [d] => { results := [.lit (.bool false)], args := [d] }
  | _ => none }
def BtreePlaysWrongFalsely : Prop := btreePlaysRow.holds Tryz.pinned (OpenSpec.ofChange btreePlaysWrong)

/-- 'aquiferlaw12.BtreeLean': WHATEVER THE INPUT: true; the input reads as it did. -/
def btreeLeanSpec : ChangeSpec := { name := "btreeLean", fn := fun _ => fun
  | [d] => { results := [.lit (.bool true)], args := [d] }
  | _ => none }
def btreeLeanRow : OpenClaim := { program := "ytccnemmlkcmceaagreatdoor", sum := "79e9237128403fd9deb9ce04bc7378faf29127fe5a729f49b4766fcf9c50ba50", func := "aquifer/aquiferlaw12.BtreeLean", spec := "btreeLean", inPlace := ["internal/abi.NoEscape", "internal/bytealg.MakeNoZero", "internal/bytealg.IndexByteString", "internal/bytealg.IndexString", "internal/bytealg.abigen_runtime_cmpstring", "slices.overlaps[string]", "slices.overlaps[int]"], unfollowed := true, recurses := true, named := ["aquifer/castagnoli.half", "unicode/utf8.first", "unicode/utf8.acceptRanges", "internal/bytealg.MaxLen"], apart := false, laid := [("aquifer/castagnoli.half", laid_aquifer_castagnoli_half), ("unicode/utf8.acceptRanges", laid_unicode_utf8_acceptRanges), ("unicode/utf8.first", laid_unicode_utf8_first)] }
def BtreeLeanSaid : Prop := btreeLeanRow.holds Tryz.pinned (OpenSpec.ofChange btreeLeanSpec)

/-- ITS FALSE NEIGHBOUR: 'it returns false'. Refute it at one input. -/
def btreeLeanWrong : ChangeSpec := { name := "btreeLean", fn := fun _ => fun
  | [d] => { results := [.lit (.bool false)], args := [d] }
  | _ => none }
def BtreeLeanWrongFalsely : Prop := btreeLeanRow.holds Tryz.pinned (OpenSpec.ofChange btreeLeanWrong)

/-- 'aquiferlaw12.BtreeEmpty': WHATEVER THE INPUT: true; the input reads as it did. -/
def btreeEmptySpec : ChangeSpec := { name := "btreeEmpty", fn := fun _ => fun
  | [d1, d2] => { results := [.lit (.bool true)], args := [d1, d2] }
  | _ => none }
def btreeEmptyRow : OpenClaim := { program := "ytccnemmlkcmceaagreatdoor", sum := "79e9237128403fd9deb9ce04bc7378faf29127fe5a729f49b4766fcf9c50ba50", func := "aquifer/aquiferlaw12.BtreeEmpty", spec := "btreeEmpty", inPlace := ["internal/abi.NoEscape", "internal/bytealg.MakeNoZero", "internal/bytealg.IndexByteString", "internal/bytealg.IndexString", "internal/bytealg.abigen_runtime_cmpstring", "slices.overlaps[string]", "slices.overlaps[int]"], unfollowed := true, recurses := true, named := ["aquifer/castagnoli.half", "unicode/utf8.first", "unicode/utf8.acceptRanges", "internal/bytealg.MaxLen"], apart := false, laid := [("aquifer/castagnoli.half", laid_aquifer_castagnoli_half), ("unicode/utf8.acceptRanges", laid_unicode_utf8_acceptRanges), ("unicode/utf8.first", laid_unicode_utf8_first)] }
def BtreeEmptySaid : Prop := btreeEmptyRow.holds Tryz.pinned (OpenSpec.ofChange btreeEmptySpec)

/-- ITS FALSE NEIGHBOUR: 'it returns false'. Refute it at one input. -/
def btreeEmptyWrong : ChangeSpec := { name := "btreeEmpty", fn := fun _ => fun
  | [d1, d2] => { results := [.lit (.bool false)], args := [d1, d2] }
  | _ => none }
def BtreeEmptyWrongFalsely : Prop := btreeEmptyRow.holds Tryz.pinned (OpenSpec.ofChange btreeEmptyWrong)

/-- 'aquiferlaw12.BtreeLasts': WHATEVER THE INPUT: true; the input reads as it did. -/
def btreeLastsSpec : ChangeSpec := { name := "btreeLasts", fn := fun _ => fun
  | [d1, d2, d3] => { results := [.lit (.bool true)], args := [d1, d2, d3] }
  | _ => none }
def btreeLastsRow : OpenClaim := { program := "ytccnemmlkcmceaagreatdoor", sum := "79e9237128403fd9deb9ce04bc7378faf29127fe5a729f49b4766fcf9c50ba50", func := "aquifer/aquiferlaw12.BtreeLasts", spec := "btreeLasts", inPlace := ["internal/abi.NoEscape", "internal/bytealg.MakeNoZero", "internal/bytealg.IndexByteString", "internal/bytealg.IndexString", "internal/bytealg.abigen_runtime_cmpstring", "slices.overlaps[string]", "slices.overlaps[int]"], unfollowed := true, recurses := true, named := ["aquifer/castagnoli.half", "unicode/utf8.first", "unicode/utf8.acceptRanges", "internal/bytealg.MaxLen"], apart := false, laid := [("aquifer/castagnoli.half", laid_aquifer_castagnoli_half), ("unicode/utf8.acceptRanges", laid_unicode_utf8_acceptRanges), ("unicode/utf8.first", laid_unicode_utf8_first)] }
def BtreeLastsSaid : Prop := btreeLastsRow.holds Tryz.pinned (OpenSpec.ofChange btreeLastsSpec)

/-- ITS FALSE NEIGHBOUR: 'it returns false'. Refute it at one input. -/
def btreeLastsWrong : ChangeSpec := { name := "btreeLasts", fn := fun _ => fun
  | [d1, d2, d3] => { results := [.lit (.bool false)], args := [d1, d2, d3] }
  | _ => none }
def BtreeLastsWrongFalsely : Prop := btreeLastsRow.holds Tryz.pinned (OpenSpec.ofChange btreeLastsWrong)

/- THE SECOND FORM. 'bulk': how many values and letters a reading holds, each counted each time it is reached (what is shared counts as often as it is met; a slice's spare places count too). A statement '..UptoSaid' is the law's where the arguments, and the package variables that the reading takes, are together of bulk at most 1048576: NARROWER than '..Said'. Prove '..Said' where nothing that the law and all that it calls make is longer than what came in: it says more and counts as full. Else prove '..UptoSaid'. A law counts once. -/
mutual
def uptoBulk {H : Type} : DataW H → Nat
  | .lit (.string bytes) => bytes.length + 1
  | .lit _ => 1
  | .nil => 1
  | .ptr d => uptoBulk d + 1
  | .slice elems spare => uptoBulkAll elems + uptoBulkAll spare + 1
  | .agg parts => uptoBulkAll parts + 1
  | .iface _ d => uptoBulk d + 1
  | .map entries => uptoBulkEntries entries + 1
  | .held _ => 1
def uptoBulkAll {H : Type} : List (DataW H) → Nat
  | [] => 0
  | d :: r => uptoBulk d + uptoBulkAll r
def uptoBulkEntries {H : Type} : List (Lit × DataW H) → Nat
  | [] => 0
  | x :: r => uptoBulkEntry x + uptoBulkEntries r
def uptoBulkEntry {H : Type} : Lit × DataW H → Nat
  | (.string bytes, d) => bytes.length + uptoBulk d + 1
  | (_, d) => uptoBulk d + 1
 end
def uptoSmall : (H : Type) → List (DataW H) → Bool := fun _ ds => decide (uptoBulkAll ds ≤ 1048576)
def OpenSpec.upto (s : _root_.Go.ChangeSpec) : _root_.Go.OpenSpec := { _root_.Go.OpenSpec.ofChange s with cond := some uptoSmall }

/-- 'aquiferlaw12.BtreeCells', WHERE WHAT IT READS IS OF BULK AT MOST 1048576: true; the input reads as it did. -/
def btreeCellsUptoRow : OpenClaim := { program := "ytccnemmlkcmceaagreatdoor", sum := "79e9237128403fd9deb9ce04bc7378faf29127fe5a729f49b4766fcf9c50ba50", func := "aquifer/aquiferlaw12.BtreeCells", spec := "btreeCells", inPlace := ["internal/abi.NoEscape", "internal/bytealg.MakeNoZero", "internal/bytealg.IndexByteString", "internal/bytealg.IndexString", "internal/bytealg.abigen_runtime_cmpstring", "slices.overlaps[string]", "slices.overlaps[int]"], unfollowed := true, recurses := true, named := ["aquifer/castagnoli.half", "unicode/utf8.first", "unicode/utf8.acceptRanges", "internal/bytealg.MaxLen"], apart := false, laid := [("aquifer/castagnoli.half", laid_aquifer_castagnoli_half), ("unicode/utf8.acceptRanges", laid_unicode_utf8_acceptRanges), ("unicode/utf8.first", laid_unicode_utf8_first)], narrowed := true }
def BtreeCellsUptoSaid : Prop := btreeCellsUptoRow.holds Tryz.pinned (OpenSpec.upto btreeCellsSpec)

/-- 'aquiferlaw12.BtreeWild', WHERE WHAT IT READS IS OF BULK AT MOST 1048576: true; the input reads as it did. -/
def btreeWildUptoRow : OpenClaim := { program := "ytccnemmlkcmceaagreatdoor", sum := "79e9237128403fd9deb9ce04bc7378faf29127fe5a729f49b4766fcf9c50ba50", func := "aquifer/aquiferlaw12.BtreeWild", spec := "btreeWild", inPlace := ["internal/abi.NoEscape", "internal/bytealg.MakeNoZero", "internal/bytealg.IndexByteString", "internal/bytealg.IndexString", "internal/bytealg.abigen_runtime_cmpstring", "slices.overlaps[string]", "slices.overlaps[int]"], unfollowed := true, recurses := true, named := ["aquifer/castagnoli.half", "unicode/utf8.first", "unicode/utf8.acceptRanges", "internal/bytealg.MaxLen"], apart := false, laid := [("aquifer/castagnoli.half", laid_aquifer_castagnoli_half), ("unicode/utf8.acceptRanges", laid_unicode_utf8_acceptRanges), ("unicode/utf8.first", laid_unicode_utf8_first)], narrowed := true }
def BtreeWildUptoSaid : Prop := btreeWildUptoRow.holds Tryz.pinned (OpenSpec.upto btreeWildSpec)

/-- 'aquiferlaw12.BtreeRoots', WHERE WHAT IT READS IS OF BULK AT MOST 1048576: true; the input reads as it did. -/
def btreeRootsUptoRow : OpenClaim := { program := "ytccnemmlkcmceaagreatdoor", sum := "79e9237128403fd9deb9ce04bc7378faf29127fe5a729f49b4766fcf9c50ba50", func := "aquifer/aquiferlaw12.BtreeRoots", spec := "btreeRoots", inPlace := ["internal/abi.NoEscape", "internal/bytealg.MakeNoZero", "internal/bytealg.IndexByteString", "internal/bytealg.IndexString", "internal/bytealg.abigen_runtime_cmpstring", "slices.overlaps[string]", "slices.overlaps[int]"], unfollowed := true, recurses := true, named := ["aquifer/castagnoli.half", "unicode/utf8.first", "unicode/utf8.acceptRanges", "internal/bytealg.MaxLen"], apart := false, laid := [("aquifer/castagnoli.half", laid_aquifer_castagnoli_half), ("unicode/utf8.acceptRanges", laid_unicode_utf8_acceptRanges), ("unicode/utf8.first", laid_unicode_utf8_first)], narrowed := true }
def BtreeRootsUptoSaid : Prop := btreeRootsUptoRow.holds Tryz.pinned (OpenSpec.upto btreeRootsSpec)

/-- 'aquiferlaw12.BtreeNobody', WHERE WHAT IT READS IS OF BULK AT MOST 1048576: true; the input reads as it did. -/
def btreeNobodyUptoRow : OpenClaim := { program := "ytccnemmlkcmceaagreatdoor", sum := "79e9237128403fd9deb9ce04bc7378faf29127fe5a729f49b4766fcf9c50ba50", func := "aquifer/aquiferlaw12.BtreeNobody", spec := "btreeNobody", inPlace := ["internal/abi.NoEscape", "internal/bytealg.MakeNoZero", "internal/bytealg.IndexByteString", "internal/bytealg.IndexString", "internal/bytealg.abigen_runtime_cmpstring", "slices.overlaps[string]", "slices.overlaps[int]"], unfollowed := true, recurses := true, named := ["aquifer/castagnoli.half", "unicode/utf8.first", "unicode/utf8.acceptRanges", "internal/bytealg.MaxLen"], apart := false, laid := [("aquifer/castagnoli.half", laid_aquifer_castagnoli_half), ("unicode/utf8.acceptRanges", laid_unicode_utf8_acceptRanges), ("unicode/utf8.first", laid_unicode_utf8_first)], narrowed := true }
def BtreeNobodyUptoSaid : Prop := btreeNobodyUptoRow.holds Tryz.pinned (OpenSpec.upto btreeNobodySpec)

/-- 'aquiferlaw12.BtreeFull', WHERE WHAT IT READS IS OF BULK AT MOST 1048576: true; the input reads as it did. -/
def btreeFullUptoRow : OpenClaim := { program := "ytccnemmlkcmceaagreatdoor", sum := "79e9237128403fd9deb9ce04bc7378faf29127fe5a729f49b4766fcf9c50ba50", func := "aquifer/aquiferlaw12.BtreeFull", spec := "btreeFull", inPlace := ["internal/abi.NoEscape", "internal/bytealg.MakeNoZero", "internal/bytealg.IndexByteString", "internal/bytealg.IndexString", "internal/bytealg.abigen_runtime_cmpstring", "slices.overlaps[string]", "slices.overlaps[int]"], unfollowed := true, recurses := true, named := ["aquifer/castagnoli.half", "unicode/utf8.first", "unicode/utf8.acceptRanges", "internal/bytealg.MaxLen"], apart := false, laid := [("aquifer/castagnoli.half", laid_aquifer_castagnoli_half), ("unicode/utf8.acceptRanges", laid_unicode_utf8_acceptRanges), ("unicode/utf8.first", laid_unicode_utf8_first)], narrowed := true }
def BtreeFullUptoSaid : Prop := btreeFullUptoRow.holds Tryz.pinned (OpenSpec.upto btreeFullSpec)

/-- 'aquiferlaw12.BtreePlays', WHERE WHAT IT READS IS OF BULK AT MOST 1048576: true; the input reads as it did. -/
def btreePlaysUptoRow : OpenClaim := { program := "ytccnemmlkcmceaagreatdoor", sum := "79e9237128403fd9deb9ce04bc7378faf29127fe5a729f49b4766fcf9c50ba50", func := "aquifer/aquiferlaw12.BtreePlays", spec := "btreePlays", inPlace := ["internal/abi.NoEscape", "internal/bytealg.MakeNoZero", "internal/bytealg.IndexByteString", "internal/bytealg.IndexString", "internal/bytealg.abigen_runtime_cmpstring", "slices.overlaps[string]", "slices.overlaps[int]"], unfollowed := true, recurses := true, named := ["aquifer/castagnoli.half", "unicode/utf8.first", "unicode/utf8.acceptRanges", "internal/bytealg.MaxLen"], apart := false, laid := [("aquifer/castagnoli.half", laid_aquifer_castagnoli_half), ("unicode/utf8.acceptRanges", laid_unicode_utf8_acceptRanges), ("unicode/utf8.first", laid_unicode_utf8_first)], narrowed := true }
def BtreePlaysUptoSaid : Prop := btreePlaysUptoRow.holds Tryz.pinned (OpenSpec.upto btreePlaysSpec)

/-- 'aquiferlaw12.BtreeLean', WHERE WHAT IT READS IS OF BULK AT MOST 1048576: true; the input reads as it did. -/
def btreeLeanUptoRow : OpenClaim := { program := "ytccnemmlkcmceaagreatdoor", sum := "79e9237128403fd9deb9ce04bc7378faf29127fe5a729f49b4766fcf9c50ba50", func := "aquifer/aquiferlaw12.BtreeLean", spec := "btreeLean", inPlace := ["internal/abi.NoEscape", "internal/bytealg.MakeNoZero", "internal/bytealg.IndexByteString", "internal/bytealg.IndexString", "internal/bytealg.abigen_runtime_cmpstring", "slices.overlaps[string]", "slices.overlaps[int]"], unfollowed := true, recurses := true, named := ["aquifer/castagnoli.half", "unicode/utf8.first", "unicode/utf8.acceptRanges", "internal/bytealg.MaxLen"], apart := false, laid := [("aquifer/castagnoli.half", laid_aquifer_castagnoli_half), ("unicode/utf8.acceptRanges", laid_unicode_utf8_acceptRanges), ("unicode/utf8.first", laid_unicode_utf8_first)], narrowed := true }
def BtreeLeanUptoSaid : Prop := btreeLeanUptoRow.holds Tryz.pinned (OpenSpec.upto btreeLeanSpec)

/-- 'aquiferlaw12.BtreeEmpty', WHERE WHAT IT READS IS OF BULK AT MOST 1048576: true; the input reads as it did. -/
def btreeEmptyUptoRow : OpenClaim := { program := "ytccnemmlkcmceaagreatdoor", sum := "79e9237128403fd9deb9ce04bc7378faf29127fe5a729f49b4766fcf9c50ba50", func := "aquifer/aquiferlaw12.BtreeEmpty", spec := "btreeEmpty", inPlace := ["internal/abi.NoEscape", "internal/bytealg.MakeNoZero", "internal/bytealg.IndexByteString", "internal/bytealg.IndexString", "internal/bytealg.abigen_runtime_cmpstring", "slices.overlaps[string]", "slices.overlaps[int]"], unfollowed := true, recurses := true, named := ["aquifer/castagnoli.half", "unicode/utf8.first", "unicode/utf8.acceptRanges", "internal/bytealg.MaxLen"], apart := false, laid := [("aquifer/castagnoli.half", laid_aquifer_castagnoli_half), ("unicode/utf8.acceptRanges", laid_unicode_utf8_acceptRanges), ("unicode/utf8.first", laid_unicode_utf8_first)], narrowed := true }
def BtreeEmptyUptoSaid : Prop := btreeEmptyUptoRow.holds Tryz.pinned (OpenSpec.upto btreeEmptySpec)

/-- 'aquiferlaw12.BtreeLasts', WHERE WHAT IT READS IS OF BULK AT MOST 1048576: true; the input reads as it did. -/
def btreeLastsUptoRow : OpenClaim := { program := "ytccnemmlkcmceaagreatdoor", sum := "79e9237128403fd9deb9ce04bc7378faf29127fe5a729f49b4766fcf9c50ba50", func := "aquifer/aquiferlaw12.BtreeLasts", spec := "btreeLasts", inPlace := ["internal/abi.NoEscape", "internal/bytealg.MakeNoZero", "internal/bytealg.IndexByteString", "internal/bytealg.IndexString", "internal/bytealg.abigen_runtime_cmpstring", "slices.overlaps[string]", "slices.overlaps[int]"], unfollowed := true, recurses := true, named := ["aquifer/castagnoli.half", "unicode/utf8.first", "unicode/utf8.acceptRanges", "internal/bytealg.MaxLen"], apart := false, laid := [("aquifer/castagnoli.half", laid_aquifer_castagnoli_half), ("unicode/utf8.acceptRanges", laid_unicode_utf8_acceptRanges), ("unicode/utf8.first", laid_unicode_utf8_first)], narrowed := true }
def BtreeLastsUptoSaid : Prop := btreeLastsUptoRow.holds Tryz.pinned (OpenSpec.upto btreeLastsSpec)

end Rows
end Go.Proofs.YtccnemmlkcmceaaGreatDoor
