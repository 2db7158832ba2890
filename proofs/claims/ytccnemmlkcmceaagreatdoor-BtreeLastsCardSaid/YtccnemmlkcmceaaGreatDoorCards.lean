/-
  DERIVED. GIVEN WITH THE SEED: THE CARDS: each row of YtccnemmlkcmceaaGreatDoorRows.lean that lists a variable, with what it lists TIED to the program's text (the seventh form; the later family's looks); each row that meets fmt, with fmt's text TOLD by the authors' own Lean function (tested against real Go, not proved from fmt's source: count such statements apart). THE CARD IS WHAT COUNTS. Prove the row's statement (the work); the ties are given (YtccnemmlkcmceaaGreatDoorTie.lean); close each card by the builder's one call (the guide's Derived/Test/ToyasCard.lean, 'card_holds'). Laid BY PROGRAM, IN A SANDBOX (cutbox-door.mjs). By AI agents, Wed Nov 11 2026. No macro, syntax, notation, axiom, sorry.
-/
import Derived.Test.YtccnemmlkcmceaaGreatDoorRows
import GoSem.ClaimSeven
namespace Go.Proofs.YtccnemmlkcmceaaGreatDoor
namespace Rows

/-- THE TIED CARD OF 'aquiferlaw12.BtreeCells'. -/
def btreeCellsCard : Claim7 := { stood := { row := btreeCellsRow, standIns := [], harness := (true, "8436f262e3bb1e8ba11ec59158f66a7b474454bc2f760ca098d2152a038a1b4d"), looks := false }, kinds := [], alts := [], laidByText := true, laidKinds := [.data, .data, .pinned], laidTests := true, laidLooks := .later }
def BtreeCellsCardSaid : Prop := Claim7.holds Tryz.pinned (.plain (OpenSpec.ofChange btreeCellsSpec)) btreeCellsCard

/-- THE TIED CARD OF 'aquiferlaw12.BtreeWild'. -/
def btreeWildCard : Claim7 := { stood := { row := btreeWildRow, standIns := [], harness := (true, "8436f262e3bb1e8ba11ec59158f66a7b474454bc2f760ca098d2152a038a1b4d"), looks := false }, kinds := [], alts := [], laidByText := true, laidKinds := [.data, .data, .pinned], laidTests := true, laidLooks := .later }
def BtreeWildCardSaid : Prop := Claim7.holds Tryz.pinned (.plain (OpenSpec.ofChange btreeWildSpec)) btreeWildCard

/-- THE TIED CARD OF 'aquiferlaw12.BtreeRoots'. -/
def btreeRootsCard : Claim7 := { stood := { row := btreeRootsRow, standIns := [], harness := (true, "8436f262e3bb1e8ba11ec59158f66a7b474454bc2f760ca098d2152a038a1b4d"), looks := false }, kinds := [], alts := [], laidByText := true, laidKinds := [.data, .data, .pinned], laidTests := true, laidLooks := .later }
def BtreeRootsCardSaid : Prop := Claim7.holds Tryz.pinned (.plain (OpenSpec.ofChange btreeRootsSpec)) btreeRootsCard

/-- THE TIED CARD OF 'aquiferlaw12.BtreeNobody'. -/
def btreeNobodyCard : Claim7 := { stood := { row := btreeNobodyRow, standIns := [], harness := (true, "8436f262e3bb1e8ba11ec59158f66a7b474454bc2f760ca098d2152a038a1b4d"), looks := false }, kinds := [], alts := [], laidByText := true, laidKinds := [.data, .data, .pinned], laidTests := true, laidLooks := .later }
def BtreeNobodyCardSaid : Prop := Claim7.holds Tryz.pinned (.plain (OpenSpec.ofChange btreeNobodySpec)) btreeNobodyCard

/-- THE TIED CARD OF 'aquiferlaw12.BtreeFull'. -/
def btreeFullCard : Claim7 := { stood := { row := btreeFullRow, standIns := [], harness := (true, "8436f262e3bb1e8ba11ec59158f66a7b474454bc2f760ca098d2152a038a1b4d"), looks := false }, kinds := [], alts := [], laidByText := true, laidKinds := [.data, .data, .pinned], laidTests := true, laidLooks := .later }
def BtreeFullCardSaid : Prop := Claim7.holds Tryz.pinned (.plain (OpenSpec.ofChange btreeFullSpec)) btreeFullCard

/-- THE TIED CARD OF 'aquiferlaw12.BtreePlays'. -/
def btreePlaysCard : Claim7 := { stood := { row := btreePlaysRow, standIns := [], harness := (true, "8436f262e3bb1e8ba11ec59158f66a7b474454bc2f760ca098d2152a038a1b4d"), looks := false }, kinds := [], alts := [], laidByText := true, laidKinds := [.data, .data, .pinned], laidTests := true, laidLooks := .later }
def BtreePlaysCardSaid : Prop := Claim7.holds Tryz.pinned (.plain (OpenSpec.ofChange btreePlaysSpec)) btreePlaysCard

/-- THE TIED CARD OF 'aquiferlaw12.BtreeLean'. -/
def btreeLeanCard : Claim7 := { stood := { row := btreeLeanRow, standIns := [], harness := (true, "8436f262e3bb1e8ba11ec59158f66a7b474454bc2f760ca098d2152a038a1b4d"), looks := false }, kinds := [], alts := [], laidByText := true, laidKinds := [.data, .data, .pinned], laidTests := true, laidLooks := .later }
def BtreeLeanCardSaid : Prop := Claim7.holds Tryz.pinned (.plain (OpenSpec.ofChange btreeLeanSpec)) btreeLeanCard

/-- THE TIED CARD OF 'aquiferlaw12.BtreeEmpty'. -/
def btreeEmptyCard : Claim7 := { stood := { row := btreeEmptyRow, standIns := [], harness := (true, "8436f262e3bb1e8ba11ec59158f66a7b474454bc2f760ca098d2152a038a1b4d"), looks := false }, kinds := [], alts := [], laidByText := true, laidKinds := [.data, .data, .pinned], laidTests := true, laidLooks := .later }
def BtreeEmptyCardSaid : Prop := Claim7.holds Tryz.pinned (.plain (OpenSpec.ofChange btreeEmptySpec)) btreeEmptyCard

/-- THE TIED CARD OF 'aquiferlaw12.BtreeLasts'. -/
def btreeLastsCard : Claim7 := { stood := { row := btreeLastsRow, standIns := [], harness := (true, "8436f262e3bb1e8ba11ec59158f66a7b474454bc2f760ca098d2152a038a1b4d"), looks := false }, kinds := [], alts := [], laidByText := true, laidKinds := [.data, .data, .pinned], laidTests := true, laidLooks := .later }
def BtreeLastsCardSaid : Prop := Claim7.holds Tryz.pinned (.plain (OpenSpec.ofChange btreeLastsSpec)) btreeLastsCard

/-- THE SECOND FORM's CARD OF 'aquiferlaw12.BtreeCells'. -/
def btreeCellsUptoCard : Claim7 := { stood := { row := btreeCellsUptoRow, standIns := [], harness := (true, "8436f262e3bb1e8ba11ec59158f66a7b474454bc2f760ca098d2152a038a1b4d"), looks := false }, kinds := [], alts := [], laidByText := true, laidKinds := [.data, .data, .pinned], laidTests := true, laidLooks := .later }
def BtreeCellsUptoCardSaid : Prop := Claim7.holds Tryz.pinned (.plain (OpenSpec.upto btreeCellsSpec)) btreeCellsUptoCard

/-- THE SECOND FORM's CARD OF 'aquiferlaw12.BtreeWild'. -/
def btreeWildUptoCard : Claim7 := { stood := { row := btreeWildUptoRow, standIns := [], harness := (true, "8436f262e3bb1e8ba11ec59158f66a7b474454bc2f760ca098d2152a038a1b4d"), looks := false }, kinds := [], alts := [], laidByText := true, laidKinds := [.data, .data, .pinned], laidTests := true, laidLooks := .later }
def BtreeWildUptoCardSaid : Prop := Claim7.holds Tryz.pinned (.plain (OpenSpec.upto btreeWildSpec)) btreeWildUptoCard

/-- THE SECOND FORM's CARD OF 'aquiferlaw12.BtreeRoots'. -/
def btreeRootsUptoCard : Claim7 := { stood := { row := btreeRootsUptoRow, standIns := [], harness := (true, "8436f262e3bb1e8ba11ec59158f66a7b474454bc2f760ca098d2152a038a1b4d"), looks := false }, kinds := [], alts := [], laidByText := true, laidKinds := [.data, .data, .pinned], laidTests := true, laidLooks := .later }
def BtreeRootsUptoCardSaid : Prop := Claim7.holds Tryz.pinned (.plain (OpenSpec.upto btreeRootsSpec)) btreeRootsUptoCard

/-- THE SECOND FORM's CARD OF 'aquiferlaw12.BtreeNobody'. -/
def btreeNobodyUptoCard : Claim7 := { stood := { row := btreeNobodyUptoRow, standIns := [], harness := (true, "8436f262e3bb1e8ba11ec59158f66a7b474454bc2f760ca098d2152a038a1b4d"), looks := false }, kinds := [], alts := [], laidByText := true, laidKinds := [.data, .data, .pinned], laidTests := true, laidLooks := .later }
def BtreeNobodyUptoCardSaid : Prop := Claim7.holds Tryz.pinned (.plain (OpenSpec.upto btreeNobodySpec)) btreeNobodyUptoCard

/-- THE SECOND FORM's CARD OF 'aquiferlaw12.BtreeFull'. -/
def btreeFullUptoCard : Claim7 := { stood := { row := btreeFullUptoRow, standIns := [], harness := (true, "8436f262e3bb1e8ba11ec59158f66a7b474454bc2f760ca098d2152a038a1b4d"), looks := false }, kinds := [], alts := [], laidByText := true, laidKinds := [.data, .data, .pinned], laidTests := true, laidLooks := .later }
def BtreeFullUptoCardSaid : Prop := Claim7.holds Tryz.pinned (.plain (OpenSpec.upto btreeFullSpec)) btreeFullUptoCard

/-- THE SECOND FORM's CARD OF 'aquiferlaw12.BtreePlays'. -/
def btreePlaysUptoCard : Claim7 := { stood := { row := btreePlaysUptoRow, standIns := [], harness := (true, "8436f262e3bb1e8ba11ec59158f66a7b474454bc2f760ca098d2152a038a1b4d"), looks := false }, kinds := [], alts := [], laidByText := true, laidKinds := [.data, .data, .pinned], laidTests := true, laidLooks := .later }
def BtreePlaysUptoCardSaid : Prop := Claim7.holds Tryz.pinned (.plain (OpenSpec.upto btreePlaysSpec)) btreePlaysUptoCard

/-- THE SECOND FORM's CARD OF 'aquiferlaw12.BtreeLean'. -/
def btreeLeanUptoCard : Claim7 := { stood := { row := btreeLeanUptoRow, standIns := [], harness := (true, "8436f262e3bb1e8ba11ec59158f66a7b474454bc2f760ca098d2152a038a1b4d"), looks := false }, kinds := [], alts := [], laidByText := true, laidKinds := [.data, .data, .pinned], laidTests := true, laidLooks := .later }
def BtreeLeanUptoCardSaid : Prop := Claim7.holds Tryz.pinned (.plain (OpenSpec.upto btreeLeanSpec)) btreeLeanUptoCard

/-- THE SECOND FORM's CARD OF 'aquiferlaw12.BtreeEmpty'. -/
def btreeEmptyUptoCard : Claim7 := { stood := { row := btreeEmptyUptoRow, standIns := [], harness := (true, "8436f262e3bb1e8ba11ec59158f66a7b474454bc2f760ca098d2152a038a1b4d"), looks := false }, kinds := [], alts := [], laidByText := true, laidKinds := [.data, .data, .pinned], laidTests := true, laidLooks := .later }
def BtreeEmptyUptoCardSaid : Prop := Claim7.holds Tryz.pinned (.plain (OpenSpec.upto btreeEmptySpec)) btreeEmptyUptoCard

/-- THE SECOND FORM's CARD OF 'aquiferlaw12.BtreeLasts'. -/
def btreeLastsUptoCard : Claim7 := { stood := { row := btreeLastsUptoRow, standIns := [], harness := (true, "8436f262e3bb1e8ba11ec59158f66a7b474454bc2f760ca098d2152a038a1b4d"), looks := false }, kinds := [], alts := [], laidByText := true, laidKinds := [.data, .data, .pinned], laidTests := true, laidLooks := .later }
def BtreeLastsUptoCardSaid : Prop := Claim7.holds Tryz.pinned (.plain (OpenSpec.upto btreeLastsSpec)) btreeLastsUptoCard
end Rows
end Go.Proofs.YtccnemmlkcmceaaGreatDoor
