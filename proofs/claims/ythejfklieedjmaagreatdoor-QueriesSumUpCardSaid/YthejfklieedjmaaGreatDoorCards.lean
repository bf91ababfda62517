/-
  DERIVED. GIVEN WITH THE SEED: THE CARDS: each row of YthejfklieedjmaaGreatDoorRows.lean that lists a variable, with what it lists TIED to the program's text (the seventh form; the later family's looks); each row that meets fmt, with fmt's text TOLD by the authors' own Lean function (tested against real Go, not proved from fmt's source: count such statements apart). THE CARD IS WHAT COUNTS. Prove the row's statement (the work); the ties are given (YthejfklieedjmaaGreatDoorTie.lean); close each card by the builder's one call (the guide's Derived/Test/ToyasCard.lean, 'card_holds'). Laid BY PROGRAM, IN A SANDBOX (cutbox-door.mjs). By AI agents, Wed Nov 11 2026. No macro, syntax, notation, axiom, sorry.
-/
import Derived.Test.YthejfklieedjmaaGreatDoorRows
import GoSem.ClaimSeven
namespace Go.Proofs.YthejfklieedjmaaGreatDoor
namespace Rows

/-- THE TIED CARD OF 'rivermarklaw34.QueriesAreChecked'. -/
def queriesAreCheckedCard : Claim7 := { stood := { row := queriesAreCheckedRow, standIns := [], harness := (true, "4d54420fcbe0e3422323bc4873da54ad1704a46c997955576c4ab5da3d93c504"), looks := true }, kinds := [], alts := [], laidByText := true, laidKinds := [.data, .data, .data, .data, .data, .sentinel, .sentinel, .listed, .data, .pinned], laidTests := true, laidLooks := .later }
def QueriesAreCheckedCardSaid : Prop := Claim7.holds Tryz.pinned (.plain (OpenSpec.ofChange queriesAreCheckedSpec)) queriesAreCheckedCard

/-- THE TIED CARD OF 'rivermarklaw34.QueriesSumUp'. -/
def queriesSumUpCard : Claim7 := { stood := { row := queriesSumUpRow, standIns := [], harness := (true, "4d54420fcbe0e3422323bc4873da54ad1704a46c997955576c4ab5da3d93c504"), looks := true }, kinds := [], alts := [], laidByText := true, laidKinds := [.data, .data, .data, .data, .data, .sentinel, .sentinel, .listed, .data, .pinned], laidTests := true, laidLooks := .later }
def QueriesSumUpCardSaid : Prop := Claim7.holds Tryz.pinned (.plain (OpenSpec.ofChange queriesSumUpSpec)) queriesSumUpCard

/-- THE SECOND FORM's CARD OF 'rivermarklaw34.QueriesAreChecked'. -/
def queriesAreCheckedUptoCard : Claim7 := { stood := { row := queriesAreCheckedUptoRow, standIns := [], harness := (true, "4d54420fcbe0e3422323bc4873da54ad1704a46c997955576c4ab5da3d93c504"), looks := true }, kinds := [], alts := [], laidByText := true, laidKinds := [.data, .data, .data, .data, .data, .sentinel, .sentinel, .listed, .data, .pinned], laidTests := true, laidLooks := .later }
def QueriesAreCheckedUptoCardSaid : Prop := Claim7.holds Tryz.pinned (.plain (OpenSpec.upto queriesAreCheckedSpec)) queriesAreCheckedUptoCard

/-- THE SECOND FORM's CARD OF 'rivermarklaw34.QueriesSumUp'. -/
def queriesSumUpUptoCard : Claim7 := { stood := { row := queriesSumUpUptoRow, standIns := [], harness := (true, "4d54420fcbe0e3422323bc4873da54ad1704a46c997955576c4ab5da3d93c504"), looks := true }, kinds := [], alts := [], laidByText := true, laidKinds := [.data, .data, .data, .data, .data, .sentinel, .sentinel, .listed, .data, .pinned], laidTests := true, laidLooks := .later }
def QueriesSumUpUptoCardSaid : Prop := Claim7.holds Tryz.pinned (.plain (OpenSpec.upto queriesSumUpSpec)) queriesSumUpUptoCard
end Rows
end Go.Proofs.YthejfklieedjmaaGreatDoor
