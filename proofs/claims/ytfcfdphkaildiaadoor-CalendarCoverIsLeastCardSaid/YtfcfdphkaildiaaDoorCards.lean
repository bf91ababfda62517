/-
  DERIVED. GIVEN WITH THE SEED: THE CARDS: each row of YtfcfdphkaildiaaDoorRows.lean that lists a variable, with what it lists TIED to the program's text (the seventh form; the later family's looks); each row that meets fmt, with fmt's text TOLD by the authors' own Lean function (tested against real Go, not proved from fmt's source: count such statements apart). THE CARD IS WHAT COUNTS. Prove the row's statement (the work); the ties are given (YtfcfdphkaildiaaDoorTie.lean); close each card by the builder's one call (the guide's Derived/Test/ToyasCard.lean, 'card_holds'). Laid BY PROGRAM, IN A SANDBOX (cutbox-door.mjs). By AI agents, Wed Nov 11 2026. No macro, syntax, notation, axiom, sorry.
-/
import Derived.Test.YtfcfdphkaildiaaDoorRows
import GoSem.ClaimSeven
namespace Go.Proofs.YtfcfdphkaildiaaDoor
namespace Rows

/-- THE TIED CARD OF 'rivermarklaw06.CalendarDatesAsSpecified'. -/
def calendarDatesAsSpecifiedCard : Claim7 := { stood := { row := calendarDatesAsSpecifiedRow, standIns := [], harness := (true, "3260f95e672720e2f41c3e5ffb7cdd652e828f9929600c252e4399e42f0a0890"), looks := false }, kinds := [], alts := [], laidByText := true, laidKinds := [.data], laidTests := true, laidLooks := .later }
def CalendarDatesAsSpecifiedCardSaid : Prop := Claim7.holds Tryd.pinned (.plain (OpenSpec.ofChange calendarDatesAsSpecifiedSpec)) calendarDatesAsSpecifiedCard

/-- THE TIED CARD OF 'rivermarklaw06.CalendarBlocksAsSpecified'. -/
def calendarBlocksAsSpecifiedCard : Claim7 := { stood := { row := calendarBlocksAsSpecifiedRow, standIns := [], harness := (true, "3260f95e672720e2f41c3e5ffb7cdd652e828f9929600c252e4399e42f0a0890"), looks := false }, kinds := [], alts := [], laidByText := true, laidKinds := [.data], laidTests := true, laidLooks := .later }
def CalendarBlocksAsSpecifiedCardSaid : Prop := Claim7.holds Tryd.pinned (.plain (OpenSpec.ofChange calendarBlocksAsSpecifiedSpec)) calendarBlocksAsSpecifiedCard

/-- THE TIED CARD OF 'rivermarklaw06.CalendarCoversAsSpecified'. -/
def calendarCoversAsSpecifiedCard : Claim7 := { stood := { row := calendarCoversAsSpecifiedRow, standIns := [], harness := (true, "3260f95e672720e2f41c3e5ffb7cdd652e828f9929600c252e4399e42f0a0890"), looks := false }, kinds := [], alts := [], laidByText := true, laidKinds := [.data], laidTests := true, laidLooks := .later }
def CalendarCoversAsSpecifiedCardSaid : Prop := Claim7.holds Tryd.pinned (.plain (OpenSpec.ofChange calendarCoversAsSpecifiedSpec)) calendarCoversAsSpecifiedCard

/-- THE TIED CARD OF 'rivermarklaw06.CalendarIsOneToOne'. -/
def calendarIsOneToOneCard : Claim7 := { stood := { row := calendarIsOneToOneRow, standIns := [], harness := (true, "3260f95e672720e2f41c3e5ffb7cdd652e828f9929600c252e4399e42f0a0890"), looks := false }, kinds := [], alts := [], laidByText := true, laidKinds := [.data], laidTests := true, laidLooks := .later }
def CalendarIsOneToOneCardSaid : Prop := Claim7.holds Tryd.pinned (.plain (OpenSpec.ofChange calendarIsOneToOneSpec)) calendarIsOneToOneCard

/-- THE TIED CARD OF 'rivermarklaw06.CalendarNests'. -/
def calendarNestsCard : Claim7 := { stood := { row := calendarNestsRow, standIns := [], harness := (true, "3260f95e672720e2f41c3e5ffb7cdd652e828f9929600c252e4399e42f0a0890"), looks := false }, kinds := [], alts := [], laidByText := true, laidKinds := [.data], laidTests := true, laidLooks := .later }
def CalendarNestsCardSaid : Prop := Claim7.holds Tryd.pinned (.plain (OpenSpec.ofChange calendarNestsSpec)) calendarNestsCard

/-- THE TIED CARD OF 'rivermarklaw06.CalendarCoverIsLeast'. -/
def calendarCoverIsLeastCard : Claim7 := { stood := { row := calendarCoverIsLeastRow, standIns := [], harness := (true, "3260f95e672720e2f41c3e5ffb7cdd652e828f9929600c252e4399e42f0a0890"), looks := false }, kinds := [], alts := [], laidByText := true, laidKinds := [.data], laidTests := true, laidLooks := .later }
def CalendarCoverIsLeastCardSaid : Prop := Claim7.holds Tryd.pinned (.plain (OpenSpec.ofChange calendarCoverIsLeastSpec)) calendarCoverIsLeastCard

/-- THE SECOND FORM's CARD OF 'rivermarklaw06.CalendarDatesAsSpecified'. -/
def calendarDatesAsSpecifiedUptoCard : Claim7 := { stood := { row := calendarDatesAsSpecifiedUptoRow, standIns := [], harness := (true, "3260f95e672720e2f41c3e5ffb7cdd652e828f9929600c252e4399e42f0a0890"), looks := false }, kinds := [], alts := [], laidByText := true, laidKinds := [.data], laidTests := true, laidLooks := .later }
def CalendarDatesAsSpecifiedUptoCardSaid : Prop := Claim7.holds Tryd.pinned (.plain (OpenSpec.upto calendarDatesAsSpecifiedSpec)) calendarDatesAsSpecifiedUptoCard

/-- THE SECOND FORM's CARD OF 'rivermarklaw06.CalendarBlocksAsSpecified'. -/
def calendarBlocksAsSpecifiedUptoCard : Claim7 := { stood := { row := calendarBlocksAsSpecifiedUptoRow, standIns := [], harness := (true, "3260f95e672720e2f41c3e5ffb7cdd652e828f9929600c252e4399e42f0a0890"), looks := false }, kinds := [], alts := [], laidByText := true, laidKinds := [.data], laidTests := true, laidLooks := .later }
def CalendarBlocksAsSpecifiedUptoCardSaid : Prop := Claim7.holds Tryd.pinned (.plain (OpenSpec.upto calendarBlocksAsSpecifiedSpec)) calendarBlocksAsSpecifiedUptoCard

/-- THE SECOND FORM's CARD OF 'rivermarklaw06.CalendarCoversAsSpecified'. -/
def calendarCoversAsSpecifiedUptoCard : Claim7 := { stood := { row := calendarCoversAsSpecifiedUptoRow, standIns := [], harness := (true, "3260f95e672720e2f41c3e5ffb7cdd652e828f9929600c252e4399e42f0a0890"), looks := false }, kinds := [], alts := [], laidByText := true, laidKinds := [.data], laidTests := true, laidLooks := .later }
def CalendarCoversAsSpecifiedUptoCardSaid : Prop := Claim7.holds Tryd.pinned (.plain (OpenSpec.upto calendarCoversAsSpecifiedSpec)) calendarCoversAsSpecifiedUptoCard

/-- THE SECOND FORM's CARD OF 'rivermarklaw06.CalendarIsOneToOne'. -/
def calendarIsOneToOneUptoCard : Claim7 := { stood := { row := calendarIsOneToOneUptoRow, standIns := [], harness := (true, "3260f95e672720e2f41c3e5ffb7cdd652e828f9929600c252e4399e42f0a0890"), looks := false }, kinds := [], alts := [], laidByText := true, laidKinds := [.data], laidTests := true, laidLooks := .later }
def CalendarIsOneToOneUptoCardSaid : Prop := Claim7.holds Tryd.pinned (.plain (OpenSpec.upto calendarIsOneToOneSpec)) calendarIsOneToOneUptoCard

/-- THE SECOND FORM's CARD OF 'rivermarklaw06.CalendarNests'. -/
def calendarNestsUptoCard : Claim7 := { stood := { row := calendarNestsUptoRow, standIns := [], harness := (true, "3260f95e672720e2f41c3e5ffb7cdd652e828f9929600c252e4399e42f0a0890"), looks := false }, kinds := [], alts := [], laidByText := true, laidKinds := [.data], laidTests := true, laidLooks := .later }
def CalendarNestsUptoCardSaid : Prop := Claim7.holds Tryd.pinned (.plain (OpenSpec.upto calendarNestsSpec)) calendarNestsUptoCard

/-- THE SECOND FORM's CARD OF 'rivermarklaw06.CalendarCoverIsLeast'. -/
def calendarCoverIsLeastUptoCard : Claim7 := { stood := { row := calendarCoverIsLeastUptoRow, standIns := [], harness := (true, "3260f95e672720e2f41c3e5ffb7cdd652e828f9929600c252e4399e42f0a0890"), looks := false }, kinds := [], alts := [], laidByText := true, laidKinds := [.data], laidTests := true, laidLooks := .later }
def CalendarCoverIsLeastUptoCardSaid : Prop := Claim7.holds Tryd.pinned (.plain (OpenSpec.upto calendarCoverIsLeastSpec)) calendarCoverIsLeastUptoCard
end Rows
end Go.Proofs.YtfcfdphkaildiaaDoor
