/-
  DERIVED. GIVEN WITH THE SEED: THE CARDS: each row of YtdjjifljlkjafaaGreatDoorRows.lean that lists a variable, with what it lists TIED to the program's text (the seventh form; the later family's looks); each row that meets fmt, with fmt's text TOLD by the authors' own Lean function (tested against real Go, not proved from fmt's source: count such statements apart). THE CARD IS WHAT COUNTS. Prove the row's statement (the work); the ties are given (YtdjjifljlkjafaaGreatDoorTie.lean); close each card by the builder's one call (the guide's Derived/Test/ToyasCard.lean, 'card_holds'). Laid BY PROGRAM, IN A SANDBOX (cutbox-door.mjs). By AI agents, Wed Nov 11 2026. No macro, syntax, notation, axiom, sorry.
-/
import Derived.Test.YtdjjifljlkjafaaGreatDoorRows
import GoSem.ClaimSeven
namespace Go.Proofs.YtdjjifljlkjafaaGreatDoor
namespace Rows

/-- THE TIED CARD OF 'rivermarklaw07.LexerReadsAsSpecified'. -/
def lexerReadsAsSpecifiedCard : Claim7 := { stood := { row := lexerReadsAsSpecifiedRow, standIns := [], harness := (true, "2d3a7c6305f1eea2db5df6100c18cfae708e5fea9bb25c253fdaff0830dd1141"), looks := true }, kinds := [], alts := [], laidByText := true, laidKinds := [.data, .data, .data, .sentinel, .sentinel, .listed, .data], laidTests := true, laidLooks := .later }
def LexerReadsAsSpecifiedCardSaid : Prop := Claim7.holds Tryz.pinned (.plain (OpenSpec.ofChange lexerReadsAsSpecifiedSpec)) lexerReadsAsSpecifiedCard

/-- THE TIED CARD OF 'rivermarklaw07.LexerPrintsAsSpecified'. -/
def lexerPrintsAsSpecifiedCard : Claim7 := { stood := { row := lexerPrintsAsSpecifiedRow, standIns := [], harness := (true, "2d3a7c6305f1eea2db5df6100c18cfae708e5fea9bb25c253fdaff0830dd1141"), looks := true }, kinds := [], alts := [], laidByText := true, laidKinds := [.data, .data, .data, .sentinel, .sentinel, .listed, .data], laidTests := true, laidLooks := .later }
def LexerPrintsAsSpecifiedCardSaid : Prop := Claim7.holds Tryz.pinned (.plain (OpenSpec.ofChange lexerPrintsAsSpecifiedSpec)) lexerPrintsAsSpecifiedCard

/-- THE TIED CARD OF 'rivermarklaw07.LexerFindsPositions'. -/
def lexerFindsPositionsCard : Claim7 := { stood := { row := lexerFindsPositionsRow, standIns := [], harness := (true, "2d3a7c6305f1eea2db5df6100c18cfae708e5fea9bb25c253fdaff0830dd1141"), looks := true }, kinds := [], alts := [], laidByText := true, laidKinds := [.data, .data, .data, .sentinel, .sentinel, .listed, .data], laidTests := true, laidLooks := .later }
def LexerFindsPositionsCardSaid : Prop := Claim7.holds Tryz.pinned (.plain (OpenSpec.ofChange lexerFindsPositionsSpec)) lexerFindsPositionsCard

/-- THE TIED CARD OF 'rivermarklaw07.LexerReadsItsText'. -/
def lexerReadsItsTextCard : Claim7 := { stood := { row := lexerReadsItsTextRow, standIns := [], harness := (true, "2d3a7c6305f1eea2db5df6100c18cfae708e5fea9bb25c253fdaff0830dd1141"), looks := true }, kinds := [], alts := [], laidByText := true, laidKinds := [.data, .data, .data, .sentinel, .sentinel, .listed, .data], laidTests := true, laidLooks := .later }
def LexerReadsItsTextCardSaid : Prop := Claim7.holds Tryz.pinned (.plain (OpenSpec.ofChange lexerReadsItsTextSpec)) lexerReadsItsTextCard

/-- THE TIED CARD OF 'rivermarklaw07.LexerJoinsSources'. -/
def lexerJoinsSourcesCard : Claim7 := { stood := { row := lexerJoinsSourcesRow, standIns := [], harness := (true, "2d3a7c6305f1eea2db5df6100c18cfae708e5fea9bb25c253fdaff0830dd1141"), looks := true }, kinds := [], alts := [], laidByText := true, laidKinds := [.data, .data, .data, .sentinel, .sentinel, .listed, .data], laidTests := true, laidLooks := .later }
def LexerJoinsSourcesCardSaid : Prop := Claim7.holds Tryz.pinned (.plain (OpenSpec.ofChange lexerJoinsSourcesSpec)) lexerJoinsSourcesCard

/-- THE TIED CARD OF 'rivermarklaw07.LexerIgnoresBlanks'. -/
def lexerIgnoresBlanksCard : Claim7 := { stood := { row := lexerIgnoresBlanksRow, standIns := [], harness := (true, "2d3a7c6305f1eea2db5df6100c18cfae708e5fea9bb25c253fdaff0830dd1141"), looks := true }, kinds := [], alts := [], laidByText := true, laidKinds := [.data, .data, .data, .sentinel, .sentinel, .listed, .data], laidTests := true, laidLooks := .later }
def LexerIgnoresBlanksCardSaid : Prop := Claim7.holds Tryz.pinned (.plain (OpenSpec.ofChange lexerIgnoresBlanksSpec)) lexerIgnoresBlanksCard

/-- THE TIED CARD OF 'rivermarklaw07.LexerStopsAtTheFirstProblem'. -/
def lexerStopsAtTheFirstProblemCard : Claim7 := { stood := { row := lexerStopsAtTheFirstProblemRow, standIns := [], harness := (true, "2d3a7c6305f1eea2db5df6100c18cfae708e5fea9bb25c253fdaff0830dd1141"), looks := true }, kinds := [], alts := [], laidByText := true, laidKinds := [.data, .data, .data, .sentinel, .sentinel, .listed, .data], laidTests := true, laidLooks := .later }
def LexerStopsAtTheFirstProblemCardSaid : Prop := Claim7.holds Tryz.pinned (.plain (OpenSpec.ofChange lexerStopsAtTheFirstProblemSpec)) lexerStopsAtTheFirstProblemCard

/-- THE TIED CARD OF 'rivermarklaw07.LexerCoversSources'. -/
def lexerCoversSourcesCard : Claim7 := { stood := { row := lexerCoversSourcesRow, standIns := [], harness := (true, "2d3a7c6305f1eea2db5df6100c18cfae708e5fea9bb25c253fdaff0830dd1141"), looks := true }, kinds := [], alts := [], laidByText := true, laidKinds := [.data, .data, .data, .sentinel, .sentinel, .listed, .data], laidTests := true, laidLooks := .later }
def LexerCoversSourcesCardSaid : Prop := Claim7.holds Tryz.pinned (.plain (OpenSpec.ofChange lexerCoversSourcesSpec)) lexerCoversSourcesCard

/-- THE SECOND FORM's CARD OF 'rivermarklaw07.LexerReadsAsSpecified'. -/
def lexerReadsAsSpecifiedUptoCard : Claim7 := { stood := { row := lexerReadsAsSpecifiedUptoRow, standIns := [], harness := (true, "2d3a7c6305f1eea2db5df6100c18cfae708e5fea9bb25c253fdaff0830dd1141"), looks := true }, kinds := [], alts := [], laidByText := true, laidKinds := [.data, .data, .data, .sentinel, .sentinel, .listed, .data], laidTests := true, laidLooks := .later }
def LexerReadsAsSpecifiedUptoCardSaid : Prop := Claim7.holds Tryz.pinned (.plain (OpenSpec.upto lexerReadsAsSpecifiedSpec)) lexerReadsAsSpecifiedUptoCard

/-- THE SECOND FORM's CARD OF 'rivermarklaw07.LexerPrintsAsSpecified'. -/
def lexerPrintsAsSpecifiedUptoCard : Claim7 := { stood := { row := lexerPrintsAsSpecifiedUptoRow, standIns := [], harness := (true, "2d3a7c6305f1eea2db5df6100c18cfae708e5fea9bb25c253fdaff0830dd1141"), looks := true }, kinds := [], alts := [], laidByText := true, laidKinds := [.data, .data, .data, .sentinel, .sentinel, .listed, .data], laidTests := true, laidLooks := .later }
def LexerPrintsAsSpecifiedUptoCardSaid : Prop := Claim7.holds Tryz.pinned (.plain (OpenSpec.upto lexerPrintsAsSpecifiedSpec)) lexerPrintsAsSpecifiedUptoCard

/-- THE SECOND FORM's CARD OF 'rivermarklaw07.LexerFindsPositions'. -/
def lexerFindsPositionsUptoCard : Claim7 := { stood := { row := lexerFindsPositionsUptoRow, standIns := [], harness := (true, "2d3a7c6305f1eea2db5df6100c18cfae708e5fea9bb25c253fdaff0830dd1141"), looks := true }, kinds := [], alts := [], laidByText := true, laidKinds := [.data, .data, .data, .sentinel, .sentinel, .listed, .data], laidTests := true, laidLooks := .later }
def LexerFindsPositionsUptoCardSaid : Prop := Claim7.holds Tryz.pinned (.plain (OpenSpec.upto lexerFindsPositionsSpec)) lexerFindsPositionsUptoCard

/-- THE SECOND FORM's CARD OF 'rivermarklaw07.LexerReadsItsText'. -/
def lexerReadsItsTextUptoCard : Claim7 := { stood := { row := lexerReadsItsTextUptoRow, standIns := [], harness := (true, "2d3a7c6305f1eea2db5df6100c18cfae708e5fea9bb25c253fdaff0830dd1141"), looks := true }, kinds := [], alts := [], laidByText := true, laidKinds := [.data, .data, .data, .sentinel, .sentinel, .listed, .data], laidTests := true, laidLooks := .later }
def LexerReadsItsTextUptoCardSaid : Prop := Claim7.holds Tryz.pinned (.plain (OpenSpec.upto lexerReadsItsTextSpec)) lexerReadsItsTextUptoCard

/-- THE SECOND FORM's CARD OF 'rivermarklaw07.LexerJoinsSources'. -/
def lexerJoinsSourcesUptoCard : Claim7 := { stood := { row := lexerJoinsSourcesUptoRow, standIns := [], harness := (true, "2d3a7c6305f1eea2db5df6100c18cfae708e5fea9bb25c253fdaff0830dd1141"), looks := true }, kinds := [], alts := [], laidByText := true, laidKinds := [.data, .data, .data, .sentinel, .sentinel, .listed, .data], laidTests := true, laidLooks := .later }
def LexerJoinsSourcesUptoCardSaid : Prop := Claim7.holds Tryz.pinned (.plain (OpenSpec.upto lexerJoinsSourcesSpec)) lexerJoinsSourcesUptoCard

/-- THE SECOND FORM's CARD OF 'rivermarklaw07.LexerIgnoresBlanks'. -/
def lexerIgnoresBlanksUptoCard : Claim7 := { stood := { row := lexerIgnoresBlanksUptoRow, standIns := [], harness := (true, "2d3a7c6305f1eea2db5df6100c18cfae708e5fea9bb25c253fdaff0830dd1141"), looks := true }, kinds := [], alts := [], laidByText := true, laidKinds := [.data, .data, .data, .sentinel, .sentinel, .listed, .data], laidTests := true, laidLooks := .later }
def LexerIgnoresBlanksUptoCardSaid : Prop := Claim7.holds Tryz.pinned (.plain (OpenSpec.upto lexerIgnoresBlanksSpec)) lexerIgnoresBlanksUptoCard

/-- THE SECOND FORM's CARD OF 'rivermarklaw07.LexerStopsAtTheFirstProblem'. -/
def lexerStopsAtTheFirstProblemUptoCard : Claim7 := { stood := { row := lexerStopsAtTheFirstProblemUptoRow, standIns := [], harness := (true, "2d3a7c6305f1eea2db5df6100c18cfae708e5fea9bb25c253fdaff0830dd1141"), looks := true }, kinds := [], alts := [], laidByText := true, laidKinds := [.data, .data, .data, .sentinel, .sentinel, .listed, .data], laidTests := true, laidLooks := .later }
def LexerStopsAtTheFirstProblemUptoCardSaid : Prop := Claim7.holds Tryz.pinned (.plain (OpenSpec.upto lexerStopsAtTheFirstProblemSpec)) lexerStopsAtTheFirstProblemUptoCard

/-- THE SECOND FORM's CARD OF 'rivermarklaw07.LexerCoversSources'. -/
def lexerCoversSourcesUptoCard : Claim7 := { stood := { row := lexerCoversSourcesUptoRow, standIns := [], harness := (true, "2d3a7c6305f1eea2db5df6100c18cfae708e5fea9bb25c253fdaff0830dd1141"), looks := true }, kinds := [], alts := [], laidByText := true, laidKinds := [.data, .data, .data, .sentinel, .sentinel, .listed, .data], laidTests := true, laidLooks := .later }
def LexerCoversSourcesUptoCardSaid : Prop := Claim7.holds Tryz.pinned (.plain (OpenSpec.upto lexerCoversSourcesSpec)) lexerCoversSourcesUptoCard
end Rows
end Go.Proofs.YtdjjifljlkjafaaGreatDoor
