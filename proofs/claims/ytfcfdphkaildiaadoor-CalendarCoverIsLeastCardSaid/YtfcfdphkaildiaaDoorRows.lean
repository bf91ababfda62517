/-
  NARROWER THAN 'FOR EVERY INPUT', by the rows' own cells (each row's printed sentence says how): CalendarDatesAsSpecified: laid · CalendarBlocksAsSpecified: laid · CalendarCoversAsSpecified: laid · CalendarIsOneToOne: laid · CalendarNests: laid · CalendarCoverIsLeast: laid.
  DERIVED. THE GIVEN ROWS OF THIS SEAT. 6 by the template 'for every input the law returns true; each argument reads behind the call as it read before'; 0 by the template 'total and deterministic' (their statements: YtfcfdphkaildiaaDoorTotals.lean).
  GIVEN WITH THE SEED: the statements are not yours to turn. If you find one false, say at which input.
  Laid BY PROGRAM, IN A SANDBOX (cutbox-rows.mjs): the forced cells as the released guide's own fill.sh prints them over the translation f0b559edef669dd4… (all of the seat's roots in one cut). By AI agents, Wed Nov 11 2026. No macro, syntax, notation, axiom, sorry.
-/
import Derived.Test.YtfcfdphkaildiaaDoorChecked
import GoSem.Claim
import GoSem.ClaimJoined
import GoSem.ClaimMapViews
import Derived.JoinedTies
import Derived.KernelRfl
namespace Go.Proofs.YtfcfdphkaildiaaDoor
/- THE CELL 'sum', in the pinned program and in every row, IS THE sha256 OF THE DUMP (.gsa) THAT YtfcfdphkaildiaaDoorProg.lean LOADS. Nothing in Lean hashes anything: it is a label: what it is worth is what the hold of that sum in a sandbox is worth. -/
noncomputable def Tryd.pinned : Pinned := { name := "ytfcfdphkaildiaadoor", sum := "f0b559edef669dd4bbc6d62abaf9dc28732c377aaf5f36353fec9a409bc38d1d", checked := Tryd.checked }
namespace Rows
def none {H : Type} : Left H := { results := [], args := [] }

/- WHAT THE LISTED PACKAGE-LEVEL VARIABLES READ AS WHEN THE CALL BEGINS. Each datum BY PROGRAM (the guide's laid-datum.mjs) off the statement by which the dump's own 'gosem.cut.vars' lays the variable. In a bare row this is a premise. The card (YtfcfdphkaildiaaDoorCards.lean) ties it to the program's text. -/
def laid_rivermark_calendar_lengths {H : Type} : DataW H := .agg [.lit (.int .i64 31), .lit (.int .i64 28), .lit (.int .i64 31), .lit (.int .i64 30), .lit (.int .i64 31), .lit (.int .i64 30), .lit (.int .i64 31), .lit (.int .i64 31), .lit (.int .i64 30), .lit (.int .i64 31), .lit (.int .i64 30), .lit (.int .i64 31)]

/-- 'rivermarklaw06.CalendarDatesAsSpecified': WHATEVER THE INPUT: true; the input reads as it did. -/
def calendarDatesAsSpecifiedSpec : ChangeSpec := { name := "calendarDatesAsSpecified", fn := fun _ => fun
  | [d1, d2] => { results := [.lit (.bool true)], args := [d1, d2] }
  | _ => none }
def calendarDatesAsSpecifiedRow : OpenClaim := { program := "ytfcfdphkaildiaadoor", sum := "f0b559edef669dd4bbc6d62abaf9dc28732c377aaf5f36353fec9a409bc38d1d", func := "rivermark/rivermarklaw06.CalendarDatesAsSpecified", spec := "calendarDatesAsSpecified", unfollowed := true, recurses := true, named := ["rivermark/calendar.lengths"], apart := false, laid := [("rivermark/calendar.lengths", laid_rivermark_calendar_lengths)] }
def CalendarDatesAsSpecifiedSaid : Prop := calendarDatesAsSpecifiedRow.holds Tryd.pinned (OpenSpec.ofChange calendarDatesAsSpecifiedSpec)

/-- ITS FALSE NEIGHBOUR: 'it returns false'. Refute it at one input. -/
def calendarDatesAsSpecifiedWrong : ChangeSpec := { name := "calendarDatesAsSpecified", fn := fun _ => fun
  | [d1, d2] => { results := [.lit (.bool false)], args := [d1, d2] }
  | _ => none }
def CalendarDatesAsSpecifiedWrongFalsely : Prop := calendarDatesAsSpecifiedRow.holds Tryd.pinned (OpenSpec.ofChange calendarDatesAsSpecifiedWrong)

/-- 'rivermarklaw06.CalendarBlocksAsSpecified': WHATEVER THE INPUT: true; the input reads as it did. -/
def calendarBlocksAsSpecifiedSpec : ChangeSpec := { name := "calendarBlocksAsSpecified", fn := fun _ => fun
  | [d1, d2, d3] => { results := [.lit (.bool true)], args := [d1, d2, d3] }
  | _ => none }
def calendarBlocksAsSpecifiedRow : OpenClaim := { program := "ytfcfdphkaildiaadoor", sum := "f0b559edef669dd4bbc6d62abaf9dc28732c377aaf5f36353fec9a409bc38d1d", func := "rivermark/rivermarklaw06.CalendarBlocksAsSpecified", spec := "calendarBlocksAsSpecified", unfollowed := true, recurses := true, named := ["rivermark/calendar.lengths"], apart := false, laid := [("rivermark/calendar.lengths", laid_rivermark_calendar_lengths)] }
def CalendarBlocksAsSpecifiedSaid : Prop := calendarBlocksAsSpecifiedRow.holds Tryd.pinned (OpenSpec.ofChange calendarBlocksAsSpecifiedSpec)

/-- ITS FALSE NEIGHBOUR: 'it returns false'. Refute it at one input. -/
def calendarBlocksAsSpecifiedWrong : ChangeSpec := { name := "calendarBlocksAsSpecified", fn := fun _ => fun
  | [d1, d2, d3] => { results := [.lit (.bool false)], args := [d1, d2, d3] }
  | _ => none }
def CalendarBlocksAsSpecifiedWrongFalsely : Prop := calendarBlocksAsSpecifiedRow.holds Tryd.pinned (OpenSpec.ofChange calendarBlocksAsSpecifiedWrong)

/-- 'rivermarklaw06.CalendarCoversAsSpecified': WHATEVER THE INPUT: true; the input reads as it did. -/
def calendarCoversAsSpecifiedSpec : ChangeSpec := { name := "calendarCoversAsSpecified", fn := fun _ => fun
  | [d1, d2] => { results := [.lit (.bool true)], args := [d1, d2] }
  | _ => none }
def calendarCoversAsSpecifiedRow : OpenClaim := { program := "ytfcfdphkaildiaadoor", sum := "f0b559edef669dd4bbc6d62abaf9dc28732c377aaf5f36353fec9a409bc38d1d", func := "rivermark/rivermarklaw06.CalendarCoversAsSpecified", spec := "calendarCoversAsSpecified", unfollowed := true, recurses := true, named := ["rivermark/calendar.lengths"], apart := false, laid := [("rivermark/calendar.lengths", laid_rivermark_calendar_lengths)] }
def CalendarCoversAsSpecifiedSaid : Prop := calendarCoversAsSpecifiedRow.holds Tryd.pinned (OpenSpec.ofChange calendarCoversAsSpecifiedSpec)

/-- ITS FALSE NEIGHBOUR: 'it returns false'. Refute it at one input. -/
def calendarCoversAsSpecifiedWrong : ChangeSpec := { name := "calendarCoversAsSpecified", fn := fun _ => fun
  | [d1, d2] => { results := [.lit (.bool false)], args := [d1, d2] }
  | _ => none }
def CalendarCoversAsSpecifiedWrongFalsely : Prop := calendarCoversAsSpecifiedRow.holds Tryd.pinned (OpenSpec.ofChange calendarCoversAsSpecifiedWrong)

/-- 'rivermarklaw06.CalendarIsOneToOne': WHATEVER THE INPUT: true; the input reads as it did. -/
def calendarIsOneToOneSpec : ChangeSpec := { name := "calendarIsOneToOne", fn := fun _ => fun
  | [d] => { results := [.lit (.bool true)], args := [d] }
  | _ => none }
def calendarIsOneToOneRow : OpenClaim := { program := "ytfcfdphkaildiaadoor", sum := "f0b559edef669dd4bbc6d62abaf9dc28732c377aaf5f36353fec9a409bc38d1d", func := "rivermark/rivermarklaw06.CalendarIsOneToOne", spec := "calendarIsOneToOne", unfollowed := true, recurses := true, named := ["rivermark/calendar.lengths"], apart := false, laid := [("rivermark/calendar.lengths", laid_rivermark_calendar_lengths)] }
def CalendarIsOneToOneSaid : Prop := calendarIsOneToOneRow.holds Tryd.pinned (OpenSpec.ofChange calendarIsOneToOneSpec)

/-- ITS FALSE NEIGHBOUR: 'it returns false'. Refute it at one input. -/
def calendarIsOneToOneWrong : ChangeSpec := { name := "calendarIsOneToOne", fn := fun _ => fun
  | [d] => { results := [.lit (.bool false)], args := [d] }
  | _ => none }
def CalendarIsOneToOneWrongFalsely : Prop := calendarIsOneToOneRow.holds Tryd.pinned (OpenSpec.ofChange calendarIsOneToOneWrong)

/-- 'rivermarklaw06.CalendarNests': WHATEVER THE INPUT: true; the input reads as it did. -/
def calendarNestsSpec : ChangeSpec := { name := "calendarNests", fn := fun _ => fun
  | [d1, d2] => { results := [.lit (.bool true)], args := [d1, d2] }
  | _ => none }
def calendarNestsRow : OpenClaim := { program := "ytfcfdphkaildiaadoor", sum := "f0b559edef669dd4bbc6d62abaf9dc28732c377aaf5f36353fec9a409bc38d1d", func := "rivermark/rivermarklaw06.CalendarNests", spec := "calendarNests", unfollowed := true, recurses := true, named := ["rivermark/calendar.lengths"], apart := false, laid := [("rivermark/calendar.lengths", laid_rivermark_calendar_lengths)] }
def CalendarNestsSaid : Prop := calendarNestsRow.holds Tryd.pinned (OpenSpec.ofChange calendarNestsSpec)

/-- ITS FALSE NEIGHBOUR: 'it returns false'. Refute it at one input. -/
def calendarNestsWrong : ChangeSpec := { name := "calendarNests", fn := fun _ => fun
  | [d1, d2] => { results := [.lit (.bool false)], args := [d1, d2] }
  | _ => none }
def CalendarNestsWrongFalsely : Prop := calendarNestsRow.holds Tryd.pinned (OpenSpec.ofChange calendarNestsWrong)

/-- 'rivermarklaw06.CalendarCoverIsLeast': WHATEVER THE INPUT: true; the input reads as it did. -/
def calendarCoverIsLeastSpec : ChangeSpec := { name := "calendarCoverIsLeast", fn := fun _ => fun
  | [d1, d2] => { results := [.lit (.bool true)], args := [d1, d2] }
  | _ => none }
def calendarCoverIsLeastRow : OpenClaim := { program := "ytfcfdphkaildiaadoor", sum := "f0b559edef669dd4bbc6d62abaf9dc28732c377aaf5f36353fec9a409bc38d1d", func := "rivermark/rivermarklaw06.CalendarCoverIsLeast", spec := "calendarCoverIsLeast", unfollowed := true, recurses := true, named := ["rivermark/calendar.lengths"], apart := false, laid := [("rivermark/calendar.lengths", laid_rivermark_calendar_lengths)] }
def CalendarCoverIsLeastSaid : Prop := calendarCoverIsLeastRow.holds Tryd.pinned (OpenSpec.ofChange calendarCoverIsLeastSpec)

/-- ITS FALSE NEIGHBOUR: 'it returns false'. Refute it at one input. -/
def calendarCoverIsLeastWrong : ChangeSpec := { name := "calendarCoverIsLeast", fn := fun _ => fun
  | [d1, d2] => { results := [.lit (.bool false)], args := [d1, d2] }
  | _ => none }
def CalendarCoverIsLeastWrongFalsely : Prop := calendarCoverIsLeastRow.holds Tryd.pinned (OpenSpec.ofChange calendarCoverIsLeastWrong)

/- THE SECOND FORM. 'bulk': how many values and letters a reading holds, each counted each time it is reached (what is shared counts as often as it is met; a slice's spare places count too). A statement '..UptoSaid' is the law's where the arguments, and the package variables that the reading takes, are together of bulk at most 1048576: NARROWER than '..Said'. Prove '..Said' where nothing that the law and all that it calls make is longer than what came in: it says more and counts as full. Else prove '..UptoSaid'. A law counts once. -/
mutual
def uptoBulk {H : Type} : DataW H → Nat
  | .lit (.string bytes) => bytes.length + 1
  | .lit _ => 1
  | .nil => 1
  | .ptr d => uptoBulk d + 1
  | .slice elems spare => uptoBulkAll elems + uptoBulkAll spare + 1
  | .agg parts => uptoBulkAll parts + 1
  | .iface _ d => uptoBulk d + 1
  | .map entries => uptoBulkEntries entries + 1
  | .held _ => 1
def uptoBulkAll {H : Type} : List (DataW H) → Nat
  | [] => 0
  | d :: r => uptoBulk d + uptoBulkAll r
def uptoBulkEntries {H : Type} : List (Lit × DataW H) → Nat
  | [] => 0
  | x :: r => uptoBulkEntry x + uptoBulkEntries r
def uptoBulkEntry {H : Type} : Lit × DataW H → Nat
  | (.string bytes, d) => bytes.length + uptoBulk d + 1
  | (_, d) => uptoBulk d + 1
 end
def uptoSmall : (H : Type) → List (DataW H) → Bool := fun _ ds => decide (uptoBulkAll ds ≤ 1048576)
def OpenSpec.upto (s : _root_.Go.ChangeSpec) : _root_.Go.OpenSpec := { _root_.Go.OpenSpec.ofChange s with cond := some uptoSmall }

/-- 'rivermarklaw06.CalendarDatesAsSpecified', WHERE WHAT IT READS IS OF BULK AT MOST 1048576: true; the input reads as it did. -/
def calendarDatesAsSpecifiedUptoRow : OpenClaim := { program := "ytfcfdphkaildiaadoor", sum := "f0b559edef669dd4bbc6d62abaf9dc28732c377aaf5f36353fec9a409bc38d1d", func := "rivermark/rivermarklaw06.CalendarDatesAsSpecified", spec := "calendarDatesAsSpecified", unfollowed := true, recurses := true, named := ["rivermark/calendar.lengths"], apart := false, laid := [("rivermark/calendar.lengths", laid_rivermark_calendar_lengths)], narrowed := true }
def CalendarDatesAsSpecifiedUptoSaid : Prop := calendarDatesAsSpecifiedUptoRow.holds Tryd.pinned (OpenSpec.upto calendarDatesAsSpecifiedSpec)

/-- 'rivermarklaw06.CalendarBlocksAsSpecified', WHERE WHAT IT READS IS OF BULK AT MOST 1048576: true; the input reads as it did. -/
def calendarBlocksAsSpecifiedUptoRow : OpenClaim := { program := "ytfcfdphkaildiaadoor", sum := "f0b559edef669dd4bbc6d62abaf9dc28732c377aaf5f36353fec9a409bc38d1d", func := "rivermark/rivermarklaw06.CalendarBlocksAsSpecified", spec := "calendarBlocksAsSpecified", unfollowed := true, recurses := true, named := ["rivermark/calendar.lengths"], apart := false, laid := [("rivermark/calendar.lengths", laid_rivermark_calendar_lengths)], narrowed := true }
def CalendarBlocksAsSpecifiedUptoSaid : Prop := calendarBlocksAsSpecifiedUptoRow.holds Tryd.pinned (OpenSpec.upto calendarBlocksAsSpecifiedSpec)

/-- 'rivermarklaw06.CalendarCoversAsSpecified', WHERE WHAT IT READS IS OF BULK AT MOST 1048576: true; the input reads as it did. -/
def calendarCoversAsSpecifiedUptoRow : OpenClaim := { program := "ytfcfdphkaildiaadoor", sum := "f0b559edef669dd4bbc6d62abaf9dc28732c377aaf5f36353fec9a409bc38d1d", func := "rivermark/rivermarklaw06.CalendarCoversAsSpecified", spec := "calendarCoversAsSpecified", unfollowed := true, recurses := true, named := ["rivermark/calendar.lengths"], apart := false, laid := [("rivermark/calendar.lengths", laid_rivermark_calendar_lengths)], narrowed := true }
def CalendarCoversAsSpecifiedUptoSaid : Prop := calendarCoversAsSpecifiedUptoRow.holds Tryd.pinned (OpenSpec.upto calendarCoversAsSpecifiedSpec)

/-- 'rivermarklaw06.CalendarIsOneToOne', WHERE WHAT IT READS IS OF BULK AT MOST 1048576: true; the input reads as it did. -/
def calendarIsOneToOneUptoRow : OpenClaim := { program := "ytfcfdphkaildiaadoor", sum := "f0b559edef669dd4bbc6d62abaf9dc28732c377aaf5f36353fec9a409bc38d1d", func := "rivermark/rivermarklaw06.CalendarIsOneToOne", spec := "calendarIsOneToOne", unfollowed := true, recurses := true, named := ["rivermark/calendar.lengths"], apart := false, laid := [("rivermark/calendar.lengths", laid_rivermark_calendar_lengths)], narrowed := true }
def CalendarIsOneToOneUptoSaid : Prop := calendarIsOneToOneUptoRow.holds Tryd.pinned (OpenSpec.upto calendarIsOneToOneSpec)

/-- 'rivermarklaw06.CalendarNests', WHERE WHAT IT READS IS OF BULK AT MOST 1048576: true; the input reads as it did. -/
def calendarNestsUptoRow : OpenClaim := { program := "ytfcfdphkaildiaadoor", sum := "f0b559edef669dd4bbc6d62abaf9dc28732c377aaf5f36353fec9a409bc38d1d", func := "rivermark/rivermarklaw06.CalendarNests", spec := "calendarNests", unfollowed := true, recurses := true, named := ["rivermark/calendar.lengths"], apart := false, laid := [("rivermark/calendar.lengths", laid_rivermark_calendar_lengths)], narrowed := true }
def CalendarNestsUptoSaid : Prop := calendarNestsUptoRow.holds Tryd.pinned (OpenSpec.upto calendarNestsSpec)

/-- 'rivermarklaw06.CalendarCoverIsLeast', WHERE WHAT IT READS IS OF BULK AT MOST 1048576: true; the input reads as it did. -/
def calendarCoverIsLeastUptoRow : OpenClaim := { program := "ytfcfdphkaildiaadoor", sum := "f0b559edef669dd4bbc6d62abaf9dc28732c377aaf5f36353fec9a409bc38d1d", func := "rivermark/rivermarklaw06.CalendarCoverIsLeast", spec := "calendarCoverIsLeast", unfollowed := true, recurses := true, named := ["rivermark/calendar.lengths"], apart := false, laid := [("rivermark/calendar.lengths", laid_rivermark_calendar_lengths)], narrowed := true }
def CalendarCoverIsLeastUptoSaid : Prop := calendarCoverIsLeastUptoRow.holds Tryd.pinned (OpenSpec.upto calendarCoverIsLeastSpec)

end Rows
end Go.Proofs.YtfcfdphkaildiaaDoor
