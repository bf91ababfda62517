/- What the row's listed table gives the walks of the calendar, and a world for the witness. Conditions: the row's own. -/
import Derived.Test.YtfcfdphkaildiaaDoorPost
import Derived.Test.YtfcfdphkaildiaaDoorCalWalkA
namespace Go.Proofs.YtfcfdphkaildiaaDoor
open Go Go.Proofs Go.RowKit Go.WideShapes Go.ChangeShapes

theorem gLengths : Tryd.prog.globalNamed "rivermark/calendar.lengths" = some 0 := by kernel_rfl
theorem gLengthsType : (Tryd.prog.globals[0]?).map (·.type) = some 78 := by kernel_rfl
theorem cellsTab : Tryd.prog.cellsOf 78 = 12 := by kernel_rfl
theorem cellsInt : Tryd.prog.cellsOf 3 = 1 := by kernel_rfl

theorem tab_of_laid {W : World} (h : laidMetH Tryd.prog [("rivermark/calendar.lengths", Rows.laid_rivermark_calendar_lengths)] W) : TabOK W := fun i hi => by
  have ht : Lib.TabIs Tryd.prog W "rivermark/calendar.lengths" .i64 [31, 28, 31, 30, 31, 30, 31, 31, 30, 31, 30, 31] :=
    Lib.tabIs_of_head (rest := []) gLengths gLengthsType Tryd.underlying78 Tryd.underlying3 cellsInt cellsTab h
  exact ht.cell gLengths i hi

/-- A world in which the table lies as its initialiser lays it. -/
noncomputable def laidWorld (os : Os) : World :=
  { World.holding Tryd.prog os ⟨#[], #[], []⟩ with heap := (World.holding Tryd.prog os ⟨#[], #[], []⟩).heap.modify 0 fun
      | .cells _ t frozen => .cells #[(.int .i64 31), (.int .i64 28), (.int .i64 31), (.int .i64 30), (.int .i64 31), (.int .i64 30), (.int .i64 31), (.int .i64 31), (.int .i64 30), (.int .i64 31), (.int .i64 30), (.int .i64 31)] t frozen
      | o => o }
end Go.Proofs.YtfcfdphkaildiaaDoor
