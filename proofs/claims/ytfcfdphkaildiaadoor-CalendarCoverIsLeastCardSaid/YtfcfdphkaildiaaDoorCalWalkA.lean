/- Walks of the calendar: Leap, days, length, Date, Day, level, interval and the reference's Leap, Days, Length, Day, Interval. Conditions: the table of lengths lies in block 0 (TabOK). -/
import Derived.Test.YtfcfdphkaildiaaDoorProg
import Derived.Test.YtfcfdphkaildiaaDoorCalPlain
import Derived.WalkKit
import Derived.Lib.Hide
namespace Go.Proofs.YtfcfdphkaildiaaDoor
open Go Go.Proofs Go.RowKit

def TabOK (w : World) : Prop := ∀ i, i < 12 → w.cell? ⟨0, i, none⟩ = some (.int .i64 (tab i))
theorem TabOK.pos {w : World} (h : TabOK w) : 0 < w.heap.size := by
  have h' := h 0 (by omega)
  rcases Nat.eq_zero_or_pos w.heap.size with e | e
  · exfalso
    have : w.heap = #[] := by simpa using e
    simp [World.cell?, this] at h'
  · exact e
theorem TabOK.below {w w' : World} (h : TabOK w) (hb : Below w.heap.size w w') : TabOK w' := fun i hi => by
  have h' := h i hi
  have : 0 < w.heap.size := h.pos
  exact (hb.cell (p := ⟨0, i, none⟩) this).trans h'

theorem leap_any (y : Int) (w : World) : Calls Tryd.prog 14 #[.int .i64 y] w fun e w' => e = .returned (.bool (leapB y)) ∧ w = w' := by
  go_enter Tryd.func14, Tryd.ntmps14
  go_wp2
  all_goals go_ret
  all_goals exact ⟨by simp [leapB, *], rfl⟩

theorem days_any (y : Int) (w : World) : Calls Tryd.prog 31 #[.int .i64 y] w fun e w' => e = .returned (.int .i64 (ylen y)) ∧ w = w' := by
  go_enter Tryd.func31, Tryd.ntmps31
  cases h : leapB y
  all_goals
    go_wp2_with (go_at_call 14; refine (leap_any _ _).mono ?_; rintro e w' ⟨rfl, rfl⟩)
    go_ret
    exact ⟨by simp [ylen, h], rfl⟩

theorem length_any (y m : Int) (w : World) (hT : Hid (TabOK w)) (h1 : 1 ≤ m) (h2 : m ≤ 12) : Calls Tryd.prog 32 #[.int .i64 y, .int .i64 m] w fun e w' => e = .returned (.int .i64 (mlen y m)) ∧ w = w' := by
  by_cases hm : m = 2
  · subst hm
    have hc : w.cell? ⟨0, 1, none⟩ = some (.int .i64 28) := hT.out 1 (by omega)
    cases h : leapB y
    all_goals
      go_enter Tryd.func32, Tryd.ntmps32
      go_wp2_with (go_at_call 14; refine (leap_any _ _).mono ?_; rintro e w' ⟨rfl, rfl⟩)
      go_ret
      exact ⟨by simp [mlen, h, tab], rfl⟩
  · have hc : w.cell? ⟨0, m.toNat - 1, none⟩ = some (.int .i64 (tab (m.toNat - 1))) := hT.out _ (by omega)
    have hb : (m == 2) = false := by simpa using hm
    go_enter Tryd.func32, Tryd.ntmps32
    go_wp2_with fail
    go_ret
    exact ⟨by simp [mlen, hm], rfl⟩

theorem level_any (n : Int) (w : World) : Calls Tryd.prog 37 #[.int .i64 n] w fun e w' => e = .returned (.bool (decide (0 ≤ n) && decide (n ≤ 4))) ∧ w = w' := by
  go_enter Tryd.func37, Tryd.ntmps37
  go_wp2
  all_goals go_ret
  all_goals exact ⟨by simp [*] <;> omega, rfl⟩

def ivB (f t : Int) : Bool := decide (0 ≤ f) && decide (f ≤ t) && decide (t ≤ 1402560)
theorem interval_any (f t : Int) (w : World) : Calls Tryd.prog 42 #[.int .i64 f, .int .i64 t] w fun e w' => e = .returned (.bool (ivB f t)) ∧ w = w' := by
  go_enter Tryd.func42, Tryd.ntmps42
  go_wp2
  all_goals go_ret
  all_goals exact ⟨by simp [ivB, *] <;> omega, rfl⟩
theorem rinterval_any (f t : Int) (w : World) : Calls Tryd.prog 25 #[.int .i64 f, .int .i64 t] w fun e w' => e = .returned (.bool (ivB f t)) ∧ w = w' := by
  go_enter Tryd.func25, Tryd.ntmps25
  go_wp2
  all_goals go_ret
  all_goals exact ⟨by simp [ivB, *] <;> omega, rfl⟩

end Go.Proofs.YtfcfdphkaildiaaDoor
