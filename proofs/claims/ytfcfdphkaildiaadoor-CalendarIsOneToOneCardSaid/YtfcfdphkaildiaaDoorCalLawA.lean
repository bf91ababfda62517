/- Walks of the calendar's statements: CalendarIsOneToOne, CalendarDatesAsSpecified. Conditions: TabOK. -/
import Derived.Test.YtfcfdphkaildiaaDoorCalWalkS
namespace Go.Proofs.YtfcfdphkaildiaaDoor
open Go Go.Proofs Go.RowKit
attribute [local go_sem] Oper.semAt_some

theorem oto_next {day y m d : Int} (h : IsDate day y m d) (h1 : day < 14609) :
    (d < mlen y m ∧ IsDate (day + 1) y m (d + 1)) ∨ (d = mlen y m ∧ m < 12 ∧ IsDate (day + 1) y (m + 1) 1) ∨ (d = mlen y m ∧ m = 12 ∧ d = 31 ∧ IsDate (day + 1) (y + 1) 1 1) := by
  obtain ⟨y1, y2, m1, m2, d1, d2, eq⟩ := h
  rcases Int.lt_or_le d (mlen y m) with c | c
  · exact .inl ⟨c, y1, y2, m1, m2, by omega, by omega, by omega⟩
  · have hd : d = mlen y m := by omega
    have e := ms_succ y m m1 m2
    rcases Int.lt_or_le m 12 with c2 | c2
    · have b := mlen_bd y (m + 1) (by omega) (by omega)
      exact .inr (.inl ⟨hd, c2, y1, y2, by omega, by omega, by omega, by omega, by omega⟩)
    · have hm : m = 12 := by omega
      subst hm
      have e13 := ms_13 y
      have es := ys_succ y y1 (by omega)
      have hl : mlen y 12 = 31 := by simp [mlen, tab]
      have hne : y ≠ 2039 := by
        rintro rfl
        have := ys_end
        have h2 : ys (2039 + 1) = 14610 := ys_end
        have h3 : ms 2039 (12 + 1) = ms 2039 13 := rfl
        omega
      have b := mlen_bd (y + 1) 1 (by omega) (by omega)
      have m1' := ms_1 (y + 1)
      have h3 : ms y (12 + 1) = ms y 13 := rfl
      exact .inr (.inr ⟨hd, rfl, by omega, by omega, by omega, by omega, by omega, by omega, by omega, by omega⟩)

theorem day_over (y m d : Int) (w : World) (hT : Hid (TabOK w)) (h : mlen y m < d) : Calls Tryd.prog 11 #[(.int .i64 y), (.int .i64 m), (.int .i64 d)] w fun e w' => e = .returned (.tuple #[(.int .i64 0), (.int .i64 3)]) ∧ w = w' := by
  have := day_any y m d w hT
  obtain ⟨a, b⟩ := day_no (y := y) (m := m) (d := d) (by omega)
  rwa [a, b] at this

set_option maxHeartbeats 1000000 in
theorem oto_any (p : Int) (w : World) (hT : Hid (TabOK w)) (p0 : 0 ≤ p) (p1 : p < 65536) : Calls Tryd.prog 6 #[.int .u16 p] w fun e w' => e = .returned (.bool true) ∧ Below w.heap.size w w' := by
  obtain ⟨day, hday⟩ : ∃ day, p % 14609 = day := ⟨_, rfl⟩
  have d0 : 0 ≤ day := by omega
  have d1 : day < 14609 := by omega
  obtain ⟨y, m, d, hD⟩ : ∃ y m d, IsDate day y m d := ⟨_, _, _, isDate_of day d0 (by omega)⟩
  have HS : Hid (Calls Tryd.prog 13 #[] w fun e w' => e = .returned (.bool true) ∧ Below w.heap.size w w') := sanity_any w hT
  have HA : Hid (Calls Tryd.prog 9 #[(.int .i64 day)] w fun e w' => e = .returned (.tuple #[(.int .i64 y), (.int .i64 m), (.int .i64 d), (.int .i64 0)]) ∧ w = w') := date_is w hT hD d0 (by omega)
  have HB : Hid (Calls Tryd.prog 11 #[(.int .i64 y), (.int .i64 m), (.int .i64 d)] w fun e w' => e = .returned (.tuple #[(.int .i64 day), (.int .i64 0)]) ∧ w = w') := day_is w hT hD
  have y1 := hD.y1
  have y2 := hD.y2
  have m1 := hD.m1
  have m2 := hD.m2
  have e1 := hD.d1
  have e2 : d ≤ 31 := by have := hD.d2; have := mlen_bd y m m1 m2; omega
  have by_ : (y == y) = true := by simp
  have bm : (m == m) = true := by simp
  have bd : (d == d) = true := by simp
  have by1 : (y + 1 == y + 1) = true := by simp
  have bm1 : (m + 1 == m + 1) = true := by simp
  have bd1 : (d + 1 == d + 1) = true := by simp
  have bday : (day != day) = false := by simp
  rcases oto_next hD d1 with ⟨hl, hn⟩ | ⟨hl, hm, hn⟩ | ⟨hl, hm, h31, hn⟩
  · have HC : Hid (Calls Tryd.prog 9 #[(.int .i64 (day + 1))] w fun e w' => e = .returned (.tuple #[(.int .i64 y), (.int .i64 m), (.int .i64 (d + 1)), (.int .i64 0)]) ∧ w = w') := date_is w hT hn (by omega) (by omega)
    have HE : Hid (Calls Tryd.prog 11 #[(.int .i64 y), (.int .i64 m), (.int .i64 (d + 1))] w fun e w' => e = .returned (.tuple #[(.int .i64 (day + 1)), (.int .i64 0)]) ∧ w = w') := day_is w hT hn
    clear hn hl hD
    go_enter Tryd.func6, Tryd.ntmps6
    go_wp2_with (first | (go_at_call 9; ((with_reducible refine HA.out.mono ?_); rintro e w' ⟨rfl, rfl⟩)) | (go_at_call 9; ((with_reducible refine HC.out.mono ?_); rintro e w' ⟨rfl, rfl⟩)) | (go_at_call 11; ((with_reducible refine HB.out.mono ?_); rintro e w' ⟨rfl, rfl⟩)) | (go_at_call 11; ((with_reducible refine HE.out.mono ?_); rintro e w' ⟨rfl, rfl⟩)) | (go_at_call 13; ((with_reducible refine HS.out.mono ?_); rintro e w' ⟨rfl, hb⟩)))
    go_ret
    exact ⟨rfl, hb⟩
  · have HC : Hid (Calls Tryd.prog 9 #[(.int .i64 (day + 1))] w fun e w' => e = .returned (.tuple #[(.int .i64 y), (.int .i64 (m + 1)), (.int .i64 1), (.int .i64 0)]) ∧ w = w') := date_is w hT hn (by omega) (by omega)
    have HE : Hid (Calls Tryd.prog 11 #[(.int .i64 y), (.int .i64 m), (.int .i64 (d + 1))] w fun e w' => e = .returned (.tuple #[(.int .i64 0), (.int .i64 3)]) ∧ w = w') := day_over y m (d + 1) w hT (by omega)
    have bm12 : decide (m < 12) = true := by simpa using hm
    clear hn hl hD
    go_enter Tryd.func6, Tryd.ntmps6
    go_wp2_with (first | (go_at_call 9; ((with_reducible refine HA.out.mono ?_); rintro e w' ⟨rfl, rfl⟩)) | (go_at_call 9; ((with_reducible refine HC.out.mono ?_); rintro e w' ⟨rfl, rfl⟩)) | (go_at_call 11; ((with_reducible refine HB.out.mono ?_); rintro e w' ⟨rfl, rfl⟩)) | (go_at_call 11; ((with_reducible refine HE.out.mono ?_); rintro e w' ⟨rfl, rfl⟩)) | (go_at_call 13; ((with_reducible refine HS.out.mono ?_); rintro e w' ⟨rfl, hb⟩)))
    go_ret
    exact ⟨rfl, hb⟩
  · subst hm
    have HC : Hid (Calls Tryd.prog 9 #[(.int .i64 (day + 1))] w fun e w' => e = .returned (.tuple #[(.int .i64 (y + 1)), (.int .i64 1), (.int .i64 1), (.int .i64 0)]) ∧ w = w') := date_is w hT hn (by omega) (by omega)
    subst h31
    have HE : Hid (Calls Tryd.prog 11 #[(.int .i64 y), (.int .i64 12), (.int .i64 32)] w fun e w' => e = .returned (.tuple #[(.int .i64 0), (.int .i64 3)]) ∧ w = w') := day_over y 12 32 w hT (by omega)
    clear hn hl hD bd bd1 bm bm1
    go_enter Tryd.func6, Tryd.ntmps6
    go_wp2_with (first | (go_at_call 9; ((with_reducible refine HA.out.mono ?_); rintro e w' ⟨rfl, rfl⟩)) | (go_at_call 9; ((with_reducible refine HC.out.mono ?_); rintro e w' ⟨rfl, rfl⟩)) | (go_at_call 11; ((with_reducible refine HB.out.mono ?_); rintro e w' ⟨rfl, rfl⟩)) | (go_at_call 11; ((with_reducible refine HE.out.mono ?_); rintro e w' ⟨rfl, rfl⟩)) | (go_at_call 13; ((with_reducible refine HS.out.mono ?_); rintro e w' ⟨rfl, hb⟩)))
    go_ret
    exact ⟨rfl, hb⟩
end Go.Proofs.YtfcfdphkaildiaaDoor
