/- Plain laws of the calendar: where blocks begin and end. Conditions: none beyond each lemma's own. -/
import Derived.Test.YtfcfdphkaildiaaDoorCalPlain
namespace Go.Proofs.YtfcfdphkaildiaaDoor

/-- where the calendar block of a level around a tick begins and ends -/
def lo (l t : Int) : Int := if l = 0 then t else if l = 1 then t - t % 4 else if l = 2 then t - t % 96 else if l = 3 then (ys (dY (t / 96)) + ms (dY (t / 96)) (dM (t / 96))) * 96 else ys (dY (t / 96)) * 96
def hi (l t : Int) : Int := if l = 0 then t + 1 else if l = 1 then t - t % 4 + 4 else if l = 2 then t - t % 96 + 96 else if l = 3 then (ys (dY (t / 96)) + ms (dY (t / 96)) (dM (t / 96) + 1)) * 96 else ys (dY (t / 96) + 1) * 96

theorem lohi_34 {day t : Int} (h : day = t / 96) : lo 3 t = (ys (dY day) + ms (dY day) (dM day)) * 96 ∧ hi 3 t = (ys (dY day) + ms (dY day) (dM day + 1)) * 96 ∧ lo 4 t = ys (dY day) * 96 ∧ hi 4 t = ys (dY day + 1) * 96 := by
  subst h; simp [lo, hi]


theorem in_year {D y : Int} (y1 : 2000 ≤ y) (y2 : y ≤ 2039) (h1 : ys y ≤ D) (h2 : D < ys (y + 1)) : dY D = y := by
  have b := ys_bd y y1 (by omega)
  have c := ys_mono (a := y + 1) (b := 2040) (by omega)
  rw [ys_end] at c
  have d := (isDate_of D (by omega) (by omega))
  have a := d.lt
  rcases Int.lt_trichotomy (dY D) y with l | l | l
  · have := ys_mono (a := dY D + 1) (b := y) (by omega); omega
  · exact l
  · have := ys_mono (a := y + 1) (b := dY D) (by omega); omega

theorem in_month {D y m : Int} (y1 : 2000 ≤ y) (y2 : y ≤ 2039) (m1 : 1 ≤ m) (m2 : m ≤ 12) (h1 : ys y + ms y m ≤ D) (h2 : D < ys y + ms y (m + 1)) : dY D = y ∧ dM D = m ∧ dD D = D - ys y - ms y m + 1 := by
  have e := ms_succ y m m1 m2
  exact IsDate.fns ⟨y1, y2, m1, m2, by omega, by omega, by omega⟩

/-- does a block of a level begin at a tick? -/
def startB (l t : Int) : Bool := (l == 0 || t == 1402560) || if l = 1 then t % 4 == 0 else (t % 96 == 0 && (l == 2 || (l == 3 && dD (t / 96) == 1) || (l == 4 && dD (t / 96) == 1 && dM (t / 96) == 1)))

/-- all that is known of the block of a level around a tick -/
structure LH (l t a b : Int) : Prop where
  lo : a ≤ t
  hi : t < b
  a0 : 0 ≤ a
  b1 : b ≤ 1402560
  sa : startB l a = true
  sb : startB l b = true
  sm : ∀ x, a < x → x < b → startB l x = false

theorem lh (l t : Int) (l0 : 0 ≤ l) (l1 : l ≤ 4) (t0 : 0 ≤ t) (t1 : t < 1402560) : LH l t (lo l t) (hi l t) := by
  obtain ⟨day, hday⟩ : ∃ day, day = t / 96 := ⟨_, rfl⟩
  obtain ⟨p1, p2, p3, p4⟩ := lohi_34 hday
  have d0 : 0 ≤ day := by omega
  have d1 : day ≤ 14609 := by omega
  have hd := isDate_of day d0 d1
  have hl := hd.lt
  obtain ⟨y1, y2, m1, m2, e1, e2, -⟩ := hd
  have yb := ys_bd (dY day) y1 (by omega)
  have yb' := ys_mono (a := dY day + 1) (b := 2040) (by omega)
  rw [ys_end] at yb'
  have mb := ms_bd (dY day) (dM day) m1 (by omega)
  have ml := mlen_bd (dY day) (dM day) m1 m2
  have HM := ms_succ (dY day) (dM day) m1 m2
  have HY := ys_succ (dY day) y1 (by omega)
  have hle := ms_mono (dY day) (dM day + 1) 13 (by omega) (by omega) (by omega)
  rw [ms_13] at hle
  have : l = 0 ∨ l = 1 ∨ l = 2 ∨ l = 3 ∨ l = 4 := by omega
  rcases this with rfl | rfl | rfl | rfl | rfl
  · exact ⟨by simp [lo], by simp [hi] <;> omega, by simp [lo] <;> omega, by simp [hi] <;> omega, by simp [startB], by simp [startB], fun x h1 h2 => by simp [lo, hi] at h1 h2; omega⟩
  · exact ⟨by simp [lo] <;> omega, by simp [hi] <;> omega, by simp [lo] <;> omega, by simp [hi] <;> omega, by simp [startB, lo] <;> omega, by simp [startB, hi] <;> omega, fun x h1 h2 => by simp [lo, hi] at h1 h2; simp [startB] <;> omega⟩
  · exact ⟨by simp [lo] <;> omega, by simp [hi] <;> omega, by simp [lo] <;> omega, by simp [hi] <;> omega, by simp [startB, lo] <;> omega, by simp [startB, hi] <;> omega, fun x h1 h2 => by simp [lo, hi] at h1 h2; simp [startB] <;> omega⟩
  · rw [p1, p2]
    generalize hy : dY day = y at *
    generalize hm : dM day = m at *
    refine ⟨by omega, by omega, by omega, by omega, ?_, ?_, ?_⟩
    · obtain ⟨-, -, c⟩ := in_month (D := ys y + ms y m) y1 y2 m1 m2 (by omega) (by omega)
      have e : (ys y + ms y m) * 96 / 96 = ys y + ms y m := by omega
      simp [startB, e, c] <;> omega
    · by_cases hx : m = 12
      · have h13 : ms y (m + 1) = ylen y := by rw [hx]; exact ms_13 y
        rw [h13, ← HY]
        by_cases hz : y = 2039
        · rw [hz, show (2039 : Int) + 1 = 2040 from rfl, ys_end]; simp [startB]
        · have a1 := ylen_bd (y + 1)
          have a2 := ys_succ (y + 1) (by omega) (by omega)
          have a3 := ms_1 (y + 1)
          have a4 := ms_succ (y + 1) 1 (by omega) (by omega)
          have a5 := mlen_bd (y + 1) 1 (by omega) (by omega)
          obtain ⟨-, -, c⟩ := in_month (D := ys (y + 1)) (y := y + 1) (m := 1) (by omega) (by omega) (by omega) (by omega) (by omega) (by omega)
          have e : (ys (y + 1)) * 96 / 96 = ys (y + 1) := by omega
          simp [startB, e, c] <;> omega
      · have a4 := ms_succ y (m + 1) (by omega) (by omega)
        have a5 := mlen_bd y (m + 1) (by omega) (by omega)
        obtain ⟨-, -, c⟩ := in_month (D := ys y + ms y (m + 1)) (y := y) (m := m + 1) y1 y2 (by omega) (by omega) (by omega) (by omega)
        have e : (ys y + ms y (m + 1)) * 96 / 96 = ys y + ms y (m + 1) := by omega
        simp [startB, e, c] <;> omega
    · intro x h1 h2
      by_cases hx : x % 96 = 0
      · obtain ⟨-, -, c⟩ := in_month (D := x / 96) y1 y2 m1 m2 (by omega) (by omega)
        simp [startB, c] <;> omega
      · simp [startB, hx] <;> omega
  · rw [p3, p4]
    generalize hy : dY day = y at *
    have hm1 := ms_1 y
    refine ⟨by omega, by omega, by omega, by omega, ?_, ?_, ?_⟩
    · have a4 := ms_succ y 1 (by omega) (by omega)
      have a5 := mlen_bd y 1 (by omega) (by omega)
      obtain ⟨-, c', c⟩ := in_month (D := ys y) (y := y) (m := 1) y1 y2 (by omega) (by omega) (by omega) (by omega)
      have e : (ys y) * 96 / 96 = ys y := by omega
      simp [startB, e, c, c'] <;> omega
    · by_cases hz : y = 2039
      · rw [hz, show (2039 : Int) + 1 = 2040 from rfl, ys_end]; simp [startB]
      · have a3 := ms_1 (y + 1)
        have a4 := ms_succ (y + 1) 1 (by omega) (by omega)
        have a5 := mlen_bd (y + 1) 1 (by omega) (by omega)
        obtain ⟨-, c', c⟩ := in_month (D := ys (y + 1)) (y := y + 1) (m := 1) (by omega) (by omega) (by omega) (by omega) (by omega) (by omega)
        have e : (ys (y + 1)) * 96 / 96 = ys (y + 1) := by omega
        simp [startB, e, c, c'] <;> omega
    · intro x h1 h2
      by_cases hx : x % 96 = 0
      · have c := in_year (D := x / 96) y1 y2 (by omega) (by omega)
        have d := isDate_of (x / 96) (by omega) (by omega)
        obtain ⟨q1, q2, q3, q4, q5, q6, q7⟩ := d
        rw [c] at q7 q6
        have hne : ¬ (dD (x / 96) = 1 ∧ dM (x / 96) = 1) := by
          rintro ⟨r1, r2⟩
          rw [r1, r2, hm1] at q7
          omega
        simp only [startB]
        simp
        omega
      · simp [startB, hx] <;> omega

theorem align (l t : Int) (l0 : 0 ≤ l) (l1 : l ≤ 4) : (l = 0 → lo l t = t ∧ hi l t = t + 1) ∧ (l = 1 → lo l t = t - t % 4 ∧ hi l t = lo l t + 4) ∧ (2 ≤ l → lo l t % 96 = 0 ∧ hi l t % 96 = 0) := by
  obtain ⟨p1, p2, p3, p4⟩ := lohi_34 (rfl : t / 96 = t / 96)
  have : l = 0 ∨ l = 1 ∨ l = 2 ∨ l = 3 ∨ l = 4 := by omega
  rcases this with rfl | rfl | rfl | rfl | rfl
  · exact ⟨fun _ => by simp [lo, hi], fun h => by omega, fun h => by omega⟩
  · exact ⟨fun h => by omega, fun _ => by simp [lo, hi], fun h => by omega⟩
  · exact ⟨fun h => by omega, fun h => by omega, fun _ => by simp [lo, hi] <;> omega⟩
  · exact ⟨fun h => by omega, fun h => by omega, fun _ => by rw [p1, p2]; omega⟩
  · exact ⟨fun h => by omega, fun h => by omega, fun _ => by rw [p3, p4]; omega⟩
end Go.Proofs.YtfcfdphkaildiaaDoor
