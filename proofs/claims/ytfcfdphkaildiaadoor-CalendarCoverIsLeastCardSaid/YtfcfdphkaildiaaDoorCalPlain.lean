/- Plain laws of the calendar: years, months, dates. Conditions: none beyond each lemma's own. -/
import Derived.Lib.Hide
namespace Go.Proofs.YtfcfdphkaildiaaDoor

def leapB (y : Int) : Bool := (y.tmod 4 == 0 && y.tmod 100 != 0) || y.tmod 400 == 0
def ylen (y : Int) : Int := if leapB y then 366 else 365
def tab (i : Nat) : Int := ([31, 28, 31, 30, 31, 30, 31, 31, 30, 31, 30, 31] : List Int).getD i 0
def mlen (y m : Int) : Int := if m = 2 ∧ leapB y = true then 29 else tab (m - 1).toNat
/-- days before year y (from 2000 on) -/
def ys (y : Int) : Int := 365 * (y - 2000) + (y - 1997) / 4
def cumTab (i : Nat) : Int := ([0, 31, 59, 90, 120, 151, 181, 212, 243, 273, 304, 334, 365] : List Int).getD i 0
/-- days before month m of year y -/
def ms (y m : Int) : Int := cumTab (m - 1).toNat + if 3 ≤ m ∧ leapB y = true then 1 else 0

theorem leapB_iff (y : Int) (h1 : 2000 ≤ y) (h2 : y ≤ 2040) : leapB y = true ↔ y % 4 = 0 := by
  unfold leapB
  rw [Int.tmod_eq_emod_of_nonneg (by omega), Int.tmod_eq_emod_of_nonneg (by omega), Int.tmod_eq_emod_of_nonneg (by omega)]
  simp only [Bool.or_eq_true, Bool.and_eq_true, beq_iff_eq, bne_iff_ne, ne_eq]
  omega

theorem leapB_false_iff (y : Int) (h1 : 2000 ≤ y) (h2 : y ≤ 2040) : leapB y = false ↔ y % 4 ≠ 0 := by
  have := leapB_iff y h1 h2
  cases h : leapB y <;> simp_all

theorem ylen_bd (y : Int) : 365 ≤ ylen y ∧ ylen y ≤ 366 := by unfold ylen; split <;> omega

theorem ys_succ (y : Int) (h1 : 2000 ≤ y) (h2 : y ≤ 2040) : ys (y + 1) = ys y + ylen y := by
  unfold ys ylen
  cases h : leapB y
  · have := (leapB_false_iff y h1 h2).1 h
    simp; omega
  · have := (leapB_iff y h1 h2).1 h
    simp; omega

theorem ys_mono {a b : Int} (h1 : a ≤ b) : ys a ≤ ys b := by unfold ys; omega
theorem ys_0 : ys 2000 = 0 := by decide
theorem ys_end : ys 2040 = 14610 := by decide
theorem ys_bd (y : Int) (h1 : 2000 ≤ y) (h2 : y ≤ 2040) : 0 ≤ ys y ∧ ys y ≤ 14610 := by unfold ys; omega

theorem m_cases {m : Int} (h1 : 1 ≤ m) (h2 : m ≤ 12) : m = 1 ∨ m = 2 ∨ m = 3 ∨ m = 4 ∨ m = 5 ∨ m = 6 ∨ m = 7 ∨ m = 8 ∨ m = 9 ∨ m = 10 ∨ m = 11 ∨ m = 12 := by omega

theorem mlen_bd (y m : Int) (h1 : 1 ≤ m) (h2 : m ≤ 12) : 28 ≤ mlen y m ∧ mlen y m ≤ 31 := by
  rcases m_cases h1 h2 with rfl | rfl | rfl | rfl | rfl | rfl | rfl | rfl | rfl | rfl | rfl | rfl <;> cases h : leapB y <;> simp [mlen, h, tab]

theorem ms_succ (y m : Int) (h1 : 1 ≤ m) (h2 : m ≤ 12) : ms y (m + 1) = ms y m + mlen y m := by
  rcases m_cases h1 h2 with rfl | rfl | rfl | rfl | rfl | rfl | rfl | rfl | rfl | rfl | rfl | rfl <;> cases h : leapB y <;> simp [ms, mlen, h, tab, cumTab]

theorem ms_1 (y : Int) : ms y 1 = 0 := by simp [ms, cumTab]
theorem ms_13 (y : Int) : ms y 13 = ylen y := by cases h : leapB y <;> simp [ms, ylen, h, cumTab]
theorem ms_bd (y m : Int) (h1 : 1 ≤ m) (h2 : m ≤ 13) : 0 ≤ ms y m ∧ ms y m ≤ 366 := by
  have : m = 13 ∨ m ≤ 12 := by omega
  rcases this with rfl | h2
  · have := ylen_bd y; rw [ms_13]; omega
  rcases m_cases h1 h2 with rfl | rfl | rfl | rfl | rfl | rfl | rfl | rfl | rfl | rfl | rfl | rfl <;> cases h : leapB y <;> simp [ms, h, cumTab]
theorem ms_mono (y a b : Int) (h1 : 1 ≤ a) (h : a ≤ b) (h2 : b ≤ 13) : ms y a ≤ ms y b := by
  have : ∀ n : Nat, a + n ≤ 13 → ms y a ≤ ms y (a + n) := by
    intro n
    induction n with
    | zero => intro _; simp
    | succ n ih =>
      intro hn
      have := ih (by omega)
      have e := ms_succ y (a + n) (by omega) (by omega)
      have b := mlen_bd y (a + n) (by omega) (by omega)
      rw [show a + ((n + 1 : Nat) : Int) = a + n + 1 from by omega, e]; omega
  have := this (b - a).toNat (by omega)
  rwa [show a + ((b - a).toNat : Int) = b from by omega] at this

/-- 'day is the date y m d' -/
structure IsDate (day y m d : Int) : Prop where
  y1 : 2000 ≤ y
  y2 : y ≤ 2039
  m1 : 1 ≤ m
  m2 : m ≤ 12
  d1 : 1 ≤ d
  d2 : d ≤ mlen y m
  eq : day = ys y + ms y m + d - 1

theorem IsDate.lt {day y m d : Int} (h : IsDate day y m d) : ys y ≤ day ∧ day < ys (y + 1) ∧ ys y + ms y m ≤ day ∧ day < ys y + ms y (m + 1) := by
  obtain ⟨y1, y2, m1, m2, d1, d2, eq⟩ := h
  have a := ys_succ y y1 (by omega)
  have b := ms_succ y m m1 m2
  have c := ms_mono y (m + 1) 13 (by omega) (by omega) (by omega)
  have c' := ms_bd y m m1 (by omega)
  rw [ms_13] at c
  omega

theorem IsDate.unique {day y m d y' m' d' : Int} (h : IsDate day y m d) (h' : IsDate day y' m' d') : y = y' ∧ m = m' ∧ d = d' := by
  have a := h.lt
  have a' := h'.lt
  have hy : y = y' := by
    rcases Int.lt_trichotomy y y' with l | l | l
    · have := ys_mono (a := y + 1) (b := y') (by omega); omega
    · exact l
    · have := ys_mono (a := y' + 1) (b := y) (by omega); omega
  subst hy
  have hm : m = m' := by
    rcases Int.lt_trichotomy m m' with l | l | l
    · have := ms_mono y (m + 1) m' (by have := h.m1; omega) (by omega) (by have := h'.m2; omega); omega
    · exact l
    · have := ms_mono y (m' + 1) m (by have := h'.m1; omega) (by omega) (by have := h.m2; omega); omega
  subst hm
  have := h.eq; have := h'.eq
  exact ⟨rfl, rfl, by omega⟩

def fy : Nat → Int → Int → Int
  | 0, _, y => y
  | n + 1, day, y => if day < ys (y + 1) then y else fy n day (y + 1)
def fm : Nat → Int → Int → Int → Int
  | 0, _, _, m => m
  | n + 1, r, y, m => if r < ms y (m + 1) then m else fm n r y (m + 1)
def dY (day : Int) : Int := fy 39 day 2000
def dM (day : Int) : Int := fm 11 (day - ys (dY day)) (dY day) 1
def dD (day : Int) : Int := day - ys (dY day) - ms (dY day) (dM day) + 1

theorem fy_spec (day : Int) : ∀ (n : Nat) (y : Int), 2000 ≤ y → y + n = 2039 → ys y ≤ day → day < 14610 → ys (fy n day y) ≤ day ∧ day < ys (fy n day y + 1) ∧ 2000 ≤ fy n day y ∧ fy n day y ≤ 2039
  | 0, y, h1, h2, h3, h4 => by
    obtain rfl : y = 2039 := by omega
    have := ys_end
    simp only [fy]
    exact ⟨h3, by rw [show (2039 : Int) + 1 = 2040 from rfl, ys_end]; omega, by omega, by omega⟩
  | n + 1, y, h1, h2, h3, h4 => by
    unfold fy
    split
    · exact ⟨h3, by assumption, h1, by omega⟩
    · exact fy_spec day n (y + 1) (by omega) (by omega) (by omega) h4

theorem fm_spec (r y : Int) : ∀ (n : Nat) (m : Int), 1 ≤ m → m + n = 12 → ms y m ≤ r → r < ylen y → ms y (fm n r y m) ≤ r ∧ r < ms y (fm n r y m + 1) ∧ 1 ≤ fm n r y m ∧ fm n r y m ≤ 12
  | 0, m, h1, h2, h3, h4 => by
    obtain rfl : m = 12 := by omega
    simp only [fm]
    exact ⟨h3, by rw [show (12 : Int) + 1 = 13 from rfl, ms_13]; omega, by omega, by omega⟩
  | n + 1, m, h1, h2, h3, h4 => by
    unfold fm
    split
    · exact ⟨h3, by assumption, h1, by omega⟩
    · exact fm_spec r y n (m + 1) (by omega) (by omega) (by omega) h4

theorem isDate_of (day : Int) (h0 : 0 ≤ day) (h1 : day ≤ 14609) : IsDate day (dY day) (dM day) (dD day) := by
  have a := fy_spec day 39 2000 (by omega) (by omega) (by rw [ys_0]; omega) (by omega)
  have s := ys_succ (dY day) a.2.2.1 (by have := a.2.2.2; unfold dY; omega)
  have b := fm_spec (day - ys (dY day)) (dY day) 11 1 (by omega) (by omega) (by rw [ms_1]; unfold dY; omega) (by unfold dY at *; omega)
  have e := ms_succ (dY day) (dM day) b.2.2.1 b.2.2.2
  exact ⟨a.2.2.1, a.2.2.2, b.2.2.1, b.2.2.2, by unfold dD; have := b.1; unfold dM at *; omega, by unfold dD; have := b.2.1; unfold dM at *; omega, by unfold dD; omega⟩

theorem IsDate.fns {day y m d : Int} (h : IsDate day y m d) : dY day = y ∧ dM day = m ∧ dD day = d := by
  have a := h.lt
  have b := ys_bd y h.y1 (by have := h.y2; omega)
  have c := ys_mono (a := y + 1) (b := 2040) (by have := h.y2; omega)
  rw [ys_end] at c
  exact (isDate_of day (by omega) (by omega)).unique h
end Go.Proofs.YtfcfdphkaildiaaDoor
