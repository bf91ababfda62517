/- Walks of the calendar's reference: Leap, Days, Length, Date, Day. Conditions: none. -/
import Derived.Test.YtfcfdphkaildiaaDoorCalWalkB
namespace Go.Proofs.YtfcfdphkaildiaaDoor
open Go Go.Proofs Go.RowKit

theorem rleap_any (y : Int) (w : World) : Calls Tryd.prog 15 #[.int .i64 y] w fun e w' => e = .returned (.bool (leapB y)) ∧ w = w' := by
  go_enter Tryd.func15, Tryd.ntmps15
  go_wp2
  all_goals go_ret
  all_goals exact ⟨by simp [leapB, *], rfl⟩

theorem rdays_any (y : Int) (w : World) : Calls Tryd.prog 33 #[.int .i64 y] w fun e w' => e = .returned (.int .i64 (ylen y)) ∧ w = w' := by
  cases h : leapB y
  all_goals
    go_enter Tryd.func33, Tryd.ntmps33
    go_wp2_with (go_at_call 15; refine (rleap_any _ _).mono ?_; rintro e w' ⟨rfl, rfl⟩)
    go_ret
    exact ⟨by simp [ylen, h], rfl⟩

theorem rlength_any (y m : Int) (w : World) (h1 : 1 ≤ m) (h2 : m ≤ 12) : Calls Tryd.prog 34 #[.int .i64 y, .int .i64 m] w fun e w' => e = .returned (.int .i64 (mlen y m)) ∧ w = w' := by
  rcases m_cases h1 h2 with rfl | rfl | rfl | rfl | rfl | rfl | rfl | rfl | rfl | rfl | rfl | rfl
  all_goals
    cases h : leapB y
    all_goals
      go_enter Tryd.func34, Tryd.ntmps34
      go_wp2_with (go_at_call 15; refine (rleap_any _ _).mono ?_; rintro e w' ⟨rfl, rfl⟩)
      go_ret
      exact ⟨by simp [mlen, h, tab], rfl⟩

def rdateV (day : Int) : Value := if 0 ≤ day ∧ day ≤ 14609 then .agg #[.int .i64 (dY day), .int .i64 (dM day), .int .i64 (dD day), .int .i64 0] else .agg #[.int .i64 0, .int .i64 0, .int .i64 0, .int .i64 3]
theorem rdateV_in {day y m r : Int} (h0 : 0 ≤ day) (h1 : day ≤ 14609) (y1 : 2000 ≤ y) (y2 : y ≤ 2039) (m1 : 1 ≤ m) (m2 : m ≤ 12) (hr : 0 ≤ r) (hr2 : r < mlen y m) (he : r = day - ys y - ms y m) :
    rdateV day = .agg #[.int .i64 y, .int .i64 m, .int .i64 (r + 1), .int .i64 0] := by
  obtain ⟨a, b, c⟩ := IsDate.fns (day := day) (y := y) (m := m) (d := r + 1) ⟨y1, y2, m1, m2, by omega, by omega, by omega⟩
  unfold rdateV
  rw [if_pos ⟨h0, h1⟩, a, b, c]

set_option maxHeartbeats 1000000 in
theorem rdate_any (day : Int) (w : World) : Calls Tryd.prog 10 #[.int .i64 day] w fun e w' => e = .returned (rdateV day) ∧ Below w.heap.size w w' := by
  by_cases h0 : 0 ≤ day
  · by_cases h1 : day ≤ 14609
    · have b1 : decide (day < 0) = false := by simp; omega
      have b2 : decide (14609 < day) = false := by simp; omega
      have H0 : Hid (ys 2000 = 0) := ys_0
      go_enter Tryd.func10, Tryd.ntmps10
      go_wp2
      go_loopw [0] (fun t wr => ∃ y : Int, 2000 ≤ y ∧ y ≤ 2039 ∧ ys y ≤ day ∧ t = (.int .i64 (day - ys y)) ∧ wr = (w.alloc (.cells #[(.int .i64 0), (.int .i64 0), (.int .i64 0), (.int .i64 0)] 27)).alloc (.cells #[(.int .i64 y), (.int .i64 1), (.int .i64 0), (.int .i64 0)] 27)) (fun t _ => (intOf t).toNat)
      case atStart => exact ⟨2000, by omega, by omega, by rw [H0.out]; omega, by rw [H0.out]; simp, rfl⟩
      case round =>
        obtain ⟨y, hy1, hy2, hle, rfl, rfl⟩ := hrel
        have bd := ys_bd y hy1 (by omega)
        have yl := ylen_bd y
        have HS : Hid (ys (y + 1) = ys y + ylen y) := ys_succ y hy1 (by omega)
        by_cases hc : ylen y ≤ day - ys y
        · have hlt : y < 2039 := by
            rcases Int.lt_or_le y 2039 with h | h
            · exact h
            · exfalso
              have e : y = 2039 := by omega
              have := ys_end
              have a1 : ys 2040 = ys y + ylen y := by rw [← HS.out, e]; rfl
              omega
          go_wp2_with (go_at_call 33; refine (rdays_any _ _).mono ?_; rintro e w' ⟨rfl, rfl⟩)
          go_roundw
          case rel => exact ⟨y + 1, by omega, by omega, by rw [HS.out]; omega, by rw [HS.out]; go_num, rfl⟩
          case measure => simp [intOf]; omega
        · have hcc : day - ys y < ylen y := by omega
          clear hc
          have h13 : Hid (ms y 13 = ylen y) := ms_13 y
          have hm1 : Hid (ms y 1 = 0) := ms_1 y
          go_wp2_with (go_at_call 33; refine (rdays_any _ _).mono ?_; rintro e w' ⟨rfl, rfl⟩)
          go_loopw [0] (fun t wr => ∃ m : Int, 1 ≤ m ∧ m ≤ 12 ∧ ms y m ≤ day - ys y ∧ t = (.int .i64 (day - ys y - ms y m)) ∧ wr = (w.alloc (.cells #[(.int .i64 0), (.int .i64 0), (.int .i64 0), (.int .i64 0)] 27)).alloc (.cells #[(.int .i64 y), (.int .i64 m), (.int .i64 0), (.int .i64 0)] 27)) (fun t _ => (intOf t).toNat)
          case atStart => exact ⟨1, by omega, by omega, by rw [hm1.out]; omega, by rw [hm1.out]; simp, rfl⟩
          case round =>
            obtain ⟨m, hm1', hm2, hmle, rfl, rfl⟩ := hrel
            have bm := ms_bd y m hm1' (by omega)
            have ml := mlen_bd y m hm1' hm2
            have HM : Hid (ms y (m + 1) = ms y m + mlen y m) := ms_succ y m hm1' hm2
            by_cases hc : mlen y m ≤ day - ys y - ms y m
            · have hlt : m < 12 := by
                rcases Int.lt_or_le m 12 with h | h
                · exact h
                · exfalso
                  have e : m = 12 := by omega
                  have a1 : ms y 13 = ms y m + mlen y m := by rw [← HM.out, e]; rfl
                  have := h13.out
                  omega
              go_wp2_with (go_at_call 34; refine (rlength_any _ _ _ hm1' hm2).mono ?_; rintro e w' ⟨rfl, rfl⟩)
              go_roundw
              case rel => exact ⟨m + 1, by omega, by omega, by rw [HM.out]; omega, by rw [HM.out]; go_num, rfl⟩
              case measure => simp [intOf]; omega
            · have hcm : day - ys y - ms y m < mlen y m := by omega
              clear hc
              have fin : Hid (rdateV day = .agg #[(.int .i64 y), (.int .i64 m), (.int .i64 (day - ys y - ms y m + 1)), (.int .i64 0)]) := rdateV_in h0 h1 hy1 hy2 hm1' hm2 (by omega) hcm rfl
              go_wp2_with (go_at_call 34; refine (rlength_any _ _ _ hm1' hm2).mono ?_; rintro e w' ⟨rfl, rfl⟩)
              exact bodyPost_ret (v := .agg #[(.int .i64 y), (.int .i64 m), (.int .i64 (day - ys y - ms y m + 1)), (.int .i64 0)]) (by simp [results, Tryd.results10, go_sem]) rfl ⟨by rw [fin.out], ((Below.refl _ _).alloc (Nat.le_refl _) _).alloc (by simp) _⟩
    · have h2 : 14609 < day := by omega
      have b1 : decide (day < 0) = false := by simp; omega
      have b2 : decide (14609 < day) = true := by simpa using h2
      have fin : Hid (rdateV day = .agg #[(.int .i64 0), (.int .i64 0), (.int .i64 0), (.int .i64 3)]) := by show rdateV day = _; unfold rdateV; rw [if_neg (by omega)]
      clear h1
      go_enter Tryd.func10, Tryd.ntmps10
      go_wp2_with fail
      exact bodyPost_ret (v := .agg #[(.int .i64 0), (.int .i64 0), (.int .i64 0), (.int .i64 3)]) (by simp [results, Tryd.results10, go_sem]) rfl ⟨by rw [fin.out], (Below.refl _ _).alloc (Nat.le_refl _) _⟩
  · have h2 : day < 0 := by omega
    have b1 : decide (day < 0) = true := by simpa using h2
    have fin : Hid (rdateV day = .agg #[(.int .i64 0), (.int .i64 0), (.int .i64 0), (.int .i64 3)]) := by show rdateV day = _; unfold rdateV; rw [if_neg (by omega)]
    clear h0
    go_enter Tryd.func10, Tryd.ntmps10
    go_wp2_with fail
    exact bodyPost_ret (v := .agg #[(.int .i64 0), (.int .i64 0), (.int .i64 0), (.int .i64 3)]) (by simp [results, Tryd.results10, go_sem]) rfl ⟨by rw [fin.out], (Below.refl _ _).alloc (Nat.le_refl _) _⟩

set_option maxHeartbeats 1000000 in
theorem rday_any (y m d : Int) (w : World) : Calls Tryd.prog 12 #[(.int .i64 y), (.int .i64 m), (.int .i64 d)] w fun e w' => e = .returned (.agg #[(.int .i64 (dayN y m d)), (.int .i64 (dayE y m d))]) ∧ Below w.heap.size w w' := by
  by_cases hok : 2000 ≤ y ∧ y ≤ 2039 ∧ 1 ≤ m ∧ m ≤ 12 ∧ 1 ≤ d ∧ d ≤ mlen y m
  · obtain ⟨hn, he⟩ := day_yes hok
    have HN : Hid (dayN y m d = ys y + ms y m + d - 1) := hn
    have HE : Hid (dayE y m d = 0) := he
    clear hn he
    obtain ⟨y1, y2, m1, m2, d1, d2⟩ := hok
    have ml := mlen_bd y m m1 m2
    have H0 : Hid (ys 2000 = 0) := ys_0
    have hm1 : Hid (ms y 1 = 0) := ms_1 y
    have b1 : decide (y < 2000) = false := by simp; omega
    have b2 : decide (2039 < y) = false := by simp; omega
    have b3 : decide (m < 1) = false := by simp; omega
    have b4 : decide (12 < m) = false := by simp; omega
    have b5 : decide (d < 1) = false := by simp; omega
    have b6 : decide (mlen y m < d) = false := by simp; omega
    go_enter Tryd.func12, Tryd.ntmps12
    go_wp2_with (go_at_call 34; refine (rlength_any _ _ _ m1 m2).mono ?_; rintro e w' ⟨rfl, rfl⟩)
    go_loop [7, 8] (fun t i => ∃ z : Int, 2000 ≤ z ∧ z ≤ y ∧ i = (.int .i64 z) ∧ t = (.int .i64 (ys z + (d - 1)))) (fun _ i => (2040 - intOf i).toNat)
    case atStart => exact ⟨2000, by omega, by omega, rfl, by rw [H0.out]; simp⟩
    case round =>
      obtain ⟨z, z1, z2, rfl, rfl⟩ := hrel
      have zb := ys_bd z z1 (by omega)
      have yl := ylen_bd z
      have HS : Hid (ys (z + 1) = ys z + ylen z) := ys_succ z z1 (by omega)
      by_cases hz : z < y
      · go_wp2_with (go_at_call 33; refine (rdays_any _ _).mono ?_; rintro e w' ⟨rfl, rfl⟩)
        go_round
        case rel => exact ⟨z + 1, by omega, by omega, rfl, by rw [HS.out]; go_num⟩
        case measure => simp [intOf]; omega
      · obtain rfl : z = y := by omega
        go_wp2
        go_loop [7, 9] (fun t i => ∃ k : Int, 1 ≤ k ∧ k ≤ m ∧ i = (.int .i64 k) ∧ t = (.int .i64 (ys z + (d - 1) + ms z k))) (fun _ i => (13 - intOf i).toNat)
        case atStart => exact ⟨1, by omega, by omega, rfl, by rw [hm1.out]; simp⟩
        case round =>
          obtain ⟨k, k1, k2, rfl, rfl⟩ := hrel
          have kb := ms_bd z k k1 (by omega)
          have kl := mlen_bd z k k1 (by omega)
          have HM : Hid (ms z (k + 1) = ms z k + mlen z k) := ms_succ z k k1 (by omega)
          by_cases hk : k < m
          · go_wp2_with (go_at_call 34; refine (rlength_any _ _ _ k1 (by omega)).mono ?_; rintro e w' ⟨rfl, rfl⟩)
            go_round
            case rel => exact ⟨k + 1, by omega, by omega, rfl, by rw [HM.out]; go_num⟩
            case measure => simp [intOf]; omega
          · obtain rfl : k = m := by omega
            go_wp2
            exact bodyPost_ret (v := .agg #[(.int .i64 (ys z + (d - 1) + ms z k)), (.int .i64 0)]) (by simp [results, Tryd.results12, go_sem]) rfl ⟨by rw [HN.out, HE.out, show ys z + ms z k + d - 1 = ys z + (d - 1) + ms z k from by omega], (Below.refl _ _).alloc (Nat.le_refl _) _⟩
  · obtain ⟨hn, he⟩ := day_no hok
    have HN : Hid (dayN y m d = 0) := hn
    have HE : Hid (dayE y m d = 3) := he
    clear hn he
    have c1 : y < 2000 → decide (y < 2000) = true := fun h => by simpa using h
    have c1' : 2000 ≤ y → decide (y < 2000) = false := fun h => by simp; omega
    have c2 : 2039 < y → decide (2039 < y) = true := fun h => by simp; omega
    have c2' : y ≤ 2039 → decide (2039 < y) = false := fun h => by simp; omega
    have c3 : m < 1 → decide (m < 1) = true := fun h => by simpa using h
    have c3' : 1 ≤ m → decide (m < 1) = false := fun h => by simp; omega
    have c4 : 12 < m → decide (12 < m) = true := fun h => by simpa using h
    have c4' : m ≤ 12 → decide (12 < m) = false := fun h => by simp; omega
    have c5 : d < 1 → decide (d < 1) = true := fun h => by simpa using h
    have c5' : 1 ≤ d → decide (d < 1) = false := fun h => by simp; omega
    have c6 : mlen y m < d → decide (mlen y m < d) = true := fun h => by simpa using h
    rcases bad_cases hok with h | ⟨h, h2⟩ | ⟨h, h2, h3⟩ | ⟨h, h2, h3⟩ | ⟨h, h2, h3, h4, h5⟩ | ⟨h, h2, h3, h4, h5, h6⟩
    · have := c1 h
      clear hok c1 c1' c2 c2' c3 c3' c4 c4' c5 c5' c6
      go_enter Tryd.func12, Tryd.ntmps12
      go_wp2_with (go_at_call 34; refine (rlength_any _ _ _ h3 h4).mono ?_; rintro e w' ⟨rfl, rfl⟩)
      exact bodyPost_ret (v := .agg #[(.int .i64 0), (.int .i64 3)]) (by simp [results, Tryd.results12, go_sem]) rfl ⟨by rw [HN.out, HE.out], (Below.refl _ _).alloc (Nat.le_refl _) _⟩
    · have := c1' h; have := c2 h2
      clear hok c1 c1' c2 c2' c3 c3' c4 c4' c5 c5' c6
      go_enter Tryd.func12, Tryd.ntmps12
      go_wp2_with (go_at_call 34; refine (rlength_any _ _ _ h3 h4).mono ?_; rintro e w' ⟨rfl, rfl⟩)
      exact bodyPost_ret (v := .agg #[(.int .i64 0), (.int .i64 3)]) (by simp [results, Tryd.results12, go_sem]) rfl ⟨by rw [HN.out, HE.out], (Below.refl _ _).alloc (Nat.le_refl _) _⟩
    · have := c1' h; have := c2' h2; have := c3 h3
      clear hok c1 c1' c2 c2' c3 c3' c4 c4' c5 c5' c6
      go_enter Tryd.func12, Tryd.ntmps12
      go_wp2_with (go_at_call 34; refine (rlength_any _ _ _ h3 h4).mono ?_; rintro e w' ⟨rfl, rfl⟩)
      exact bodyPost_ret (v := .agg #[(.int .i64 0), (.int .i64 3)]) (by simp [results, Tryd.results12, go_sem]) rfl ⟨by rw [HN.out, HE.out], (Below.refl _ _).alloc (Nat.le_refl _) _⟩
    · have := c1' h; have := c2' h2; have := c3' (by omega : 1 ≤ m); have := c4 h3
      clear hok c1 c1' c2 c2' c3 c3' c4 c4' c5 c5' c6
      go_enter Tryd.func12, Tryd.ntmps12
      go_wp2_with (go_at_call 34; refine (rlength_any _ _ _ h3 h4).mono ?_; rintro e w' ⟨rfl, rfl⟩)
      exact bodyPost_ret (v := .agg #[(.int .i64 0), (.int .i64 3)]) (by simp [results, Tryd.results12, go_sem]) rfl ⟨by rw [HN.out, HE.out], (Below.refl _ _).alloc (Nat.le_refl _) _⟩
    · have := c1' h; have := c2' h2; have := c3' h3; have := c4' h4; have := c5 h5
      clear hok c1 c1' c2 c2' c3 c3' c4 c4' c5 c5' c6
      go_enter Tryd.func12, Tryd.ntmps12
      go_wp2_with (go_at_call 34; refine (rlength_any _ _ _ h3 h4).mono ?_; rintro e w' ⟨rfl, rfl⟩)
      exact bodyPost_ret (v := .agg #[(.int .i64 0), (.int .i64 3)]) (by simp [results, Tryd.results12, go_sem]) rfl ⟨by rw [HN.out, HE.out], (Below.refl _ _).alloc (Nat.le_refl _) _⟩
    · have := c1' h; have := c2' h2; have := c3' h3; have := c4' h4; have := c5' h5; have := c6 h6
      clear hok c1 c1' c2 c2' c3 c3' c4 c4' c5 c5' c6
      go_enter Tryd.func12, Tryd.ntmps12
      go_wp2_with (go_at_call 34; refine (rlength_any _ _ _ h3 h4).mono ?_; rintro e w' ⟨rfl, rfl⟩)
      exact bodyPost_ret (v := .agg #[(.int .i64 0), (.int .i64 3)]) (by simp [results, Tryd.results12, go_sem]) rfl ⟨by rw [HN.out, HE.out], (Below.refl _ _).alloc (Nat.le_refl _) _⟩
end Go.Proofs.YtfcfdphkaildiaaDoor
