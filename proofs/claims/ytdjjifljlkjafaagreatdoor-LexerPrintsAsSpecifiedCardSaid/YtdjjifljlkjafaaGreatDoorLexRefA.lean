/- Walks of the specification's lexer: letter, digit, pair, Blank. Conditions: those of each theorem. -/
import Derived.Test.YtdjjifljlkjafaaGreatDoorLexWalkA
namespace Go.Proofs.YtdjjifljlkjafaaGreatDoor
open Go Go.Proofs Go.RowKit
attribute [local go_sem] Oper.semAt_some

theorem ret_bool {a b : Bool} (h : a = b) : Ending.returned (.bool a) = .returned (.bool b) := by rw [h]
theorem cls3_iff (c : Int) : clsI c = 3 ↔ c = 95 ∨ (97 ≤ c ∧ c ≤ 122) ∨ (65 ≤ c ∧ c ≤ 90) := by
  unfold clsI
  split
  · simp_all
  · split
    · simp_all
    · split <;> simp_all
theorem cls2_iff (c : Int) : clsI c = 2 ↔ 48 ≤ c ∧ c ≤ 57 := by
  unfold clsI
  split
  · constructor <;> intro h <;> omega
  · split
    · simp_all
    · split <;> simp_all <;> omega
theorem cls1_iff (c : Int) : clsI c = 1 ↔ c = 32 ∨ c = 9 ∨ c = 10 ∨ c = 13 := by
  unfold clsI
  split
  · constructor <;> intro h <;> omega
  · split
    · constructor <;> intro h <;> omega
    · split <;> simp_all
set_option maxHeartbeats 1000000 in
theorem rletter_any (c : Int) (w : World) (h0 : 0 ≤ c) (h1 : c ≤ 255) : Calls Tryz.prog 36 #[.int .u8 c] w fun e w' => e = .returned (.bool (decide (clsI c = 3))) ∧ w = w' := by
  have HC := Lib.hid (cls3_iff c)
  go_enter Tryz.func36, Tryz.ntmps36
  by_cases a1 : 97 ≤ c
  · by_cases a2 : c ≤ 122
    · go_wp2
      go_ret
      exact ⟨ret_bool (by rw [Bool.eq_iff_iff]; simp [HC.out]; omega), rfl⟩
    · have a3 : 65 ≤ c := by omega
      have a4 : ¬ c ≤ 90 := by omega
      go_wp2
      go_ret
      exact ⟨ret_bool (by rw [Bool.eq_iff_iff]; simp [HC.out]; omega), rfl⟩
  · by_cases a3 : 65 ≤ c
    · by_cases a4 : c ≤ 90
      · go_wp2
        go_ret
        exact ⟨ret_bool (by rw [Bool.eq_iff_iff]; simp [HC.out]; omega), rfl⟩
      · go_wp2
        go_ret
        exact ⟨ret_bool (by rw [Bool.eq_iff_iff]; simp [HC.out]; omega), rfl⟩
    · go_wp2
      go_ret
      exact ⟨ret_bool (by rw [Bool.eq_iff_iff]; simp [HC.out]; omega), rfl⟩
theorem rdigit_any (c : Int) (w : World) (h0 : 0 ≤ c) (h1 : c ≤ 255) : Calls Tryz.prog 38 #[.int .u8 c] w fun e w' => e = .returned (.bool (decide (clsI c = 2))) ∧ w = w' := by
  have HC := Lib.hid (cls2_iff c)
  go_enter Tryz.func38, Tryz.ntmps38
  by_cases a1 : 48 ≤ c
  · go_wp2
    go_ret
    exact ⟨ret_bool (by rw [Bool.eq_iff_iff]; simp [HC.out]; omega), rfl⟩
  · go_wp2
    go_ret
    exact ⟨ret_bool (by rw [Bool.eq_iff_iff]; simp [HC.out]; omega), rfl⟩
/-- the byte for which a pair stands -/
def pairI (c : Int) : Int := if c = 34 then 34 else if c = 92 then 92 else if c = 110 then 10 else 0
theorem ret_u8 {a b : Int} (h : a = b) : Ending.returned (.int .u8 a) = .returned (.int .u8 b) := by rw [h]
theorem rpair_any (c : Int) (w : World) : Calls Tryz.prog 54 #[.int .u8 c] w fun e w' => e = .returned (.int .u8 (pairI c)) ∧ w = w' := by
  go_enter Tryz.func54, Tryz.ntmps54
  go_wp2
  all_goals go_ret
  all_goals refine ⟨ret_u8 ?_, rfl⟩
  all_goals (unfold pairI; simp_all)
set_option maxHeartbeats 2000000 in
theorem rblank_any (s : ByteArray) (k : Nat) (w : World) (hs : s.size ≤ 70000) (hk : k ≤ s.size) : Calls Tryz.prog 19 #[.string s, (.int .i64 k)] w fun e w' => e = .returned (.int .i64 ((blankTo s k : Nat))) ∧ w = w' := by
  go_enter Tryz.func19, Tryz.ntmps19
  go_wp2
  go_loop [1] (fun u => ∃ j : Nat, j ≤ s.size ∧ u = (.int .i64 j) ∧ Hid (blankTo s j = blankTo s k)) (fun u => s.size - (intOf u).toNat)
  case atStart => exact ⟨k, hk, rfl, rfl⟩
  case round =>
    obtain ⟨j, hj, rfl, HJ⟩ := hrel
    by_cases hlt : j < s.size
    · have hb : (s[j].toNat : Int) ≤ 255 := by have := s[j].toNat_lt; omega
      have h35 : s[j] = 35 ↔ (s[j].toNat : Int) = 35 := ⟨fun h => by rw [h]; rfl, fun h => UInt8.toNat_inj.1 (by simpa using Int.ofNat_inj.1 h)⟩
      have h10 : ∀ i (h : i < s.size), s[i] = 10 ↔ (s[i].toNat : Int) = 10 := fun i h => ⟨fun h => by rw [h]; rfl, fun h => UInt8.toNat_inj.1 (by simpa using Int.ofNat_inj.1 h)⟩
      have H1 := Lib.hid (fun h : cls s[j] = 1 => (blankTo_blank s j hlt h).symm.trans HJ.out)
      have H2 := Lib.hid (fun h : s[j] = 35 => ((inComment_step s j hlt (by rw [h]; decide)).trans (blankTo_comment s j hlt h).symm).trans HJ.out)
      have H3 := Lib.hid (fun (h : cls s[j] ≠ 1) (h2 : s[j] ≠ 35) => (blankTo_stop s j hlt h h2).symm.trans HJ.out)
      have HC := Lib.hid (cls1_iff (s[j].toNat : Int))
      have H35 := Lib.hid h35
      have H10 := Lib.hid h10
      clear h35 h10
      generalize hx : (s[j].toNat : Int) = x at hb HC
      have H6 : Hid (cls s[j] = clsI x) := by show _ = _; rw [← hx]; rfl
      by_cases b1 : x = 32
      · go_wp2
        go_round
        case rel => exact ⟨j + 1, by omega, by go_num, H1.out (by rw [H6.out, HC.out]; omega)⟩
        case measure => simp [intOf]; omega
      by_cases b2 : x = 9
      · go_wp2
        go_round
        case rel => exact ⟨j + 1, by omega, by go_num, H1.out (by rw [H6.out, HC.out]; omega)⟩
        case measure => simp [intOf]; omega
      by_cases b3 : x = 10
      · go_wp2
        go_round
        case rel => exact ⟨j + 1, by omega, by go_num, H1.out (by rw [H6.out, HC.out]; omega)⟩
        case measure => simp [intOf]; omega
      by_cases b4 : x = 13
      · go_wp2
        go_round
        case rel => exact ⟨j + 1, by omega, by go_num, H1.out (by rw [H6.out, HC.out]; omega)⟩
        case measure => simp [intOf]; omega
      by_cases b5 : x = 35
      · have H7 := Lib.hid (H2.out (H35.out.2 (by rw [hx, b5])))
        go_wp2
        go_loop [1] (fun u => ∃ i : Nat, j ≤ i ∧ i ≤ s.size ∧ u = (.int .i64 i) ∧ Hid (inComment s i = blankTo s k)) (fun u => s.size - (intOf u).toNat)
        case atStart => exact ⟨j, Nat.le_refl _, by omega, rfl, H7⟩
        case round =>
          obtain ⟨i, hi1, hi2, rfl, HI⟩ := hrel
          by_cases hi : i < s.size
          · by_cases b6 : (s[i].toNat : Int) = 10
            · have H8 : Hid (blankTo s i = blankTo s k) := (inComment_line s i hi ((H10.out i hi).2 b6)).symm.trans HI.out
              have hne : i ≠ j := fun h => by subst h; omega
              go_wp2
              go_round
              case rel => exact ⟨i, by omega, rfl, H8⟩
              case measure => simp [intOf]; omega
            · have H8 : Hid (inComment s (i + 1) = blankTo s k) := (inComment_step s i hi (fun h => b6 ((H10.out i hi).1 h))).symm.trans HI.out
              go_wp2
              go_round
              case rel => exact ⟨i + 1, by omega, by omega, by go_num, H8⟩
              case measure => simp [intOf]; omega
          · obtain rfl : i = s.size := by omega
            have H8 : Hid (blankTo s s.size = blankTo s k) := (blankTo_end s _ (Nat.le_refl _)).trans ((inComment_end s _ (Nat.le_refl _)).symm.trans HI.out)
            go_wp2
            go_round
            case rel => exact ⟨s.size, by omega, rfl, H8⟩
            case measure => simp [intOf]; omega
      · have H7 := Lib.hid (H3.out (by rw [H6.out]; intro h; rw [HC.out] at h; omega) (fun h => b5 (by rw [← hx]; exact H35.out.1 h)))
        have k32 : (x == 32) = false := by simpa using b1
        have k9 : (x == 9) = false := by simpa using b2
        have k10 : (x == 10) = false := by simpa using b3
        have k13 : (x == 13) = false := by simpa using b4
        have k35 : (x == 35) = false := by simpa using b5
        go_wp2
        go_ret
        exact ⟨ret_int (by have := H7.out; omega), rfl⟩
    · have HE : Hid (blankTo s k = j) := by show _ = _; rw [← HJ.out, blankTo_end s j (by omega)]
      go_wp2
      go_ret
      exact ⟨ret_int (by have := HE.out; omega), rfl⟩
end Go.Proofs.YtdjjifljlkjafaaGreatDoor
