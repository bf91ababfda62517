/- Walks of the specification's lexer: name. Conditions: those of each theorem. -/
import Derived.Test.YtdjjifljlkjafaaGreatDoorLexRefA
import Derived.Test.YtdjjifljlkjafaaGreatDoorLexWalkH
namespace Go.Proofs.YtdjjifljlkjafaaGreatDoor
open Go Go.Proofs Go.RowKit
attribute [local go_sem] Oper.semAt_some

/-- what the specification returns for a token, or a problem -/
def oneV : TR → Value
  | .tok t tt => .agg #[(.int .i64 (t.kind)), (.int .i64 (t.at_)), .string t.s, (.int .i64 (t.n)), (.int .i64 tt), (.int .i64 0)]
  | .err c => .agg #[(.int .i64 0), (.int .i64 0), .string ⟨#[]⟩, (.int .i64 0), (.int .i64 0), (.int .i64 c)]
  | .none => undef
set_option maxHeartbeats 2000000 in
theorem rname_any (s : ByteArray) (k : Nat) (w : World) (hs : s.size ≤ 70000) (hk : k < s.size) (hc : clsI s[k].toNat = 3) : Calls Tryz.prog 37 #[.string s, (.int .i64 k)] w fun e w' => e = .returned (oneV (nameT s k)) ∧ Turned (fun _ => False) w w' := by
  have HN : Hid (nameT s k = if 32 < spanTo s k 2 - k then .err 2 else .tok ⟨1, k, s.extract k (spanTo s k 2), 0⟩ (spanTo s k 2)) := by
    show _ = _
    unfold nameT; rw [rest_head s k hk, if_neg (by simpa using hc)]
  clear hc
  have hto := spanTo_le s k 2 (by omega)
  have hge := spanTo_ge s k 2
  go_enter Tryz.func37, Tryz.ntmps37
  go_wp2
  go_loop [5] (fun u => ∃ j : Nat, k ≤ j ∧ j ≤ s.size ∧ u = (.int .i64 j) ∧ Hid (j + spanL 2 (rest s j) = spanTo s k 2)) (fun u => s.size - (intOf u).toNat)
  case atStart => exact ⟨k, Nat.le_refl _, by omega, rfl, rfl⟩
  case round =>
    obtain ⟨j, hj1, hj2, rfl, HJ⟩ := hrel
    by_cases hlt : j < s.size
    · have hb : (s[j].toNat : Int) ≤ 255 := by have := s[j].toNat_lt; omega
      have hr := rest_cons s j hlt
      have HY : Hid (2 ≤ cls s[j] → j + 1 + spanL 2 (rest s (j + 1)) = spanTo s k 2) := fun h => by
        rw [← HJ.out, hr, spanL_cons_yes h]; omega
      have HZ : Hid (cls s[j] < 2 → j = spanTo s k 2) := fun h => by
        rw [← HJ.out, hr, spanL_cons_no h]; rfl
      clear hr
      have HC := Lib.hid (fun W => rletter_any (s[j].toNat : Int) W (by omega) hb)
      have HD := Lib.hid (fun W => rdigit_any (s[j].toNat : Int) W (by omega) hb)
      have hcd := cls_bd (s[j].toNat : Int)
      by_cases h3 : clsI (s[j].toNat : Int) = 3
      · have HK := Lib.hid (HY.out (by unfold cls; omega))
        go_wp2_with (first | (go_at_call 36; refine (HC.out _).mono ?_; rintro e w' ⟨rfl, rfl⟩) | (go_at_call 38; refine (HD.out _).mono ?_; rintro e w' ⟨rfl, rfl⟩))
        go_round
        case rel => exact ⟨j + 1, by omega, by omega, by go_num, HK⟩
        case measure => simp [intOf]; omega
      · by_cases h2 : clsI (s[j].toNat : Int) = 2
        · have HK := Lib.hid (HY.out (by unfold cls; omega))
          go_wp2_with (first | (go_at_call 36; refine (HC.out _).mono ?_; rintro e w' ⟨rfl, rfl⟩) | (go_at_call 38; refine (HD.out _).mono ?_; rintro e w' ⟨rfl, rfl⟩))
          go_round
          case rel => exact ⟨j + 1, by omega, by omega, by go_num, HK⟩
          case measure => simp [intOf]; omega
        · have HK := Lib.hid (HZ.out (by unfold cls; omega))
          have hw : IntKind.i64.wrap ((j : Int) - k) = (j : Int) - k := IntWalk.i64_in _ (by omega)
          by_cases hl : 32 < j - k
          · have hl2 : (32 : Int) < (j : Int) - k := by omega
            go_wp2_with (first | (go_at_call 36; refine (HC.out _).mono ?_; rintro e w' ⟨rfl, rfl⟩) | (go_at_call 38; refine (HD.out _).mono ?_; rintro e w' ⟨rfl, rfl⟩))
            exact bodyPost_ret (v := oneV (.err 2)) (by simp [results, Tryz.results37, go_sem, oneV]) rfl ⟨by rw [HN.out, ← HK.out, if_pos hl], (Turned.refl _ _).alloc _⟩
          · have hl2 : (j : Int) - k ≤ 32 := by omega
            go_wp2_with (first | (go_at_call 36; refine (HC.out _).mono ?_; rintro e w' ⟨rfl, rfl⟩) | (go_at_call 38; refine (HD.out _).mono ?_; rintro e w' ⟨rfl, rfl⟩))
            exact bodyPost_ret (v := oneV (.tok ⟨1, k, s.extract k j, 0⟩ j)) (by simp [results, Tryz.results37, go_sem, oneV]) rfl ⟨by rw [HN.out, ← HK.out, if_neg hl], (Turned.refl _ _).alloc _⟩
    · obtain rfl : j = s.size := by omega
      have HK : Hid (s.size = spanTo s k 2) := by show _ = _; rw [← HJ.out, rest_nil s _ (Nat.le_refl _)]; rfl
      have hw : IntKind.i64.wrap ((s.size : Int) - k) = (s.size : Int) - k := IntWalk.i64_in _ (by omega)
      by_cases hl : 32 < s.size - k
      · have hl2 : (32 : Int) < (s.size : Int) - k := by omega
        go_wp2
        exact bodyPost_ret (v := oneV (.err 2)) (by simp [results, Tryz.results37, go_sem, oneV]) rfl ⟨by rw [HN.out, ← HK.out, if_pos hl], (Turned.refl _ _).alloc _⟩
      · have hl2 : (s.size : Int) - k ≤ 32 := by omega
        go_wp2
        exact bodyPost_ret (v := oneV (.tok ⟨1, k, s.extract k s.size, 0⟩ s.size)) (by simp [results, Tryz.results37, go_sem, oneV]) rfl ⟨by rw [HN.out, ← HK.out, if_neg hl], (Turned.refl _ _).alloc _⟩
end Go.Proofs.YtdjjifljlkjafaaGreatDoor
