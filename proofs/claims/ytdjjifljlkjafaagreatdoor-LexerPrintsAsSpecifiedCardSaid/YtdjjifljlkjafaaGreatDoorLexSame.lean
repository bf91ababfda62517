/- Walk of the specification's Same, on tokens that are equal but for their offsets. Conditions: those of each theorem. -/
import Derived.Test.YtdjjifljlkjafaaGreatDoorLexStops
import Derived.Test.YtdjjifljlkjafaaGreatDoorLexFill
namespace Go.Proofs.YtdjjifljlkjafaaGreatDoor
open Go Go.Proofs Go.RowKit
attribute [local go_sem] Oper.semAt_some

set_option maxHeartbeats 2000000 in
theorem same_toks (ga gb ca cb : Nat) (ts us : List Tok) (w : World) (ha : ToksAt w ga 0 ts) (hb : ToksAt w gb 0 us) (hs : us.map Tok.strip = ts.map Tok.strip) (hl : ts.length ≤ maxLen) :
    Calls Tryz.prog 18 #[.slice (some ⟨ga, 0, none⟩) ts.length ca, .slice (some ⟨gb, 0, none⟩) us.length cb] w fun e w' => e = .returned (.bool true) ∧ Below w.heap.size w w' := by
  have hlen : us.length = ts.length := by simpa using congrArg List.length hs
  have HA := Lib.hid ha
  have HB := Lib.hid hb
  have HS := Lib.hid hs
  obtain ⟨n, hn⟩ : ∃ n, ts.length = n := ⟨_, rfl⟩
  rw [hlen, hn]
  have HN := Lib.hid hn
  have HNU : Hid (us.length = n) := hlen.trans hn
  rw [hn] at hl
  unfold maxLen at hl
  clear ha hb hs hn hlen
  go_enter Tryz.func18, Tryz.ntmps18
  go_wp2_with fail
  go_loopw [5] (fun i wr => ∃ j m : Nat, j ≤ n ∧ i = (.int .i64 j) ∧ wr = w.drewN m) (fun i _ => n - (intOf i).toNat)
  case atStart => exact ⟨0, 0, by omega, rfl, rfl⟩
  case round =>
    obtain ⟨j, m, hj, rfl, rfl⟩ := hrel
    by_cases hlt : j < n
    · obtain ⟨x, hx⟩ : ∃ x, ts[j]? = some x := ⟨_, List.getElem?_eq_getElem (by rw [HN.out]; exact hlt)⟩
      obtain ⟨y, hy⟩ : ∃ y, us[j]? = some y := ⟨_, List.getElem?_eq_getElem (by rw [HNU.out]; exact hlt)⟩
      have he : y.strip = x.strip := by
        have h1 : (us.map Tok.strip)[j]? = (ts.map Tok.strip)[j]? := by rw [HS.out]
        rw [List.getElem?_map, List.getElem?_map, hx, hy] at h1
        simpa using h1
      obtain ⟨d0, d1, d2, d3⟩ := tok_cells HA.out j x hx (j * 4) (j * 4 + 1) (j * 4 + 2) (j * 4 + 3) rfl rfl rfl rfl
      obtain ⟨f0, f1, f2, f3⟩ := tok_cells HB.out j y hy (j * 4) (j * 4 + 1) (j * 4 + 2) (j * 4 + 3) rfl rfl rfl rfl
      obtain ⟨kind, at_, s, num⟩ := x
      obtain ⟨kind', at', s', num'⟩ := y
      simp only [Tok.strip, Prod.mk.injEq] at he
      obtain ⟨rfl, rfl, rfl⟩ := he
      simp only at d0 d1 d2 d3 f0 f1 f2 f3
      have hk1 : (0 : Int) ≤ j := by omega
      have hk2 : (j : Int) < n := by omega
      clear hx hy
      go_wp2_with fail
      go_quiet (fail)
      go_wp2_with fail
      go_roundw
      case rel => exact ⟨j + 1, _, by omega, by go_num, rfl⟩
      case measure => simp [intOf]; omega
    · obtain rfl : j = n := by omega
      go_wp2_with fail
      go_ret
      exact ⟨rfl, below_of_turned (drewN_turned _ _ _)⟩
end Go.Proofs.YtdjjifljlkjafaaGreatDoor
