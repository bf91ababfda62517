/- Walks of the lexer: class, span. Conditions: those of each theorem. -/
import Derived.Test.YtdjjifljlkjafaaGreatDoorProg
import Derived.Test.YtdjjifljlkjafaaGreatDoorLays
import Derived.Test.YtdjjifljlkjafaaGreatDoorLexPlain
import Derived.WalkKit
import Derived.Deep.QuietTactic
import Derived.BigQuiet
namespace Go.Proofs.YtdjjifljlkjafaaGreatDoor
open Go Go.Proofs Go.RowKit
attribute [local go_sem] Oper.semAt_some

theorem ret_int {k : IntKind} {a b : Int} (h : a = b) : Ending.returned (.int k a) = .returned (.int k b) := by rw [h]
set_option maxHeartbeats 1000000 in
theorem class_any (c : Int) (w : World) (h0 : 0 ≤ c) (h1 : c ≤ 255) : Calls Tryz.prog 31 #[.int .u8 c] w fun e w' => e = .returned (.int .i64 (clsI c)) ∧ w = w' := by
  go_enter Tryz.func31, Tryz.ntmps31
  go_wp2
  all_goals go_ret
  all_goals refine ⟨ret_int ?_, rfl⟩
  all_goals (unfold clsI; simp at *; omega)

/-- the reader lies in block B, at an offset of its source, with what it has read -/
def Rd (W : World) (B : Nat) (s : ByteArray) (k : Int) (v : Value) : Prop := W.heap[B]? = some (.cells #[.string s, (.int .i64 k), v] 51 (0, 0))
theorem Rd.cells {W : World} {B : Nat} {s : ByteArray} {k : Int} {v : Value} (h : Rd W B s k v) : W.cell? ⟨B, 0, none⟩ = some (.string s) ∧ W.cell? ⟨B, 1, none⟩ = some (.int .i64 k) ∧ W.cell? ⟨B, 2, none⟩ = some v := by
  unfold Rd at h; simp [World.cell?, h]
theorem Rd.free {W : World} {B : Nat} {s : ByteArray} {k : Int} {v : Value} (h : Rd W B s k v) (o : Nat) : W.frozen? ⟨B, o, none⟩ = false := by
  unfold Rd at h; simp [World.frozen?, h]

set_option maxHeartbeats 1000000 in
theorem span_any (B : Nat) (s : ByteArray) (k : Nat) (v : Value) (least : Int) (w : World) (hR : Rd w B s k v) (hs : s.size ≤ 9223372036854775807) (hk : k ≤ s.size) :
    Calls Tryz.prog 49 #[.pointer (some ⟨B, 0, none⟩), (.int .i64 least)] w fun e w' => e = .returned (.int .i64 ((spanTo s k least : Nat))) ∧ w = w' := by
  obtain ⟨c0, c1, c2⟩ := hR.cells
  have HR := Lib.hid hR
  clear hR
  go_enter Tryz.func49, Tryz.ntmps49
  go_wp2
  go_loop [5] (fun u => ∃ j : Nat, k ≤ j ∧ j ≤ s.size ∧ u = (.int .i64 j) ∧ Hid (j + spanL least (rest s j) = k + spanL least (rest s k))) (fun u => s.size - (intOf u).toNat)
  case atStart => exact ⟨k, Nat.le_refl _, hk, rfl, rfl⟩
  case round =>
    obtain ⟨j, hj1, hj2, rfl, HJ⟩ := hrel
    by_cases hlt : j < s.size
    · have hb : (s[j].toNat : Int) ≤ 255 := by have := s[j].toNat_lt; omega
      have hc := rest_cons s j hlt
      have HY : Hid (least ≤ cls s[j] → j + 1 + spanL least (rest s (j + 1)) = k + spanL least (rest s k)) := fun h => by
        rw [← HJ.out, hc, spanL_cons_yes h]; omega
      have HN : Hid (cls s[j] < least → j = k + spanL least (rest s k)) := fun h => by
        rw [← HJ.out, hc, spanL_cons_no h]; rfl
      clear hc
      have HC := Lib.hid (class_any (s[j].toNat : Int) w (by omega) hb)
      by_cases hp : least ≤ cls s[j]
      · have bp : decide (least ≤ clsI (s[j].toNat : Int)) = true := by simpa [cls] using hp
        go_wp2_with (go_at_call 31; refine HC.out.mono ?_; rintro e w' ⟨rfl, rfl⟩)
        go_round
        case rel => exact ⟨j + 1, by omega, by omega, by go_num, HY.out hp⟩
        case measure => simp [intOf]; omega
      · have bp : decide (least ≤ clsI (s[j].toNat : Int)) = false := by simp [cls] at hp ⊢; omega
        have HE := Lib.hid (HN.out (by omega))
        go_wp2_with (go_at_call 31; refine HC.out.mono ?_; rintro e w' ⟨rfl, rfl⟩)
        go_ret
        exact ⟨ret_int (by have := HE.out; unfold spanTo; omega), rfl⟩
    · have HE : Hid (j = k + spanL least (rest s k)) := by rw [← HJ.out, rest_nil s j (by omega)]; rfl
      go_wp2
      go_ret
      exact ⟨ret_int (by have := HE.out; unfold spanTo; omega), rfl⟩
end Go.Proofs.YtdjjifljlkjafaaGreatDoor
