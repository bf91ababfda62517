/- Part 30 of the proof of lawSum.card: EvMem. Conditions: those of each theorem. -/
import Derived.Test.YthejfklieedjmaaGreatDoorQs01
import Derived.Test.YthejfklieedjmaaGreatDoorQs29
namespace Go.Proofs.YthejfklieedjmaaGreatDoor
open Go Go.RowKit
noncomputable def v_fields : Value := .slice (some ⟨400, 0, none⟩) 9 9
noncomputable def l_fields : List RowE := [([.string ⟨⟨[45, 62]⟩⟩, .string ⟨⟨[58, 61]⟩⟩, .string ⟨⟨[61, 61]⟩⟩, .string ⟨⟨[33, 61]⟩⟩, .string ⟨⟨[60, 61]⟩⟩, .string ⟨⟨[62, 61]⟩⟩, .string ⟨⟨[38, 38]⟩⟩, .string ⟨⟨[124, 124]⟩⟩, .string ⟨⟨[46, 46]⟩⟩], 9)]
def r_fields : List Nat := [400]
noncomputable def v_ops : Value := .slice (some ⟨400, 0, none⟩) 13 13
noncomputable def l_ops : List RowE := [([.string ⟨⟨[42]⟩⟩, .int .i64 7, .int .i64 6, .string ⟨⟨[47]⟩⟩, .int .i64 8, .int .i64 6, .string ⟨⟨[37]⟩⟩, .int .i64 9, .int .i64 6, .string ⟨⟨[43]⟩⟩, .int .i64 10, .int .i64 5, .string ⟨⟨[45]⟩⟩, .int .i64 11, .int .i64 5, .string ⟨⟨[61, 61]⟩⟩, .int .i64 12, .int .i64 4, .string ⟨⟨[33, 61]⟩⟩, .int .i64 13, .int .i64 4, .string ⟨⟨[60]⟩⟩, .int .i64 14, .int .i64 4, .string ⟨⟨[60, 61]⟩⟩, .int .i64 15, .int .i64 4, .string ⟨⟨[62]⟩⟩, .int .i64 16, .int .i64 4, .string ⟨⟨[62, 61]⟩⟩, .int .i64 17, .int .i64 4, .string ⟨⟨[38, 38]⟩⟩, .int .i64 18, .int .i64 2, .string ⟨⟨[124, 124]⟩⟩, .int .i64 19, .int .i64 1], 201)]
def r_ops : List Nat := [400]
noncomputable def gsA : Tabs := [(1, Lib.asciiSpaceTab.map fun z => Value.int .u8 z)]
theorem gsA_ok : TabOk gsA := ⟨fun p hp => gs_ok.low p (by simp only [gsA, List.mem_singleton] at hp; subst hp; simp [gs]), fun p hp => gs_ok.flat p (by simp only [gsA, List.mem_singleton] at hp; subst hp; simp [gs]), fun p hp => gs_ok.few p (by simp only [gsA, List.mem_singleton] at hp; subst hp; simp [gs])⟩
theorem none_ok : TabOk [] := by constructor <;> (intro p hp; cases hp)
noncomputable def a_fields : List Value := [(.string ⟨⟨[45, 62, 32, 58, 61, 32, 61, 61, 32, 33, 61, 32, 60, 61, 32, 62, 61, 32, 38, 38, 32, 124, 124, 32, 46, 46]⟩⟩)]
theorem m_fields : memoR r_fields (callN (extL base) idle0 80 167 a_fields (me0 gsA) fun v m => .ok v m) = some (v_fields, l_fields) := by kernel_rfl
theorem m_ops : memoR r_ops (callN (extL base) idle0 80 129 [] (me0 []) fun v m => .ok v m) = some (v_ops, l_ops) := by kernel_rfl
noncomputable def ext1 : ExtL := (167, memoX gsA a_fields v_fields l_fields) :: (129, memoX [] [] v_ops l_ops) :: base
theorem ext1_ok : ∀ p ∈ ext1, SoundX p.1 p.2 := by
 intro p hp
 rcases List.mem_cons.1 hp with rfl | hp
 ·exact memo_ok (extL_ok base_ok) idle_ok gsA_ok m_fields
 ·rcases List.mem_cons.1 hp with rfl | hp
  ·exact memo_ok (extL_ok base_ok) idle_ok none_ok m_ops
  ·exact base_ok p hp
end Go.Proofs.YthejfklieedjmaaGreatDoor
