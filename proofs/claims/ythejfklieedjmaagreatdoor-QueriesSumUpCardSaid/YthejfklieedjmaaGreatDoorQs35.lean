/- Part 35 of the proof of lawSum.card: EvFails1. Conditions: those of each theorem. -/
import Derived.Test.YthejfklieedjmaaGreatDoorQs01
import Derived.Test.YthejfklieedjmaaGreatDoorQs30
namespace Go.Proofs.YthejfklieedjmaaGreatDoor
open Go Go.RowKit
noncomputable def v_fails1 : Value := .bool true
noncomputable def l_fails1 : List RowE := []
def r_fails1 : List Nat := []
noncomputable def a_fails1 : List Value := [(.string ⟨⟨[97, 115, 107, 32, 99, 32, 40, 116, 105, 99, 107, 40, 48, 41, 41, 32, 40, 112, 101, 97, 107, 40, 51, 44, 32, 116, 105, 99, 107, 40, 53, 41, 44, 32, 116, 105, 99, 107, 40, 53, 41, 41, 41, 59]⟩⟩), .int .i64 16, .int .i64 3]
theorem m_fails1 : memoR r_fails1 (go ext1 23 a_fails1) = some (v_fails1, l_fails1) := by kernel_rfl
theorem x_fails1 : SoundX 23 (memoX gs a_fails1 v_fails1 l_fails1) := go_memo (x := ext1) (f := 23) (args := a_fails1) (ren := r_fails1) ext1_ok m_fails1
end Go.Proofs.YthejfklieedjmaaGreatDoor
