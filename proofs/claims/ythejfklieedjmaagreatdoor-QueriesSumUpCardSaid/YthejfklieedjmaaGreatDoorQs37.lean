/- Part 37 of the proof of lawSum.card: EvFails3. Conditions: those of each theorem. -/
import Derived.Test.YthejfklieedjmaaGreatDoorQs01
import Derived.Test.YthejfklieedjmaaGreatDoorQs30
namespace Go.Proofs.YthejfklieedjmaaGreatDoor
open Go Go.RowKit
noncomputable def v_fails3 : Value := .bool true
noncomputable def l_fails3 : List RowE := []
def r_fails3 : List Nat := []
noncomputable def a_fails3 : List Value := [(.string ⟨⟨[97, 115, 107, 32, 101, 32, 40, 116, 105, 99, 107, 40, 48, 41, 41, 32, 40, 108, 111, 119, 40, 49, 47, 50, 44, 32, 116, 105, 99, 107, 40, 48, 41, 44, 32, 116, 105, 99, 107, 40, 49, 41, 41, 41, 59]⟩⟩), .int .i64 16, .int .i64 3]
theorem m_fails3 : memoR r_fails3 (go ext1 23 a_fails3) = some (v_fails3, l_fails3) := by kernel_rfl
theorem x_fails3 : SoundX 23 (memoX gs a_fails3 v_fails3 l_fails3) := go_memo (x := ext1) (f := 23) (args := a_fails3) (ren := r_fails3) ext1_ok m_fails3
end Go.Proofs.YthejfklieedjmaaGreatDoor
