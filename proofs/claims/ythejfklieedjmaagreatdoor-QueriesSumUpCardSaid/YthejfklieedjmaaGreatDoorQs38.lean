/- Part 38 of the proof of lawSum.card: EvFails4. Conditions: those of each theorem. -/
import Derived.Test.YthejfklieedjmaaGreatDoorQs01
import Derived.Test.YthejfklieedjmaaGreatDoorQs30
namespace Go.Proofs.YthejfklieedjmaaGreatDoor
open Go Go.RowKit
noncomputable def v_fails4 : Value := .bool true
noncomputable def l_fails4 : List RowE := []
def r_fails4 : List Nat := []
noncomputable def a_fails4 : List Value := [(.string ⟨⟨[97, 115, 107, 32, 101, 32, 40, 116, 105, 99, 107, 40, 48, 41, 41, 32, 40, 108, 111, 119, 40, 120, 44, 32, 116, 105, 99, 107, 40, 48, 41, 44, 32, 116, 105, 99, 107, 40, 49, 41, 41, 41, 59]⟩⟩), .int .i64 21, .int .i64 6]
theorem m_fails4 : memoR r_fails4 (go ext1 23 a_fails4) = some (v_fails4, l_fails4) := by kernel_rfl
theorem x_fails4 : SoundX 23 (memoX gs a_fails4 v_fails4 l_fails4) := go_memo (x := ext1) (f := 23) (args := a_fails4) (ren := r_fails4) ext1_ok m_fails4
end Go.Proofs.YthejfklieedjmaaGreatDoor
