/- Part 36 of the proof of lawSum.card: EvFails2. Conditions: those of each theorem. -/
import Derived.Test.YthejfklieedjmaaGreatDoorQs01
import Derived.Test.YthejfklieedjmaaGreatDoorQs30
namespace Go.Proofs.YthejfklieedjmaaGreatDoor
open Go Go.RowKit
noncomputable def v_fails2 : Value := .bool true
noncomputable def l_fails2 : List RowE := []
def r_fails2 : List Nat := []
noncomputable def a_fails2 : List Value := [(.string ⟨⟨[97, 115, 107, 32, 100, 32, 40, 116, 105, 99, 107, 40, 48, 41, 41, 32, 40, 51, 32, 43, 32, 118, 111, 108, 117, 109, 101, 40, 49, 44, 32, 116, 105, 99, 107, 40, 48, 41, 44, 32, 116, 105, 99, 107, 40, 49, 41, 41, 41, 59]⟩⟩), .int .i64 17, .int .i64 7]
theorem m_fails2 : memoR r_fails2 (go ext1 23 a_fails2) = some (v_fails2, l_fails2) := by kernel_rfl
theorem x_fails2 : SoundX 23 (memoX gs a_fails2 v_fails2 l_fails2) := go_memo (x := ext1) (f := 23) (args := a_fails2) (ren := r_fails2) ext1_ok m_fails2
end Go.Proofs.YthejfklieedjmaaGreatDoor
