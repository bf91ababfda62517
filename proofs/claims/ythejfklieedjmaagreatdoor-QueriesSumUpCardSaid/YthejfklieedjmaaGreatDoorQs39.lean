/- Part 39 of the proof of lawSum.card: EvSan. Conditions: those of each theorem. -/
import Derived.Test.YthejfklieedjmaaGreatDoorQs01
import Derived.Test.YthejfklieedjmaaGreatDoorQs32
import Derived.Test.YthejfklieedjmaaGreatDoorQs34
import Derived.Test.YthejfklieedjmaaGreatDoorQs35
import Derived.Test.YthejfklieedjmaaGreatDoorQs36
import Derived.Test.YthejfklieedjmaaGreatDoorQs37
import Derived.Test.YthejfklieedjmaaGreatDoorQs38
namespace Go.Proofs.YthejfklieedjmaaGreatDoor
open Go Go.RowKit
noncomputable def xForms : ExtF := orX a_forms1 (memoX gs a_forms1 v_forms1 l_forms1) (memoX gs a_forms2 v_forms2 l_forms2)
noncomputable def xFails : ExtF := orX a_fails1 (memoX gs a_fails1 v_fails1 l_fails1) (orX a_fails2 (memoX gs a_fails2 v_fails2 l_fails2) (orX a_fails3 (memoX gs a_fails3 v_fails3 l_fails3) (memoX gs a_fails4 v_fails4 l_fails4)))
noncomputable def extS : ExtL := (24, xForms) :: (23, xFails) :: ext1
theorem extS_ok : ∀ p ∈ extS, SoundX p.1 p.2 := by
 intro p hp
 rcases List.mem_cons.1 hp with rfl | hp
 ·exact orX_ok x_forms1 x_forms2
 ·rcases List.mem_cons.1 hp with rfl | hp
  ·exact orX_ok x_fails1 (orX_ok x_fails2 (orX_ok x_fails3 x_fails4))
  ·exact ext1_ok p hp
theorem san_told : told (go extS 5 []) = some (.bool true) := by kernel_rfl
theorem sanity_any {w : World} (hw : TabsAt gs w) : Calls Tryz.prog 5 #[] w fun e w' => e = .returned (.bool true) /\ Below w.heap.size w w' :=
 go_told extS_ok san_told rfl hw
end Go.Proofs.YthejfklieedjmaaGreatDoor
