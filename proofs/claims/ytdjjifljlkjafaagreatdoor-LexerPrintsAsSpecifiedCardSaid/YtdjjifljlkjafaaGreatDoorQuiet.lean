/- A quiet call in a region behind another quiet region. Conditions: those of the theorem. -/
import Derived.Deep.QuietTactic
import Derived.Calls
namespace Go.Proofs.YtdjjifljlkjafaaGreatDoor
open Go Go.Proofs
theorem quiet_add_same {P : Program} {f : FuncId} {args : Array Value} {w : World} {a n : Nat} {v : Value}
    (h : Calls P f args (w.drewN (a + n)) fun e w' => e = .returned v ∧ w' = w.drewN (a + n)) :
    Calls P f args (w.drewN (a + n)) fun e w'' => e = .returned v ∧ ∃ m, w'' = w.drewN (a + m) :=
  h.mono fun _ _ ⟨he, hm⟩ => ⟨he, n, hm⟩
end Go.Proofs.YtdjjifljlkjafaaGreatDoor
