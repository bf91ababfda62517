/- Plain values that sanity of the calendar's statements checks. Conditions: none. -/
import Derived.Test.YtfcfdphkaildiaaDoorCalPlainD
namespace Go.Proofs.YtfcfdphkaildiaaDoor

theorem sv1 : lo 1 7 = 4 ∧ hi 1 7 = 8 := by decide
theorem sv2 : lo 3 3000 = 2976 ∧ hi 3 3000 = 5760 := by decide +kernel
theorem sv3 : lo 2 4 = 0 ∧ hi 2 4 = 96 := by decide
theorem sv4 : insL 0 4 8 = [(0, 4, 5), (0, 5, 6), (0, 6, 7), (0, 7, 8)] := by decide +kernel
theorem sv5 : insL 2 90 300 = [(2, 96, 192), (2, 192, 288)] := by decide +kernel
def sanM : List Bn := (0, 3, 4) :: ((List.range 23).map (fun (i : Nat) => ((1 : Int), 4 * (i : Int) + 4, 4 * (i : Int) + 8))) ++ [(0, 96, 97)]
theorem sv6 : covN 4 3 97 = sanM := by decide +kernel
theorem sv7 : covN 4 0 35136 = [(4, 0, 35136)] := by decide +kernel
theorem sd1 : IsDate 0 2000 1 1 := by constructor <;> decide
theorem sd2 : IsDate 59 2000 2 29 := by constructor <;> decide
theorem sd3 : IsDate 60 2000 3 1 := by constructor <;> decide
theorem sd4 : IsDate 365 2000 12 31 := by constructor <;> decide
theorem sd5 : IsDate 1520 2004 2 29 := by constructor <;> decide
theorem sd6 : IsDate 14609 2039 12 31 := by constructor <;> decide
theorem sl1 : leapB 2000 = true ∧ leapB 1900 = false ∧ leapB 2001 = false := by decide
end Go.Proofs.YtfcfdphkaildiaaDoor
