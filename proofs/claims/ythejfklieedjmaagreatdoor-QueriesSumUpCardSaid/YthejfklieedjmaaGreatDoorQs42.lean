/- Part 42 of the proof of lawSum.card: QryFactsAll. Conditions: those of each theorem. -/
import Derived.Test.YthejfklieedjmaaGreatDoorQs01
import Derived.Test.YthejfklieedjmaaGreatDoorQs41
set_option maxRecDepth 100000
namespace Go.Proofs.YthejfklieedjmaaGreatDoor
open Go Go.Proofs Go.RowKit Go.WideShapes Go.ChangeShapes
theorem jf_all : joinedFacts Tryz.prog 4 Tryz.f4 (OpenSpec.ofChange Rows.queriesSumUpSpec).bare Rows.queriesSumUpRow = true := by
 unfold joinedFacts
 exact (and_tt (and_tt (and_tt (and_tt (and_tt (and_tt (and_tt (and_tt (and_tt (and_tt (and_tt (and_tt (and_tt (and_tt (and_tt (and_tt (and_tt (and_tt (and_tt (and_tt (and_tt (and_tt (and_tt (and_tt (and_tt (and_tt (and_tt (and_tt (and_tt (and_tt (and_tt jf_00 jf_01) jf_02) jf_03) jf_04) jf_05) jf_06) jf_07) jf_08) jf_09) jf_10) jf_11) jf_12) jf_13) jf_14) jf_15) jf_16) jf_17) jf_18) jf_19) jf_20) jf_21) jf_22) jf_23) jf_24) jf_25) jf_26) jf_27) jf_28) jf_29) jf_30) jf_31)
end Go.Proofs.YthejfklieedjmaaGreatDoor
