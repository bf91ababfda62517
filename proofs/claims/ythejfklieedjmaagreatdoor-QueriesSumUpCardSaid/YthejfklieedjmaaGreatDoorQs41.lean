/- Part 41 of the proof of lawSum.card: QryFacts. Conditions: those of each theorem. -/
import Derived.Test.YthejfklieedjmaaGreatDoorRows
import Derived.JoinedCond
import Derived.KernelRfl
import Derived.Test.YthejfklieedjmaaGreatDoorQs01
import Derived.Test.YthejfklieedjmaaGreatDoorQs22
namespace Go.Proofs.YthejfklieedjmaaGreatDoor
open Go Go.Proofs Go.RowKit Go.WideShapes Go.ChangeShapes
theorem and_tt {a b : Bool} (h : a = true) (g : b = true) : (a && b) = true := by rw [h, g]; rfl
theorem jf_00 : (Rows.queriesSumUpRow.wf (OpenSpec.ofChange (OpenSpec.ofChange Rows.queriesSumUpSpec).bare)) = true := by kernel_rfl
theorem jf_01 : (laidOutB Tryz.prog) = true := by kernel_rfl
theorem jf_02 : (mapsRowed Tryz.prog) = true := by kernel_rfl
theorem jf_03 : (Tryz.f4.params.all (Tryz.prog.readableRec ·)) = true := by kernel_rfl
theorem jf_04 : (namedTie Tryz.prog Rows.queriesSumUpRow.named (OpenSpec.ofChange Rows.queriesSumUpSpec).bare.vars) = true := by kernel_rfl
theorem jf_05 : ((Rows.queriesSumUpRow.stops == [])) = true := by kernel_rfl
theorem jf_06 : ((Tryz.prog.stops == [])) = true := by kernel_rfl
theorem jf_07 : ((Rows.queriesSumUpRow.knobs == [])) = true := by kernel_rfl
theorem jf_08 : ((Tryz.prog.stopKnobs == [])) = true := by kernel_rfl
theorem jf_09 : ((Rows.queriesSumUpRow.inPlace == Tryz.prog.inPlace 4)) = true := by kernel_rfl
theorem jf_10 : ((Rows.queriesSumUpRow.unfollowed == Tryz.prog.unfollowed 4)) = true := by kernel_rfl
theorem jf_11 : ((Rows.queriesSumUpRow.recurses == Tryz.prog.recurses 4)) = true := by kernel_rfl
theorem jf_12 : ((Rows.queriesSumUpRow.named == Tryz.prog.varsNamed 4)) = true := by kernel_rfl
theorem jf_13 : ((Rows.queriesSumUpRow.maps == (Tryz.f4.params.toList ++ (OpenSpec.ofChange Rows.queriesSumUpSpec).bare.plain.varTypes Tryz.prog).any (Tryz.prog.mapsRec ·))) = true := by kernel_rfl
theorem jf_14 : ((Rows.queriesSumUpRow.ifaces == (Tryz.f4.params.toList ++ (OpenSpec.ofChange Rows.queriesSumUpSpec).bare.plain.varTypes Tryz.prog).any (Tryz.prog.ifacesRec ·))) = true := by kernel_rfl
theorem jf_15 : ((Rows.queriesSumUpRow.mapsOut == Tryz.prog.mapsAmong Tryz.f4.resultTypes.toList)) = true := by kernel_rfl
theorem jf_16 : ((Rows.queriesSumUpRow.loops == (Tryz.f4.params.toList ++ (OpenSpec.ofChange Rows.queriesSumUpSpec).bare.plain.varTypes Tryz.prog).any (Tryz.prog.loopsFrom ·))) = true := by kernel_rfl
theorem jf_17 : ((Rows.queriesSumUpRow.wideKeys == (Tryz.f4.params.toList ++ (OpenSpec.ofChange Rows.queriesSumUpSpec).bare.plain.varTypes Tryz.prog ++ Tryz.f4.resultTypes.toList).any (Tryz.prog.wideKeysFrom ·))) = true := by kernel_rfl
theorem jf_18 : ((OpenSpec.ofChange Rows.queriesSumUpSpec).bare.vars.all (Tryz.prog.varReadable ·)) = true := by kernel_rfl
theorem jf_19 : (Tryz.f4.resultTypes.all (fun t => Tryz.prog.readableRec t && decide (t < Tryz.prog.types.size))) = true := by kernel_rfl
theorem jf_20 : ((Rows.queriesSumUpRow.ifacesOut == Tryz.f4.resultTypes.toList.any (Tryz.prog.ifacesRec ·))) = true := by kernel_rfl
theorem jf_21 : ((Rows.queriesSumUpRow.loopsOut == Tryz.f4.resultTypes.toList.any (Tryz.prog.loopsFrom ·))) = true := by kernel_rfl
theorem jf_22 : ((Rows.queriesSumUpRow.plainKeys == Tryz.prog.plainKeys)) = true := by kernel_rfl
theorem jf_23 : (Rows.queriesSumUpRow.shortTexts.isNone) = true := by kernel_rfl
theorem jf_24 : (Tryz.prog.stopsHeard) = true := by kernel_rfl
theorem jf_25 : (Tryz.prog.mayEnter) = true := by kernel_rfl
theorem jf_26 : ((Rows.queriesSumUpRow.lifted == Tryz.prog.liftsFinal)) = true := by kernel_rfl
theorem jf_27 : ((Tryz.prog.make == some Rows.queriesSumUpRow.make)) = true := by kernel_rfl
theorem jf_28 : ((Rows.queriesSumUpRow.kinds == (if Rows.queriesSumUpRow.domain.isEmpty then [] else Tryz.f4.params.toList.map fun t => match Tryz.prog.underlying t with | some (.int k) => some k | _ => none))) = true := by kernel_rfl
theorem jf_29 : ((Rows.queriesSumUpRow.pinned == Rows.queriesSumUpRow.pinnedBy)) = true := by kernel_rfl
theorem jf_30 : ((Rows.queriesSumUpRow.veiled == (Tryz.f4.params.toList ++ (OpenSpec.ofChange Rows.queriesSumUpSpec).bare.plain.varTypes Tryz.prog ++ Tryz.f4.resultTypes.toList).any (Tryz.prog.veiledRec ·))) = true := by kernel_rfl
theorem jf_31 : (Rows.queriesSumUpRow.veiledFits Tryz.prog Tryz.f4.params.toList (Tryz.f4.params.toList ++ (OpenSpec.ofChange Rows.queriesSumUpSpec).bare.plain.varTypes Tryz.prog ++ Tryz.f4.resultTypes.toList)) = true := by kernel_rfl
end Go.Proofs.YthejfklieedjmaaGreatDoor
