/- Walk of the calendar's statement CalendarCoversAsSpecified. Conditions: TabOK. Printed by gen_lawd.py. -/
import Derived.Test.YtfcfdphkaildiaaDoorCalWalkT
import Derived.Test.YtfcfdphkaildiaaDoorCalLawC
namespace Go.Proofs.YtfcfdphkaildiaaDoor
open Go Go.Proofs Go.RowKit
attribute [local go_sem] Oper.semAt_some

theorem cov_agree (f t : Int) : ∃ xs e, (∀ W, Hid (TabOK W) → Calls Tryd.prog 28 #[(.int .i64 f), (.int .i64 t)] W (RetBins xs e W)) ∧ ∀ W, Calls Tryd.prog 29 #[(.int .i64 f), (.int .i64 t)] W (RetListed xs e W) := by
  cases h : ivB f t
  · exact ⟨[], 3, fun W _ => cover_no f t W h, fun W => rcover_no f t W h⟩
  · exact ⟨_, 0, fun W hT => cover_yes f t W hT h, fun W => rcover_yes f t W h⟩

theorem covers_any (f t : Int) (w : World) (hT : Hid (TabOK w)) : Calls Tryd.prog 5 #[(.int .i64 f), (.int .i64 t)] w fun e w' => e = .returned (.bool true) ∧ Below w.heap.size w w' := by
  obtain ⟨ms, me, hMA, hMB⟩ := cov_agree f t
  have MA := Lib.hid hMA; have MB := Lib.hid hMB
  clear hMA hMB
  have HSA : Hid (∀ W, Hid (TabOK W) → Calls Tryd.prog 13 #[] W fun e w' => e = .returned (.bool true) ∧ Below W.heap.size W w') := fun W h => sanity_any W h
  have bme : (me == me) = true := by simp
  have ST0 := St.start hT.out stays_tab
  go_enter Tryd.func5, Tryd.ntmps5
  go_wp2_with fail
  refine (MA.out _ (Lib.hid ST0.out.tab)).mono ?_
  rintro e U1 ⟨v17, rfl, hR, hb⟩
  have ST1 := St.call ST0 hb
  clear hb ST0 
  have ST2 := St.more ST1 hR (stays_reads v17 ms)
  clear ST1
  clear hR
  go_wp2_with fail
  refine (MB.out _).mono ?_
  rintro e U2 ⟨v19, rfl, hR, hb⟩
  have ST3 := St.call ST2 hb
  clear hb ST2 U1
  obtain ⟨a19, k19, rfl⟩ := reads_shape hR
  have ST4 := St.more ST3 hR (stays_reads _ ms)
  clear ST3
  clear hR
  go_wp2_with fail
  obtain ⟨U3, B19, hW, hB, -, ST5⟩ := St.box ST4 (.cells #[.slice a19 ms.length k19, (.int .i64 me)] 50)
  rw [← hW, ← hB]
  clear ST4 hW hB U2
  refine (HSA.out _ (Lib.hid ST5.out.tab.1.1)).mono ?_
  rintro e U4 ⟨rfl, hb⟩
  have ST6 := St.call ST5 hb
  clear hb ST5 U3
  obtain ⟨cB190, cB191⟩ := St.cells2 ST6 0 rfl
  have zB19 := St.lt ST6 0 rfl
  go_wp2_with fail
  clear cB190 cB191 zB19
  refine (same_true _ _ ms _ ST6.out.tab.1.2 ST6.out.tab.2).mono ?_
  rintro e U5 ⟨rfl, hb⟩
  have ST7 := St.call ST6 hb
  clear hb ST6 U4
  obtain ⟨cB190, cB191⟩ := St.cells2 ST7 0 rfl
  have zB19 := St.lt ST7 0 rfl
  go_wp2_with fail
  go_ret
  exact ⟨rfl, ST7.out.bel⟩
end Go.Proofs.YtfcfdphkaildiaaDoor
