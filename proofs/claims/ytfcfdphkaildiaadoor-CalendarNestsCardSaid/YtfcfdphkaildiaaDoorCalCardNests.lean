/- CalendarNests: for every uint8 and uint32 the Go function CalendarNests returns true; its tied card. Conditions: none beyond the row's own. -/
import Derived.Test.YtfcfdphkaildiaaDoorCalLawE
import Derived.Test.YtfcfdphkaildiaaDoorCalLaid
import Derived.Test.YtfcfdphkaildiaaDoorOpen
namespace Go.Proofs.YtfcfdphkaildiaaDoor.lawNests
open Go.ChangeShapes Go.WideShapes Go.ChangeAt Go.RowKit

theorem contract (H : Type) (enc : TypeId × Value → H) (W : World) (base : Nat) (args : Array Value) (ds gs : List (DataW H)) (before : List MemPlace)
    (hval : ∀ (j : Nat) t v, Tryd.f7.params[j]? = some t → args[j]? = some v → Value.okWide Tryd.prog W .any base t v)
    (hW : DataW.Whole enc Tryd.prog Tryd.f7.params.toList Rows.calendarNestsSpec.vars false W args.toList ds gs before) (hL : laidMetH Tryd.prog Rows.calendarNestsRow.laid W) :
    Calls Tryd.prog 7 args W fun e W' => ∃ v, e = .returned v ∧ Rows.calendarNestsSpec.post enc Tryd.prog Tryd.f7 false true false false W args v W' := by
  have hW' := hW
  obtain ⟨p, q, hA0, hV, rfl, hfz, hnd⟩ := hW
  have hlt : ∀ x ∈ p, x.block < W.heap.size := fun x hx => hW'.lt x (List.mem_append_left _ hx)
  have hA : DataW.TrodAll enc Tryd.prog W 0 (fun _ => true) true Tryd.f7.params.toList args.toList ds p := hA0
  rw [Tryd.params7] at hA hval
  obtain ⟨v0, vs0, d0, ds0, p0, q0, hargs, rfl, rfl, h0, r0⟩ := trodAll_cons hA
  obtain ⟨v1, vs1, d1, ds1, p1, q1, rfl, rfl, rfl, h1, r1⟩ := trodAll_cons r0
  obtain ⟨rfl, rfl, rfl⟩ := trodAll_nil r1
  obtain rfl : args = #[v0, v1] := by cases args; simp_all
  have hv0 := hval 0 5 v0 rfl rfl
  have hv1 := hval 1 62 v1 rfl rfl
  refine law_post (tb := 4) (by kernel_rfl) (by kernel_rfl) rfl Tryd.underlying4 rfl hW' ⟨rfl, rfl, rfl⟩ ?_
  clear hA0 hW' hV hfz hnd hargs hval
  obtain ⟨f, rfl, -, -, wf⟩ := open_int Tryd.underlying5 hv0 h0
  obtain ⟨t, rfl, -, -, wt⟩ := open_int Tryd.underlying62 hv1 h1
  have hf : IntKind.u8.min ≤ f ∧ f ≤ IntKind.u8.max := by simpa [Lit.wf] using wf
  have ht : IntKind.u32.min ≤ t ∧ t ≤ IntKind.u32.max := by simpa [Lit.wf] using wt
  replace hf : 0 ≤ f ∧ f ≤ 255 := hf
  replace ht : 0 ≤ t ∧ t ≤ 4294967295 := ht
  have hT := Lib.hid (tab_of_laid hL)
  by_cases c4 : f % 5 = 4
  · exact nests_4 f t (f % 5) (t % 1402560) W hT hf.1 (by omega) ht.1 (by omega) rfl rfl c4
  · by_cases c0 : f % 5 = 0
    · exact nests_0 f t (f % 5) (t % 1402560) W hT hf.1 (by omega) ht.1 (by omega) rfl rfl c0
    · exact nests_m f t (f % 5) (t % 1402560) W hT hf.1 (by omega) ht.1 (by omega) rfl rfl (by omega) (by omega)

theorem laid_met (os : Os) : laidMet Tryd.prog Rows.calendarNestsRow.laid ((laidWorld os).forCall (fun _ _ => 0) ⟨#[], #[.int .u8 0, .int .u32 0], []⟩).memory :=
  laidMet_of_run' 8 (by kernel_rfl) (by kernel_rfl)
theorem reads (os : Os) {H : Type} (enc : TypeId × Value → H) : ∃ places, DataW.whole enc Tryd.prog ((laidWorld os).forCall (fun _ _ => 0) ⟨#[], #[.int .u8 0, .int .u32 0], []⟩).memory Tryd.f7.params.toList Rows.calendarNestsSpec.vars false (#[.int .u8 0, .int .u32 0] : Array Value).toList 8 = some ([.lit (.int .u8 0), .lit (.int .u32 0)], [], places) :=
  ⟨[], by kernel_rfl⟩

set_option maxRecDepth 100000 in
theorem lifted (os : Os) (started : os.Started) (H : Type) (enc : TypeId × Value → H) (F : Stop.Interp) :
    ReturnsInHanded {} Tryd.checked os 7 .any ((OpenSpec.ofChange Rows.calendarNestsSpec).preRow enc Tryd.prog Tryd.f7 Rows.calendarNestsRow.domain false Rows.calendarNestsRow.laid) (((OpenSpec.ofChange Rows.calendarNestsSpec).at F).post enc Tryd.prog Tryd.f7 false true false false) := by
  obtain ⟨places, hx⟩ := reads os enc
  refine returnsInHanded_of_row (C := Tryd.checked) (s := (OpenSpec.ofChange Rows.calendarNestsSpec)) ownNone started (by kernel_rfl) Tryd.func7
    (witness_row_at (enc := enc) (C := Tryd.checked) false (laidWorld os) #[.int .u8 0, .int .u32 0] rfl (by kernel_rfl) (by kernel_rfl) (by kernel_rfl)
      (OpenSpec.preRow_of_cond 8 hx (by kernel_rfl) (fun k hk => by cases hk) (by kernel_rfl) (laid_met os))) ?_
  intro W base args ds gs before hval hW _ _ _ hL _ _
  exact contract H enc W base args ds gs before hval hW hL

theorem said : Rows.CalendarNestsSaid :=
  OpenClaim.holds_of_cond 7 Tryd.f7 rfl rfl rfl rfl rfl rfl rfl ⟨rfl, rfl, rfl, rfl, rfl⟩ rfl rfl rfl rfl rfl (by kernel_rfl) Tryd.func7 (by kernel_rfl)
    (of_decide_eq_true (by kernel_rfl)) (by unfold Func.isWrapper; first | (rw [if_pos (by decide +kernel)]; kernel_rfl) | (rw [if_neg (by decide +kernel)]; exact ⟨rfl, rfl⟩))
    (fun os started H enc _ F => by rw [OpenClaim.pre_eq_preRow]; exact lifted os started H enc F)

theorem plain (f : FuncId) (fn : Func) (hf : Tryd.pinned.checked.prog.funcNamed "rivermark/rivermarklaw06.CalendarNests" = some f) (hfn : Tryd.pinned.checked.prog.funcs[f]? = some fn) :
    false = Tryd.pinned.checked.prog.looks [] ∧ ∀ (j : Nat) t, fn.params[j]? = some t → Tryd.pinned.checked.prog.wantsStandIn t = false := by
  obtain rfl : f = 7 := Option.some.inj ((show Tryd.prog.funcNamed "rivermark/rivermarklaw06.CalendarNests" = some 7 by kernel_rfl).symm.trans hf) |>.symm
  obtain rfl : fn = Tryd.f7 := (Option.some.inj (Tryd.func7.symm.trans hfn)).symm
  refine ⟨by kernel_rfl, fun j t ht => ?_⟩
  have hall : (Tryd.f7.params.toList.all fun u => !Tryd.prog.wantsStandIn u) = true := by kernel_rfl
  have hm : t ∈ Tryd.f7.params.toList := by simpa using Array.mem_of_getElem? ht
  exact (show Tryd.prog.wantsStandIn t = false by simpa using List.all_eq_true.1 hall t hm)

theorem card : Rows.CalendarNestsCardSaid :=
  Claim7.holds_tied_plain_at .later [] _ _ _ _ said (fun _ h => by cases h) (by kernel_rfl) (fun _ h => by cases h) calendarNests_row_tie rfl ⟨rfl, rfl⟩ (by kernel_rfl) rfl plain (by kernel_rfl)
#print axioms card
end Go.Proofs.YtfcfdphkaildiaaDoor.lawNests
