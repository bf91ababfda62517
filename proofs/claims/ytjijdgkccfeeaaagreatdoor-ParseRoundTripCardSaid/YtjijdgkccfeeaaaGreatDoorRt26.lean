/- Part 26 of the proof of card: ParOpenV, ParLaid, ParCardTrip. Conditions: those of each theorem. -/
import Derived.Stop.LaidErr
import Derived.LaidSub
import Derived.LaidMore
import Derived.Lib.LaidTab
import Derived.Lib.SmallJoins
import Derived.Deep.DeepWitnessRowRef
import Derived.ChangeMaps5
import Derived.Test.YtjijdgkccfeeaaaGreatDoorRt01
import Derived.Test.YtjijdgkccfeeaaaGreatDoorRt06
import Derived.Test.YtjijdgkccfeeaaaGreatDoorRt17
import Derived.Test.YtjijdgkccfeeaaaGreatDoorRt18
import Derived.Test.YtjijdgkccfeeaaaGreatDoorRt19
import Derived.Test.YtjijdgkccfeeaaaGreatDoorRt25
namespace Go.Proofs.YtjijdgkccfeeaaaGreatDoor
open Go Go.RowKit Go.WideShapes Go.ChangeShapes Go.Deep
section
variable {H : Type} {enc : TypeId × Value → H} {w : World} {held : Bool} {r : Reach} {b0 : Nat} {v : Value} {d : DataW H} {p : List MemPlace}
set_option maxRecDepth 20000 in
theorem forms_param (hv : Value.okWide Tryz.prog w r b0 23 v) (h : DataW.Trod enc Tryz.prog w 0 (fun _ => true) held 23 v d p) : ∃ fs, FormsAt w (fun _ => True) fs v ∧ ∀ f ∈ fs, WfF f := by
  obtain ⟨a, len, cap, rfl⟩ := okWide_slice Tryz.underlying23 hv
  obtain ⟨fuel, hf⟩ := h
  obtain ⟨fs, -, h1, h2, -⟩ := forms_open fuel _ _ hf
  exact ⟨fs, h1.move (Turned.refl (fun _ => False) _) (fun _ _ => id) (fun _ _ _ => trivial), h2⟩
set_option maxRecDepth 20000 in
theorem ex_param (hv : Value.okWide Tryz.prog w r b0 31 v) (h : DataW.Trod enc Tryz.prog w 0 (fun _ => true) held 31 v d p) : ∃ e u, v = exA e u ∧ KidsAt w (fun _ => True) e.kids u ∧ WfX e := by
  obtain ⟨cs, rfl, hsz⟩ := okWide_struct Tryz.underlying31 hv
  obtain ⟨fuel, hf⟩ := h
  obtain ⟨e, u, h1, h2, h3⟩ := ex_open (by rw [cExpr] at hsz; simpa [Value.cells] using hsz) hf
  refine ⟨e, u, ?_, h2.move (Turned.refl (fun _ => False) _) (fun _ _ => id) (fun _ _ _ => trivial), h3⟩
  unfold exA
  congr 1
  apply Array.ext'
  exact h1
end
end Go.Proofs.YtjijdgkccfeeaaaGreatDoor
namespace Go.Proofs.YtjijdgkccfeeaaaGreatDoor
open Go Go.Proofs Go.RowKit Go.WideShapes Go.ChangeShapes Go.Shelf
def parLaid : List (String × DataW Unit) := [("math/bits.deBruijn32tab", Rows.laid_math_bits_deBruijn32tab), ("math/bits.deBruijn64tab", Rows.laid_math_bits_deBruijn64tab), ("internal/strconv.uint64pow10", Rows.laid_internal_strconv_uint64pow10), ("strconv.ErrRange", Rows.laid_strconv_ErrRange), ("strconv.ErrSyntax", Rows.laid_strconv_ErrSyntax), ("unicode.White_Space", Rows.laid_unicode_White_Space), ("strings.asciiSpace", Rows.laid_strings_asciiSpace)]
theorem gES : Tryz.prog.globalNamed "strconv.ErrSyntax" = some 4 := by kernel_rfl
theorem gER : Tryz.prog.globalNamed "strconv.ErrRange" = some 5 := by kernel_rfl
theorem gAS : Tryz.prog.globalNamed "strings.asciiSpace" = some 0 := by kernel_rfl
theorem gPW : Tryz.prog.globalNamed "internal/strconv.uint64pow10" = some 1 := by kernel_rfl
theorem gESType : (Tryz.prog.globals[4]?).map (·.type) = some 176 := by kernel_rfl
theorem gERType : (Tryz.prog.globals[5]?).map (·.type) = some 176 := by kernel_rfl
theorem gASType : (Tryz.prog.globals[0]?).map (·.type) = some 209 := by kernel_rfl
theorem starErr : "*" ++ "errors.errorString" = "*errors.errorString" := by decide
theorem rowErrStr (u : TypeId) (h : Tryz.prog.typeName? 3 u = some "*errors.errorString") : u = 284 :=
  typeName_ptr_named (nm := "errors.errorString") (by rw [starErr]; kernel_rfl) (by kernel_rfl) (by decide) u (by rw [starErr]; exact h)
theorem cellsErrStr : Tryz.prog.cellsOf 286 = 1 := by kernel_rfl
theorem cellsStr : Tryz.prog.cellsOf 9 = 1 := by kernel_rfl
theorem cellsU8 : Tryz.prog.cellsOf 5 = 1 := by kernel_rfl
theorem cellsA256 : Tryz.prog.cellsOf 209 = 256 := by kernel_rfl
theorem gPWType : (Tryz.prog.globals[1]?).map (·.type) = some 224 := by kernel_rfl
theorem cellsU64 : Tryz.prog.cellsOf 196 = 1 := by kernel_rfl
theorem cellsA20 : Tryz.prog.cellsOf 224 = 20 := by kernel_rfl
theorem laid_one {W : World} (h : laidMetH Tryz.prog parLaid W) (nm : String) (d : DataW Unit) (hf : parLaid.filter (fun x => x.1 == nm) = [(nm, d)]) (hh : d.handleName?.isNone = true) : laidMet Tryz.prog [(nm, d)] W := by
  have h1 := h.filter fun x => x.1 == nm
  rw [hf] at h1
  have h2 := (laidMetH_iff.1 h1).1
  simpa [hh] using h2
theorem var_lt {W : World} {nm : String} {cs : Array Value} {g : Nat} (h : W.var? Tryz.prog nm = some cs) (hg : Tryz.prog.globalNamed nm = some g) : g < W.heap.size := by
  unfold World.var? at h
  rw [hg] at h
  simp only [Option.bind_some] at h
  rcases Nat.lt_or_ge g W.heap.size with h' | h'
  · exact h'
  · simp [Array.getElem?_eq_none h'] at h
theorem pv_of_laid {W : World} (h : laidMetH Tryz.prog parLaid W) : PV W.heap.size W := by
  obtain ⟨a0, s0, hv0, -, -, -⟩ := laid_sentinel (r := []) (laid_one h "strconv.ErrSyntax" Rows.laid_strconv_ErrSyntax (by kernel_rfl) (by kernel_rfl)) gES gESType Tryz.underlying176 rowErrStr Tryz.underlying284 Tryz.underlying286 rfl rfl Tryz.underlying9 cellsErrStr cellsStr
  obtain ⟨a1, s1, hv1, -, -, -⟩ := laid_sentinel (r := []) (laid_one h "strconv.ErrRange" Rows.laid_strconv_ErrRange (by kernel_rfl) (by kernel_rfl)) gER gERType Tryz.underlying176 rowErrStr Tryz.underlying284 Tryz.underlying286 rfl rfl Tryz.underlying9 cellsErrStr cellsStr
  have h2 : Lib.TabIs Tryz.prog W "strings.asciiSpace" .u8 Lib.asciiSpaceTab :=
    Lib.tabIs_of_head (rest := []) gAS gASType Tryz.underlying209 Tryz.underlying5 cellsU8 cellsA256 (laid_one h "strings.asciiSpace" (Lib.tabData .u8 Lib.asciiSpaceTab) (by kernel_rfl) (by kernel_rfl))
  have h3 : Lib.TabIs Tryz.prog W "internal/strconv.uint64pow10" .u64 Lib.pow10Tab :=
    Lib.tabIs_of_head (rest := []) gPW gPWType Tryz.underlying224 Tryz.underlying196 cellsU64 cellsA20 (laid_one h "internal/strconv.uint64pow10" (Lib.tabData .u64 Lib.pow10Tab) (by kernel_rfl) (by kernel_rfl))
  have hs := var_lt hv1 gER
  have lt : ∀ {nm : String} {g0 : Nat}, Tryz.prog.globalNamed nm = some g0 → g0 < 6 → ∀ g, Tryz.prog.globalNamed nm = some g → g < W.heap.size := fun h0 hl g hg => by
    rw [h0] at hg; cases hg; omega
  refine ⟨⟨⟨_, _, hv0, lt gES (by omega)⟩, ⟨_, _, hv1, lt gER (by omega)⟩, h2, lt gAS (by omega)⟩, h3, lt gPW (by omega)⟩
end Go.Proofs.YtjijdgkccfeeaaaGreatDoor
namespace Go.Proofs.YtjijdgkccfeeaaaGreatDoor.lawRound
open Go.ChangeShapes Go.WideShapes Go.ChangeAt Go.RowKit
set_option maxRecDepth 100000 in
theorem contract (H : Type) (enc : TypeId × Value → H) (W : World) (base : Nat) (args : Array Value) (ds gs : List (DataW H)) (before : List MemPlace)
    (hval : ∀ (j : Nat) t v, Tryz.f7.params[j]? = some t → args[j]? = some v → Value.okWide Tryz.prog W .any base t v)
    (hW : DataW.Whole enc Tryz.prog Tryz.f7.params.toList Rows.parseRoundTripSpec.vars false W args.toList ds gs before) (hL : laidMetH Tryz.prog Rows.parseRoundTripRow.laid W) :
    Calls Tryz.prog 7 args W fun e W' => ∃ v, e = .returned v ∧ Rows.parseRoundTripSpec.post enc Tryz.prog Tryz.f7 false true false false W args v W' := by
  have hW' := hW
  obtain ⟨p, q, hA0, hV, rfl, hfz, hnd⟩ := hW
  have hlt : ∀ x ∈ p, x.block < W.heap.size := fun x hx => hW'.lt x (List.mem_append_left _ hx)
  have hA : DataW.TrodAll enc Tryz.prog W 0 (fun _ => true) true Tryz.f7.params.toList args.toList ds p := hA0
  rw [Tryz.params7] at hA hval
  obtain ⟨v0, vs0, d0, ds0, p0, q0, hargs, rfl, rfl, h0, r0⟩ := trodAll_cons hA
  obtain ⟨v1, vs1, d1, ds1, p1, q1, rfl, rfl, rfl, h1, r1⟩ := trodAll_cons r0
  obtain ⟨v2, vs2, d2, ds2, p2, q2, rfl, rfl, rfl, h2, r2⟩ := trodAll_cons r1
  obtain ⟨rfl, rfl, rfl⟩ := trodAll_nil r2
  obtain rfl : args = #[v0, v1, v2] := by cases args; simp_all
  have hv0 := hval 0 23 v0 rfl rfl
  have hv1 := hval 1 31 v1 rfl rfl
  have hv2 := hval 2 9 v2 rfl rfl
  refine law_post (tb := 4) (by kernel_rfl) (by kernel_rfl) rfl Tryz.underlying4 rfl hW' ⟨rfl, rfl, rfl⟩ ?_
  clear hA0 hW' hV hfz hnd hargs hval
  obtain ⟨l, hl, wl⟩ := forms_param hv0 h0
  obtain ⟨x, ux, rfl, hx, wx⟩ := ex_param hv1 h1
  obtain ⟨s, rfl, -, -, -⟩ := Go.ChangeMaps.open_string Tryz.underlying9 hv2 h2
  exact trip_any l x s v0 ux W (pv_of_laid hL) hl hx wl wx
theorem laid_met (os : Os) : laidMet Tryz.prog Rows.parseRoundTripRow.laid ((World.doorLaid Tryz.prog 4000 os).forCall (fun _ _ => 0) ⟨#[], #[.slice none 0 0, .agg #[.int .i64 0, .int .i64 0, .string ⟨#[]⟩, .slice none 0 0, .int .i64 0], .string ⟨#[]⟩], []⟩).memory :=
  laidMet_of_run' 8 (by kernel_rfl) (by kernel_rfl)
theorem reads (os : Os) {H : Type} (enc : TypeId × Value → H) : ∃ places, DataW.whole enc Tryz.prog ((World.doorLaid Tryz.prog 4000 os).forCall (fun _ _ => 0) ⟨#[], #[.slice none 0 0, .agg #[.int .i64 0, .int .i64 0, .string ⟨#[]⟩, .slice none 0 0, .int .i64 0], .string ⟨#[]⟩], []⟩).memory Tryz.f7.params.toList Rows.parseRoundTripSpec.vars false (#[.slice none 0 0, .agg #[.int .i64 0, .int .i64 0, .string ⟨#[]⟩, .slice none 0 0, .int .i64 0], .string ⟨#[]⟩] : Array Value).toList 8 = some ([.nil, .agg [.lit (.int .i64 0), .lit (.int .i64 0), .lit (.string []), .nil, .lit (.int .i64 0)], .lit (.string [])], [], places) :=
  ⟨[], by kernel_rfl⟩
set_option maxRecDepth 100000 in
theorem lifted (os : Os) (started : os.Started) (H : Type) (enc : TypeId × Value → H) (F : Stop.Interp) :
    ReturnsInHanded {} Tryz.checked os 7 .any ((OpenSpec.ofChange Rows.parseRoundTripSpec).preRow enc Tryz.prog Tryz.f7 Rows.parseRoundTripRow.domain false Rows.parseRoundTripRow.laid) (((OpenSpec.ofChange Rows.parseRoundTripSpec).at F).post enc Tryz.prog Tryz.f7 false true false false) := by
  obtain ⟨places, hx⟩ := reads os enc
  refine returnsInHanded_of_row (C := Tryz.checked) (s := (OpenSpec.ofChange Rows.parseRoundTripSpec)) ownNone started (by kernel_rfl) Tryz.func7
    (witness_row_atRef (enc := enc) (C := Tryz.checked) false (World.doorLaid Tryz.prog 4000 os) #[.slice none 0 0, .agg #[.int .i64 0, .int .i64 0, .string ⟨#[]⟩, .slice none 0 0, .int .i64 0], .string ⟨#[]⟩] rfl (by kernel_rfl) (by kernel_rfl) (by kernel_rfl)
      (OpenSpec.preRow_of_cond 8 hx (by kernel_rfl) (fun k hk => by cases hk) (by kernel_rfl) (laid_met os))) ?_
  intro W base args ds gs before hval hW _ _ _ hL _ _
  exact contract H enc W base args ds gs before hval hW hL
theorem said : Rows.ParseRoundTripSaid :=
  OpenClaim.holds_of_cond 7 Tryz.f7 rfl rfl rfl rfl rfl rfl rfl ⟨rfl, rfl, rfl, rfl, rfl⟩ rfl rfl rfl rfl rfl (by kernel_rfl) Tryz.func7 (by kernel_rfl)
    (of_decide_eq_true (by kernel_rfl)) (by unfold Func.isWrapper; first | (rw [if_pos (by decide +kernel)]; kernel_rfl) | (rw [if_neg (by decide +kernel)]; exact ⟨rfl, rfl⟩))
    (fun os started H enc _ F => by rw [OpenClaim.pre_eq_preRow]; exact lifted os started H enc F)
theorem plain (f : FuncId) (fn : Func) (hf : Tryz.pinned.checked.prog.funcNamed "rivermark/rivermarklaw08.ParseRoundTrip" = some f) (hfn : Tryz.pinned.checked.prog.funcs[f]? = some fn) :
    true = Tryz.pinned.checked.prog.looks [] ∧ ∀ (j : Nat) t, fn.params[j]? = some t → Tryz.pinned.checked.prog.wantsStandIn t = false := by
  obtain rfl : f = 7 := Option.some.inj ((show Tryz.prog.funcNamed "rivermark/rivermarklaw08.ParseRoundTrip" = some 7 by kernel_rfl).symm.trans hf) |>.symm
  obtain rfl : fn = Tryz.f7 := (Option.some.inj (Tryz.func7.symm.trans hfn)).symm
  refine ⟨by kernel_rfl, fun j t ht => ?_⟩
  have hall : (Tryz.f7.params.toList.all fun u => !Tryz.prog.wantsStandIn u) = true := by kernel_rfl
  have hm : t ∈ Tryz.f7.params.toList := by simpa using Array.mem_of_getElem? ht
  exact (show Tryz.prog.wantsStandIn t = false by simpa using List.all_eq_true.1 hall t hm)
theorem card : Rows.ParseRoundTripCardSaid :=
  Claim7.holds_tied_plain_at .later [] _ _ _ _ said (fun _ h => by cases h) (by kernel_rfl) (fun _ h => by cases h) parseRoundTrip_row_tie rfl ⟨rfl, rfl⟩ (by kernel_rfl) rfl plain (by kernel_rfl)
#print axioms card
end Go.Proofs.YtjijdgkccfeeaaaGreatDoor.lawRound
