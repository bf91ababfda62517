/- Part 35 of the proof of lawMatches.card: ParMatches, Post, ParLaid, ParCardMatches. Conditions: those of each theorem. -/
import Derived.Test.YtjijdgkccfeeaaaGreatDoorCards
import Derived.Test.YtjijdgkccfeeaaaGreatDoorTie
import Derived.Below
import Derived.ChangeSame
import Derived.WalkKit
import Derived.ProofKit
import Derived.OpenShut
import Derived.Deep.DeepHandedRow
import Derived.Lib.LaidTab
import Derived.WideKeyArgs
import Derived.Carry
import Derived.Stop.LaidErr
import Derived.LaidSub
import Derived.LaidMore
import Derived.Lib.SmallJoins
import Derived.Deep.DeepWitnessRowRef
import Derived.ChangeMaps5
import Derived.Test.YtjijdgkccfeeaaaGreatDoorMt01
import Derived.Test.YtjijdgkccfeeaaaGreatDoorMt22
import Derived.Test.YtjijdgkccfeeaaaGreatDoorMt23
import Derived.Test.YtjijdgkccfeeaaaGreatDoorMt25
import Derived.Test.YtjijdgkccfeeaaaGreatDoorMt34
namespace Go.Proofs.YtjijdgkccfeeaaaGreatDoor
open Go Go.Proofs Go.RowKit
attribute [local go_sem] Oper.semAt_some
theorem rforms_v (s : ByteArray) (w : World) (hs : s.size ≤ 70000) : Calls Tryz.prog 11 #[.string s] w fun e w' => ∃ p c, e = .returned (.agg #[.slice p (formsV s).1.length c, (.int .i64 0), (.int .i64 0), .string ⟨#[]⟩, .slice none 0 0, (.int .i64 0), (.int .i64 ((formsV s).2.1)), (.int .i64 ((formsV s).2.2))]) ∧ FormsAt w' (fun _ => True) (formsV s).1 (.slice p (formsV s).1.length c) ∧ Below w.heap.size w w' := by
  refine (rformsS_any s w hs).mono ?_
  intro e w' h
  unfold ReadF at h
  cases hr : formsP s with
  | bad a c =>
    have e1 : formsV s = ([], a, c) := by rw [formsV, hr]
    rw [hr] at h
    rw [e1]
    exact ⟨none, 0, h.2, .nil _ _, below_turned h.1⟩
  | ok fs =>
    have e1 : formsV s = (fs, 0, 0) := by rw [formsV, hr]
    rw [hr] at h
    rw [e1]
    obtain ⟨ht, p, c, rfl, hf⟩ := h
    exact ⟨p, c, rfl, hf.move (Turned.refl (fun _ => False) _) (fun _ _ => id) (fun _ _ _ => trivial), below_turned ht⟩
theorem rexpr_v (s : ByteArray) (w : World) (hs : s.size ≤ 70000) : Calls Tryz.prog 12 #[.string s] w fun e w' => ∃ p c, e = .returned (.agg #[.slice none 0 0, (.int .i64 ((exprV s).1.op)), (.int .i64 ((exprV s).1.n)), .string (exprV s).1.s, .slice p (exprV s).1.kids.length c, (.int .i64 ((exprV s).1.at_)), (.int .i64 ((exprV s).2.1)), (.int .i64 ((exprV s).2.2))]) ∧ KidsAt w' (fun _ => True) (exprV s).1.kids (.slice p (exprV s).1.kids.length c) ∧ Below w.heap.size w w' := by
  refine (rexprS_any s w hs).mono ?_
  intro e w' h
  unfold ReadE at h
  cases hr : exprP s with
  | bad a c =>
    have e1 : exprV s = (noEx, a, c) := by rw [exprV, hr]
    rw [hr] at h
    rw [e1]
    exact ⟨none, 0, h.2, .nil _ _, below_turned h.1⟩
  | ok x =>
    have e1 : exprV s = (x, 0, 0) := by rw [exprV, hr]
    rw [hr] at h
    rw [e1]
    obtain ⟨ht, p, c, rfl, hf⟩ := h
    exact ⟨p, c, rfl, hf.move (Turned.refl (fun _ => False) _) (fun _ _ => id) (fun _ _ _ => trivial), below_turned ht⟩
theorem rsame_true (l : List Fm) (u v : Value) (W : World) (h1 : FormsAt W (fun _ => True) l u) (h2 : FormsAt W (fun _ => True) l v) : Calls Tryz.prog 13 #[u, v, .bool true] W fun e w' => e = .returned (.bool true) ∧ Below W.heap.size W w' := by
  have := rsame_any _ l (Nat.le_refl _) true l u v W h1 h2
  rw [sameFs_refl] at this
  exact this.mono fun e w' h => ⟨h.1, below_turned h.2⟩
theorem rsameX_true (x : Ex) (a b : Value) (W : World) (h1 : KidsAt W (fun _ => True) x.kids a) (h2 : KidsAt W (fun _ => True) x.kids b) : Calls Tryz.prog 14 #[exA x a, exA x b, .bool true] W fun e w' => e = .returned (.bool true) ∧ Below W.heap.size W w' := by
  have := rsameExpr_any _ x (Nat.le_refl _) true x a b W h1 h2
  rw [sameX_refl] at this
  exact this.mono fun e w' h => ⟨h.1, below_turned h.2⟩
set_option maxRecDepth 20000 in
set_option maxHeartbeats 4000000 in
theorem matches_any (s : ByteArray) (w : World) (hv : PV w.heap.size w) : Calls Tryz.prog 3 #[.string s] w fun e w' => e = .returned (.bool true) ∧ Below w.heap.size w w' := by
  by_cases hs : 500 < s.size
  · have hs2 : (500 : Int) < (s.size : Int) := by omega
    have HS := Lib.hid (sanity_any w hv)
    clear hv hs
    go_enter Tryz.func3, Tryz.ntmps3
    go_wp2_with (go_at_call 8; refine HS.out.mono ?_; rintro e w' ⟨rfl, hb⟩)
    go_ret
    exact ⟨rfl, hb⟩
  · have hs2 : ¬ (500 : Int) < (s.size : Int) := by omega
    obtain ⟨n, hn⟩ : ∃ n, n = w.heap.size := ⟨_, rfl⟩
    rw [← hn] at hv
    have hn2 := Nat.le_of_eq hn
    clear hn
    have HPV : Hid (∀ W, PV n W → n ≤ W.heap.size → PV W.heap.size W) := Lib.hid fun W h hm => h.mono hm
    have S0 := St.start (T := PV n) hv (stays_pv n)
    have HN := Lib.hid hn2
    have HSZ : Hid (s.size ≤ 70000) := Lib.hid (by omega)
    clear hv hn2 hs
    obtain ⟨fs, pa, pc, hf⟩ : ∃ fs a c, formsV s = (fs, a, c) := ⟨_, _, _, rfl⟩
    obtain ⟨x, qa, qc, hx⟩ : ∃ x a c, exprV s = (x, a, c) := ⟨_, _, _, rfl⟩
    have F1 := Lib.hid (fun W (h : PV W.heap.size W) => forms_v s W h)
    have F2 := Lib.hid (fun W (h : PV W.heap.size W) => expr_v s W h)
    have F3 := Lib.hid (fun W => rforms_v s W HSZ.out)
    have F4 := Lib.hid (fun W => rexpr_v s W HSZ.out)
    simp only [hf] at F1 F3
    simp only [hx] at F2 F4
    clear hf hx HSZ
    go_enter Tryz.func3, Tryz.ntmps3
    go_upto_region 4 with (go_at_call 9; refine (F1.out _ (HPV.out _ S0.out.tab (Nat.le_trans HN.out S0.out.bel.size))).mono ?_; rintro e V1 ⟨pF, cF, rfl, hF, hb⟩; have S1 := St.more (St.call S0 hb) hF (stays_forms _ _); clear hb hF)
    clear S0 F1
    obtain ⟨V2, b4, hW, hB, hbl, S2⟩ := St.box S1 (.cells #[(.int .i64 pa), (.int .i64 pc)] 26)
    rw [← hW, ← hB]
    clear hW hB hbl S1
    go_upto_region 5 with (go_at_call 10; refine (F2.out _ (HPV.out _ S2.out.tab.1 (Nat.le_trans HN.out S2.out.bel.size))).mono ?_; rintro e V2a ⟨pX, cX, rfl, hF, hb⟩; have S3 := St.more (St.call S2 hb) hF (stays_kids _ _); clear hb hF)
    clear S2 F2
    obtain ⟨V4, b5, hW, hB, hbl, S4⟩ := St.box S3 (.cells #[(.int .i64 (x.op)), (.int .i64 (x.n)), .string x.s, .slice pX x.kids.length cX, (.int .i64 (x.at_))] 31)
    have hs : V4.heap.size = b5 + 1 := by rw [hW, hB]; simp
    rw [← hW, ← hB]
    clear hW hB hbl S3
    obtain ⟨V5, b6, hW, hB, hbl, S5⟩ := St.box S4 (.cells #[(.int .i64 qa), (.int .i64 qc)] 26)
    rw [hs] at hB
    rw [← hW, ← hB]
    clear hW hB hbl hs S4
    go_upto_region 6 with (go_at_call 11; refine (F3.out _).mono ?_; rintro e V5a ⟨pG, cG, rfl, hF, hb⟩; have S6 := St.more (St.call S5 hb) hF (stays_forms _ _); clear hb hF)
    clear S5 F3
    obtain ⟨V7, b7, hW, hB, hbl, S7⟩ := St.box S6 (.cells #[.slice pG fs.length cG, (.int .i64 0), (.int .i64 0), .string ⟨#[]⟩, .slice none 0 0, (.int .i64 0), (.int .i64 pa), (.int .i64 pc)] 35)
    rw [← hW, ← hB]
    clear hW hB hbl S6
    go_upto_region 7 with (go_at_call 12; refine (F4.out _).mono ?_; rintro e V7a ⟨pY, cY, rfl, hF, hb⟩; have S8 := St.more (St.call S7 hb) hF (stays_kids _ _); clear hb hF)
    clear S7 F4
    obtain ⟨V9, b8, hW, hB, hbl, S9⟩ := St.box S8 (.cells #[.slice none 0 0, (.int .i64 (x.op)), (.int .i64 (x.n)), .string x.s, .slice pY x.kids.length cY, (.int .i64 (x.at_)), (.int .i64 qa), (.int .i64 qc)] 35)
    rw [← hW, ← hB]
    clear hW hB hbl S8
    have HS := Lib.hid (sanity_any V9 (HPV.out _ S9.out.tab.1.1.1.1 (Nat.le_trans HN.out S9.out.bel.size)))
    go_wp2_with (first | (go_at_call 8; refine HS.out.mono ?_; rintro e V10 ⟨rfl, hb⟩; have S10 := St.call S9 hb; clear hb; obtain ⟨ya0, ya1⟩ := St.cells2 S10 4 rfl; obtain ⟨yb0, yb1, yb2, yb3, yb4⟩ := St.cells5 S10 3 rfl; obtain ⟨yc0, yc1⟩ := St.cells2 S10 2 rfl; obtain ⟨yd0, yd1, yd2, yd3, yd4, yd5, yd6, yd7⟩ := St.cells8 S10 1 rfl; obtain ⟨ye0, ye1, ye2, ye3, ye4, ye5, ye6, ye7⟩ := St.cells8 S10 0 rfl; have G1 := Lib.hid (rsame_true fs _ _ V10 S10.out.tab.1.1.1.2 S10.out.tab.1.2)) | (go_at_call 13; refine G1.out.mono ?_; rintro e V11 ⟨rfl, hb⟩; have S11 := St.call S10 hb; clear hb; obtain ⟨za0, za1⟩ := St.cells2 S11 4 rfl; obtain ⟨zb0, zb1, zb2, zb3, zb4⟩ := St.cells5 S11 3 rfl; obtain ⟨zc0, zc1⟩ := St.cells2 S11 2 rfl; obtain ⟨zd0, zd1, zd2, zd3, zd4, zd5, zd6, zd7⟩ := St.cells8 S11 1 rfl; obtain ⟨ze0, ze1, ze2, ze3, ze4, ze5, ze6, ze7⟩ := St.cells8 S11 0 rfl; have G2 := Lib.hid (rsameX_true x _ _ V11 S11.out.tab.1.1.2 S11.out.tab.2); unfold exA at G2) | (go_at_call 14; refine G2.out.mono ?_; rintro e V12 ⟨rfl, hb⟩; have S12 := St.call S11 hb; clear hb))
    go_ret
    exact ⟨rfl, S12.out.bel⟩
end Go.Proofs.YtjijdgkccfeeaaaGreatDoor
namespace Go.Proofs.YtjijdgkccfeeaaaGreatDoor
open Go Go.RowKit Go.WideShapes Go.ChangeShapes
theorem ownNone : ownKnob Tryz.prog.godebug = none := by kernel_rfl
section
variable {H : Type} {enc : TypeId × Value → H} {P : Program}
theorem post_of_below {f : Func} {s : ChangeSpec} {apart fresh handsOn again : Bool} {W W' : World} {args : Array Value} {v : Value} {ds gs : List (DataW H)} {before pa pv : List MemPlace}
    (hW : DataW.Whole enc P f.params.toList s.vars apart W args.toList ds gs before)
    (hres : ∀ (b : Nat) (sp : Nat → Bool) (hd : Bool), DataW.TrodAll enc P W' b sp hd f.resultTypes.toList (v.resultList f.resultTypes.size) (s.fn H (ds ++ gs)).results [])
    (hargs : ∀ sp : Nat → Bool, (∀ p ∈ before, sp p.block = true) → DataW.TrodAll enc P W' 0 sp true f.params.toList args.toList (s.fn H (ds ++ gs)).args pa)
    (hvars : ∀ sp : Nat → Bool, (∀ p ∈ before, sp p.block = true) → DataW.TrodVars enc P W' sp s.vars (s.fn H (ds ++ gs)).vars pv)
    (hps : before = pa ++ pv) (hb : Below W.heap.size W W')
    (hok : ∀ (j : Nat) (t : TypeId) (r : Value), f.resultTypes[j]? = some t → (v.resultList f.resultTypes.size)[j]? = some r → Value.okWide P W' .any 0 t r) :
    s.post enc P f apart fresh handsOn again W args v W' := by
  have hlt : ∀ p ∈ before, p.block < W.heap.size := fun p hp => hW.lt p hp
  have hold : ∀ p ∈ before, (fun b => decide (b < W.heap.size)) p.block = true := fun p hp => by simpa using hlt p hp
  refine ⟨ds, gs, before, [], pa, pv, hW, hres _ _ _, hargs _ hold, hvars _ hold, World.keptBut_mono (fun p hp => ⟨hp, ?_⟩) (hb.frame (· ∈ before)), fun _ => ?_⟩
  · rw [hps, List.mem_append] at hp
    exact Or.inr hp
  · obtain ⟨_, _, _, _, _, hz, hn⟩ := hW
    refine ⟨hok, _, _, ([] ++ pa) ++ pv, ⟨[] ++ pa, pv, trodAll_append (hargs _ (fun _ _ => rfl)) (hres _ _ _), hvars _ (fun _ _ => rfl), rfl, ?_, ?_⟩, ?_⟩
    · intro b off hp
      have hin : MemPlace.cell b off ∈ before := by rw [hps]; simpa using hp
      rw [hb.frozen (hlt _ hin)]
      exact hz b off hin
    · intro ha
      have := hn ha
      rw [hps] at this
      simpa using this
    · intro p hp _
      rw [hps]
      simpa using hp
theorem trodAll_stays (hl : laidOutB P = true) {W W' : World} (hb : Below W.heap.size W W') {sp : Nat → Bool} : ∀ (ts : List TypeId) (vs : List Value) (ds : List (DataW H)) (ps : List MemPlace), (ts.all fun t => P.readableRec t && decide (t < P.types.size)) = true →
    DataW.TrodAll enc P W 0 (fun _ => true) true ts vs ds ps → (∀ p ∈ ps, p.block < W.heap.size) → (∀ p ∈ ps, sp p.block = true) → DataW.TrodAll enc P W' 0 sp true ts vs ds ps
  | [], vs, ds, ps, _, h, _, _ => by
    obtain ⟨rfl, rfl, rfl⟩ := trodAll_nil h
    exact trodAll_mk0
  | t :: ts, vs, ds, ps, hr, h, hlt, hsp => by
    obtain ⟨v, vs', d, ds', p, q, rfl, rfl, rfl, h1, h2⟩ := trodAll_cons h
    simp only [List.all_cons, Bool.and_eq_true, decide_eq_true_eq] at hr
    exact trodAll_cons_mk (WideElems.Trod_stays hl hr.1.1 hr.1.2 h1 (fun x hx => hb.same (hlt x (List.mem_append_left _ hx))) (fun x hx => hsp x (List.mem_append_left _ hx)))
      (trodAll_stays hl hb ts vs' ds' q hr.2 h2 (fun x hx => hlt x (List.mem_append_right _ hx)) (fun x hx => hsp x (List.mem_append_right _ hx)))
theorem law_post {f : FuncId} {fn : Func} {s : ChangeSpec} {apart fresh handsOn again : Bool} {W : World} {args : Array Value} {ds gs : List (DataW H)} {before : List MemPlace} {tb : TypeId}
    (hl : laidOutB P = true) (hpar : (fn.params.toList.all fun t => P.readableRec t && decide (t < P.types.size)) = true) (hres : fn.resultTypes = #[tb]) (htb : P.underlying tb = some .bool) (hvars : s.vars = [])
    (hW : DataW.Whole enc P fn.params.toList s.vars apart W args.toList ds gs before)
    (hspec : (s.fn H ds).results = [.lit (.bool true)] ∧ (s.fn H ds).args = ds ∧ (s.fn H ds).vars = [])
    (hcall : Calls P f args W fun e W' => e = .returned (.bool true) ∧ Below W.heap.size W W') :
    Calls P f args W fun e W' => ∃ v, e = .returned v ∧ s.post enc P fn apart fresh handsOn again W args v W' := by
  refine hcall.mono fun e W' ⟨he, hb⟩ => ⟨.bool true, he, ?_⟩
  have hlt : ∀ p ∈ before, p.block < W.heap.size := fun p hp => hW.lt p hp
  have hW' := hW
  obtain ⟨p, q, hA, hV, rfl, -, -⟩ := hW
  rw [hvars] at hV
  obtain ⟨rfl, rfl⟩ := trodVars_none hV
  simp only [List.append_nil] at hlt hW'
  obtain ⟨s1, s2, s3⟩ := hspec
  refine post_of_below (pa := p) (pv := []) hW' (fun b sp hd => ?_) (fun sp hsp => ?_) (fun sp hsp => ?_) (by simp) hb (ok_one hres rfl (okWide_bool_mk htb _))
  · rw [List.append_nil, s1, hres]
    exact trodAll_mk1 (shut_bool htb _)
  · rw [List.append_nil, s2]
    exact trodAll_stays hl hb _ _ _ _ hpar hA hlt hsp
  · rw [List.append_nil, s3, hvars]
    rfl
end
end Go.Proofs.YtjijdgkccfeeaaaGreatDoor
namespace Go.Proofs.YtjijdgkccfeeaaaGreatDoor
open Go Go.Proofs Go.RowKit Go.WideShapes Go.ChangeShapes Go.Shelf
def parLaid : List (String × DataW Unit) := [("math/bits.deBruijn32tab", Rows.laid_math_bits_deBruijn32tab), ("math/bits.deBruijn64tab", Rows.laid_math_bits_deBruijn64tab), ("internal/strconv.uint64pow10", Rows.laid_internal_strconv_uint64pow10), ("strconv.ErrRange", Rows.laid_strconv_ErrRange), ("strconv.ErrSyntax", Rows.laid_strconv_ErrSyntax), ("unicode.White_Space", Rows.laid_unicode_White_Space), ("strings.asciiSpace", Rows.laid_strings_asciiSpace)]
theorem gES : Tryz.prog.globalNamed "strconv.ErrSyntax" = some 4 := by kernel_rfl
theorem gER : Tryz.prog.globalNamed "strconv.ErrRange" = some 5 := by kernel_rfl
theorem gAS : Tryz.prog.globalNamed "strings.asciiSpace" = some 0 := by kernel_rfl
theorem gPW : Tryz.prog.globalNamed "internal/strconv.uint64pow10" = some 1 := by kernel_rfl
theorem gESType : (Tryz.prog.globals[4]?).map (·.type) = some 176 := by kernel_rfl
theorem gERType : (Tryz.prog.globals[5]?).map (·.type) = some 176 := by kernel_rfl
theorem gASType : (Tryz.prog.globals[0]?).map (·.type) = some 209 := by kernel_rfl
theorem starErr : "*" ++ "errors.errorString" = "*errors.errorString" := by decide
theorem rowErrStr (u : TypeId) (h : Tryz.prog.typeName? 3 u = some "*errors.errorString") : u = 284 :=
  typeName_ptr_named (nm := "errors.errorString") (by rw [starErr]; kernel_rfl) (by kernel_rfl) (by decide) u (by rw [starErr]; exact h)
theorem cellsErrStr : Tryz.prog.cellsOf 286 = 1 := by kernel_rfl
theorem cellsStr : Tryz.prog.cellsOf 9 = 1 := by kernel_rfl
theorem cellsU8 : Tryz.prog.cellsOf 5 = 1 := by kernel_rfl
theorem cellsA256 : Tryz.prog.cellsOf 209 = 256 := by kernel_rfl
theorem gPWType : (Tryz.prog.globals[1]?).map (·.type) = some 224 := by kernel_rfl
theorem cellsU64 : Tryz.prog.cellsOf 196 = 1 := by kernel_rfl
theorem cellsA20 : Tryz.prog.cellsOf 224 = 20 := by kernel_rfl
theorem laid_one {W : World} (h : laidMetH Tryz.prog parLaid W) (nm : String) (d : DataW Unit) (hf : parLaid.filter (fun x => x.1 == nm) = [(nm, d)]) (hh : d.handleName?.isNone = true) : laidMet Tryz.prog [(nm, d)] W := by
  have h1 := h.filter fun x => x.1 == nm
  rw [hf] at h1
  have h2 := (laidMetH_iff.1 h1).1
  simpa [hh] using h2
theorem var_lt {W : World} {nm : String} {cs : Array Value} {g : Nat} (h : W.var? Tryz.prog nm = some cs) (hg : Tryz.prog.globalNamed nm = some g) : g < W.heap.size := by
  unfold World.var? at h
  rw [hg] at h
  simp only [Option.bind_some] at h
  rcases Nat.lt_or_ge g W.heap.size with h' | h'
  · exact h'
  · simp [Array.getElem?_eq_none h'] at h
theorem pv_of_laid {W : World} (h : laidMetH Tryz.prog parLaid W) : PV W.heap.size W := by
  obtain ⟨a0, s0, hv0, -, -, -⟩ := laid_sentinel (r := []) (laid_one h "strconv.ErrSyntax" Rows.laid_strconv_ErrSyntax (by kernel_rfl) (by kernel_rfl)) gES gESType Tryz.underlying176 rowErrStr Tryz.underlying284 Tryz.underlying286 rfl rfl Tryz.underlying9 cellsErrStr cellsStr
  obtain ⟨a1, s1, hv1, -, -, -⟩ := laid_sentinel (r := []) (laid_one h "strconv.ErrRange" Rows.laid_strconv_ErrRange (by kernel_rfl) (by kernel_rfl)) gER gERType Tryz.underlying176 rowErrStr Tryz.underlying284 Tryz.underlying286 rfl rfl Tryz.underlying9 cellsErrStr cellsStr
  have h2 : Lib.TabIs Tryz.prog W "strings.asciiSpace" .u8 Lib.asciiSpaceTab :=
    Lib.tabIs_of_head (rest := []) gAS gASType Tryz.underlying209 Tryz.underlying5 cellsU8 cellsA256 (laid_one h "strings.asciiSpace" (Lib.tabData .u8 Lib.asciiSpaceTab) (by kernel_rfl) (by kernel_rfl))
  have h3 : Lib.TabIs Tryz.prog W "internal/strconv.uint64pow10" .u64 Lib.pow10Tab :=
    Lib.tabIs_of_head (rest := []) gPW gPWType Tryz.underlying224 Tryz.underlying196 cellsU64 cellsA20 (laid_one h "internal/strconv.uint64pow10" (Lib.tabData .u64 Lib.pow10Tab) (by kernel_rfl) (by kernel_rfl))
  have hs := var_lt hv1 gER
  have lt : ∀ {nm : String} {g0 : Nat}, Tryz.prog.globalNamed nm = some g0 → g0 < 6 → ∀ g, Tryz.prog.globalNamed nm = some g → g < W.heap.size := fun h0 hl g hg => by
    rw [h0] at hg; cases hg; omega
  refine ⟨⟨⟨_, _, hv0, lt gES (by omega)⟩, ⟨_, _, hv1, lt gER (by omega)⟩, h2, lt gAS (by omega)⟩, h3, lt gPW (by omega)⟩
end Go.Proofs.YtjijdgkccfeeaaaGreatDoor
namespace Go.Proofs.YtjijdgkccfeeaaaGreatDoor.lawMatches
open Go.ChangeShapes Go.WideShapes Go.ChangeAt Go.RowKit
set_option maxRecDepth 100000 in
theorem contract (H : Type) (enc : TypeId × Value → H) (W : World) (base : Nat) (args : Array Value) (ds gs : List (DataW H)) (before : List MemPlace)
    (hval : ∀ (j : Nat) t v, Tryz.f3.params[j]? = some t → args[j]? = some v → Value.okWide Tryz.prog W .any base t v)
    (hW : DataW.Whole enc Tryz.prog Tryz.f3.params.toList Rows.parseMatchesSpecSpec.vars false W args.toList ds gs before) (hL : laidMetH Tryz.prog Rows.parseMatchesSpecRow.laid W) :
    Calls Tryz.prog 3 args W fun e W' => ∃ v, e = .returned v ∧ Rows.parseMatchesSpecSpec.post enc Tryz.prog Tryz.f3 false true false false W args v W' := by
  have hW' := hW
  obtain ⟨p, q, hA0, hV, rfl, hfz, hnd⟩ := hW
  have hlt : ∀ x ∈ p, x.block < W.heap.size := fun x hx => hW'.lt x (List.mem_append_left _ hx)
  have hA : DataW.TrodAll enc Tryz.prog W 0 (fun _ => true) true Tryz.f3.params.toList args.toList ds p := hA0
  rw [Tryz.params3] at hA hval
  obtain ⟨v0, vs0, d0, ds0, p0, q0, hargs, rfl, rfl, h0, r0⟩ := trodAll_cons hA
  obtain ⟨rfl, rfl, rfl⟩ := trodAll_nil r0
  obtain rfl : args = #[v0] := by cases args; simp_all
  have hv0 := hval 0 9 v0 rfl rfl
  refine law_post (tb := 4) (by kernel_rfl) (by kernel_rfl) rfl Tryz.underlying4 rfl hW' ⟨rfl, rfl, rfl⟩ ?_
  clear hA0 hW' hV hfz hnd hargs hval
  obtain ⟨s, rfl, -, -, -⟩ := Go.ChangeMaps.open_string Tryz.underlying9 hv0 h0
  exact matches_any s W (pv_of_laid hL)
theorem laid_met (os : Os) : laidMet Tryz.prog Rows.parseMatchesSpecRow.laid ((World.doorLaid Tryz.prog 4000 os).forCall (fun _ _ => 0) ⟨#[], #[.string ⟨#[]⟩], []⟩).memory :=
  laidMet_of_run' 8 (by kernel_rfl) (by kernel_rfl)
theorem reads (os : Os) {H : Type} (enc : TypeId × Value → H) : ∃ places, DataW.whole enc Tryz.prog ((World.doorLaid Tryz.prog 4000 os).forCall (fun _ _ => 0) ⟨#[], #[.string ⟨#[]⟩], []⟩).memory Tryz.f3.params.toList Rows.parseMatchesSpecSpec.vars false (#[.string ⟨#[]⟩] : Array Value).toList 8 = some ([.lit (.string [])], [], places) :=
  ⟨[], by kernel_rfl⟩
set_option maxRecDepth 100000 in
theorem lifted (os : Os) (started : os.Started) (H : Type) (enc : TypeId × Value → H) (F : Stop.Interp) :
    ReturnsInHanded {} Tryz.checked os 3 .any ((OpenSpec.ofChange Rows.parseMatchesSpecSpec).preRow enc Tryz.prog Tryz.f3 Rows.parseMatchesSpecRow.domain false Rows.parseMatchesSpecRow.laid) (((OpenSpec.ofChange Rows.parseMatchesSpecSpec).at F).post enc Tryz.prog Tryz.f3 false true false false) := by
  obtain ⟨places, hx⟩ := reads os enc
  refine returnsInHanded_of_row (C := Tryz.checked) (s := (OpenSpec.ofChange Rows.parseMatchesSpecSpec)) ownNone started (by kernel_rfl) Tryz.func3
    (witness_row_atRef (enc := enc) (C := Tryz.checked) false (World.doorLaid Tryz.prog 4000 os) #[.string ⟨#[]⟩] rfl (by kernel_rfl) (by kernel_rfl) (by kernel_rfl)
      (OpenSpec.preRow_of_cond 8 hx (by kernel_rfl) (fun k hk => by cases hk) (by kernel_rfl) (laid_met os))) ?_
  intro W base args ds gs before hval hW _ _ _ hL _ _
  exact contract H enc W base args ds gs before hval hW hL
theorem said : Rows.ParseMatchesSpecSaid :=
  OpenClaim.holds_of_cond 3 Tryz.f3 rfl rfl rfl rfl rfl rfl rfl ⟨rfl, rfl, rfl, rfl, rfl⟩ rfl rfl rfl rfl rfl (by kernel_rfl) Tryz.func3 (by kernel_rfl)
    (of_decide_eq_true (by kernel_rfl)) (by unfold Func.isWrapper; first | (rw [if_pos (by decide +kernel)]; kernel_rfl) | (rw [if_neg (by decide +kernel)]; exact ⟨rfl, rfl⟩))
    (fun os started H enc _ F => by rw [OpenClaim.pre_eq_preRow]; exact lifted os started H enc F)
theorem plain (f : FuncId) (fn : Func) (hf : Tryz.pinned.checked.prog.funcNamed "rivermark/rivermarklaw08.ParseMatchesSpec" = some f) (hfn : Tryz.pinned.checked.prog.funcs[f]? = some fn) :
    true = Tryz.pinned.checked.prog.looks [] ∧ ∀ (j : Nat) t, fn.params[j]? = some t → Tryz.pinned.checked.prog.wantsStandIn t = false := by
  obtain rfl : f = 3 := Option.some.inj ((show Tryz.prog.funcNamed "rivermark/rivermarklaw08.ParseMatchesSpec" = some 3 by kernel_rfl).symm.trans hf) |>.symm
  obtain rfl : fn = Tryz.f3 := (Option.some.inj (Tryz.func3.symm.trans hfn)).symm
  refine ⟨by kernel_rfl, fun j t ht => ?_⟩
  have hall : (Tryz.f3.params.toList.all fun u => !Tryz.prog.wantsStandIn u) = true := by kernel_rfl
  have hm : t ∈ Tryz.f3.params.toList := by simpa using Array.mem_of_getElem? ht
  exact (show Tryz.prog.wantsStandIn t = false by simpa using List.all_eq_true.1 hall t hm)
theorem card : Rows.ParseMatchesSpecCardSaid :=
  Claim7.holds_tied_plain_at .later [] _ _ _ _ said (fun _ h => by cases h) (by kernel_rfl) (fun _ h => by cases h) parseMatchesSpec_row_tie rfl ⟨rfl, rfl⟩ (by kernel_rfl) rfl plain (by kernel_rfl)
#print axioms card
end Go.Proofs.YtjijdgkccfeeaaaGreatDoor.lawMatches
