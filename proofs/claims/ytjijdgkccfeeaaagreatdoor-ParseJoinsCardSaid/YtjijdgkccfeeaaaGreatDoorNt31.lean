/- Part 31 of the proofs about parse: ParJoinsW, ParCardJoins. Conditions: those of each theorem. -/
import Derived.Deep.DeepWitnessRowRef
import Derived.ChangeMaps5
import Derived.Test.YtjijdgkccfeeaaaGreatDoorNt01
import Derived.Test.YtjijdgkccfeeaaaGreatDoorNt24
import Derived.Test.YtjijdgkccfeeaaaGreatDoorNt26
import Derived.Test.YtjijdgkccfeeaaaGreatDoorNt27
import Derived.Test.YtjijdgkccfeeaaaGreatDoorNt30
namespace Go.Proofs.YtjijdgkccfeeaaaGreatDoor
open Go Go.Proofs Go.RowKit
attribute [local go_sem] Oper.semAt_some
theorem rsame_all (l : List Fm) (u v : Value) (W : World) (h1 : FormsAt W (fun _ => True) l u) (h2 : FormsAt W (fun _ => True) l v) : Calls Tryz.prog 13 #[u, v, .bool true] W fun e w' => e = .returned (.bool true) ∧ Below W.heap.size W w' := by
  have := rsame_any _ l (Nat.le_refl _) true l u v W h1 h2
  rw [sameFs_refl] at this
  exact this.mono fun e w' h => ⟨h.1, below_turned h.2⟩
theorem forms_of_v {s : ByteArray} {l : List Fm} {a c : Int} (h : formsV s = (l, a, c)) : (c = 0 ∧ a = 0 ∧ formsP s = .ok l) ∨ (c ≠ 0 ∧ l = [] ∧ formsP s = .bad a c) := by
  cases hr : formsP s with
  | ok y => rw [formsV_ok hr] at h; cases h; exact .inl ⟨rfl, rfl, rfl⟩
  | bad b e => rw [formsV_bad hr] at h; cases h; exact .inr ⟨formsP_err hr, rfl, rfl⟩
theorem forms_up {b : ByteArray} {m : List Fm} (hb : b.size ≤ 300) (h : formsP b = .ok m) (c : Nat) (hc : c ≤ 1000) : (∀ f ∈ m, FmOK (Up c) f) ∧ m.length ≤ 2000 := by
  rcases formsP_cases b with ⟨k, e, h1, h2⟩ | ⟨tb, ub, hT, ok, hub, hg, hl, h2⟩
  · rw [h] at h2; cases h2
  · rcases h2 with ⟨fs, hr, h2⟩ | ⟨j, e, -, -, h2⟩
    · rw [h] at h2
      cases h2
      have hrb := readF_some ok (by rw [hub]; simp)
      rw [hr] at hrb
      refine forms_all ok (P := Up c) (fun t ht => ?_) _ 0 0 [] m _ (by simp) (by omega) hrb (fun _ hz => by cases hz)
      have := tokensP_within hT t ht
      exact IntWalk.i64_in _ (by omega)
    · rw [h] at h2; cases h2
set_option maxRecDepth 20000 in
set_option maxHeartbeats 8000000 in
theorem joins_any (a b : ByteArray) (w : World) (hv : PV w.heap.size w) : Calls Tryz.prog 4 #[.string a, .string b] w fun e w' => e = .returned (.bool true) ∧ Below w.heap.size w w' := by
  obtain ⟨n, hn⟩ : ∃ n, n = w.heap.size := ⟨_, rfl⟩
  rw [← hn] at hv
  have hn2 := Nat.le_of_eq hn
  clear hn
  have HPV : Hid (∀ W, PV n W → n ≤ W.heap.size → PV W.heap.size W) := Lib.hid fun W h hm => h.mono hm
  have S0 := St.start (T := PV n) hv (stays_pv n)
  have HN := Lib.hid hn2
  clear hv hn2
  have HS := Lib.hid (fun W (h : PV W.heap.size W) => sanity_any W h)
  by_cases ha : 300 < a.size
  · have ha2 : (300 : Int) < (a.size : Int) := by omega
    have HSN := Lib.hid (HS.out _ (HPV.out _ S0.out.tab (Nat.le_trans HN.out S0.out.bel.size)))
    clear ha
    go_enter Tryz.func4, Tryz.ntmps4
    go_wp2_with (go_at_call 8; refine HSN.out.mono ?_; rintro e U ⟨rfl, hb⟩; have SU := St.call S0 hb; clear hb)
    go_ret
    exact ⟨rfl, SU.out.bel⟩
  by_cases hb : 300 < b.size
  · have ha2 : ¬ (300 : Int) < (a.size : Int) := by omega
    have hb2 : (300 : Int) < (b.size : Int) := by omega
    have HSN := Lib.hid (HS.out _ (HPV.out _ S0.out.tab (Nat.le_trans HN.out S0.out.bel.size)))
    clear ha hb
    go_enter Tryz.func4, Tryz.ntmps4
    go_wp2_with (go_at_call 8; refine HSN.out.mono ?_; rintro e U ⟨rfl, hb⟩; have SU := St.call S0 hb; clear hb)
    go_ret
    exact ⟨rfl, SU.out.bel⟩
  have ha2 : ¬ (300 : Int) < (a.size : Int) := by omega
  have hb2 : ¬ (300 : Int) < (b.size : Int) := by omega
  have ha5 : a.size ≤ 300 := by omega
  have hb5 : b.size ≤ 300 := by omega
  clear ha hb
  obtain ⟨l, pa, pc, hl⟩ : ∃ u v e, formsV a = (u, v, e) := ⟨_, _, _, rfl⟩
  have F1 := Lib.hid (fun W (h : PV W.heap.size W) => forms_v a W h)
  simp only [hl] at F1
  have HLA := Lib.hid (forms_of_v hl)
  clear hl
  go_enter Tryz.func4, Tryz.ntmps4
  go_upto_region 4 with (go_at_call 9; refine (F1.out _ (HPV.out _ S0.out.tab (Nat.le_trans HN.out S0.out.bel.size))).mono ?_; rintro e V1a ⟨pl, cl, rfl, hF, hb⟩; have S1a := St.more (St.call S0 hb) hF (stays_forms _ _); clear hb hF)
  clear S0 F1
  obtain ⟨V1, b1, hW, hB, hbl, S1⟩ := St.box S1a (.cells #[(.int .i64 pa), (.int .i64 pc)] 26)
  rw [← hW, ← hB]
  clear hW hB hbl S1a
  obtain ⟨y0, y1⟩ := St.cells2 S1 0 rfl
  rcases HLA.out with ⟨hp, hpa, hfa⟩ | ⟨hp, rfl, hfa⟩
  rotate_left
  · have hp2 : (pc != 0) = true := by simpa using hp
    obtain ⟨hpa0, hpa1⟩ := forms_bad_at ha5 hfa
    have HSN := Lib.hid (HS.out _ (HPV.out _ S1.out.tab.1 (Nat.le_trans HN.out S1.out.bel.size)))
    clear hp hfa HLA HS ha5 hb5
    simp only [List.length_nil] at *
    go_wp2_with (go_at_call 8; refine HSN.out.mono ?_; rintro e U ⟨rfl, hb⟩; have SU := St.call S1 hb; clear hb y0 y1; obtain ⟨y0, y1⟩ := St.cells2 SU 0 rfl)
    go_ret
    exact ⟨rfl, SU.out.bel⟩
  subst hp hpa
  clear y0 y1 HLA
  obtain ⟨m, qa, qc, hm⟩ : ∃ u v e, formsV b = (u, v, e) := ⟨_, _, _, rfl⟩
  have F2 := Lib.hid (fun W (h : PV W.heap.size W) => forms_v b W h)
  simp only [hm] at F2
  have HMB := Lib.hid (forms_of_v hm)
  have HJ := Lib.hid (forms_joined ha5 hb5 hfa)
  have hll := (forms_up ha5 hfa 0 (by omega)).2
  clear hm hfa
  obtain ⟨x0, x1⟩ := St.cells2 S1 0 rfl
  go_upto_region 7 with (go_at_call 9; refine (F2.out _ (HPV.out _ S1.out.tab.1 (Nat.le_trans HN.out S1.out.bel.size))).mono ?_; rintro e V2a ⟨pm, cm, rfl, hF, hb⟩; have S2a := St.more (St.call S1 hb) hF (stays_forms _ _); clear hb hF)
  clear S1 F2 x0 x1
  obtain ⟨V2, b2, hW, hB, hbl, S2⟩ := St.box S2a (.cells #[(.int .i64 qa), (.int .i64 qc)] 26)
  rw [← hW, ← hB]
  clear hW hB hbl S2a
  rcases HMB.out with ⟨hq, hqa, hfb⟩ | ⟨hq, rfl, hfb⟩
  rotate_left
  · have hq2 : (qc != 0) = true := by simpa using hq
    have hJ : formsV (a ++ ⟨#[10]⟩ ++ b) = ([], qa + (a.size : Int) + 1, qc) := by
      have h1 := HJ.out
      rw [hfb] at h1
      have h2 := formsV_bad (s := joined a b) h1
      rw [show qa + (a.size : Int) + 1 = qa + ((a.size + 1 : Nat) : Int) by omega]
      exact h2
    have F3 := Lib.hid (fun W (h : PV W.heap.size W) => forms_v (a ++ ⟨#[10]⟩ ++ b) W h)
    simp only [hJ, List.length_nil] at F3
    obtain ⟨hqa0, hqa1⟩ := forms_bad_at hb5 hfb
    have hw1 : IntKind.i64.wrap (qa + (a.size : Int)) = qa + (a.size : Int) := IntWalk.i64_in _ (by omega)
    have hw2 : IntKind.i64.wrap (qa + (a.size : Int) + 1) = qa + (a.size : Int) + 1 := IntWalk.i64_in _ (by omega)
    clear hq hfb HMB HJ hJ
    go_upto_region 8 with (go_at_call 9; refine (F3.out _ (HPV.out _ S2.out.tab.1.1 (Nat.le_trans HN.out S2.out.bel.size))).mono ?_; rintro e V3a ⟨pn, cn, rfl, hF, hb⟩; have S3a := St.more (St.call S2 hb) hF (stays_forms _ _); clear hb hF)
    clear S2 F3
    obtain ⟨V3, b3, hW, hB, hbl, S3⟩ := St.box S3a (.cells #[(.int .i64 (qa + (a.size : Int) + 1)), (.int .i64 qc)] 26)
    rw [← hW, ← hB]
    clear hW hB hbl S3a
    have HSN := Lib.hid (HS.out _ (HPV.out _ S3.out.tab.1.1.1 (Nat.le_trans HN.out S3.out.bel.size)))
    obtain ⟨x0, x1⟩ := St.cells2 S3 1 rfl
    go_wp2_with (go_at_call 8; refine HSN.out.mono ?_; rintro e U ⟨rfl, hb⟩; have SU := St.call S3 hb; clear hb x0 x1; obtain ⟨x0, x1⟩ := St.cells2 SU 1 rfl; obtain ⟨y0, y1⟩ := St.cells2 SU 0 rfl)
    go_ret
    exact ⟨rfl, SU.out.bel⟩
  subst hq hqa
  obtain ⟨hup, hml⟩ := forms_up hb5 hfb (a.size + 1) (by omega)
  obtain ⟨M, hM⟩ : ∃ M, M = m.map (shF (a.size + 1)) := ⟨_, rfl⟩
  have hMl : m.length = M.length := by rw [hM, List.length_map]
  have hJ : formsV (a ++ ⟨#[10]⟩ ++ b) = (l ++ M, 0, 0) := by
    have h1 := HJ.out
    rw [hfb] at h1
    rw [hM]
    exact formsV_ok (s := joined a b) h1
  have F3 := Lib.hid (fun W (h : PV W.heap.size W) => forms_v (a ++ ⟨#[10]⟩ ++ b) W h)
  simp only [hJ] at F3
  have hMl2 : M.length ≤ 2000 := by omega
  have HUP := Lib.hid hup
  have HM := Lib.hid hM
  have HML := Lib.hid hMl
  have HML0 := Lib.hid hml
  clear hup hml hM hMl hfb HMB HJ hJ
  go_upto_region 8 with (go_at_call 9; refine (F3.out _ (HPV.out _ S2.out.tab.1.1 (Nat.le_trans HN.out S2.out.bel.size))).mono ?_; rintro e V3a ⟨pn, cn, rfl, hF, hb⟩; have S3a := St.more (St.call S2 hb) hF (stays_forms _ _); clear hb hF)
  clear S2 F3
  obtain ⟨U, b3, hW, hB, hbl, S3⟩ := St.box S3a (.cells #[(.int .i64 0), (.int .i64 0)] 26)
  rw [← hW, ← hB]
  clear hW hB hbl S3a
  obtain ⟨x0, x1⟩ := St.cells2 S3 1 rfl
  go_upto_region 10 with fail
  clear x0 x1
  have hwa : IntKind.i64.wrap ((a.size : Int) + 1) = (a.size : Int) + 1 := IntWalk.i64_in _ (by omega)
  have t0 : Turned (fun _ => False) U (U.alloc (.cells #[] 45)) := (Turned.refl _ _).alloc _
  have szU : (U.alloc (.cells #[] 45)).heap.size = U.heap.size + 1 := by simp
  have O0 : Hid (Own (U.alloc (.cells #[] 45)) 0 45 4 fmEnc fmAt (.slice (some ⟨U.heap.size, 0, none⟩) 0 0) 0 []) := Lib.hid ⟨⟨by simp, .inr ⟨U.heap.size, 0, #[], rfl, Nat.zero_le _, heap_alloc_new _ _, Nat.le_refl _, by unfold maxLen; omega, by simp, by simp⟩⟩, (fun p hp => by cases hp), Nat.zero_le _⟩
  have HLF := Lib.hid (S3.out.tab.1.1.2.move (Turned.refl (fun _ => False) U) (fun _ _ => id) (fun b _ hb => hb) (M := fun b => b < U.heap.size))
  have HMF := Lib.hid (S3.out.tab.1.2.move (Turned.refl (fun _ => False) U) (fun _ _ => id) (fun b _ hb => hb) (M := fun b => b < U.heap.size))
  have HL1 : Hid (FormsAt (U.alloc (.cells #[] 45)) (fun b => ∀ g, (Value.slice (some ⟨U.heap.size, 0, none⟩) 0 0).ownBlock = some g → b ≠ g) l (.slice pl l.length cl)) := Lib.hid (HLF.out.move t0 (fun _ _ => id) (fun b hb _ g hg => by simp [Value.ownBlock] at hg; omega))
  have HSH : Hid (∀ W, FormsAt W (fun _ => True) m (.slice pm m.length cm) → Calls Tryz.prog 15 #[.slice pm m.length cm, (.int .i64 ((a.size : Int) + 1))] W fun e w' => ∃ p n, e = .returned (.slice p M.length n) ∧ FormsAt w' (fun b => W.heap.size ≤ b) M (.slice p M.length n) ∧ Turned (fun _ => False) W w') := Lib.hid fun W h => by
    have h2 := shiftF_any (a.size + 1) _ m (Nat.le_refl _) HUP.out HML0.out (.slice pm m.length cm) W h
    have e : ((a.size + 1 : Nat) : Int) = (a.size : Int) + 1 := by omega
    rw [← HM.out, e] at h2
    refine h2.mono ?_
    rintro e w' ⟨p, n, rfl, hF, ht⟩
    rw [HML.out] at hF
    exact ⟨p, n, by rw [HML.out], hF, ht⟩
  have HT0 := Lib.hid t0
  have HSZ := Lib.hid szU
  clear t0 szU
  go_upto_region 11 with (first
    | (have hq := Q2; clear hq; at_builtin; refine wpList_append_forms _ rfl _ _ rfl p1 l.length c1 ([] ++ qs1) rfl HC1.out O2 M pM cM rfl Q2.out (l.length + M.length) rfl (by omega) ?_; intro p3 c3 qs2 W3 hc3 hq3 O3 ht3 hex3; have HQ3 := Lib.hid hq3; have HT3 := Lib.hid ht3; clear hq3 ht3 hex3 hc3 Q2)
    | (have hq := Q1; clear hq; go_at_call 15; refine (HSH.out _ Q1.out).mono ?_; rintro e W2 ⟨pM, cM, rfl, hF, ht⟩; have O2 := Own.move O1 fmMov ht (fun _ h => h.elim); have HT2 := Lib.hid ht; have Q2 : Hid (FormsAt W2 (fun b => ∀ g, (Value.slice p1 l.length c1).ownBlock = some g → b ≠ g) M (.slice pM M.length cM)) := Lib.hid (hF.move (Turned.refl (fun _ => False) _) (fun _ _ => id) (fun b hb _ g hg => by have := (ownsRow_block O1.out.own g hg).2; omega)); clear hF ht Q1 O1)
    | (have hq := HL1; clear hq; at_builtin; refine wpList_append_forms _ rfl _ _ rfl (some ⟨U.heap.size, 0, none⟩) 0 0 [] rfl (Nat.le_refl 0) O0 l pl cl rfl HL1.out l.length (Nat.zero_add _).symm (by omega) ?_; intro p1 c1 qs1 W1 hc1 hq1 O1 ht1 hex1; have HC1 := Lib.hid hc1; have HQ1 := Lib.hid hq1; have HT1 := Lib.hid ht1; have HX1 := Lib.hid hex1; have Q1 : Hid (FormsAt W1 (fun _ => True) m (.slice pm m.length cm)) := Lib.hid ((HMF.out.move HT0.out (fun _ _ => id) (fun b hb _ => hb) (M := fun b => b < U.heap.size)).move ht1 (fun b hb hc => by simp [Value.ownBlock] at hc; omega) (fun _ _ _ => trivial)); clear hc1 hq1 ht1 hex1 HL1 O0))
  have HB : Hid (Below U.heap.size U W3) := Lib.hid (Turned.below (C := fun b => U.heap.size ≤ b) (((((HT0.out.mono fun _ h => h.elim).trans (HT1.out.mono fun b hb => by simp [Value.ownBlock] at hb; omega)).trans (HT2.out.mono fun _ h => h.elim))).trans (HT3.out.mono fun b hb => by
    rcases HX1.out b hb with h | h
    · simp [Value.ownBlock] at h; omega
    · have := HSZ.out; omega)) (Nat.le_refl _) (fun _ h => h))
  have HALL : Hid (FormsAt W3 (fun _ => True) (l ++ M) (.slice p3 (l.length + M.length) c3)) := Lib.hid (by
    have h1 := (Own.formsAt O3 (by have := congrArg List.length HQ1.out; have := congrArg List.length HQ3.out; simp at *; omega)).move (Turned.refl (fun _ => False) W3) (fun _ _ => id) (fun _ _ _ => trivial) (M := fun _ => True)
    have e : List.map (fun q : Fm × Value × Value => q.1) ([] ++ qs1 ++ qs2) = l ++ M := by rw [List.nil_append, List.map_append, HQ1.out, HQ3.out]
    rw [e] at h1
    exact h1)
  have S4 := St.more (St.call S3 HB.out) HALL.out (stays_forms _ _)
  clear S3 HB HALL HT0 HT1 HT2 HT3 HX1 HC1 HQ1 HQ3 O3 HSH HUP HM HML HML0 HLF HMF hwa HSZ
  have HSN := Lib.hid (HS.out _ (HPV.out _ S4.out.tab.1.1.1.1 (Nat.le_trans HN.out S4.out.bel.size)))
  have HSA : Hid (∀ W, FormsAt W (fun _ => True) (l ++ M) (.slice pn (l ++ M).length cn) → FormsAt W (fun _ => True) (l ++ M) (.slice p3 (l.length + M.length) c3) → Calls Tryz.prog 13 #[.slice pn (l.length + M.length) cn, .slice p3 (l.length + M.length) c3, .bool true] W fun e w' => e = .returned (.bool true) ∧ Below W.heap.size W w') := Lib.hid fun W h1 h2 => by
    rw [List.length_append] at h1
    exact rsame_all (l ++ M) _ _ W h1 h2
  obtain ⟨x0, x1⟩ := St.cells2 S4 0 rfl
  go_wp2_with (first | (go_at_call 8; refine HSN.out.mono ?_; rintro e U5 ⟨rfl, hb⟩; have S5 := St.call S4 hb; clear hb x0 x1; obtain ⟨x0, x1⟩ := St.cells2 S5 0 rfl) | (go_at_call 13; refine (HSA.out _ S5.out.tab.1.2 S5.out.tab.2).mono ?_; rintro e U6 ⟨rfl, hb⟩; have S6 := St.call S5 hb; clear hb))
  go_ret
  exact ⟨rfl, S6.out.bel⟩
end Go.Proofs.YtjijdgkccfeeaaaGreatDoor
namespace Go.Proofs.YtjijdgkccfeeaaaGreatDoor.lawJoins
open Go.ChangeShapes Go.WideShapes Go.ChangeAt Go.RowKit
set_option maxRecDepth 100000 in
theorem contract (H : Type) (enc : TypeId × Value → H) (W : World) (base : Nat) (args : Array Value) (ds gs : List (DataW H)) (before : List MemPlace)
    (hval : ∀ (j : Nat) t v, Tryz.f4.params[j]? = some t → args[j]? = some v → Value.okWide Tryz.prog W .any base t v)
    (hW : DataW.Whole enc Tryz.prog Tryz.f4.params.toList Rows.parseJoinsSpec.vars false W args.toList ds gs before) (hL : laidMetH Tryz.prog Rows.parseJoinsRow.laid W) :
    Calls Tryz.prog 4 args W fun e W' => ∃ v, e = .returned v ∧ Rows.parseJoinsSpec.post enc Tryz.prog Tryz.f4 false true false false W args v W' := by
  have hW' := hW
  obtain ⟨p, q, hA0, hV, rfl, hfz, hnd⟩ := hW
  have hlt : ∀ x ∈ p, x.block < W.heap.size := fun x hx => hW'.lt x (List.mem_append_left _ hx)
  have hA : DataW.TrodAll enc Tryz.prog W 0 (fun _ => true) true Tryz.f4.params.toList args.toList ds p := hA0
  rw [Tryz.params4] at hA hval
  obtain ⟨v0, vs0, d0, ds0, p0, q0, hargs, rfl, rfl, h0, r0⟩ := trodAll_cons hA
  obtain ⟨v1, vs1, d1, ds1, p1, q1, rfl, rfl, rfl, h1, r1⟩ := trodAll_cons r0
  obtain ⟨rfl, rfl, rfl⟩ := trodAll_nil r1
  obtain rfl : args = #[v0, v1] := by cases args; simp_all
  have hv0 := hval 0 9 v0 rfl rfl
  have hv1 := hval 1 9 v1 rfl rfl
  refine law_post (tb := 4) (by kernel_rfl) (by kernel_rfl) rfl Tryz.underlying4 rfl hW' ⟨rfl, rfl, rfl⟩ ?_
  clear hA0 hW' hV hfz hnd hargs hval
  obtain ⟨a, rfl, -, -, -⟩ := Go.ChangeMaps.open_string Tryz.underlying9 hv0 h0
  obtain ⟨b, rfl, -, -, -⟩ := Go.ChangeMaps.open_string Tryz.underlying9 hv1 h1
  exact joins_any a b W (pv_of_laid hL)
theorem laid_met (os : Os) : laidMet Tryz.prog Rows.parseJoinsRow.laid ((World.doorLaid Tryz.prog 4000 os).forCall (fun _ _ => 0) ⟨#[], #[.string ⟨#[]⟩, .string ⟨#[]⟩], []⟩).memory :=
  laidMet_of_run' 8 (by kernel_rfl) (by kernel_rfl)
theorem reads (os : Os) {H : Type} (enc : TypeId × Value → H) : ∃ places, DataW.whole enc Tryz.prog ((World.doorLaid Tryz.prog 4000 os).forCall (fun _ _ => 0) ⟨#[], #[.string ⟨#[]⟩, .string ⟨#[]⟩], []⟩).memory Tryz.f4.params.toList Rows.parseJoinsSpec.vars false (#[.string ⟨#[]⟩, .string ⟨#[]⟩] : Array Value).toList 8 = some ([.lit (.string []), .lit (.string [])], [], places) :=
  ⟨[], by kernel_rfl⟩
set_option maxRecDepth 100000 in
theorem lifted (os : Os) (started : os.Started) (H : Type) (enc : TypeId × Value → H) (F : Stop.Interp) :
    ReturnsInHanded {} Tryz.checked os 4 .any ((OpenSpec.ofChange Rows.parseJoinsSpec).preRow enc Tryz.prog Tryz.f4 Rows.parseJoinsRow.domain false Rows.parseJoinsRow.laid) (((OpenSpec.ofChange Rows.parseJoinsSpec).at F).post enc Tryz.prog Tryz.f4 false true false false) := by
  obtain ⟨places, hx⟩ := reads os enc
  refine returnsInHanded_of_row (C := Tryz.checked) (s := (OpenSpec.ofChange Rows.parseJoinsSpec)) ownNone started (by kernel_rfl) Tryz.func4
    (witness_row_atRef (enc := enc) (C := Tryz.checked) false (World.doorLaid Tryz.prog 4000 os) #[.string ⟨#[]⟩, .string ⟨#[]⟩] rfl (by kernel_rfl) (by kernel_rfl) (by kernel_rfl)
      (OpenSpec.preRow_of_cond 8 hx (by kernel_rfl) (fun k hk => by cases hk) (by kernel_rfl) (laid_met os))) ?_
  intro W base args ds gs before hval hW _ _ _ hL _ _
  exact contract H enc W base args ds gs before hval hW hL
theorem said : Rows.ParseJoinsSaid :=
  OpenClaim.holds_of_cond 4 Tryz.f4 rfl rfl rfl rfl rfl rfl rfl ⟨rfl, rfl, rfl, rfl, rfl⟩ rfl rfl rfl rfl rfl (by kernel_rfl) Tryz.func4 (by kernel_rfl)
    (of_decide_eq_true (by kernel_rfl)) (by unfold Func.isWrapper; first | (rw [if_pos (by decide +kernel)]; kernel_rfl) | (rw [if_neg (by decide +kernel)]; exact ⟨rfl, rfl⟩))
    (fun os started H enc _ F => by rw [OpenClaim.pre_eq_preRow]; exact lifted os started H enc F)
theorem plain (f : FuncId) (fn : Func) (hf : Tryz.pinned.checked.prog.funcNamed "rivermark/rivermarklaw08.ParseJoins" = some f) (hfn : Tryz.pinned.checked.prog.funcs[f]? = some fn) :
    true = Tryz.pinned.checked.prog.looks [] ∧ ∀ (j : Nat) t, fn.params[j]? = some t → Tryz.pinned.checked.prog.wantsStandIn t = false := by
  obtain rfl : f = 4 := Option.some.inj ((show Tryz.prog.funcNamed "rivermark/rivermarklaw08.ParseJoins" = some 4 by kernel_rfl).symm.trans hf) |>.symm
  obtain rfl : fn = Tryz.f4 := (Option.some.inj (Tryz.func4.symm.trans hfn)).symm
  refine ⟨by kernel_rfl, fun j t ht => ?_⟩
  have hall : (Tryz.f4.params.toList.all fun u => !Tryz.prog.wantsStandIn u) = true := by kernel_rfl
  have hm : t ∈ Tryz.f4.params.toList := by simpa using Array.mem_of_getElem? ht
  exact (show Tryz.prog.wantsStandIn t = false by simpa using List.all_eq_true.1 hall t hm)
theorem card : Rows.ParseJoinsCardSaid :=
  Claim7.holds_tied_plain_at .later [] _ _ _ _ said (fun _ h => by cases h) (by kernel_rfl) (fun _ h => by cases h) parseJoins_row_tie rfl ⟨rfl, rfl⟩ (by kernel_rfl) rfl plain (by kernel_rfl)
#print axioms card
end Go.Proofs.YtjijdgkccfeeaaaGreatDoor.lawJoins
