/- Part 27 of the proof of lawMatches.card: ParRefD. Conditions: those of each theorem. -/
import Derived.Test.YtjijdgkccfeeaaaGreatDoorMt01
import Derived.Test.YtjijdgkccfeeaaaGreatDoorMt09
import Derived.Test.YtjijdgkccfeeaaaGreatDoorMt26
namespace Go.Proofs.YtjijdgkccfeeaaaGreatDoor
open Go Go.Proofs Go.RowKit
attribute [local go_sem] Oper.semAt_some
set_option maxRecDepth 20000 in
set_option maxHeartbeats 4000000 in
theorem minus_step {g cap : Nat} {ts : List Tok} {f : Nat} (IH : HypG g cap ts f) (m k : Nat) (d : Int) (r : PR Ex) (w : World) (hm : m ≤ f) (hkl : k < ts.length) (hd0 : 0 ≤ d) (hd : d ≤ 30) (hr : runF ts m .neg k d = some r) (h : TQ g cap ts w) :
    Calls Tryz.prog 96 #[.slice (some ⟨g, 0, none⟩) ts.length cap, (.int .i64 ((k : Nat))), (.int .i64 d)] w (GX w r) := by
  obtain ⟨t, ht⟩ := some_of_lt hkl
  obtain ⟨m, rfl⟩ : ∃ m', m = m' + 1 := by
    cases m with
    | zero => simp [runF] at hr
    | succ m' => exact ⟨m', rfl⟩
  unfold runF at hr
  simp only [ht] at hr
  have S0 := SQ.start h
  have hkl2 : (k : Int) < (ts.length : Int) := by omega
  have hwk : IntKind.i64.wrap ((k : Int) + 1) = (k : Int) + 1 := IntWalk.i64_in _ (by have := h.ok.len; omega)
  have hwd : IntKind.i64.wrap (d + 1) = d + 1 := IntWalk.i64_in _ (by omega)
  by_cases hs : isS t ⟨#[45]⟩ = true
  · have hk1 := h.ok.sign ht hs
    obtain ⟨u, hu⟩ := some_of_lt hk1
    rw [if_pos hs] at hr
    simp only [hu] at hr
    go_enter Tryz.func96, Tryz.ntmps96
    go_wp2_with fail
    obtain ⟨W1, rb, hW, hb, S1⟩ := SQ.box S0 (.cells #[(.int .i64 0), (.int .i64 0), .string ⟨#[]⟩, .slice none 0 0, (.int .i64 0), (.int .i64 0), (.int .i64 0)] 82)
    rw [← hW, ← hb]
    clear hW hb S0
    refine (sign_tq S1.out.tq ht _ rfl _).mono ?_
    rintro e W2 ⟨rfl, rfl⟩
    go_wp2_with fail
    have HF := first_tq S1.out.tq hu ((k : Int) + 1) (by simp) (d + 1) false
    cases hfp : firstP u (d + 1) false with
    | some cc =>
      rw [hfp] at hr HF
      cases hr
      have hc := codeP_ne hfp
      refine HF.mono ?_
      rintro e W3 ⟨rfl, rfl⟩
      simp only [codeP]
      have hz2 := (SQ.boxAt S1 0 rfl).1
      obtain ⟨r0, r1, r2, r3, r4, r5, r6⟩ := seven_cells hz2
      have fq := free_of_box hz2
      go_wp2_with fail
      have SB := SQ.put S1 0 rfl (seven_turned _ rb (.int .i64 0) (.int .i64 0) (.string ⟨#[]⟩) (.slice none 0 0) (.int .i64 0) (.int .i64 ((k : Int) + 1)) (.int .i64 cc)) (seven_set hz2)
      refine bodyPost_ret (results_got rfl _ _ rb (.int .i64 0) (.int .i64 0) (.string ⟨#[]⟩) (.slice none 0 0) (.int .i64 0) (.int .i64 ((k : Int) + 1)) (.int .i64 cc) rfl (SQ.boxAt SB 0 rfl).1) rfl ?_
      exact ⟨SB.out.tur, rfl⟩
    | none =>
      rw [hfp] at hr HF
      have hd2 := firstP_le hfp
      clear hfp
      refine HF.mono ?_
      rintro e W3 ⟨rfl, rfl⟩
      simp only [codeP]
      go_wp2_with fail
      rcases PR.then_some hr with ⟨j, cc, h1, rfl⟩ | ⟨x, j, h1, h2⟩
      · have hcc := (run_fits h.ok _ _ _ _ _ h1).2
        have hc : (cc != 0) = true := by simp; omega
        refine (IH.minus m (k + 1) _ (d + 1) _ _ (by omega) (by simp) (by omega) hd2 h1 S1.out.tq).mono ?_
        rintro e W4 ⟨ht2, rfl⟩
        have S2 := SQ.same S1 ht2
        have hz2 := (SQ.boxAt S2 0 rfl).1
        have hrl := (SQ.boxAt S2 0 rfl).2.2
        obtain ⟨r0, r1, r2, r3, r4, r5, r6⟩ := seven_cells hz2
        have fq := free_of_box hz2
        have S3 := SQ.put S2 0 rfl (seven_turned W4 rb (.int .i64 0) (.int .i64 0) (.string ⟨#[]⟩) (.slice none 0 0) (.int .i64 0) (.int .i64 ((j : Nat))) (.int .i64 cc)) (seven_set hz2)
        obtain ⟨W5, xb, hW5, -, S4⟩ := SQ.box S3 (.cells #[(.int .i64 0), (.int .i64 0), (.string ⟨#[]⟩), (.slice none 0 0), (.int .i64 0), (.int .i64 ((j : Nat))), (.int .i64 cc)] 82)
        unfold set7 at hW5
        go_wp2_with fail
        rw [← hW5]
        refine bodyPost_ret (results_got rfl _ _ rb (.int .i64 0) (.int .i64 0) (.string ⟨#[]⟩) (.slice none 0 0) (.int .i64 0) (.int .i64 ((j : Nat))) (.int .i64 cc) rfl (SQ.boxAt S4 1 rfl).1) rfl ?_
        exact ⟨S4.out.tur, rfl⟩
      · cases h2
        refine (IH.minus m (k + 1) _ (d + 1) _ _ (by omega) (by simp) (by omega) hd2 h1 S1.out.tq).mono ?_
        rintro e W4 ⟨ht2, p, c, rfl, hk⟩
        have S2 := SQ.callK S1 ht2 hk
        clear S1 ht2 hk hr h1
        go_wp2_with fail
        obtain ⟨W5, xb, hW, hb, S7⟩ := SQ.box S2 (.cells #[(.int .i64 (x.op)), (.int .i64 (x.n)), .string x.s, .slice p x.kids.length c, (.int .i64 (x.at_)), (.int .i64 ((j : Nat))), (.int .i64 0)] 82)
        rw [← hW, ← hb]
        clear hW hb S2
        have t1 := (S7.out.tq.tok ht).2.1
        obtain ⟨x0, x1, x2, x3, x4, x5, x6⟩ := seven_cells (SQ.boxAt S7 0 rfl).1
        refine region_R (R := fun q V => q < 12 → (fun V : World => V.cell? ⟨g, k * 4 + 1, none⟩ = some (.int .i64 (t.at_)) ∧ V.cell? ⟨xb, 0, none⟩ = some (.int .i64 (x.op)) ∧ V.cell? ⟨xb, 1, none⟩ = some (.int .i64 (x.n)) ∧ V.cell? ⟨xb, 2, none⟩ = some (.string x.s) ∧ V.cell? ⟨xb, 3, none⟩ = some (.slice p x.kids.length c) ∧ V.cell? ⟨xb, 4, none⟩ = some (.int .i64 (x.at_)) ∧ V.cell? ⟨xb, 5, none⟩ = some (.int .i64 ((j : Nat)))) V) (by kernel_rfl) ?_
        obtain ⟨Wd, hWd⟩ : ∃ Wd, Wd = W5.drew := ⟨_, rfl⟩
        rw [← hWd]
        have S8 := SQ.same S7 (Turned.refl _ _).drew
        rw [← hWd] at S8
        clear hWd S7 t1 x0 x1 x2 x3 x4 x5 x6
        have t1 := (S8.out.tq.tok ht).2.1
        obtain ⟨x0, x1, x2, x3, x4, x5, x6⟩ := seven_cells (SQ.boxAt S8 0 rfl).1
        refine wpAnyR_take (S := (fun V : World => V.cell? ⟨g, k * 4 + 1, none⟩ = some (.int .i64 (t.at_)) ∧ V.cell? ⟨xb, 0, none⟩ = some (.int .i64 (x.op)) ∧ V.cell? ⟨xb, 1, none⟩ = some (.int .i64 (x.n)) ∧ V.cell? ⟨xb, 2, none⟩ = some (.string x.s) ∧ V.cell? ⟨xb, 3, none⟩ = some (.slice p x.kids.length c) ∧ V.cell? ⟨xb, 4, none⟩ = some (.int .i64 (x.at_)) ∧ V.cell? ⟨xb, 5, none⟩ = some (.int .i64 ((j : Nat))))) (early := fun q => decide (q < 12)) (i := 0) (v := .slice (some ⟨g, 0, none⟩) ts.length cap) rfl (by kernel_rfl) (by kernel_rfl) (by kernel_rfl) (by kernel_rfl) (fun _ _ he h => h (of_decide_eq_true he)) (fun _ h _ => h) (fun _ _ _ h => h) (Or.inl ⟨by rfl, ?_⟩) ⟨t1, x0, x1, x2, x3, x4, x5⟩ ?_
        · rintro V ⟨v0, v1, v2, v3, v4, v5, v6⟩
          go_simp
        simp only [List.getElem_toArray, List.getElem_cons_zero, Act.put, List.setIfInBounds_toArray, List.set_cons_zero, List.set_cons_succ]
        refine wpAnyR_take (S := (fun V : World => V.cell? ⟨g, k * 4 + 1, none⟩ = some (.int .i64 (t.at_)) ∧ V.cell? ⟨xb, 0, none⟩ = some (.int .i64 (x.op)) ∧ V.cell? ⟨xb, 1, none⟩ = some (.int .i64 (x.n)) ∧ V.cell? ⟨xb, 2, none⟩ = some (.string x.s) ∧ V.cell? ⟨xb, 3, none⟩ = some (.slice p x.kids.length c) ∧ V.cell? ⟨xb, 4, none⟩ = some (.int .i64 (x.at_)) ∧ V.cell? ⟨xb, 5, none⟩ = some (.int .i64 ((j : Nat))))) (early := fun q => decide (q < 12)) (i := 1) (v := (.int .i64 ((k : Nat)))) rfl (by kernel_rfl) (by kernel_rfl) (by kernel_rfl) (by kernel_rfl) (fun _ _ he h => h (of_decide_eq_true he)) (fun _ h _ => h) (fun _ _ _ h => h) (Or.inl ⟨by rfl, ?_⟩) ⟨t1, x0, x1, x2, x3, x4, x5⟩ ?_
        · rintro V ⟨v0, v1, v2, v3, v4, v5, v6⟩
          go_simp
        simp only [List.getElem_toArray, List.getElem_cons_zero, List.getElem_cons_succ, Act.put, List.setIfInBounds_toArray, List.set_cons_zero, List.set_cons_succ]
        refine wpAnyR_take (S := (fun V : World => V.cell? ⟨g, k * 4 + 1, none⟩ = some (.int .i64 (t.at_)) ∧ V.cell? ⟨xb, 0, none⟩ = some (.int .i64 (x.op)) ∧ V.cell? ⟨xb, 1, none⟩ = some (.int .i64 (x.n)) ∧ V.cell? ⟨xb, 2, none⟩ = some (.string x.s) ∧ V.cell? ⟨xb, 3, none⟩ = some (.slice p x.kids.length c) ∧ V.cell? ⟨xb, 4, none⟩ = some (.int .i64 (x.at_)) ∧ V.cell? ⟨xb, 5, none⟩ = some (.int .i64 ((j : Nat))))) (early := fun q => decide (q < 12)) (i := 2) (v := .pointer (some ⟨g, k * 4, none⟩)) rfl (by kernel_rfl) (by kernel_rfl) (by kernel_rfl) (by kernel_rfl) (fun _ _ he h => h (of_decide_eq_true he)) (fun _ h _ => h) (fun _ _ _ h => h) (Or.inl ⟨by rfl, ?_⟩) ⟨t1, x0, x1, x2, x3, x4, x5⟩ ?_
        · rintro V ⟨v0, v1, v2, v3, v4, v5, v6⟩
          go_simp
        simp only [List.getElem_toArray, List.getElem_cons_zero, List.getElem_cons_succ, Act.put, List.setIfInBounds_toArray, List.set_cons_zero, List.set_cons_succ]
        refine wpAnyR_take (S := (fun V : World => V.cell? ⟨g, k * 4 + 1, none⟩ = some (.int .i64 (t.at_)) ∧ V.cell? ⟨xb, 0, none⟩ = some (.int .i64 (x.op)) ∧ V.cell? ⟨xb, 1, none⟩ = some (.int .i64 (x.n)) ∧ V.cell? ⟨xb, 2, none⟩ = some (.string x.s) ∧ V.cell? ⟨xb, 3, none⟩ = some (.slice p x.kids.length c) ∧ V.cell? ⟨xb, 4, none⟩ = some (.int .i64 (x.at_)) ∧ V.cell? ⟨xb, 5, none⟩ = some (.int .i64 ((j : Nat))))) (early := fun q => decide (q < 12)) (i := 3) (v := .pointer (some ⟨g, k * 4 + 1, none⟩)) rfl (by kernel_rfl) (by kernel_rfl) (by kernel_rfl) (by kernel_rfl) (fun _ _ he h => h (of_decide_eq_true he)) (fun _ h _ => h) (fun _ _ _ h => h) (Or.inl ⟨by rfl, ?_⟩) ⟨t1, x0, x1, x2, x3, x4, x5⟩ ?_
        · rintro V ⟨v0, v1, v2, v3, v4, v5, v6⟩
          go_simp
        simp only [List.getElem_toArray, List.getElem_cons_zero, List.getElem_cons_succ, Act.put, List.setIfInBounds_toArray, List.set_cons_zero, List.set_cons_succ]
        refine wpAnyR_take (S := (fun V : World => V.cell? ⟨g, k * 4 + 1, none⟩ = some (.int .i64 (t.at_)) ∧ V.cell? ⟨xb, 0, none⟩ = some (.int .i64 (x.op)) ∧ V.cell? ⟨xb, 1, none⟩ = some (.int .i64 (x.n)) ∧ V.cell? ⟨xb, 2, none⟩ = some (.string x.s) ∧ V.cell? ⟨xb, 3, none⟩ = some (.slice p x.kids.length c) ∧ V.cell? ⟨xb, 4, none⟩ = some (.int .i64 (x.at_)) ∧ V.cell? ⟨xb, 5, none⟩ = some (.int .i64 ((j : Nat))))) (early := fun q => decide (q < 12)) (i := 4) (v := (.int .i64 (t.at_))) rfl (by kernel_rfl) (by kernel_rfl) (by kernel_rfl) (by kernel_rfl) (fun _ _ he h => h (of_decide_eq_true he)) (fun _ h _ => h) (fun _ _ _ h => h) (Or.inl ⟨by rfl, ?_⟩) ⟨t1, x0, x1, x2, x3, x4, x5⟩ ?_
        · rintro V ⟨v0, v1, v2, v3, v4, v5, v6⟩
          go_simp
        simp only [List.getElem_toArray, List.getElem_cons_zero, List.getElem_cons_succ, Act.put, List.setIfInBounds_toArray, List.set_cons_zero, List.set_cons_succ]
        refine wpAnyR_take (S := (fun V : World => V.cell? ⟨g, k * 4 + 1, none⟩ = some (.int .i64 (t.at_)) ∧ V.cell? ⟨xb, 0, none⟩ = some (.int .i64 (x.op)) ∧ V.cell? ⟨xb, 1, none⟩ = some (.int .i64 (x.n)) ∧ V.cell? ⟨xb, 2, none⟩ = some (.string x.s) ∧ V.cell? ⟨xb, 3, none⟩ = some (.slice p x.kids.length c) ∧ V.cell? ⟨xb, 4, none⟩ = some (.int .i64 (x.at_)) ∧ V.cell? ⟨xb, 5, none⟩ = some (.int .i64 ((j : Nat))))) (early := fun q => decide (q < 12)) (i := 5) (v := .pointer (some ⟨xb, 0, none⟩)) rfl (by kernel_rfl) (by kernel_rfl) (by kernel_rfl) (by kernel_rfl) (fun _ _ he h => h (of_decide_eq_true he)) (fun _ h _ => h) (fun _ _ _ h => h) (Or.inl ⟨by rfl, ?_⟩) ⟨t1, x0, x1, x2, x3, x4, x5⟩ ?_
        · rintro V ⟨v0, v1, v2, v3, v4, v5, v6⟩
          go_simp
        simp only [List.getElem_toArray, List.getElem_cons_zero, List.getElem_cons_succ, Act.put, List.setIfInBounds_toArray, List.set_cons_zero, List.set_cons_succ]
        refine wpAnyR_take (S := (fun V : World => V.cell? ⟨g, k * 4 + 1, none⟩ = some (.int .i64 (t.at_)) ∧ V.cell? ⟨xb, 0, none⟩ = some (.int .i64 (x.op)) ∧ V.cell? ⟨xb, 1, none⟩ = some (.int .i64 (x.n)) ∧ V.cell? ⟨xb, 2, none⟩ = some (.string x.s) ∧ V.cell? ⟨xb, 3, none⟩ = some (.slice p x.kids.length c) ∧ V.cell? ⟨xb, 4, none⟩ = some (.int .i64 (x.at_)) ∧ V.cell? ⟨xb, 5, none⟩ = some (.int .i64 ((j : Nat))))) (early := fun q => decide (q < 12)) (i := 6) (v := (.agg #[(.int .i64 (x.op)), (.int .i64 (x.n)), .string x.s, .slice p x.kids.length c, (.int .i64 (x.at_))])) rfl (by kernel_rfl) (by kernel_rfl) (by kernel_rfl) (by kernel_rfl) (fun _ _ he h => h (of_decide_eq_true he)) (fun _ h _ => h) (fun _ _ _ h => h) (Or.inl ⟨by rfl, ?_⟩) ⟨t1, x0, x1, x2, x3, x4, x5⟩ ?_
        · rintro V ⟨v0, v1, v2, v3, v4, v5, v6⟩
          go_simp
        simp only [List.getElem_toArray, List.getElem_cons_zero, List.getElem_cons_succ, Act.put, List.setIfInBounds_toArray, List.set_cons_zero, List.set_cons_succ]
        refine wpAnyR_take (S := (fun V : World => V.cell? ⟨g, k * 4 + 1, none⟩ = some (.int .i64 (t.at_)) ∧ V.cell? ⟨xb, 0, none⟩ = some (.int .i64 (x.op)) ∧ V.cell? ⟨xb, 1, none⟩ = some (.int .i64 (x.n)) ∧ V.cell? ⟨xb, 2, none⟩ = some (.string x.s) ∧ V.cell? ⟨xb, 3, none⟩ = some (.slice p x.kids.length c) ∧ V.cell? ⟨xb, 4, none⟩ = some (.int .i64 (x.at_)) ∧ V.cell? ⟨xb, 5, none⟩ = some (.int .i64 ((j : Nat))))) (early := fun q => decide (q < 12)) (i := 9) (v := .pointer (some ⟨xb, 5, none⟩)) rfl (by kernel_rfl) (by kernel_rfl) (by kernel_rfl) (by kernel_rfl) (fun _ _ he h => h (of_decide_eq_true he)) (fun _ h _ => h) (fun _ _ _ h => h) (Or.inl ⟨by rfl, ?_⟩) ⟨t1, x0, x1, x2, x3, x4, x5⟩ ?_
        · rintro V ⟨v0, v1, v2, v3, v4, v5, v6⟩
          go_simp
        simp only [List.getElem_toArray, List.getElem_cons_zero, List.getElem_cons_succ, Act.put, List.setIfInBounds_toArray, List.set_cons_zero, List.set_cons_succ]
        refine wpAnyR_take (S := (fun V : World => V.cell? ⟨g, k * 4 + 1, none⟩ = some (.int .i64 (t.at_)) ∧ V.cell? ⟨xb, 0, none⟩ = some (.int .i64 (x.op)) ∧ V.cell? ⟨xb, 1, none⟩ = some (.int .i64 (x.n)) ∧ V.cell? ⟨xb, 2, none⟩ = some (.string x.s) ∧ V.cell? ⟨xb, 3, none⟩ = some (.slice p x.kids.length c) ∧ V.cell? ⟨xb, 4, none⟩ = some (.int .i64 (x.at_)) ∧ V.cell? ⟨xb, 5, none⟩ = some (.int .i64 ((j : Nat))))) (early := fun q => decide (q < 12)) (i := 10) (v := (.int .i64 ((j : Nat)))) rfl (by kernel_rfl) (by kernel_rfl) (by kernel_rfl) (by kernel_rfl) (fun _ _ he h => h (of_decide_eq_true he)) (fun _ h _ => h) (fun _ _ _ h => h) (Or.inl ⟨by rfl, ?_⟩) ⟨t1, x0, x1, x2, x3, x4, x5⟩ ?_
        · rintro V ⟨v0, v1, v2, v3, v4, v5, v6⟩
          go_simp
        simp only [List.getElem_toArray, List.getElem_cons_zero, List.getElem_cons_succ, Act.put, List.setIfInBounds_toArray, List.set_cons_zero, List.set_cons_succ]
        refine wpAnyR_all (rs := [7]) (by kernel_rfl) (by simp) (fun i2 hi2 => ?_)
        obtain rfl : i2 = 7 := by simpa using hi2
        clear hi2
        refine wpOp_plain rfl rfl ?_
        simp only [List.getElem_toArray, List.getElem_cons_zero, List.getElem_cons_succ]
        go_simp
        obtain ⟨W10, nb, hW, hb, S9⟩ := SQ.box S8 (.cells #[(.int .i64 (x.op)), (.int .i64 (x.n)), .string x.s, .slice p x.kids.length c, (.int .i64 (x.at_))] 31)
        rw [← hW, ← hb]
        clear hW hb S8 t1 x0 x1 x2 x3 x4 x5 x6
        have t1 := (S9.out.tq.tok ht).2.1
        obtain ⟨x0, x1, x2, x3, x4, x5, x6⟩ := seven_cells (SQ.boxAt S9 1 rfl).1
        refine ⟨⟨t1, x0, x1, x2, x3, x4, x5⟩, ?_⟩
        refine wpAnyR_all (rs := [8]) (by kernel_rfl) (by simp) (fun i2 hi2 => ?_)
        obtain rfl : i2 = 8 := by simpa using hi2
        clear hi2
        refine wpOp_plain rfl rfl ?_
        simp only [List.getElem_toArray, List.getElem_cons_zero, List.getElem_cons_succ]
        go_simp
        refine wpAnyR_all (rs := [11]) (by kernel_rfl) (by simp) (fun i2 hi2 => ?_)
        obtain rfl : i2 = 11 := by simpa using hi2
        clear hi2
        refine wpOp_plain rfl rfl ?_
        simp only [List.getElem_toArray, List.getElem_cons_zero, List.getElem_cons_succ]
        go_simp
        have hz2 := (SQ.boxAt S9 2 rfl).1
        obtain ⟨r0, r1, r2, r3, r4, r5, r6⟩ := seven_cells hz2
        have fq := free_of_box hz2
        refine wpAnyR_all (rs := [12]) (by kernel_rfl) (by simp) (fun i2 hi2 => ?_)
        obtain rfl : i2 = 12 := by simpa using hi2
        clear hi2
        refine wpOp_plain rfl rfl ?_
        simp only [List.getElem_toArray, List.getElem_cons_zero, List.getElem_cons_succ]
        go_simp
        refine wpAnyR_done (by kernel_rfl) ?_ _
        go_wp2_with fail
        have SA := SQ.adopt S9 [(x, .slice p x.kids.length c)] rfl (by simp) 1
        have SB := SQ.put SA 1 rfl (seven_turned W10 rb (.int .i64 6) (.int .i64 0) (.string ⟨#[]⟩) (.slice (some ⟨nb, 0, none⟩) 1 1) (.int .i64 (t.at_)) (.int .i64 ((j : Nat))) (.int .i64 0)) (seven_set hz2)
        refine bodyPost_ret (results_got rfl _ _ rb (.int .i64 6) (.int .i64 0) (.string ⟨#[]⟩) (.slice (some ⟨nb, 0, none⟩) 1 1) (.int .i64 (t.at_)) (.int .i64 ((j : Nat))) (.int .i64 0) rfl (SQ.boxAt SB 1 rfl).1) rfl ?_
        exact ⟨SB.out.tur, some ⟨nb, 0, none⟩, 1, rfl, SQ.kidAt SB 0 rfl⟩
  · have hs : isS t ⟨#[45]⟩ = false := by simpa using hs
    rw [if_neg (by rw [hs]; decide)] at hr
    go_enter Tryz.func96, Tryz.ntmps96
    go_wp2_with fail
    obtain ⟨W1, rb, hW, hb, S1⟩ := SQ.box S0 (.cells #[(.int .i64 0), (.int .i64 0), .string ⟨#[]⟩, .slice none 0 0, (.int .i64 0), (.int .i64 0), (.int .i64 0)] 82)
    rw [← hW, ← hb]
    clear hW hb S0
    refine (sign_tq S1.out.tq ht _ rfl _).mono ?_
    rintro e W2 ⟨rfl, rfl⟩
    go_wp2_with fail
    cases r with
    | err j cc =>
      refine (IH.atom m k _ d _ _ (by omega) rfl hd0 hd hr S1.out.tq).mono ?_
      rintro e W3 ⟨ht2, rfl⟩
      have S2 := SQ.same S1 ht2
      have hz2 := (SQ.boxAt S2 0 rfl).1
      obtain ⟨r0, r1, r2, r3, r4, r5, r6⟩ := seven_cells hz2
      have fq := free_of_box hz2
      go_wp2_with fail
      have SB := SQ.put S2 0 rfl (seven_turned _ rb (.int .i64 0) (.int .i64 0) (.string ⟨#[]⟩) (.slice none 0 0) (.int .i64 0) (.int .i64 ((j : Nat))) (.int .i64 cc)) (seven_set hz2)
      refine bodyPost_ret (results_got rfl _ _ rb (.int .i64 0) (.int .i64 0) (.string ⟨#[]⟩) (.slice none 0 0) (.int .i64 0) (.int .i64 ((j : Nat))) (.int .i64 cc) rfl (SQ.boxAt SB 0 rfl).1) rfl ?_
      exact ⟨SB.out.tur, rfl⟩
    | ok x j =>
      refine (IH.atom m k _ d _ _ (by omega) rfl hd0 hd hr S1.out.tq).mono ?_
      rintro e W3 ⟨ht2, p, c, rfl, hk⟩
      have S2 := SQ.callK S1 ht2 hk
      have hz2 := (SQ.boxAt S2 0 rfl).1
      obtain ⟨r0, r1, r2, r3, r4, r5, r6⟩ := seven_cells hz2
      have fq := free_of_box hz2
      go_wp2_with fail
      have SB := SQ.put S2 0 rfl (seven_turned _ rb (.int .i64 (x.op)) (.int .i64 (x.n)) (.string x.s) (.slice p x.kids.length c) (.int .i64 (x.at_)) (.int .i64 ((j : Nat))) (.int .i64 0)) (seven_set hz2)
      refine bodyPost_ret (results_got rfl _ _ rb (.int .i64 (x.op)) (.int .i64 (x.n)) (.string x.s) (.slice p x.kids.length c) (.int .i64 (x.at_)) (.int .i64 ((j : Nat))) (.int .i64 0) rfl (SQ.boxAt SB 0 rfl).1) rfl ?_
      exact ⟨SB.out.tur, p, c, rfl, SQ.kidAt SB 0 rfl⟩
set_option maxRecDepth 20000 in
set_option maxHeartbeats 4000000 in
theorem bang_step {g cap : Nat} {ts : List Tok} {f : Nat} (IH : HypG g cap ts f) (m k : Nat) (d : Int) (r : PR Ex) (w : World) (hm : m ≤ f) (hkl : k < ts.length) (hd0 : 0 ≤ d) (hd : d ≤ 30) (hr : runF ts m (.level 3) k d = some r) (h : TQ g cap ts w) :
    Calls Tryz.prog 97 #[.slice (some ⟨g, 0, none⟩) ts.length cap, (.int .i64 ((k : Nat))), (.int .i64 d)] w (GX w r) := by
  obtain ⟨t, ht⟩ := some_of_lt hkl
  obtain ⟨m, rfl⟩ : ∃ m', m = m' + 1 := by
    cases m with
    | zero => simp [runF] at hr
    | succ m' => exact ⟨m', rfl⟩
  unfold runF at hr
  simp only [ht] at hr
  have S0 := SQ.start h
  have hkl2 : (k : Int) < (ts.length : Int) := by omega
  have hwk : IntKind.i64.wrap ((k : Int) + 1) = (k : Int) + 1 := IntWalk.i64_in _ (by have := h.ok.len; omega)
  have hwd : IntKind.i64.wrap (d + 1) = d + 1 := IntWalk.i64_in _ (by omega)
  rw [if_pos trivial] at hr
  by_cases hs : isS t ⟨#[33]⟩ = true
  · have hk1 := h.ok.sign ht hs
    obtain ⟨u, hu⟩ := some_of_lt hk1
    rw [if_pos hs] at hr
    simp only [hu] at hr
    go_enter Tryz.func97, Tryz.ntmps97
    go_wp2_with fail
    obtain ⟨W1, rb, hW, hb, S1⟩ := SQ.box S0 (.cells #[(.int .i64 0), (.int .i64 0), .string ⟨#[]⟩, .slice none 0 0, (.int .i64 0), (.int .i64 0), (.int .i64 0)] 82)
    rw [← hW, ← hb]
    clear hW hb S0
    refine (sign_tq S1.out.tq ht _ rfl _).mono ?_
    rintro e W2 ⟨rfl, rfl⟩
    go_wp2_with fail
    have HF := first_tq S1.out.tq hu ((k : Int) + 1) (by simp) (d + 1) true
    cases hfp : firstP u (d + 1) true with
    | some cc =>
      rw [hfp] at hr HF
      cases hr
      have hc := codeP_ne hfp
      refine HF.mono ?_
      rintro e W3 ⟨rfl, rfl⟩
      simp only [codeP]
      have hz2 := (SQ.boxAt S1 0 rfl).1
      obtain ⟨r0, r1, r2, r3, r4, r5, r6⟩ := seven_cells hz2
      have fq := free_of_box hz2
      go_wp2_with fail
      have SB := SQ.put S1 0 rfl (seven_turned _ rb (.int .i64 0) (.int .i64 0) (.string ⟨#[]⟩) (.slice none 0 0) (.int .i64 0) (.int .i64 ((k : Int) + 1)) (.int .i64 cc)) (seven_set hz2)
      refine bodyPost_ret (results_got rfl _ _ rb (.int .i64 0) (.int .i64 0) (.string ⟨#[]⟩) (.slice none 0 0) (.int .i64 0) (.int .i64 ((k : Int) + 1)) (.int .i64 cc) rfl (SQ.boxAt SB 0 rfl).1) rfl ?_
      exact ⟨SB.out.tur, rfl⟩
    | none =>
      rw [hfp] at hr HF
      have hd2 := firstP_le hfp
      clear hfp
      refine HF.mono ?_
      rintro e W3 ⟨rfl, rfl⟩
      simp only [codeP]
      go_wp2_with fail
      rcases PR.then_some hr with ⟨j, cc, h1, rfl⟩ | ⟨x, j, h1, h2⟩
      · have hcc := (run_fits h.ok _ _ _ _ _ h1).2
        have hc : (cc != 0) = true := by simp; omega
        refine (IH.bang m (k + 1) _ (d + 1) _ _ (by omega) (by simp) (by omega) hd2 h1 S1.out.tq).mono ?_
        rintro e W4 ⟨ht2, rfl⟩
        have S2 := SQ.same S1 ht2
        have hz2 := (SQ.boxAt S2 0 rfl).1
        have hrl := (SQ.boxAt S2 0 rfl).2.2
        obtain ⟨r0, r1, r2, r3, r4, r5, r6⟩ := seven_cells hz2
        have fq := free_of_box hz2
        have S3 := SQ.put S2 0 rfl (seven_turned W4 rb (.int .i64 0) (.int .i64 0) (.string ⟨#[]⟩) (.slice none 0 0) (.int .i64 0) (.int .i64 ((j : Nat))) (.int .i64 cc)) (seven_set hz2)
        obtain ⟨W5, xb, hW5, -, S4⟩ := SQ.box S3 (.cells #[(.int .i64 0), (.int .i64 0), (.string ⟨#[]⟩), (.slice none 0 0), (.int .i64 0), (.int .i64 ((j : Nat))), (.int .i64 cc)] 82)
        unfold set7 at hW5
        go_wp2_with fail
        rw [← hW5]
        refine bodyPost_ret (results_got rfl _ _ rb (.int .i64 0) (.int .i64 0) (.string ⟨#[]⟩) (.slice none 0 0) (.int .i64 0) (.int .i64 ((j : Nat))) (.int .i64 cc) rfl (SQ.boxAt S4 1 rfl).1) rfl ?_
        exact ⟨S4.out.tur, rfl⟩
      · cases h2
        refine (IH.bang m (k + 1) _ (d + 1) _ _ (by omega) (by simp) (by omega) hd2 h1 S1.out.tq).mono ?_
        rintro e W4 ⟨ht2, p, c, rfl, hk⟩
        have S2 := SQ.callK S1 ht2 hk
        clear S1 ht2 hk hr h1
        go_wp2_with fail
        obtain ⟨W5, xb, hW, hb, S7⟩ := SQ.box S2 (.cells #[(.int .i64 (x.op)), (.int .i64 (x.n)), .string x.s, .slice p x.kids.length c, (.int .i64 (x.at_)), (.int .i64 ((j : Nat))), (.int .i64 0)] 82)
        rw [← hW, ← hb]
        clear hW hb S2
        have t1 := (S7.out.tq.tok ht).2.1
        obtain ⟨x0, x1, x2, x3, x4, x5, x6⟩ := seven_cells (SQ.boxAt S7 0 rfl).1
        refine region_R (R := fun q V => q < 12 → (fun V : World => V.cell? ⟨g, k * 4 + 1, none⟩ = some (.int .i64 (t.at_)) ∧ V.cell? ⟨xb, 0, none⟩ = some (.int .i64 (x.op)) ∧ V.cell? ⟨xb, 1, none⟩ = some (.int .i64 (x.n)) ∧ V.cell? ⟨xb, 2, none⟩ = some (.string x.s) ∧ V.cell? ⟨xb, 3, none⟩ = some (.slice p x.kids.length c) ∧ V.cell? ⟨xb, 4, none⟩ = some (.int .i64 (x.at_)) ∧ V.cell? ⟨xb, 5, none⟩ = some (.int .i64 ((j : Nat)))) V) (by kernel_rfl) ?_
        obtain ⟨Wd, hWd⟩ : ∃ Wd, Wd = W5.drew := ⟨_, rfl⟩
        rw [← hWd]
        have S8 := SQ.same S7 (Turned.refl _ _).drew
        rw [← hWd] at S8
        clear hWd S7 t1 x0 x1 x2 x3 x4 x5 x6
        have t1 := (S8.out.tq.tok ht).2.1
        obtain ⟨x0, x1, x2, x3, x4, x5, x6⟩ := seven_cells (SQ.boxAt S8 0 rfl).1
        refine wpAnyR_take (S := (fun V : World => V.cell? ⟨g, k * 4 + 1, none⟩ = some (.int .i64 (t.at_)) ∧ V.cell? ⟨xb, 0, none⟩ = some (.int .i64 (x.op)) ∧ V.cell? ⟨xb, 1, none⟩ = some (.int .i64 (x.n)) ∧ V.cell? ⟨xb, 2, none⟩ = some (.string x.s) ∧ V.cell? ⟨xb, 3, none⟩ = some (.slice p x.kids.length c) ∧ V.cell? ⟨xb, 4, none⟩ = some (.int .i64 (x.at_)) ∧ V.cell? ⟨xb, 5, none⟩ = some (.int .i64 ((j : Nat))))) (early := fun q => decide (q < 12)) (i := 0) (v := .slice (some ⟨g, 0, none⟩) ts.length cap) rfl (by kernel_rfl) (by kernel_rfl) (by kernel_rfl) (by kernel_rfl) (fun _ _ he h => h (of_decide_eq_true he)) (fun _ h _ => h) (fun _ _ _ h => h) (Or.inl ⟨by rfl, ?_⟩) ⟨t1, x0, x1, x2, x3, x4, x5⟩ ?_
        · rintro V ⟨v0, v1, v2, v3, v4, v5, v6⟩
          go_simp
        simp only [List.getElem_toArray, List.getElem_cons_zero, Act.put, List.setIfInBounds_toArray, List.set_cons_zero, List.set_cons_succ]
        refine wpAnyR_take (S := (fun V : World => V.cell? ⟨g, k * 4 + 1, none⟩ = some (.int .i64 (t.at_)) ∧ V.cell? ⟨xb, 0, none⟩ = some (.int .i64 (x.op)) ∧ V.cell? ⟨xb, 1, none⟩ = some (.int .i64 (x.n)) ∧ V.cell? ⟨xb, 2, none⟩ = some (.string x.s) ∧ V.cell? ⟨xb, 3, none⟩ = some (.slice p x.kids.length c) ∧ V.cell? ⟨xb, 4, none⟩ = some (.int .i64 (x.at_)) ∧ V.cell? ⟨xb, 5, none⟩ = some (.int .i64 ((j : Nat))))) (early := fun q => decide (q < 12)) (i := 1) (v := (.int .i64 ((k : Nat)))) rfl (by kernel_rfl) (by kernel_rfl) (by kernel_rfl) (by kernel_rfl) (fun _ _ he h => h (of_decide_eq_true he)) (fun _ h _ => h) (fun _ _ _ h => h) (Or.inl ⟨by rfl, ?_⟩) ⟨t1, x0, x1, x2, x3, x4, x5⟩ ?_
        · rintro V ⟨v0, v1, v2, v3, v4, v5, v6⟩
          go_simp
        simp only [List.getElem_toArray, List.getElem_cons_zero, List.getElem_cons_succ, Act.put, List.setIfInBounds_toArray, List.set_cons_zero, List.set_cons_succ]
        refine wpAnyR_take (S := (fun V : World => V.cell? ⟨g, k * 4 + 1, none⟩ = some (.int .i64 (t.at_)) ∧ V.cell? ⟨xb, 0, none⟩ = some (.int .i64 (x.op)) ∧ V.cell? ⟨xb, 1, none⟩ = some (.int .i64 (x.n)) ∧ V.cell? ⟨xb, 2, none⟩ = some (.string x.s) ∧ V.cell? ⟨xb, 3, none⟩ = some (.slice p x.kids.length c) ∧ V.cell? ⟨xb, 4, none⟩ = some (.int .i64 (x.at_)) ∧ V.cell? ⟨xb, 5, none⟩ = some (.int .i64 ((j : Nat))))) (early := fun q => decide (q < 12)) (i := 2) (v := .pointer (some ⟨g, k * 4, none⟩)) rfl (by kernel_rfl) (by kernel_rfl) (by kernel_rfl) (by kernel_rfl) (fun _ _ he h => h (of_decide_eq_true he)) (fun _ h _ => h) (fun _ _ _ h => h) (Or.inl ⟨by rfl, ?_⟩) ⟨t1, x0, x1, x2, x3, x4, x5⟩ ?_
        · rintro V ⟨v0, v1, v2, v3, v4, v5, v6⟩
          go_simp
        simp only [List.getElem_toArray, List.getElem_cons_zero, List.getElem_cons_succ, Act.put, List.setIfInBounds_toArray, List.set_cons_zero, List.set_cons_succ]
        refine wpAnyR_take (S := (fun V : World => V.cell? ⟨g, k * 4 + 1, none⟩ = some (.int .i64 (t.at_)) ∧ V.cell? ⟨xb, 0, none⟩ = some (.int .i64 (x.op)) ∧ V.cell? ⟨xb, 1, none⟩ = some (.int .i64 (x.n)) ∧ V.cell? ⟨xb, 2, none⟩ = some (.string x.s) ∧ V.cell? ⟨xb, 3, none⟩ = some (.slice p x.kids.length c) ∧ V.cell? ⟨xb, 4, none⟩ = some (.int .i64 (x.at_)) ∧ V.cell? ⟨xb, 5, none⟩ = some (.int .i64 ((j : Nat))))) (early := fun q => decide (q < 12)) (i := 3) (v := .pointer (some ⟨g, k * 4 + 1, none⟩)) rfl (by kernel_rfl) (by kernel_rfl) (by kernel_rfl) (by kernel_rfl) (fun _ _ he h => h (of_decide_eq_true he)) (fun _ h _ => h) (fun _ _ _ h => h) (Or.inl ⟨by rfl, ?_⟩) ⟨t1, x0, x1, x2, x3, x4, x5⟩ ?_
        · rintro V ⟨v0, v1, v2, v3, v4, v5, v6⟩
          go_simp
        simp only [List.getElem_toArray, List.getElem_cons_zero, List.getElem_cons_succ, Act.put, List.setIfInBounds_toArray, List.set_cons_zero, List.set_cons_succ]
        refine wpAnyR_take (S := (fun V : World => V.cell? ⟨g, k * 4 + 1, none⟩ = some (.int .i64 (t.at_)) ∧ V.cell? ⟨xb, 0, none⟩ = some (.int .i64 (x.op)) ∧ V.cell? ⟨xb, 1, none⟩ = some (.int .i64 (x.n)) ∧ V.cell? ⟨xb, 2, none⟩ = some (.string x.s) ∧ V.cell? ⟨xb, 3, none⟩ = some (.slice p x.kids.length c) ∧ V.cell? ⟨xb, 4, none⟩ = some (.int .i64 (x.at_)) ∧ V.cell? ⟨xb, 5, none⟩ = some (.int .i64 ((j : Nat))))) (early := fun q => decide (q < 12)) (i := 4) (v := (.int .i64 (t.at_))) rfl (by kernel_rfl) (by kernel_rfl) (by kernel_rfl) (by kernel_rfl) (fun _ _ he h => h (of_decide_eq_true he)) (fun _ h _ => h) (fun _ _ _ h => h) (Or.inl ⟨by rfl, ?_⟩) ⟨t1, x0, x1, x2, x3, x4, x5⟩ ?_
        · rintro V ⟨v0, v1, v2, v3, v4, v5, v6⟩
          go_simp
        simp only [List.getElem_toArray, List.getElem_cons_zero, List.getElem_cons_succ, Act.put, List.setIfInBounds_toArray, List.set_cons_zero, List.set_cons_succ]
        refine wpAnyR_take (S := (fun V : World => V.cell? ⟨g, k * 4 + 1, none⟩ = some (.int .i64 (t.at_)) ∧ V.cell? ⟨xb, 0, none⟩ = some (.int .i64 (x.op)) ∧ V.cell? ⟨xb, 1, none⟩ = some (.int .i64 (x.n)) ∧ V.cell? ⟨xb, 2, none⟩ = some (.string x.s) ∧ V.cell? ⟨xb, 3, none⟩ = some (.slice p x.kids.length c) ∧ V.cell? ⟨xb, 4, none⟩ = some (.int .i64 (x.at_)) ∧ V.cell? ⟨xb, 5, none⟩ = some (.int .i64 ((j : Nat))))) (early := fun q => decide (q < 12)) (i := 5) (v := .pointer (some ⟨xb, 0, none⟩)) rfl (by kernel_rfl) (by kernel_rfl) (by kernel_rfl) (by kernel_rfl) (fun _ _ he h => h (of_decide_eq_true he)) (fun _ h _ => h) (fun _ _ _ h => h) (Or.inl ⟨by rfl, ?_⟩) ⟨t1, x0, x1, x2, x3, x4, x5⟩ ?_
        · rintro V ⟨v0, v1, v2, v3, v4, v5, v6⟩
          go_simp
        simp only [List.getElem_toArray, List.getElem_cons_zero, List.getElem_cons_succ, Act.put, List.setIfInBounds_toArray, List.set_cons_zero, List.set_cons_succ]
        refine wpAnyR_take (S := (fun V : World => V.cell? ⟨g, k * 4 + 1, none⟩ = some (.int .i64 (t.at_)) ∧ V.cell? ⟨xb, 0, none⟩ = some (.int .i64 (x.op)) ∧ V.cell? ⟨xb, 1, none⟩ = some (.int .i64 (x.n)) ∧ V.cell? ⟨xb, 2, none⟩ = some (.string x.s) ∧ V.cell? ⟨xb, 3, none⟩ = some (.slice p x.kids.length c) ∧ V.cell? ⟨xb, 4, none⟩ = some (.int .i64 (x.at_)) ∧ V.cell? ⟨xb, 5, none⟩ = some (.int .i64 ((j : Nat))))) (early := fun q => decide (q < 12)) (i := 6) (v := (.agg #[(.int .i64 (x.op)), (.int .i64 (x.n)), .string x.s, .slice p x.kids.length c, (.int .i64 (x.at_))])) rfl (by kernel_rfl) (by kernel_rfl) (by kernel_rfl) (by kernel_rfl) (fun _ _ he h => h (of_decide_eq_true he)) (fun _ h _ => h) (fun _ _ _ h => h) (Or.inl ⟨by rfl, ?_⟩) ⟨t1, x0, x1, x2, x3, x4, x5⟩ ?_
        · rintro V ⟨v0, v1, v2, v3, v4, v5, v6⟩
          go_simp
        simp only [List.getElem_toArray, List.getElem_cons_zero, List.getElem_cons_succ, Act.put, List.setIfInBounds_toArray, List.set_cons_zero, List.set_cons_succ]
        refine wpAnyR_take (S := (fun V : World => V.cell? ⟨g, k * 4 + 1, none⟩ = some (.int .i64 (t.at_)) ∧ V.cell? ⟨xb, 0, none⟩ = some (.int .i64 (x.op)) ∧ V.cell? ⟨xb, 1, none⟩ = some (.int .i64 (x.n)) ∧ V.cell? ⟨xb, 2, none⟩ = some (.string x.s) ∧ V.cell? ⟨xb, 3, none⟩ = some (.slice p x.kids.length c) ∧ V.cell? ⟨xb, 4, none⟩ = some (.int .i64 (x.at_)) ∧ V.cell? ⟨xb, 5, none⟩ = some (.int .i64 ((j : Nat))))) (early := fun q => decide (q < 12)) (i := 9) (v := .pointer (some ⟨xb, 5, none⟩)) rfl (by kernel_rfl) (by kernel_rfl) (by kernel_rfl) (by kernel_rfl) (fun _ _ he h => h (of_decide_eq_true he)) (fun _ h _ => h) (fun _ _ _ h => h) (Or.inl ⟨by rfl, ?_⟩) ⟨t1, x0, x1, x2, x3, x4, x5⟩ ?_
        · rintro V ⟨v0, v1, v2, v3, v4, v5, v6⟩
          go_simp
        simp only [List.getElem_toArray, List.getElem_cons_zero, List.getElem_cons_succ, Act.put, List.setIfInBounds_toArray, List.set_cons_zero, List.set_cons_succ]
        refine wpAnyR_take (S := (fun V : World => V.cell? ⟨g, k * 4 + 1, none⟩ = some (.int .i64 (t.at_)) ∧ V.cell? ⟨xb, 0, none⟩ = some (.int .i64 (x.op)) ∧ V.cell? ⟨xb, 1, none⟩ = some (.int .i64 (x.n)) ∧ V.cell? ⟨xb, 2, none⟩ = some (.string x.s) ∧ V.cell? ⟨xb, 3, none⟩ = some (.slice p x.kids.length c) ∧ V.cell? ⟨xb, 4, none⟩ = some (.int .i64 (x.at_)) ∧ V.cell? ⟨xb, 5, none⟩ = some (.int .i64 ((j : Nat))))) (early := fun q => decide (q < 12)) (i := 10) (v := (.int .i64 ((j : Nat)))) rfl (by kernel_rfl) (by kernel_rfl) (by kernel_rfl) (by kernel_rfl) (fun _ _ he h => h (of_decide_eq_true he)) (fun _ h _ => h) (fun _ _ _ h => h) (Or.inl ⟨by rfl, ?_⟩) ⟨t1, x0, x1, x2, x3, x4, x5⟩ ?_
        · rintro V ⟨v0, v1, v2, v3, v4, v5, v6⟩
          go_simp
        simp only [List.getElem_toArray, List.getElem_cons_zero, List.getElem_cons_succ, Act.put, List.setIfInBounds_toArray, List.set_cons_zero, List.set_cons_succ]
        refine wpAnyR_all (rs := [7]) (by kernel_rfl) (by simp) (fun i2 hi2 => ?_)
        obtain rfl : i2 = 7 := by simpa using hi2
        clear hi2
        refine wpOp_plain rfl rfl ?_
        simp only [List.getElem_toArray, List.getElem_cons_zero, List.getElem_cons_succ]
        go_simp
        obtain ⟨W10, nb, hW, hb, S9⟩ := SQ.box S8 (.cells #[(.int .i64 (x.op)), (.int .i64 (x.n)), .string x.s, .slice p x.kids.length c, (.int .i64 (x.at_))] 31)
        rw [← hW, ← hb]
        clear hW hb S8 t1 x0 x1 x2 x3 x4 x5 x6
        have t1 := (S9.out.tq.tok ht).2.1
        obtain ⟨x0, x1, x2, x3, x4, x5, x6⟩ := seven_cells (SQ.boxAt S9 1 rfl).1
        refine ⟨⟨t1, x0, x1, x2, x3, x4, x5⟩, ?_⟩
        refine wpAnyR_all (rs := [8]) (by kernel_rfl) (by simp) (fun i2 hi2 => ?_)
        obtain rfl : i2 = 8 := by simpa using hi2
        clear hi2
        refine wpOp_plain rfl rfl ?_
        simp only [List.getElem_toArray, List.getElem_cons_zero, List.getElem_cons_succ]
        go_simp
        refine wpAnyR_all (rs := [11]) (by kernel_rfl) (by simp) (fun i2 hi2 => ?_)
        obtain rfl : i2 = 11 := by simpa using hi2
        clear hi2
        refine wpOp_plain rfl rfl ?_
        simp only [List.getElem_toArray, List.getElem_cons_zero, List.getElem_cons_succ]
        go_simp
        have hz2 := (SQ.boxAt S9 2 rfl).1
        obtain ⟨r0, r1, r2, r3, r4, r5, r6⟩ := seven_cells hz2
        have fq := free_of_box hz2
        refine wpAnyR_all (rs := [12]) (by kernel_rfl) (by simp) (fun i2 hi2 => ?_)
        obtain rfl : i2 = 12 := by simpa using hi2
        clear hi2
        refine wpOp_plain rfl rfl ?_
        simp only [List.getElem_toArray, List.getElem_cons_zero, List.getElem_cons_succ]
        go_simp
        refine wpAnyR_done (by kernel_rfl) ?_ _
        go_wp2_with fail
        have SA := SQ.adopt S9 [(x, .slice p x.kids.length c)] rfl (by simp) 1
        have SB := SQ.put SA 1 rfl (seven_turned W10 rb (.int .i64 5) (.int .i64 0) (.string ⟨#[]⟩) (.slice (some ⟨nb, 0, none⟩) 1 1) (.int .i64 (t.at_)) (.int .i64 ((j : Nat))) (.int .i64 0)) (seven_set hz2)
        refine bodyPost_ret (results_got rfl _ _ rb (.int .i64 5) (.int .i64 0) (.string ⟨#[]⟩) (.slice (some ⟨nb, 0, none⟩) 1 1) (.int .i64 (t.at_)) (.int .i64 ((j : Nat))) (.int .i64 0) rfl (SQ.boxAt SB 1 rfl).1) rfl ?_
        exact ⟨SB.out.tur, some ⟨nb, 0, none⟩, 1, rfl, SQ.kidAt SB 0 rfl⟩
  · have hs : isS t ⟨#[33]⟩ = false := by simpa using hs
    rw [if_neg (by rw [hs]; decide)] at hr
    go_enter Tryz.func97, Tryz.ntmps97
    go_wp2_with fail
    obtain ⟨W1, rb, hW, hb, S1⟩ := SQ.box S0 (.cells #[(.int .i64 0), (.int .i64 0), .string ⟨#[]⟩, .slice none 0 0, (.int .i64 0), (.int .i64 0), (.int .i64 0)] 82)
    rw [← hW, ← hb]
    clear hW hb S0
    refine (sign_tq S1.out.tq ht _ rfl _).mono ?_
    rintro e W2 ⟨rfl, rfl⟩
    go_wp2_with fail
    cases r with
    | err j cc =>
      refine (IH.binary m 4 k _ 4 d _ _ (by omega) rfl rfl (by omega) (by omega) hd0 hd hr S1.out.tq).mono ?_
      rintro e W3 ⟨ht2, rfl⟩
      have S2 := SQ.same S1 ht2
      have hz2 := (SQ.boxAt S2 0 rfl).1
      obtain ⟨r0, r1, r2, r3, r4, r5, r6⟩ := seven_cells hz2
      have fq := free_of_box hz2
      go_wp2_with fail
      have SB := SQ.put S2 0 rfl (seven_turned _ rb (.int .i64 0) (.int .i64 0) (.string ⟨#[]⟩) (.slice none 0 0) (.int .i64 0) (.int .i64 ((j : Nat))) (.int .i64 cc)) (seven_set hz2)
      refine bodyPost_ret (results_got rfl _ _ rb (.int .i64 0) (.int .i64 0) (.string ⟨#[]⟩) (.slice none 0 0) (.int .i64 0) (.int .i64 ((j : Nat))) (.int .i64 cc) rfl (SQ.boxAt SB 0 rfl).1) rfl ?_
      exact ⟨SB.out.tur, rfl⟩
    | ok x j =>
      refine (IH.binary m 4 k _ 4 d _ _ (by omega) rfl rfl (by omega) (by omega) hd0 hd hr S1.out.tq).mono ?_
      rintro e W3 ⟨ht2, p, c, rfl, hk⟩
      have S2 := SQ.callK S1 ht2 hk
      have hz2 := (SQ.boxAt S2 0 rfl).1
      obtain ⟨r0, r1, r2, r3, r4, r5, r6⟩ := seven_cells hz2
      have fq := free_of_box hz2
      go_wp2_with fail
      have SB := SQ.put S2 0 rfl (seven_turned _ rb (.int .i64 (x.op)) (.int .i64 (x.n)) (.string x.s) (.slice p x.kids.length c) (.int .i64 (x.at_)) (.int .i64 ((j : Nat))) (.int .i64 0)) (seven_set hz2)
      refine bodyPost_ret (results_got rfl _ _ rb (.int .i64 (x.op)) (.int .i64 (x.n)) (.string x.s) (.slice p x.kids.length c) (.int .i64 (x.at_)) (.int .i64 ((j : Nat))) (.int .i64 0) rfl (SQ.boxAt SB 0 rfl).1) rfl ?_
      exact ⟨SB.out.tur, p, c, rfl, SQ.kidAt SB 0 rfl⟩
end Go.Proofs.YtjijdgkccfeeaaaGreatDoor
