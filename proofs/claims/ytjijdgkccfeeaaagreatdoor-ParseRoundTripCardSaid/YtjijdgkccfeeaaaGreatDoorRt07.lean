/- Part 7 of the proof of card: ParWalkD. Conditions: those of each theorem. -/
import Derived.Test.YtjijdgkccfeeaaaGreatDoorRt01
import Derived.Test.YtjijdgkccfeeaaaGreatDoorRt06
namespace Go.Proofs.YtjijdgkccfeeaaaGreatDoor
open Go Go.Proofs Go.RowKit
attribute [local go_sem] Oper.semAt_some
theorem firstP_le {t : Tok} {d : Int} {no : Bool} (h : firstP t d no = none) : d ≤ 30 := by
  unfold firstP at h
  split at h
  · cases h
  · split at h
    · cases h
    · omega
set_option maxRecDepth 20000 in
set_option maxHeartbeats 4000000 in
theorem expr_step {B g cap : Nat} {ts : List Tok} {f : Nat} (IH : Hyp B g cap ts f) (m : Nat) (k : Nat) (d : Int) (r : PR Ex) (w : World) (nf : Int) (hm : m ≤ f) (hd0 : 0 ≤ d) (hd : d ≤ 31) (hr : runF ts m .expr k d = some r) (h : PS B g cap ts w k nf) :
    Calls Tryz.prog 31 #[.pointer (some ⟨B, 0, none⟩), (.int .i64 d)] w (XR B g cap ts nf w r) := by
  obtain ⟨t, ht⟩ := some_of_lt h.lt
  obtain ⟨m, rfl⟩ : ∃ m', m = m' + 1 := by
    cases m with
    | zero => simp [runF] at hr
    | succ m' => exact ⟨m', rfl⟩
  unfold runF at hr
  simp only [ht] at hr
  have S0 := SP.start h
  go_enter Tryz.func31, Tryz.ntmps31
  go_wp2_with fail
  obtain ⟨W1, rb, hW, hb, S1⟩ := SP.box S0 (.cells #[(.int .i64 0), (.int .i64 0), .string ⟨#[]⟩, .slice none 0 0, (.int .i64 0)] 31)
  rw [← hW, ← hb]
  clear hW hb S0
  refine (deep_ps S1.out.ps ht _ _).mono ?_
  rintro e W2 ⟨hD, rfl⟩
  cases hfp : firstP t d true with
  | some c =>
    rw [hfp] at hr hD
    cases hr
    obtain rfl : e = .panicked [stopE ts k c] := hD
    exact ⟨rfl, rfl, S1.out.tur⟩
  | none =>
    rw [hfp] at hr hD
    obtain rfl : e = .returned (.tuple #[]) := hD
    have hd2 := firstP_le hfp
    clear hfp
    go_wp2_with fail
    rcases PR.then_some hr with ⟨j, c, h1, rfl⟩ | ⟨x, j, h1, h2⟩
    · refine (IH.level m 1 1 k d _ _ nf (by omega) rfl (by omega) (by omega) hd0 hd2 h1 S1.out.ps).mono ?_
      intro e W3 hx
      obtain ⟨rfl, ht2⟩ := hx
      exact ⟨rfl, rfl, S1.out.tur.trans ht2⟩
    refine (IH.level m 1 1 k d _ _ nf (by omega) rfl (by omega) (by omega) hd0 hd2 h1 S1.out.ps).mono ?_
    intro e W3 hx
    obtain ⟨p1, c1, rfl, hk, hp, ht2⟩ := hx
    have S2 := SP.callK S1 ht2 hp hk
    clear S1 hk hp ht2 hr
    go_wp2_with fail
    obtain ⟨W4, eb, hW, hb, S3⟩ := SP.box S2 (.cells #[(.int .i64 (x.op)), (.int .i64 (x.n)), .string x.s, .slice p1 x.kids.length c1, (.int .i64 (x.at_))] 31)
    rw [← hW, ← hb]
    clear hW hb S2
    obtain ⟨u, hu⟩ := some_of_lt S3.out.ps.lt
    simp only [hu] at h2
    refine (is_ps S3.out.ps hu _).mono ?_
    rintro e W5 ⟨rfl, rfl⟩
    by_cases hq : isS u ⟨#[63]⟩ = true
    · rw [if_neg (by rw [hq]; decide)] at h2
      have hk1 := h.ok.sign hu hq
      go_wp2_with fail
      refine (next_ps S3.out.ps hu hk1).mono ?_
      rintro e W5 ⟨rfl, hp, ht2⟩
      have S4 := SP.call S3 ht2 hp
      clear S3 hp ht2
      go_wp2_with fail
      rcases PR.then_some h2 with ⟨j2, c, h3, rfl⟩ | ⟨a, j2, h3, h4⟩
      · refine (IH.expr m (j + 1) (d + 1) _ _ nf (by omega) (by omega) (by omega) h3 S4.out.ps).mono ?_
        intro e W6 hx
        obtain ⟨rfl, ht2⟩ := hx
        exact ⟨rfl, rfl, S4.out.tur.trans ht2⟩
      refine (IH.expr m (j + 1) (d + 1) _ _ nf (by omega) (by omega) (by omega) h3 S4.out.ps).mono ?_
      intro e W6 hx
      obtain ⟨p2, c2, rfl, hk, hp, ht2⟩ := hx
      have S5 := SP.callK S4 ht2 hp hk
      clear S4 hk hp ht2 h2
      go_wp2_with fail
      obtain ⟨W7, ab, hW, hb, S6⟩ := SP.box S5 (.cells #[(.int .i64 (a.op)), (.int .i64 (a.n)), .string a.s, .slice p2 a.kids.length c2, (.int .i64 (a.at_))] 31)
      rw [← hW, ← hb]
      clear hW hb S5
      obtain ⟨v, hv⟩ := some_of_lt S6.out.ps.lt
      simp only [hv] at h4
      by_cases hc : isS v ⟨#[58]⟩ = true
      · rw [if_neg (by rw [hc]; decide)] at h4
        refine (need_ps S6.out.ps hv _ hc).mono ?_
        rintro e W8 ⟨rfl, hp, ht2⟩
        have S7 := SP.call S6 ht2 hp
        clear S6 hp ht2
        obtain ⟨z1, z2, z3⟩ := SP.boxAt S7 0 rfl
        obtain ⟨y0, y1, y2, y3, y4⟩ := cellsFive z1
        obtain ⟨z4, z5, z6⟩ := SP.boxAt S7 1 rfl
        obtain ⟨x0, x1, x2, x3, x4⟩ := cellsFive z4
        have hw : IntKind.i64.wrap (d + 1) = d + 1 := IntWalk.i64_in _ (by omega)
        go_wp2_with fail
        rcases PR.then_some h4 with ⟨j3, c, h5, rfl⟩ | ⟨b, j3, h5, h6⟩
        · have S8 := SP.same S7 (Turned.refl _ _).drew
          · skip
            · skip
              refine region_R (R := fun j V => j < 10 → (fun V : World => V.cell? ⟨eb, 0, none⟩ = some (.int .i64 (x.op)) ∧ V.cell? ⟨eb, 1, none⟩ = some (.int .i64 (x.n)) ∧ V.cell? ⟨eb, 2, none⟩ = some (.string x.s) ∧ V.cell? ⟨eb, 3, none⟩ = some (.slice p1 x.kids.length c1) ∧ V.cell? ⟨eb, 4, none⟩ = some (.int .i64 (x.at_)) ∧ V.cell? ⟨ab, 0, none⟩ = some (.int .i64 (a.op)) ∧ V.cell? ⟨ab, 1, none⟩ = some (.int .i64 (a.n)) ∧ V.cell? ⟨ab, 2, none⟩ = some (.string a.s) ∧ V.cell? ⟨ab, 3, none⟩ = some (.slice p2 a.kids.length c2) ∧ V.cell? ⟨ab, 4, none⟩ = some (.int .i64 (a.at_))) V) (by kernel_rfl) ?_
              refine wpAnyR_take (S := (fun V : World => V.cell? ⟨eb, 0, none⟩ = some (.int .i64 (x.op)) ∧ V.cell? ⟨eb, 1, none⟩ = some (.int .i64 (x.n)) ∧ V.cell? ⟨eb, 2, none⟩ = some (.string x.s) ∧ V.cell? ⟨eb, 3, none⟩ = some (.slice p1 x.kids.length c1) ∧ V.cell? ⟨eb, 4, none⟩ = some (.int .i64 (x.at_)) ∧ V.cell? ⟨ab, 0, none⟩ = some (.int .i64 (a.op)) ∧ V.cell? ⟨ab, 1, none⟩ = some (.int .i64 (a.n)) ∧ V.cell? ⟨ab, 2, none⟩ = some (.string a.s) ∧ V.cell? ⟨ab, 3, none⟩ = some (.slice p2 a.kids.length c2) ∧ V.cell? ⟨ab, 4, none⟩ = some (.int .i64 (a.at_)))) (early := fun j => decide (j < 10)) (i := 0) (v := .pointer (some ⟨eb, 4, none⟩)) rfl (by kernel_rfl) (by kernel_rfl) (by kernel_rfl) (by kernel_rfl) (fun _ _ he h => h (of_decide_eq_true he)) (fun _ h _ => h) (fun _ _ _ h => h) (Or.inl ⟨by rfl, ?_⟩) ⟨x0, x1, x2, x3, x4, y0, y1, y2, y3, y4⟩ ?_
              · rintro V ⟨v0, v1, v2, v3, v4, v5, v6, v7, v8, v9⟩
                go_simp
              simp only [List.getElem_toArray, List.getElem_cons_zero, Act.put, List.setIfInBounds_toArray, List.set_cons_zero, List.set_cons_succ]
              refine wpAnyR_take (S := (fun V : World => V.cell? ⟨eb, 0, none⟩ = some (.int .i64 (x.op)) ∧ V.cell? ⟨eb, 1, none⟩ = some (.int .i64 (x.n)) ∧ V.cell? ⟨eb, 2, none⟩ = some (.string x.s) ∧ V.cell? ⟨eb, 3, none⟩ = some (.slice p1 x.kids.length c1) ∧ V.cell? ⟨eb, 4, none⟩ = some (.int .i64 (x.at_)) ∧ V.cell? ⟨ab, 0, none⟩ = some (.int .i64 (a.op)) ∧ V.cell? ⟨ab, 1, none⟩ = some (.int .i64 (a.n)) ∧ V.cell? ⟨ab, 2, none⟩ = some (.string a.s) ∧ V.cell? ⟨ab, 3, none⟩ = some (.slice p2 a.kids.length c2) ∧ V.cell? ⟨ab, 4, none⟩ = some (.int .i64 (a.at_)))) (early := fun j => decide (j < 10)) (i := 1) (v := (.int .i64 (x.at_))) rfl (by kernel_rfl) (by kernel_rfl) (by kernel_rfl) (by kernel_rfl) (fun _ _ he h => h (of_decide_eq_true he)) (fun _ h _ => h) (fun _ _ _ h => h) (Or.inl ⟨by rfl, ?_⟩) ⟨x0, x1, x2, x3, x4, y0, y1, y2, y3, y4⟩ ?_
              · rintro V ⟨v0, v1, v2, v3, v4, v5, v6, v7, v8, v9⟩
                go_simp
              simp only [List.getElem_toArray, List.getElem_cons_zero, List.getElem_cons_succ, Act.put, List.setIfInBounds_toArray, List.set_cons_zero, List.set_cons_succ]
              refine wpAnyR_take (S := (fun V : World => V.cell? ⟨eb, 0, none⟩ = some (.int .i64 (x.op)) ∧ V.cell? ⟨eb, 1, none⟩ = some (.int .i64 (x.n)) ∧ V.cell? ⟨eb, 2, none⟩ = some (.string x.s) ∧ V.cell? ⟨eb, 3, none⟩ = some (.slice p1 x.kids.length c1) ∧ V.cell? ⟨eb, 4, none⟩ = some (.int .i64 (x.at_)) ∧ V.cell? ⟨ab, 0, none⟩ = some (.int .i64 (a.op)) ∧ V.cell? ⟨ab, 1, none⟩ = some (.int .i64 (a.n)) ∧ V.cell? ⟨ab, 2, none⟩ = some (.string a.s) ∧ V.cell? ⟨ab, 3, none⟩ = some (.slice p2 a.kids.length c2) ∧ V.cell? ⟨ab, 4, none⟩ = some (.int .i64 (a.at_)))) (early := fun j => decide (j < 10)) (i := 2) (v := .agg #[(.int .i64 (x.op)), (.int .i64 (x.n)), .string x.s, .slice p1 x.kids.length c1, (.int .i64 (x.at_))]) rfl (by kernel_rfl) (by kernel_rfl) (by kernel_rfl) (by kernel_rfl) (fun _ _ he h => h (of_decide_eq_true he)) (fun _ h _ => h) (fun _ _ _ h => h) (Or.inl ⟨by rfl, ?_⟩) ⟨x0, x1, x2, x3, x4, y0, y1, y2, y3, y4⟩ ?_
              · rintro V ⟨v0, v1, v2, v3, v4, v5, v6, v7, v8, v9⟩
                go_simp
              simp only [List.getElem_toArray, List.getElem_cons_zero, List.getElem_cons_succ, Act.put, List.setIfInBounds_toArray, List.set_cons_zero, List.set_cons_succ]
              refine wpAnyR_take (S := (fun V : World => V.cell? ⟨eb, 0, none⟩ = some (.int .i64 (x.op)) ∧ V.cell? ⟨eb, 1, none⟩ = some (.int .i64 (x.n)) ∧ V.cell? ⟨eb, 2, none⟩ = some (.string x.s) ∧ V.cell? ⟨eb, 3, none⟩ = some (.slice p1 x.kids.length c1) ∧ V.cell? ⟨eb, 4, none⟩ = some (.int .i64 (x.at_)) ∧ V.cell? ⟨ab, 0, none⟩ = some (.int .i64 (a.op)) ∧ V.cell? ⟨ab, 1, none⟩ = some (.int .i64 (a.n)) ∧ V.cell? ⟨ab, 2, none⟩ = some (.string a.s) ∧ V.cell? ⟨ab, 3, none⟩ = some (.slice p2 a.kids.length c2) ∧ V.cell? ⟨ab, 4, none⟩ = some (.int .i64 (a.at_)))) (early := fun j => decide (j < 10)) (i := 3) (v := .agg #[(.int .i64 (a.op)), (.int .i64 (a.n)), .string a.s, .slice p2 a.kids.length c2, (.int .i64 (a.at_))]) rfl (by kernel_rfl) (by kernel_rfl) (by kernel_rfl) (by kernel_rfl) (fun _ _ he h => h (of_decide_eq_true he)) (fun _ h _ => h) (fun _ _ _ h => h) (Or.inl ⟨by rfl, ?_⟩) ⟨x0, x1, x2, x3, x4, y0, y1, y2, y3, y4⟩ ?_
              · rintro V ⟨v0, v1, v2, v3, v4, v5, v6, v7, v8, v9⟩
                go_simp
              simp only [List.getElem_toArray, List.getElem_cons_zero, List.getElem_cons_succ, Act.put, List.setIfInBounds_toArray, List.set_cons_zero, List.set_cons_succ]
              refine wpAnyR_take (S := (fun V : World => V.cell? ⟨eb, 0, none⟩ = some (.int .i64 (x.op)) ∧ V.cell? ⟨eb, 1, none⟩ = some (.int .i64 (x.n)) ∧ V.cell? ⟨eb, 2, none⟩ = some (.string x.s) ∧ V.cell? ⟨eb, 3, none⟩ = some (.slice p1 x.kids.length c1) ∧ V.cell? ⟨eb, 4, none⟩ = some (.int .i64 (x.at_)) ∧ V.cell? ⟨ab, 0, none⟩ = some (.int .i64 (a.op)) ∧ V.cell? ⟨ab, 1, none⟩ = some (.int .i64 (a.n)) ∧ V.cell? ⟨ab, 2, none⟩ = some (.string a.s) ∧ V.cell? ⟨ab, 3, none⟩ = some (.slice p2 a.kids.length c2) ∧ V.cell? ⟨ab, 4, none⟩ = some (.int .i64 (a.at_)))) (early := fun j => decide (j < 10)) (i := 4) (v := .pointer (some ⟨B, 0, none⟩)) rfl (by kernel_rfl) (by kernel_rfl) (by kernel_rfl) (by kernel_rfl) (fun _ _ he h => h (of_decide_eq_true he)) (fun _ h _ => h) (fun _ _ _ h => h) (Or.inl ⟨by rfl, ?_⟩) ⟨x0, x1, x2, x3, x4, y0, y1, y2, y3, y4⟩ ?_
              · rintro V ⟨v0, v1, v2, v3, v4, v5, v6, v7, v8, v9⟩
                go_simp
              simp only [List.getElem_toArray, List.getElem_cons_zero, List.getElem_cons_succ, Act.put, List.setIfInBounds_toArray, List.set_cons_zero, List.set_cons_succ]
              refine wpAnyR_take (S := (fun V : World => V.cell? ⟨eb, 0, none⟩ = some (.int .i64 (x.op)) ∧ V.cell? ⟨eb, 1, none⟩ = some (.int .i64 (x.n)) ∧ V.cell? ⟨eb, 2, none⟩ = some (.string x.s) ∧ V.cell? ⟨eb, 3, none⟩ = some (.slice p1 x.kids.length c1) ∧ V.cell? ⟨eb, 4, none⟩ = some (.int .i64 (x.at_)) ∧ V.cell? ⟨ab, 0, none⟩ = some (.int .i64 (a.op)) ∧ V.cell? ⟨ab, 1, none⟩ = some (.int .i64 (a.n)) ∧ V.cell? ⟨ab, 2, none⟩ = some (.string a.s) ∧ V.cell? ⟨ab, 3, none⟩ = some (.slice p2 a.kids.length c2) ∧ V.cell? ⟨ab, 4, none⟩ = some (.int .i64 (a.at_)))) (early := fun j => decide (j < 10)) (i := 5) (v := (.int .i64 d)) rfl (by kernel_rfl) (by kernel_rfl) (by kernel_rfl) (by kernel_rfl) (fun _ _ he h => h (of_decide_eq_true he)) (fun _ h _ => h) (fun _ _ _ h => h) (Or.inl ⟨by rfl, ?_⟩) ⟨x0, x1, x2, x3, x4, y0, y1, y2, y3, y4⟩ ?_
              · rintro V ⟨v0, v1, v2, v3, v4, v5, v6, v7, v8, v9⟩
                go_simp
              simp only [List.getElem_toArray, List.getElem_cons_zero, List.getElem_cons_succ, Act.put, List.setIfInBounds_toArray, List.set_cons_zero, List.set_cons_succ]
              refine wpAnyR_take (S := (fun V : World => V.cell? ⟨eb, 0, none⟩ = some (.int .i64 (x.op)) ∧ V.cell? ⟨eb, 1, none⟩ = some (.int .i64 (x.n)) ∧ V.cell? ⟨eb, 2, none⟩ = some (.string x.s) ∧ V.cell? ⟨eb, 3, none⟩ = some (.slice p1 x.kids.length c1) ∧ V.cell? ⟨eb, 4, none⟩ = some (.int .i64 (x.at_)) ∧ V.cell? ⟨ab, 0, none⟩ = some (.int .i64 (a.op)) ∧ V.cell? ⟨ab, 1, none⟩ = some (.int .i64 (a.n)) ∧ V.cell? ⟨ab, 2, none⟩ = some (.string a.s) ∧ V.cell? ⟨ab, 3, none⟩ = some (.slice p2 a.kids.length c2) ∧ V.cell? ⟨ab, 4, none⟩ = some (.int .i64 (a.at_)))) (early := fun j => decide (j < 10)) (i := 6) (v := (.int .i64 (d + 1))) rfl (by kernel_rfl) (by kernel_rfl) (by kernel_rfl) (by kernel_rfl) (fun _ _ he h => h (of_decide_eq_true he)) (fun _ h _ => h) (fun _ _ _ h => h) (Or.inl ⟨by rfl, ?_⟩) ⟨x0, x1, x2, x3, x4, y0, y1, y2, y3, y4⟩ ?_
              · rintro V ⟨v0, v1, v2, v3, v4, v5, v6, v7, v8, v9⟩
                go_simp
              simp only [List.getElem_toArray, List.getElem_cons_zero, List.getElem_cons_succ, Act.put, List.setIfInBounds_toArray, List.set_cons_zero, List.set_cons_succ]
              refine wpAnyR_all (rs := [7]) (by kernel_rfl) (by simp) (fun i hi2 => ?_)
              obtain rfl : i = 7 := by simpa using hi2
              clear hi2
              refine wpOp_plain rfl rfl ?_
              simp only [List.getElem_toArray, List.getElem_cons_zero, List.getElem_cons_succ]
              go_simp
              refine (IH.expr m (j2 + 1) (d + 1) _ _ nf (by omega) (by omega) (by omega) h5 S8.out.ps).mono ?_
              rintro e W9 ⟨rfl, ht2⟩
              exact ⟨rfl, rfl, S8.out.tur.trans ht2⟩
        · cases h6
          have S8 := SP.same S7 (Turned.refl _ _).drew
          clear S7
          · skip
            · skip
              refine region_R (R := fun j V => j < 10 → (fun V : World => V.cell? ⟨eb, 0, none⟩ = some (.int .i64 (x.op)) ∧ V.cell? ⟨eb, 1, none⟩ = some (.int .i64 (x.n)) ∧ V.cell? ⟨eb, 2, none⟩ = some (.string x.s) ∧ V.cell? ⟨eb, 3, none⟩ = some (.slice p1 x.kids.length c1) ∧ V.cell? ⟨eb, 4, none⟩ = some (.int .i64 (x.at_)) ∧ V.cell? ⟨ab, 0, none⟩ = some (.int .i64 (a.op)) ∧ V.cell? ⟨ab, 1, none⟩ = some (.int .i64 (a.n)) ∧ V.cell? ⟨ab, 2, none⟩ = some (.string a.s) ∧ V.cell? ⟨ab, 3, none⟩ = some (.slice p2 a.kids.length c2) ∧ V.cell? ⟨ab, 4, none⟩ = some (.int .i64 (a.at_))) V) (by kernel_rfl) ?_
              refine wpAnyR_take (S := (fun V : World => V.cell? ⟨eb, 0, none⟩ = some (.int .i64 (x.op)) ∧ V.cell? ⟨eb, 1, none⟩ = some (.int .i64 (x.n)) ∧ V.cell? ⟨eb, 2, none⟩ = some (.string x.s) ∧ V.cell? ⟨eb, 3, none⟩ = some (.slice p1 x.kids.length c1) ∧ V.cell? ⟨eb, 4, none⟩ = some (.int .i64 (x.at_)) ∧ V.cell? ⟨ab, 0, none⟩ = some (.int .i64 (a.op)) ∧ V.cell? ⟨ab, 1, none⟩ = some (.int .i64 (a.n)) ∧ V.cell? ⟨ab, 2, none⟩ = some (.string a.s) ∧ V.cell? ⟨ab, 3, none⟩ = some (.slice p2 a.kids.length c2) ∧ V.cell? ⟨ab, 4, none⟩ = some (.int .i64 (a.at_)))) (early := fun j => decide (j < 10)) (i := 0) (v := .pointer (some ⟨eb, 4, none⟩)) rfl (by kernel_rfl) (by kernel_rfl) (by kernel_rfl) (by kernel_rfl) (fun _ _ he h => h (of_decide_eq_true he)) (fun _ h _ => h) (fun _ _ _ h => h) (Or.inl ⟨by rfl, ?_⟩) ⟨x0, x1, x2, x3, x4, y0, y1, y2, y3, y4⟩ ?_
              · rintro V ⟨v0, v1, v2, v3, v4, v5, v6, v7, v8, v9⟩
                go_simp
              simp only [List.getElem_toArray, List.getElem_cons_zero, Act.put, List.setIfInBounds_toArray, List.set_cons_zero, List.set_cons_succ]
              refine wpAnyR_take (S := (fun V : World => V.cell? ⟨eb, 0, none⟩ = some (.int .i64 (x.op)) ∧ V.cell? ⟨eb, 1, none⟩ = some (.int .i64 (x.n)) ∧ V.cell? ⟨eb, 2, none⟩ = some (.string x.s) ∧ V.cell? ⟨eb, 3, none⟩ = some (.slice p1 x.kids.length c1) ∧ V.cell? ⟨eb, 4, none⟩ = some (.int .i64 (x.at_)) ∧ V.cell? ⟨ab, 0, none⟩ = some (.int .i64 (a.op)) ∧ V.cell? ⟨ab, 1, none⟩ = some (.int .i64 (a.n)) ∧ V.cell? ⟨ab, 2, none⟩ = some (.string a.s) ∧ V.cell? ⟨ab, 3, none⟩ = some (.slice p2 a.kids.length c2) ∧ V.cell? ⟨ab, 4, none⟩ = some (.int .i64 (a.at_)))) (early := fun j => decide (j < 10)) (i := 1) (v := (.int .i64 (x.at_))) rfl (by kernel_rfl) (by kernel_rfl) (by kernel_rfl) (by kernel_rfl) (fun _ _ he h => h (of_decide_eq_true he)) (fun _ h _ => h) (fun _ _ _ h => h) (Or.inl ⟨by rfl, ?_⟩) ⟨x0, x1, x2, x3, x4, y0, y1, y2, y3, y4⟩ ?_
              · rintro V ⟨v0, v1, v2, v3, v4, v5, v6, v7, v8, v9⟩
                go_simp
              simp only [List.getElem_toArray, List.getElem_cons_zero, List.getElem_cons_succ, Act.put, List.setIfInBounds_toArray, List.set_cons_zero, List.set_cons_succ]
              refine wpAnyR_take (S := (fun V : World => V.cell? ⟨eb, 0, none⟩ = some (.int .i64 (x.op)) ∧ V.cell? ⟨eb, 1, none⟩ = some (.int .i64 (x.n)) ∧ V.cell? ⟨eb, 2, none⟩ = some (.string x.s) ∧ V.cell? ⟨eb, 3, none⟩ = some (.slice p1 x.kids.length c1) ∧ V.cell? ⟨eb, 4, none⟩ = some (.int .i64 (x.at_)) ∧ V.cell? ⟨ab, 0, none⟩ = some (.int .i64 (a.op)) ∧ V.cell? ⟨ab, 1, none⟩ = some (.int .i64 (a.n)) ∧ V.cell? ⟨ab, 2, none⟩ = some (.string a.s) ∧ V.cell? ⟨ab, 3, none⟩ = some (.slice p2 a.kids.length c2) ∧ V.cell? ⟨ab, 4, none⟩ = some (.int .i64 (a.at_)))) (early := fun j => decide (j < 10)) (i := 2) (v := .agg #[(.int .i64 (x.op)), (.int .i64 (x.n)), .string x.s, .slice p1 x.kids.length c1, (.int .i64 (x.at_))]) rfl (by kernel_rfl) (by kernel_rfl) (by kernel_rfl) (by kernel_rfl) (fun _ _ he h => h (of_decide_eq_true he)) (fun _ h _ => h) (fun _ _ _ h => h) (Or.inl ⟨by rfl, ?_⟩) ⟨x0, x1, x2, x3, x4, y0, y1, y2, y3, y4⟩ ?_
              · rintro V ⟨v0, v1, v2, v3, v4, v5, v6, v7, v8, v9⟩
                go_simp
              simp only [List.getElem_toArray, List.getElem_cons_zero, List.getElem_cons_succ, Act.put, List.setIfInBounds_toArray, List.set_cons_zero, List.set_cons_succ]
              refine wpAnyR_take (S := (fun V : World => V.cell? ⟨eb, 0, none⟩ = some (.int .i64 (x.op)) ∧ V.cell? ⟨eb, 1, none⟩ = some (.int .i64 (x.n)) ∧ V.cell? ⟨eb, 2, none⟩ = some (.string x.s) ∧ V.cell? ⟨eb, 3, none⟩ = some (.slice p1 x.kids.length c1) ∧ V.cell? ⟨eb, 4, none⟩ = some (.int .i64 (x.at_)) ∧ V.cell? ⟨ab, 0, none⟩ = some (.int .i64 (a.op)) ∧ V.cell? ⟨ab, 1, none⟩ = some (.int .i64 (a.n)) ∧ V.cell? ⟨ab, 2, none⟩ = some (.string a.s) ∧ V.cell? ⟨ab, 3, none⟩ = some (.slice p2 a.kids.length c2) ∧ V.cell? ⟨ab, 4, none⟩ = some (.int .i64 (a.at_)))) (early := fun j => decide (j < 10)) (i := 3) (v := .agg #[(.int .i64 (a.op)), (.int .i64 (a.n)), .string a.s, .slice p2 a.kids.length c2, (.int .i64 (a.at_))]) rfl (by kernel_rfl) (by kernel_rfl) (by kernel_rfl) (by kernel_rfl) (fun _ _ he h => h (of_decide_eq_true he)) (fun _ h _ => h) (fun _ _ _ h => h) (Or.inl ⟨by rfl, ?_⟩) ⟨x0, x1, x2, x3, x4, y0, y1, y2, y3, y4⟩ ?_
              · rintro V ⟨v0, v1, v2, v3, v4, v5, v6, v7, v8, v9⟩
                go_simp
              simp only [List.getElem_toArray, List.getElem_cons_zero, List.getElem_cons_succ, Act.put, List.setIfInBounds_toArray, List.set_cons_zero, List.set_cons_succ]
              refine wpAnyR_take (S := (fun V : World => V.cell? ⟨eb, 0, none⟩ = some (.int .i64 (x.op)) ∧ V.cell? ⟨eb, 1, none⟩ = some (.int .i64 (x.n)) ∧ V.cell? ⟨eb, 2, none⟩ = some (.string x.s) ∧ V.cell? ⟨eb, 3, none⟩ = some (.slice p1 x.kids.length c1) ∧ V.cell? ⟨eb, 4, none⟩ = some (.int .i64 (x.at_)) ∧ V.cell? ⟨ab, 0, none⟩ = some (.int .i64 (a.op)) ∧ V.cell? ⟨ab, 1, none⟩ = some (.int .i64 (a.n)) ∧ V.cell? ⟨ab, 2, none⟩ = some (.string a.s) ∧ V.cell? ⟨ab, 3, none⟩ = some (.slice p2 a.kids.length c2) ∧ V.cell? ⟨ab, 4, none⟩ = some (.int .i64 (a.at_)))) (early := fun j => decide (j < 10)) (i := 4) (v := .pointer (some ⟨B, 0, none⟩)) rfl (by kernel_rfl) (by kernel_rfl) (by kernel_rfl) (by kernel_rfl) (fun _ _ he h => h (of_decide_eq_true he)) (fun _ h _ => h) (fun _ _ _ h => h) (Or.inl ⟨by rfl, ?_⟩) ⟨x0, x1, x2, x3, x4, y0, y1, y2, y3, y4⟩ ?_
              · rintro V ⟨v0, v1, v2, v3, v4, v5, v6, v7, v8, v9⟩
                go_simp
              simp only [List.getElem_toArray, List.getElem_cons_zero, List.getElem_cons_succ, Act.put, List.setIfInBounds_toArray, List.set_cons_zero, List.set_cons_succ]
              refine wpAnyR_take (S := (fun V : World => V.cell? ⟨eb, 0, none⟩ = some (.int .i64 (x.op)) ∧ V.cell? ⟨eb, 1, none⟩ = some (.int .i64 (x.n)) ∧ V.cell? ⟨eb, 2, none⟩ = some (.string x.s) ∧ V.cell? ⟨eb, 3, none⟩ = some (.slice p1 x.kids.length c1) ∧ V.cell? ⟨eb, 4, none⟩ = some (.int .i64 (x.at_)) ∧ V.cell? ⟨ab, 0, none⟩ = some (.int .i64 (a.op)) ∧ V.cell? ⟨ab, 1, none⟩ = some (.int .i64 (a.n)) ∧ V.cell? ⟨ab, 2, none⟩ = some (.string a.s) ∧ V.cell? ⟨ab, 3, none⟩ = some (.slice p2 a.kids.length c2) ∧ V.cell? ⟨ab, 4, none⟩ = some (.int .i64 (a.at_)))) (early := fun j => decide (j < 10)) (i := 5) (v := (.int .i64 d)) rfl (by kernel_rfl) (by kernel_rfl) (by kernel_rfl) (by kernel_rfl) (fun _ _ he h => h (of_decide_eq_true he)) (fun _ h _ => h) (fun _ _ _ h => h) (Or.inl ⟨by rfl, ?_⟩) ⟨x0, x1, x2, x3, x4, y0, y1, y2, y3, y4⟩ ?_
              · rintro V ⟨v0, v1, v2, v3, v4, v5, v6, v7, v8, v9⟩
                go_simp
              simp only [List.getElem_toArray, List.getElem_cons_zero, List.getElem_cons_succ, Act.put, List.setIfInBounds_toArray, List.set_cons_zero, List.set_cons_succ]
              refine wpAnyR_take (S := (fun V : World => V.cell? ⟨eb, 0, none⟩ = some (.int .i64 (x.op)) ∧ V.cell? ⟨eb, 1, none⟩ = some (.int .i64 (x.n)) ∧ V.cell? ⟨eb, 2, none⟩ = some (.string x.s) ∧ V.cell? ⟨eb, 3, none⟩ = some (.slice p1 x.kids.length c1) ∧ V.cell? ⟨eb, 4, none⟩ = some (.int .i64 (x.at_)) ∧ V.cell? ⟨ab, 0, none⟩ = some (.int .i64 (a.op)) ∧ V.cell? ⟨ab, 1, none⟩ = some (.int .i64 (a.n)) ∧ V.cell? ⟨ab, 2, none⟩ = some (.string a.s) ∧ V.cell? ⟨ab, 3, none⟩ = some (.slice p2 a.kids.length c2) ∧ V.cell? ⟨ab, 4, none⟩ = some (.int .i64 (a.at_)))) (early := fun j => decide (j < 10)) (i := 6) (v := (.int .i64 (d + 1))) rfl (by kernel_rfl) (by kernel_rfl) (by kernel_rfl) (by kernel_rfl) (fun _ _ he h => h (of_decide_eq_true he)) (fun _ h _ => h) (fun _ _ _ h => h) (Or.inl ⟨by rfl, ?_⟩) ⟨x0, x1, x2, x3, x4, y0, y1, y2, y3, y4⟩ ?_
              · rintro V ⟨v0, v1, v2, v3, v4, v5, v6, v7, v8, v9⟩
                go_simp
              simp only [List.getElem_toArray, List.getElem_cons_zero, List.getElem_cons_succ, Act.put, List.setIfInBounds_toArray, List.set_cons_zero, List.set_cons_succ]
              refine wpAnyR_all (rs := [7]) (by kernel_rfl) (by simp) (fun i hi2 => ?_)
              obtain rfl : i = 7 := by simpa using hi2
              clear hi2
              refine wpOp_plain rfl rfl ?_
              simp only [List.getElem_toArray, List.getElem_cons_zero, List.getElem_cons_succ]
              go_simp
              refine (IH.expr m (j2 + 1) (d + 1) _ _ nf (by omega) (by omega) (by omega) h5 S8.out.ps).mono ?_
              rintro e W9 ⟨p3, c3, rfl, hk, hp, ht2⟩
              have S9 := SP.callK S8 ht2 hp hk
              clear S8 hk hp ht2 x0 x1 x2 x3 x4 y0 y1 y2 y3 y4
              obtain ⟨y0, y1, y2, y3, y4⟩ := cellsFive (SP.boxAt S9 0 rfl).1
              obtain ⟨x0, x1, x2, x3, x4⟩ := cellsFive (SP.boxAt S9 1 rfl).1
              refine ⟨⟨x0, x1, x2, x3, x4, y0, y1, y2, y3, y4⟩, ?_⟩
              refine wpAnyR_all (rs := [8]) (by kernel_rfl) (by simp) (fun i hi2 => ?_)
              obtain rfl : i = 8 := by simpa using hi2
              clear hi2
              refine wpOp_plain rfl rfl ?_
              simp only [List.getElem_toArray, List.getElem_cons_zero, List.getElem_cons_succ]
              go_simp
              obtain ⟨W10, nb, hW, hb, S10⟩ := SP.box S9 (.cells #[(.int .i64 (x.op)), (.int .i64 (x.n)), .string x.s, .slice p1 x.kids.length c1, (.int .i64 (x.at_)), (.int .i64 (a.op)), (.int .i64 (a.n)), .string a.s, .slice p2 a.kids.length c2, (.int .i64 (a.at_)), (.int .i64 (b.op)), (.int .i64 (b.n)), .string b.s, .slice p3 b.kids.length c3, (.int .i64 (b.at_))] 31)
              rw [← hW, ← hb]
              clear hW hb S9 x0 x1 x2 x3 x4 y0 y1 y2 y3 y4
              obtain ⟨y0, y1, y2, y3, y4⟩ := cellsFive (SP.boxAt S10 1 rfl).1
              obtain ⟨x0, x1, x2, x3, x4⟩ := cellsFive (SP.boxAt S10 2 rfl).1
              have hz := (SP.boxAt S10 3 rfl).1
              obtain ⟨r0, r1, r2, r3, r4⟩ := cellsFive hz
              have q := free_of_box hz
              refine ⟨⟨x0, x1, x2, x3, x4, y0, y1, y2, y3, y4⟩, ?_⟩
              refine wpAnyR_all (rs := [9]) (by kernel_rfl) (by simp) (fun i hi2 => ?_)
              obtain rfl : i = 9 := by simpa using hi2
              clear hi2
              refine wpOp_plain rfl rfl ?_
              simp only [List.getElem_toArray, List.getElem_cons_zero, List.getElem_cons_succ]
              go_simp
              refine wpAnyR_all (rs := [10]) (by kernel_rfl) (by simp) (fun i hi2 => ?_)
              obtain rfl : i = 10 := by simpa using hi2
              clear hi2
              refine wpOp_plain rfl rfl ?_
              simp only [List.getElem_toArray, List.getElem_cons_zero, List.getElem_cons_succ]
              go_simp
              refine wpAnyR_done (by kernel_rfl) ?_ _
              go_wp2_with fail
              have S11 := SP.adopt S10 [(x, .slice p1 x.kids.length c1), (a, .slice p2 a.kids.length c2), (b, .slice p3 b.kids.length c3)] rfl (by simp) 3
              have S12 := SP.put S11 2 rfl (five_turned _ _ (.int .i64 20) (.int .i64 0) (.string ⟨#[]⟩) (.slice (some ⟨nb, 0, none⟩) 3 3) (.int .i64 (x.at_))) (five_set hz)
              refine bodyPost_ret (results_ex rfl _ _ rb (.int .i64 20) (.int .i64 0) (.string ⟨#[]⟩) (.slice (some ⟨nb, 0, none⟩) 3 3) (.int .i64 (x.at_)) rfl (five_set hz)) rfl ?_
              exact ⟨some ⟨nb, 0, none⟩, 3, rfl, SP.kidAt S12 0 rfl, S12.out.ps, S12.out.tur⟩
      · have hc : isS v ⟨#[58]⟩ = false := by simpa using hc
        rw [if_pos (by rw [hc]; rfl)] at h4
        cases h4
        refine (need_no S6.out.ps hv _ hc).mono ?_
        rintro e W8 ⟨rfl, rfl⟩
        exact ⟨rfl, rfl, S6.out.tur⟩
    · have hq : isS u ⟨#[63]⟩ = false := by simpa using hq
      rw [if_pos (by rw [hq]; rfl)] at h2
      cases h2
      obtain ⟨z1, z2, z3⟩ := SP.boxAt S3 1 rfl
      have q := free_of_box z1
      obtain ⟨y0, y1, y2, y3, y4⟩ := cellsFive z1
      obtain ⟨z4, z5, z6⟩ := SP.boxAt S3 0 rfl
      obtain ⟨x0, x1, x2, x3, x4⟩ := cellsFive z4
      go_wp2_with fail
      have S4 := SP.put S3 1 rfl (five_turned _ _ (.int .i64 (x.op)) (.int .i64 (x.n)) (.string x.s) (.slice p1 x.kids.length c1) (.int .i64 (x.at_))) (five_set z1)
      refine bodyPost_ret (results_ex rfl _ _ rb (.int .i64 (x.op)) (.int .i64 (x.n)) (.string x.s) (.slice p1 x.kids.length c1) (.int .i64 (x.at_)) rfl (five_set z1)) rfl ?_
      exact ⟨p1, c1, rfl, SP.kidAt S4 0 rfl, S4.out.ps, S4.out.tur⟩
end Go.Proofs.YtjijdgkccfeeaaaGreatDoor
