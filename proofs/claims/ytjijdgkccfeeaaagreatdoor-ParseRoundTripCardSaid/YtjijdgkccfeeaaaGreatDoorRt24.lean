/- Part 24 of the proof of card: ParSmall. Conditions: those of each theorem. -/
import Derived.Test.YtjijdgkccfeeaaaGreatDoorRt01
import Derived.Test.YtjijdgkccfeeaaaGreatDoorRt23
namespace Go.Proofs.YtjijdgkccfeeaaaGreatDoor
open Go Go.Proofs
theorem src_short {s : ByteArray} {ts : List Tok} (h : tokensP s = .ok ts) : ∀ t ∈ ts, t.s.size ≤ 200 := by
  have hs : s.size ≤ 65536 := by
    rcases Nat.lt_or_ge 65536 s.size with h1 | h1
    · unfold tokensP at h; rw [if_pos h1] at h; cases h
    · exact h1
  rw [tokensP_eq, if_neg (by omega)] at h
  obtain ⟨ps, p1, p2, p3⟩ := lexA_words _ _ ts h
  intro t ht
  have h1 : t.strip ∈ ps.map (fun p => p.2.strip) ++ [endS] := by rw [← p2]; exact List.mem_map_of_mem ht
  rcases List.mem_append.1 h1 with h1 | h1
  · obtain ⟨p, hp, he⟩ := List.mem_map.1 h1
    have h2 := (head_word (p1 p hp)).2.2.2.1
    unfold Tok.strip at he
    simp only [Prod.mk.injEq] at he
    rw [← he.2.1]
    exact h2
  · have he := List.mem_singleton.1 h1
    unfold Tok.strip endS at he
    simp only [Prod.mk.injEq] at he
    rw [he.2.1]
    decide
theorem smallXs_app : ∀ {a b : List Ex}, smallXs a = true → smallXs b = true → smallXs (a ++ b) = true
  | [], _, _, h => h
  | x :: a, b, h, g => by
    rw [smallXs, Bool.and_eq_true] at h
    rw [List.cons_append, smallXs, h.1, smallXs_app h.2 g]
    rfl
theorem small_mk {op n a : Int} {s : ByteArray} {ks : List Ex} (hs : s.size ≤ 200) (hk : smallXs ks = true) : smallX (.mk op n s ks a) = true := by
  rw [smallX, hk, decide_eq_true (by omega : s.size ≤ 100000)]
  rfl
def SmallQ : Qn → Prop
  | .loop _ y => smallX y = true
  | .args t0 ks => t0.s.size ≤ 200 ∧ smallXs ks = true
  | _ => True
theorem noB_small : noB.size ≤ 200 := by decide
theorem run_small {ts : List Tok} (hg : ∀ t ∈ ts, t.s.size ≤ 200) : ∀ (f : Nat) (q : Qn) (k : Nat) (d : Int) (x : Ex) (j : Nat), runF ts f q k d = some (.ok x j) → SmallQ q → smallX x = true := by
  intro f
  induction f with
  | zero => intro q k d x j h; cases q <;> simp [runF] at h
  | succ f ih =>
    intro q k d x j h hq
    obtain ⟨t, ht⟩ := runF_tok h
    have hgt := hg t (List.mem_of_getElem? ht)
    cases q with
    | expr =>
      rw [runF_expr ht] at h
      split at h
      · cases h
      · rcases PR.then_some h with ⟨_, _, _, h2⟩ | ⟨x1, j1, h1, h2⟩
        · cases h2
        have r1 := ih _ _ _ _ _ h1 trivial
        split at h2
        · cases h2
        split at h2
        · cases h2; exact r1
        · rcases PR.then_some h2 with ⟨_, _, _, h3⟩ | ⟨x2, j2, h3, h4⟩
          · cases h3
          have r2 := ih _ _ _ _ _ h3 trivial
          split at h4
          · cases h4
          split at h4
          · cases h4
          · rcases PR.then_some h4 with ⟨_, _, _, h5⟩ | ⟨x3, j3, h5, h6⟩
            · cases h5
            have r3 := ih _ _ _ _ _ h5 trivial
            cases h6
            exact small_mk noB_small (by rw [smallXs, smallXs, smallXs, smallXs, r1, r2, r3]; rfl)
    | level n =>
      rw [runF_level ht] at h
      split at h
      · split at h
        · split at h
          · cases h
          split at h
          · cases h
          · rcases PR.then_some h with ⟨_, _, _, h2⟩ | ⟨x1, j1, h1, h2⟩
            · cases h2
            have r1 := ih _ _ _ _ _ h1 trivial
            cases h2
            exact small_mk noB_small (by rw [smallXs, smallXs, r1]; rfl)
        · exact ih _ _ _ _ _ h trivial
      · split at h
        · exact ih _ _ _ _ _ h trivial
        · rcases PR.then_some h with ⟨_, _, _, h2⟩ | ⟨x1, j1, h1, h2⟩
          · cases h2
          exact ih _ _ _ _ _ h2 (ih _ _ _ _ _ h1 trivial)
    | loop n y =>
      rw [runF_loop ht] at h
      split at h
      · cases h; exact hq
      · rcases PR.then_some h with ⟨_, _, _, h2⟩ | ⟨x1, j1, h1, h2⟩
        · cases h2
        have r1 := ih _ _ _ _ _ h1 trivial
        have r2 : ∀ op : Int, smallX (.mk op 0 noB [y, x1] y.at_) = true := fun op => small_mk noB_small (by rw [smallXs, smallXs, smallXs, show smallX y = true from hq, r1]; rfl)
        split at h2
        · cases h2; exact r2 _
        · exact ih _ _ _ _ _ h2 (r2 _)
    | neg =>
      rw [runF_neg ht] at h
      split at h
      · split at h
        · cases h
        split at h
        · cases h
        · rcases PR.then_some h with ⟨_, _, _, h2⟩ | ⟨x1, j1, h1, h2⟩
          · cases h2
          have r1 := ih _ _ _ _ _ h1 trivial
          cases h2
          exact small_mk noB_small (by rw [smallXs, smallXs, r1]; rfl)
      · exact ih _ _ _ _ _ h trivial
    | atom =>
      rw [runF_atom ht] at h
      split at h
      · rcases PR.then_some h with ⟨_, _, _, h2⟩ | ⟨x1, j1, h1, h2⟩
        · cases h2
        split at h2
        · cases h2
        split at h2
        · cases h2; exact ih _ _ _ _ _ h1 trivial
        · cases h2
      · split at h
        · cases h; exact small_mk noB_small rfl
        · split at h
          · cases h; exact small_mk hgt rfl
          · split at h
            · split at h
              · cases h
              split at h
              · cases h; exact small_mk hgt rfl
              · split at h
                · cases h
                split at h
                · cases h; exact small_mk hgt rfl
                · exact ih _ _ _ _ _ h ⟨hgt, rfl⟩
            · cases h
    | args t0 ks =>
      rw [runF_args ht] at h
      split at h
      · cases h
      · rcases PR.then_some h with ⟨_, _, _, h2⟩ | ⟨x1, j1, h1, h2⟩
        · cases h2
        have r1 := ih _ _ _ _ _ h1 trivial
        have r2 : smallXs (ks ++ [x1]) = true := smallXs_app hq.2 (by rw [smallXs, smallXs, r1]; rfl)
        split at h2
        · cases h2
        split at h2
        · cases h2; exact small_mk hq.1 r2
        · split at h2
          · exact ih _ _ _ _ _ h2 ⟨hq.1, r2⟩
          · cases h2
theorem smallA_mk {k n a : Int} {s : ByteArray} {e : Ex} (hs : s.size ≤ 200) (he : smallX e = true) : smallA ⟨k, n, s, e, a⟩ = true := by
  unfold smallA
  rw [he, decide_eq_true (by show s.size ≤ 100000; omega)]
  rfl
theorem arg_small {ts : List Tok} (hg : ∀ t ∈ ts, t.s.size ≤ 200) {f k j : Nat} {a : Ar} (h : argF ts f k = some (.ok a j)) : smallA a = true := by
  unfold argF at h
  cases ht : ts[k]? with
  | none => rw [ht] at h; cases h
  | some t =>
    rw [ht] at h
    dsimp only at h
    have hgt := hg t (List.mem_of_getElem? ht)
    split at h
    · cases h; exact smallA_mk hgt rfl
    split at h
    · cases h; exact smallA_mk noB_small rfl
    split at h
    · cases h; exact smallA_mk noB_small rfl
    split at h
    · split at h
      · cases h
      split at h
      · cases h; exact smallA_mk noB_small rfl
      · cases h
    · rcases PR.then_some h with ⟨_, _, _, h2⟩ | ⟨x1, j1, h1, h2⟩
      · cases h2
      have r1 := run_small hg _ _ _ _ _ _ h1 trivial
      split at h2
      · cases h2
      split at h2
      · cases h2; exact smallA_mk noB_small r1
      · cases h2
def SmallQf : Qf → Prop
  | .form => True
  | .args t0 zs => t0.s.size ≤ 200 ∧ ∀ a ∈ zs, smallA a = true
  | .body t0 zs fs => t0.s.size ≤ 200 ∧ (∀ a ∈ zs, smallA a = true) ∧ smallFs fs = true
theorem smallFs_app : ∀ {a b : List Fm}, smallFs a = true → smallFs b = true → smallFs (a ++ b) = true
  | [], _, _, h => h
  | x :: a, b, h, g => by
    rw [smallFs, Bool.and_eq_true] at h
    rw [List.cons_append, smallFs, h.1, smallFs_app h.2 g]
    rfl
theorem smallF_mk {s : ByteArray} {zs : List Ar} {fs : List Fm} {a : Int} (hs : s.size ≤ 200) (hz : ∀ a ∈ zs, smallA a = true) (hf : smallFs fs = true) : smallF (.mk s zs fs a) = true := by
  rw [smallF, hf, List.all_eq_true.2 hz, decide_eq_true (by omega : s.size ≤ 100000)]
  rfl
theorem form_small {ts : List Tok} (hg : ∀ t ∈ ts, t.s.size ≤ 200) : ∀ (f : Nat) (q : Qf) (k : Nat) (d : Int) (n : Nat) (r : Fm × Nat) (j : Nat), formF ts f q k d n = some (.ok r j) → SmallQf q → smallF r.1 = true := by
  intro f
  induction f with
  | zero => intro q k d n r j h; cases q <;> simp [formF] at h
  | succ f ih =>
    intro q k d n r j h hq
    obtain ⟨t, ht⟩ := formF_tok h
    have hgt := hg t (List.mem_of_getElem? ht)
    cases q with
    | form =>
      rw [formF_form ht] at h
      split at h
      · cases h
      split at h
      · cases h
      exact ih _ _ _ _ _ _ h ⟨hgt, fun a ha => by cases ha⟩
    | args t0 zs =>
      rw [formF_args ht] at h
      split at h
      · cases h; exact smallF_mk hq.1 hq.2 rfl
      split at h
      · exact ih _ _ _ _ _ _ h ⟨hq.1, hq.2, rfl⟩
      split at h
      · cases h
      split at h
      · cases h
      rcases PR.then_some h with ⟨_, _, _, h2⟩ | ⟨a, j1, h1, h2⟩
      · cases h2
      refine ih _ _ _ _ _ _ h2 ⟨hq.1, fun y hy => ?_⟩
      rcases List.mem_append.1 hy with hy | hy
      · exact hq.2 y hy
      · rw [List.mem_singleton.1 hy]; exact arg_small hg h1
    | body t0 zs fs =>
      rw [formF_body ht] at h
      split at h
      · cases h; exact smallF_mk hq.1 hq.2.1 hq.2.2
      · rcases PR.then_some h with ⟨_, _, _, h2⟩ | ⟨x, j1, h1, h2⟩
        · cases h2
        have r1 := ih _ _ _ _ _ _ h1 trivial
        exact ih _ _ _ _ _ _ h2 ⟨hq.1, hq.2.1, smallFs_app hq.2.2 (by rw [smallFs, r1]; rfl)⟩
theorem forms_small {ts : List Tok} (hg : ∀ t ∈ ts, t.s.size ≤ 200) : ∀ (f k n : Nat) (fs r : List Fm) (j : Nat), formsF ts f k n fs = some (.ok r j) → smallFs fs = true → smallFs r = true
  | 0, _, _, _, _, _, h, _ => by simp [formsF] at h
  | f + 1, k, n, fs, r, j, h, hf => by
    unfold formsF at h
    cases ht : ts[k]? with
    | none => rw [ht] at h; cases h
    | some t =>
      rw [ht] at h
      dsimp only at h
      split at h
      · cases h; exact hf
      · rcases PR.then_some h with ⟨_, _, _, h2⟩ | ⟨x, j1, h1, h2⟩
        · cases h2
        have r1 := form_small hg _ _ _ _ _ _ _ h1 trivial
        exact forms_small hg f _ _ _ r j h2 (smallFs_app hf (by rw [smallFs, r1]; rfl))
theorem expr_small {s : ByteArray} {y : Ex} (h : exprP s = .ok y) : smallX y = true := by
  unfold exprP at h
  cases hT : tokensP s with
  | err k c => rw [hT] at h; cases h
  | ok ts =>
    rw [hT] at h
    dsimp only at h
    obtain ⟨ok, hpos, -⟩ := tokens_good hT
    have hr := readE_some ok hpos
    obtain ⟨j, t, hj, -, -⟩ := endP_is h
    rw [hj] at hr
    exact run_small (src_short hT) _ _ _ _ _ _ hr trivial
theorem formsP_small {s : ByteArray} {m : List Fm} (h : formsP s = .ok m) : smallFs m = true := by
  unfold formsP at h
  cases hT : tokensP s with
  | err k c => rw [hT] at h; cases h
  | ok ts =>
    rw [hT] at h
    dsimp only at h
    obtain ⟨ok, hpos, -⟩ := tokens_good hT
    have hr := readF_some ok hpos
    obtain ⟨j, t, hj, -, -⟩ := endP_is h
    rw [hj] at hr
    exact forms_small (src_short hT) _ _ _ _ _ _ hr rfl
theorem word_facts {t : Tok} (h : WordT t) : (-9223372036854775808 ≤ t.n ∧ t.n ≤ 9223372036854775807 ∧ t.s.size ≤ 100000) ∧ 1 ≤ wtT t := by
  obtain ⟨w, u, h1, h2⟩ := h
  obtain ⟨w1, w2, w3, w4, -⟩ := head_word h1
  have hw : wtT t = wtT u := wtT_strip h2.symm
  have hu : 1 ≤ wtT u := by unfold wtT; rw [w1]; simp
  unfold Tok.strip at h2
  simp only [Prod.mk.injEq] at h2
  rw [← h2.2.1, ← h2.2.2]
  exact ⟨⟨by omega, by omega, by omega⟩, by omega⟩
theorem words_facts : ∀ {l : List Tok}, (∀ t ∈ l, WordT t) → l.length ≤ wt l ∧ FitT l
  | [], _ => ⟨Nat.le_refl _, fun t ht => by cases ht⟩
  | t :: l, h => by
    obtain ⟨h1, h2⟩ := word_facts (h t (by simp))
    obtain ⟨h3, h4⟩ := words_facts (l := l) fun u hu => h u (List.mem_cons_of_mem _ hu)
    refine ⟨by rw [wt_cons, List.length_cons]; omega, fun u hu => ?_⟩
    rcases List.mem_cons.1 hu with rfl | hu
    · exact h1
    · exact h4 u hu
theorem expr_all {s : ByteArray} (hs : s.size ≤ 500) {y : Ex} (h : exprP s = .ok y) : smallX y = true ∧ (showX y).2.1.length ≤ 100000 ∧ FitT (showX y).2.1 ∧ ∃ u z, printX y = (u, 0) ∧ exprP u = .ok z ∧ sameX false y z = true := by
  obtain ⟨hb, hw, -⟩ := expr_src hs h
  obtain ⟨h1, h2⟩ := words_facts (words_X y hb)
  exact ⟨expr_small h, by omega, h2, exprs_trip hs h⟩
theorem forms_all' {s : ByteArray} (hs : s.size ≤ 500) {m : List Fm} (h : formsP s = .ok m) : (smallFs m = true ∧ (showFs m).1.length ≤ 100000 ∧ FitT (showFs m).1) ∧ ∃ u n, printFs m = (u, 0) ∧ formsP u = .ok n ∧ sameFs false m n = true ∧ printFs n = (u, 0) ∧ smallFs n = true ∧ (showFs n).1.length ≤ 100000 ∧ FitT (showFs n).1 := by
  obtain ⟨hb, hw, -⟩ := forms_src hs h
  obtain ⟨h1, h2⟩ := words_facts (words_Fs m hb)
  obtain ⟨u, n, p1, p2, p3, p4, p5⟩ := forms_trip hs h
  have e := showFs_same m n p3
  exact ⟨⟨formsP_small h, by omega, h2⟩, u, n, p1, p2, p3, p4, formsP_small p2, by rw [← e]; omega, by rw [← e]; exact h2⟩
end Go.Proofs.YtjijdgkccfeeaaaGreatDoor
