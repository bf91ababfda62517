/- Part 23 of the proofs about parse: ParSimF, ParRuns, ParNest. Conditions: those of each theorem. -/
import Derived.Test.YtjijdgkccfeeaaaGreatDoorNt01
import Derived.Test.YtjijdgkccfeeaaaGreatDoorNt16
import Derived.Test.YtjijdgkccfeeaaaGreatDoorNt21
namespace Go.Proofs.YtjijdgkccfeeaaaGreatDoor
open Go Go.Proofs
def shA (c : Nat) (a : Ar) : Ar := ⟨a.kind, a.n, a.s, shX c a.e, a.at_ + c⟩
mutual
def shF (c : Nat) : Fm → Fm
  | .mk w zs fs a => .mk w (zs.map (shA c)) (shFs c fs) (a + c)
def shFs (c : Nat) : List Fm → List Fm
  | [] => []
  | x :: xs => shF c x :: shFs c xs
end
theorem shFs_map (c : Nat) : ∀ l : List Fm, shFs c l = l.map (shF c)
  | [] => rfl
  | x :: l => by rw [shFs, shFs_map c l]; rfl
theorem shF_mk {c : Nat} {w : ByteArray} {zs : List Ar} {fs : List Fm} {a : Int} : shF c (.mk w zs fs a) = .mk w (zs.map (shA c)) (fs.map (shF c)) (a + c) := by rw [shF, shFs_map]
theorem shX_noEx (c : Nat) : shX c noEx = noEx := by rw [noEx, shX, if_pos rfl]
mutual
theorem shX_zero : ∀ x : Ex, shX 0 x = x
  | .mk p n s ks a => by
    by_cases h : p = 0
    · rw [shX, if_pos h]
    · rw [shX, if_neg h, shXs_zero ks]; simp
theorem shXs_zero : ∀ l : List Ex, shXs 0 l = l
  | [] => rfl
  | x :: l => by rw [shXs, shX_zero x, shXs_zero l]
end
theorem shA_zero (a : Ar) : shA 0 a = a := by
  obtain ⟨k, n, s, e, at_⟩ := a
  simp [shA, shX_zero]
mutual
theorem shF_zero : ∀ x : Fm, shF 0 x = x
  | .mk w zs fs a => by
    rw [shF, shFs_zero fs, show zs.map (shA 0) = zs by rw [show shA 0 = id from funext shA_zero, List.map_id]]; simp
theorem shFs_zero : ∀ l : List Fm, shFs 0 l = l
  | [] => rfl
  | x :: l => by rw [shFs, shF_zero x, shFs_zero l]
end
theorem shift_zero (t : Tok) : t.shift 0 = t := by simp [Tok.shift]
def shQf (c : Nat) : Qf → Qf
  | .form => .form
  | .args t zs => .args (t.shift c) (zs.map (shA c))
  | .body t zs fs => .body (t.shift c) (zs.map (shA c)) (fs.map (shF c))
def GoodF {α : Type} (full : Bool) (m : Nat) : PR α → Prop
  | .ok _ j => j ≤ m + 1
  | .err _ _ => full = true
theorem then_sim2 {α β γ δ : Type} {sh1 : α → γ} {sh2 : β → δ} {p : Nat} {G1 : PR α → Prop} {r1 : Option (PR α)} {s1 : Option (PR γ)} {g : α → Nat → Option (PR β)} {g' : γ → Nat → Option (PR δ)} {r : PR β} (h : PR.then_ r1 g = some r)
    (he : ∀ j e, r = .err j e → r1 = some (.err j e) → G1 (.err j e)) (Hk : ∀ x j, r1 = some (.ok x j) → g x j = some r → G1 (.ok x j))
    (H1 : ∀ z, r1 = some z → G1 z → ∃ z', s1 = some z' ∧ Rel sh1 p False z z')
    (H2 : ∀ x j, r1 = some (.ok x j) → G1 (.ok x j) → g x j = some r → ∃ r', g' (sh1 x) (p + j) = some r' ∧ Rel sh2 p False r r') :
    ∃ r', PR.then_ s1 g' = some r' ∧ Rel sh2 p False r r' := by
  rcases PR.then_some h with ⟨j, e, h1, rfl⟩ | ⟨x, j, h1, h2⟩
  · obtain ⟨z', h3, h4⟩ := H1 _ h1 (he j e rfl h1)
    have h4' : z' = .err (p + j) e := h4
    subst h4'
    exact ⟨.err (p + j) e, by rw [h3]; rfl, rfl⟩
  · have hj := Hk x j h1 h2
    obtain ⟨z', h3, h4⟩ := H1 _ h1 hj
    rcases h4 with rfl | ⟨hlim, -⟩
    · obtain ⟨r', h5, h6⟩ := H2 x j h1 hj h2
      exact ⟨r', by rw [h3]; exact h5, h6⟩
    · exact hlim.elim
section
variable {ts us : List Tok} {p c m : Nat} {full : Bool}
theorem sim_arg (ok : TokOK ts) (S : Sim ts us p c m full) {f f' k : Nat} {r : PR Ar} (hf : f ≤ f') (h : argF ts f k = some r) (hb : ∀ t, ts[k]? = some t → beginsT t = true ∨ isS t ⟨#[45, 62]⟩ = true) (hkm : k ≤ m) (hg : GoodF full m r) :
    ∃ r', argF us f' (p + k) = some r' ∧ Rel (shA c) p False r r' := by
  unfold argF at h
  cases ht : ts[k]? with
  | none => rw [ht] at h; cases h
  | some t =>
    rw [ht] at h
    dsimp only at h
    have h5 : t.kind ≠ 5 := fun h5 => by
      rcases hb t ht with h1 | h1
      · simp [beginsT, isS, h5] at h1
      · rw [isS_kind5 h5] at h1; cases h1
    unfold argF
    rw [S.get' ht hkm (.inr h5)]
    dsimp only
    simp only [isS_shift, show (t.shift c).kind = t.kind from rfl, show (t.shift c).s = t.s from rfl, show (t.shift c).n = t.n from rfl, show (t.shift c).at_ = t.at_ + c from rfl]
    split at h
    · rename_i h1
      cases h
      rw [if_pos h1]
      exact ⟨_, rfl, .inl (by rw [shA, shX_noEx]; rfl)⟩
    rename_i h1
    rw [if_neg h1]
    split at h
    · rename_i h2
      cases h
      rw [if_pos h2]
      exact ⟨_, rfl, .inl (by rw [shA, shX_noEx]; rfl)⟩
    rename_i h2
    rw [if_neg h2]
    split at h
    · rename_i h3
      cases h
      rw [if_pos h3]
      exact ⟨_, rfl, .inl (by rw [shA, shX_noEx]; rfl)⟩
    rename_i h3
    rw [if_neg h3]
    split at h
    · rename_i h4
      rw [if_pos h4]
      split at h
      · cases h
      rename_i u hu
      have hum : k + 1 ≤ m ∧ (full = true ∨ u.kind ≠ 5) := by
        split at h
        · rename_i h6
          cases h
          exact ⟨by have : k + 2 ≤ m + 1 := hg; omega, .inr (by omega)⟩
        · cases h
          have h7 := S.all hg
          have := lt_of_some hu
          exact ⟨by omega, .inl hg⟩
      rw [show p + k + 1 = p + (k + 1) from rfl, S.get' hu hum.1 hum.2]
      dsimp only
      rw [show (u.shift c).kind = u.kind from rfl]
      split at h
      · rename_i h6
        cases h
        rw [if_pos h6]
        exact ⟨_, rfl, .inl (by rw [shA, shX_noEx]; rfl)⟩
      · rename_i h6
        cases h
        rw [if_neg h6]
        exact ⟨_, rfl, rfl⟩
    rename_i h4
    rw [if_neg h4]
    refine then_sim2 (G1 := Good full m) (sh1 := shX c) h (fun j e he _ => by subst he; exact hg) (fun x j hx h2 => ?_) (fun z hz hgz => ?_) (fun x j hx hjm h2 => ?_)
    · have hj := run_fits ok _ _ _ _ _ hx
      show j ≤ m
      split at h2
      · cases h2
      split at h2
      · cases h2
        have : j + 1 ≤ m + 1 := hg
        omega
      · cases h2
        have := S.all hg
        have := hj.2
        omega
    · have := sim_run ok S f f' .expr (k + 1) 1 1 z hf (fun _ => rfl) trivial hz hgz
      rw [show ((1 : Int) < 1) = False by simp] at this
      exact this
    · have hjm' : j ≤ m := hjm
      split at h2
      · cases h2
      rename_i v hv
      split at h2
      · rename_i hc
        cases h2
        rw [S.get' hv hjm' (.inr (fun h5 => by rw [isS_kind5 h5] at hc; cases hc))]
        dsimp only
        rw [isS_shift, if_pos hc]
        exact ⟨_, rfl, .inl rfl⟩
      · rename_i hc
        cases h2
        rw [S.get' hv hjm' (.inl hg)]
        dsimp only
        rw [isS_shift, if_neg hc]
        exact ⟨_, rfl, rfl⟩
end
section
variable {ts : List Tok} {f k n : Nat} {d : Int} {t t0 : Tok} {zs : List Ar} {fs : List Fm}
theorem formF_tok {q : Qf} {r : PR (Fm × Nat)} (h : formF ts (f + 1) q k d n = some r) : ∃ t, ts[k]? = some t := by
  unfold formF at h
  split at h
  · cases h
  · exact ⟨_, by assumption⟩
theorem formF_form (ht : ts[k]? = some t) : formF ts (f + 1) .form k d n = if t.kind ≠ 1 then some (.err k 5) else if 30 < d ∨ 2000 ≤ n then some (.err k 2) else formF ts f (.args t []) (k + 1) d (n + 1) := by
  rw [formF, ht]
theorem formF_args (ht : ts[k]? = some t) : formF ts (f + 1) (.args t0 zs) k d n = if isS t ⟨#[59]⟩ then some (.ok (.mk t0.s zs [] t0.at_, n) (k + 1))
        else if isS t ⟨#[123]⟩ then formF ts f (.body t0 zs []) (k + 1) d n
        else if !beginsT t && !isS t ⟨#[45, 62]⟩ then some (.err k 5)
        else if zs.length = 40 then some (.err k 2)
        else PR.then_ (argF ts f k) fun a j => formF ts f (.args t0 (zs ++ [a])) j d n := by
  rw [formF, ht]
theorem formF_body (ht : ts[k]? = some t) : formF ts (f + 1) (.body t0 zs fs) k d n = if isS t ⟨#[125]⟩ then some (.ok (.mk t0.s zs fs t0.at_, n) (k + 1))
        else PR.then_ (formF ts f .form k (d + 1) n) fun x j => formF ts f (.body t0 zs (fs ++ [x.1])) j d x.2 := by
  rw [formF, ht]
end
theorem form_end {ts : List Tok} {f k n : Nat} {d : Int} {q : Qf} {t : Tok} {r : PR (Fm × Nat)} (ht : ts[k]? = some t) (h5 : t.kind = 5) (h : formF ts f q k d n = some r) : r = .err k 5 := by
  have hs := isS_kind5 h5
  have hb : beginsT t = false := by simp [beginsT, isS, h5]
  have hform : ∀ f d n r, formF ts f .form k d n = some r → r = .err k 5 := fun f d n r h => by
    cases f with
    | zero => simp [formF] at h
    | succ f =>
      rw [formF_form ht, if_pos (by rw [h5]; decide)] at h
      cases h; rfl
  cases f with
  | zero => cases q <;> simp [formF] at h
  | succ f =>
    cases q with
    | form => exact hform _ _ _ _ h
    | args t0 zs =>
      rw [formF_args ht, if_neg (by simp [hs]), if_neg (by simp [hs]), if_pos (by simp [hs, hb])] at h
      cases h; rfl
    | body t0 zs fs =>
      rw [formF_body ht, if_neg (by simp [hs])] at h
      rcases PR.then_some h with ⟨j, e, h1, rfl⟩ | ⟨x, j, h1, h2⟩
      · have := hform _ _ _ _ h1
        cases this; rfl
      · cases hform _ _ _ _ h1
theorem form_count {ts : List Tok} (ok : TokOK ts) : ∀ (f : Nat) (q : Qf) (k : Nat) (d : Int) (n : Nat) (x : Fm × Nat) (j : Nat), n ≤ k → formF ts f q k d n = some (.ok x j) → x.2 ≤ j ∧ k < j := by
  intro f
  induction f with
  | zero => intro q k d n x j _ h; cases q <;> simp [formF] at h
  | succ f ih =>
    intro q k d n x j hn h
    obtain ⟨t, ht⟩ := formF_tok h
    cases q with
    | form =>
      rw [formF_form ht] at h
      split at h
      · cases h
      split at h
      · cases h
      · have := ih _ _ _ _ _ _ (by omega) h; omega
    | args t0 zs =>
      rw [formF_args ht] at h
      split at h
      · cases h; dsimp only; omega
      split at h
      · have := ih _ _ _ _ _ _ (by omega) h; omega
      split at h
      · cases h
      rename_i hb
      split at h
      · cases h
      · rcases PR.then_some h with ⟨_, _, _, h2⟩ | ⟨x1, j1, h1, h2⟩
        · cases h2
        have hb' : beginsT t = true ∨ isS t ⟨#[45, 62]⟩ = true := by
          simp only [Bool.and_eq_true, Bool.not_eq_true', not_and, Bool.not_eq_false] at hb
          cases hbt : beginsT t with
          | true => exact .inl rfl
          | false => exact .inr (hb hbt)
        have hj := (arg_fits ok h1 (fun t' ht' => by rw [ht] at ht'; cases ht'; exact hb')).1
        have := ih _ _ _ _ _ _ (by omega) h2; omega
    | body t0 zs fs =>
      rw [formF_body ht] at h
      split at h
      · cases h; dsimp only; omega
      · rcases PR.then_some h with ⟨_, _, _, h2⟩ | ⟨x1, j1, h1, h2⟩
        · cases h2
        have h3 := ih _ _ _ _ _ _ hn h1
        have := ih _ _ _ _ _ _ h3.1 h2; omega
set_option maxHeartbeats 1000000 in
theorem sim_form {ts us : List Tok} {p c m n0 : Nat} {full : Bool} (ok : TokOK ts) (S : Sim ts us p c m full) (hn0 : ts.length + n0 ≤ 2000) :
    ∀ (f f' : Nat) (q : Qf) (k : Nat) (d : Int) (n : Nat) (r : PR (Fm × Nat)), f ≤ f' → n ≤ k → formF ts f q k d n = some r → GoodF full m r →
      ∃ r', formF us f' (shQf c q) (p + k) d (n + n0) = some r' ∧ Rel (fun x => (shF c x.1, x.2 + n0)) p False r r' := by
  intro f
  induction f with
  | zero => intro f' q k d n r _ _ h; cases q <;> simp [formF] at h
  | succ f ih =>
    intro f' q k d n r hf hn h hg
    obtain ⟨f', rfl⟩ : ∃ g, f' = g + 1 := ⟨f' - 1, by omega⟩
    have hf2 : f ≤ f' := by omega
    obtain ⟨t, ht⟩ := formF_tok h
    have hkl := lt_of_some ht
    have hkm : k ≤ m := by
      cases r with
      | ok x j =>
        have := (form_count ok _ _ _ _ _ _ _ hn h).2
        have : j ≤ m + 1 := hg
        omega
      | err j e => have := S.all hg; omega
    have h5 : full = true ∨ t.kind ≠ 5 := by
      rcases Decidable.em (t.kind = 5) with h5 | h5
      · have := form_end ht h5 h
        subst this
        exact .inl hg
      · exact .inr h5
    have hu := S.get' ht hkm h5
    have good2 : ∀ {α : Type} (x : α) (j : Nat), j < ts.length → (∀ y i, r = .ok y i → j ≤ i) → GoodF full m (.ok x j) := fun {α} x j hj hi => by
      cases r with
      | ok y i => exact Nat.le_trans (hi y i rfl) hg
      | err i e => have := S.all hg; show j ≤ m + 1; omega
    cases q with
    | form =>
      rw [formF_form ht] at h
      show ∃ r', formF us (f' + 1) .form (p + k) d (n + n0) = some r' ∧ _
      rw [formF_form hu, show (t.shift c).kind = t.kind from rfl]
      split at h
      · rename_i h1
        cases h
        rw [if_pos h1]
        exact ⟨_, rfl, rfl⟩
      rename_i h1
      rw [if_neg h1]
      split at h
      · rename_i h2
        cases h
        rw [if_pos (by omega)]
        exact ⟨_, rfl, rfl⟩
      rename_i h2
      rw [if_neg (by omega), show n + n0 + 1 = n + 1 + n0 by omega]
      exact ih f' (.args t []) (k + 1) d (n + 1) r hf2 (by omega) h hg
    | args t0 zs =>
      rw [formF_args ht] at h
      show ∃ r', formF us (f' + 1) (.args (t0.shift c) (zs.map (shA c))) (p + k) d (n + n0) = some r' ∧ _
      rw [formF_args hu, List.length_map]
      simp only [isS_shift, show beginsT (t.shift c) = beginsT t from rfl]
      split at h
      · rename_i h1
        cases h
        rw [if_pos h1]
        exact ⟨_, rfl, .inl (by dsimp only; rw [shF_mk]; rfl)⟩
      rename_i h1
      rw [if_neg h1]
      split at h
      · rename_i h2
        rw [if_pos h2]
        exact ih f' (.body t0 zs []) (k + 1) d n r hf2 (by omega) h hg
      rename_i h2
      rw [if_neg h2]
      split at h
      · rename_i hb
        cases h
        rw [if_pos hb]
        exact ⟨_, rfl, rfl⟩
      rename_i hb
      rw [if_neg hb]
      split at h
      · rename_i h4
        cases h
        rw [if_pos h4]
        exact ⟨_, rfl, rfl⟩
      rename_i h4
      rw [if_neg h4]
      have hb' : ∀ t', ts[k]? = some t' → beginsT t' = true ∨ isS t' ⟨#[45, 62]⟩ = true := fun t' ht' => by
        rw [ht] at ht'; cases ht'
        simp only [Bool.and_eq_true, Bool.not_eq_true', not_and, Bool.not_eq_false] at hb
        cases hbt : beginsT t with
        | true => exact .inl rfl
        | false => exact .inr (hb hbt)
      refine then_sim2 (G1 := GoodF full m) (sh1 := shA c) h (fun j e he _ => by subst he; exact hg) (fun x j hx h2 => ?_) (fun z hz hgz => sim_arg ok S hf2 hz hb' hkm hgz) (fun x j hx hjm h2 => ?_)
      · have hj := arg_fits ok hx hb'
        exact good2 x j hj.2 fun y i he => by subst he; exact Nat.le_of_lt (form_count ok _ _ _ _ _ _ _ (by have := hj.1; omega) h2).2
      · have hj := arg_fits ok hx hb'
        have h9 := ih f' (.args t0 (zs ++ [x])) j d n r hf2 (by have := hj.1; omega) h2 hg
        rw [show shQf c (.args t0 (zs ++ [x])) = .args (t0.shift c) (zs.map (shA c) ++ [shA c x]) by simp [shQf]] at h9
        exact h9
    | body t0 zs fs =>
      rw [formF_body ht] at h
      show ∃ r', formF us (f' + 1) (.body (t0.shift c) (zs.map (shA c)) (fs.map (shF c))) (p + k) d (n + n0) = some r' ∧ _
      rw [formF_body hu]
      split at h
      · rename_i h1
        cases h
        rw [if_pos (show isS (t.shift c) ⟨#[125]⟩ = true from h1)]
        exact ⟨_, rfl, .inl (by dsimp only; rw [shF_mk]; rfl)⟩
      rename_i h1
      rw [if_neg (show ¬ isS (t.shift c) ⟨#[125]⟩ = true from h1)]
      refine then_sim2 (G1 := GoodF full m) (sh1 := fun x : Fm × Nat => (shF c x.1, x.2 + n0)) h (fun j e he _ => by subst he; exact hg) (fun x j hx h2 => ?_) (fun z hz hgz => ih f' .form k (d + 1) n z hf2 hn hz hgz) (fun x j hx hjm h2 => ?_)
      · have hj := (form_fits ok _ _ _ _ _ _ hx).1
        have hc := form_count ok _ _ _ _ _ _ _ hn hx
        exact good2 x j hj.2 fun y i he => by subst he; exact Nat.le_of_lt (form_count ok _ _ _ _ _ _ _ hc.1 h2).2
      · have hc := form_count ok _ _ _ _ _ _ _ hn hx
        have h9 := ih f' (.body t0 zs (fs ++ [x.1])) j d x.2 r hf2 hc.1 h2 hg
        rw [show shQf c (.body t0 zs (fs ++ [x.1])) = .body (t0.shift c) (zs.map (shA c)) (fs.map (shF c) ++ [shF c x.1]) by simp [shQf]] at h9
        exact h9
theorem sim_forms {ts us : List Tok} {p c m n0 : Nat} (ok : TokOK ts) (S : Sim ts us p c m true) (hn0 : ts.length + n0 ≤ 2000) (acc : List Fm) :
    ∀ (f f' k n : Nat) (fs : List Fm) (r : PR (List Fm)), f ≤ f' → n ≤ k → formsF ts f k n fs = some r → ∃ r', formsF us f' (p + k) (n + n0) (acc ++ fs.map (shF c)) = some r' ∧ Rel (fun out => acc ++ out.map (shF c)) p False r r' := by
  intro f
  induction f with
  | zero => intro f' k n fs r _ _ h; simp [formsF] at h
  | succ f ih =>
    intro f' k n fs r hf hn h
    obtain ⟨f', rfl⟩ : ∃ g, f' = g + 1 := ⟨f' - 1, by omega⟩
    have hf2 : f ≤ f' := by omega
    cases ht : ts[k]? with
    | none => rw [formsF, ht] at h; cases h
    | some t =>
      have hkl := lt_of_some ht
      have hall := S.all rfl
      have hu := S.get' ht (by omega) (.inl rfl)
      rw [formsF, ht] at h
      rw [formsF, hu]
      dsimp only at h ⊢
      rw [show (t.shift c).kind = t.kind from rfl]
      split at h
      · rename_i h5
        cases h
        rw [if_pos h5]
        exact ⟨_, rfl, .inl rfl⟩
      · rename_i h5
        rw [if_neg h5]
        refine then_sim2 (G1 := GoodF true m) (sh1 := fun x : Fm × Nat => (shF c x.1, x.2 + n0)) h (fun j e _ _ => rfl) (fun x j hx h2 => ?_) (fun z hz hgz => sim_form ok S hn0 f f' .form k 1 n z hf2 hn hz hgz) (fun x j hx hjm h2 => ?_)
        · have hj := (form_fits ok _ _ _ _ _ _ hx).1.2
          show j ≤ m + 1
          omega
        · have hc := form_count ok _ _ _ _ _ _ _ hn hx
          have h9 := ih f' j x.2 (fs ++ [x.1]) r hf2 hc.1 h2
          rw [show acc ++ (fs ++ [x.1]).map (shF c) = acc ++ fs.map (shF c) ++ [shF c x.1] by simp] at h9
          exact h9
theorem sim_self (ts : List Tok) (full : Bool) : Sim ts ts 0 0 (ts.length - 1) full :=
  ⟨fun i _ => by
      rw [Nat.zero_add]
      cases ts[i]? with
      | none => rfl
      | some t => rw [Option.map_some, shift_zero],
    fun t ht => ⟨t, by rw [Nat.zero_add, ht], .inl (shift_zero t).symm⟩, fun _ => by omega⟩
theorem map_shF_zero (l : List Fm) : l.map (shF 0) = l := by rw [show shF 0 = id from funext shF_zero, List.map_id]
theorem forms_mono {ts : List Tok} (ok : TokOK ts) (hl : ts.length ≤ 2000) {f f' k n : Nat} {fs : List Fm} {r : PR (List Fm)} (hf : f ≤ f') (hn : n ≤ k) (h : formsF ts f k n fs = some r) : formsF ts f' k n fs = some r := by
  obtain ⟨r', h1, h2⟩ := sim_forms (n0 := 0) ok (sim_self ts true) (by omega) [] f f' k n fs r hf hn h
  rw [Nat.zero_add, Nat.add_zero, List.nil_append, map_shF_zero] at h1
  rw [h1]
  cases r with
  | ok x j =>
    rcases h2 with rfl | ⟨h3, -⟩
    · dsimp only; rw [List.nil_append, map_shF_zero, Nat.zero_add]
    · exact h3.elim
  | err j e =>
    have h3 : r' = .err (0 + j) e := h2
    rw [h3, Nat.zero_add]
theorem run_on {ts us : List Tok} {m : Nat} (ok : TokOK ts) (oku : TokOK us) (hn0 : ts.length ≤ 2000) (hn1 : us.length ≤ 2000) (hm : ∀ i, i < m → us[i]? = ts[i]?) :
    ∀ (f k n : Nat) (fs out : List Fm), n ≤ k → formsF ts f k n fs = some (.ok out m) → ∃ n', n' ≤ m ∧ ∀ g r, f ≤ g → formsF us g m n' out = some r → ∃ g', formsF us g' k n fs = some r := by
  intro f
  induction f with
  | zero => intro k n fs out _ h; simp [formsF] at h
  | succ f ih =>
    intro k n fs out hn h
    cases ht : ts[k]? with
    | none => rw [formsF, ht] at h; cases h
    | some t =>
      rw [formsF, ht] at h
      dsimp only at h
      split at h
      · cases h
        exact ⟨n, hn, fun g r _ h2 => ⟨g, h2⟩⟩
      · rename_i h5
        rcases PR.then_some h with ⟨_, _, _, h2⟩ | ⟨x, j, h1, h2⟩
        · cases h2
        have hc := form_count ok _ _ _ _ _ _ _ hn h1
        have hj : j ≤ m := (forms_fits ok _ _ _ _ _ h2).1
        have hkm : k < m := by omega
        have S : Sim ts us 0 0 (m - 1) false := ⟨fun i hi => by
            rw [Nat.zero_add, hm i (by omega)]
            cases ts[i]? with
            | none => rfl
            | some t => rw [Option.map_some, shift_zero],
          fun t ht => ⟨t, by rw [Nat.zero_add, hm _ (by omega), ht], .inl (shift_zero t).symm⟩, fun h => by cases h⟩
        obtain ⟨n', hn', hrun⟩ := ih j x.2 (fs ++ [x.1]) out hc.1 h2
        refine ⟨n', hn', fun g r hgf h3 => ?_⟩
        obtain ⟨g', h4⟩ := hrun g r (by omega) h3
        obtain ⟨r', h6, h7⟩ := sim_form (n0 := 0) ok S (by omega) f (max f g') .form k 1 n (.ok x j) (by omega) hn h1 (by show j ≤ m - 1 + 1; omega)
        rcases h7 with rfl | ⟨h8, -⟩
        · refine ⟨max f g' + 1, ?_⟩
          rw [formsF, hm k hkm, ht]
          dsimp only
          rw [if_neg h5]
          rw [Nat.zero_add] at h6
          rw [show formF us (max f g') .form k 1 n = some (.ok x j) by
            rw [show (.form : Qf) = shQf 0 .form from rfl, show n = n + 0 from rfl, h6]; simp [shF_zero]]
          show formsF us (max f g') j x.2 (fs ++ [x.1]) = some r
          exact forms_mono oku hn1 (by omega) hc.1 h4
        · exact h8.elim
end Go.Proofs.YtjijdgkccfeeaaaGreatDoor
namespace Go.Proofs.YtjijdgkccfeeaaaGreatDoor
open Go Go.Proofs
theorem run_mono {ts : List Tok} (ok : TokOK ts) {f f' k : Nat} {d : Int} {q : Qn} {r : PR Ex} (hf : f ≤ f') (h : runF ts f q k d = some r) (hq : QNZ q) : runF ts f' q k d = some r := by
  have hg : Good true (ts.length - 1) r := by
    have := run_fits ok _ _ _ _ _ h
    cases r with
    | ok x j => have := this.2; show j ≤ ts.length - 1; omega
    | err j e => rfl
  obtain ⟨r', h1, h2⟩ := sim_run ok (sim_self ts true) f f' q k d d r hf (fun _ => rfl) hq h hg
  have hsh : shQ 0 q = q := by
    cases q with
    | loop n x => rw [shQ, shX_zero]
    | args t ks => rw [shQ, shift_zero, show ks.map (shX 0) = ks by rw [show shX 0 = id from funext shX_zero, List.map_id]]
    | _ => rfl
  rw [Nat.zero_add, hsh] at h1
  rw [h1]
  cases r with
  | ok x j =>
    rcases h2 with rfl | ⟨h3, -⟩
    · rw [shX_zero, Nat.zero_add]
    · omega
  | err j e =>
    have h3 : r' = .err (0 + j) e := h2
    rw [h3, Nat.zero_add]
theorem run_det {ts : List Tok} (ok : TokOK ts) {f g k : Nat} {d : Int} {q : Qn} {r r' : PR Ex} (h : runF ts f q k d = some r) (h' : runF ts g q k d = some r') (hq : QNZ q) : r = r' := by
  have h1 := run_mono ok (Nat.le_max_left f g) h hq
  have h2 := run_mono ok (Nat.le_max_right f g) h' hq
  rw [h1] at h2
  cases h2; rfl
theorem first_ok {u : Tok} {no : Bool} (hb : beginsT u = true ∨ (no = true ∧ isS u ⟨#[33]⟩ = true)) (d : Int) : firstP u d no = none ∨ firstP u d no = some 2 := by
  unfold firstP
  rw [if_neg (by rcases hb with h | ⟨h1, h2⟩ <;> simp [*])]
  split
  · exact .inr rfl
  · exact .inl rfl
def Yld (us : List Tok) (q : Qn) (k : Nat) (d : Int) (x : Ex) (j : Nat) : Prop := ∃ f, runF us f q k d = some (.ok x j) ∨ ∃ i, runF us f q k d = some (.err i 2)
section
variable {us : List Tok} {k j i : Nat} {d : Int} {x y z : Ex} {n : Nat} {t u : Tok} {q : Qn}
theorem Yld.up (ok : TokOK us) (h : Yld us q k d x j) (hq : QNZ q) : ∃ f, ∀ g, f ≤ g → (runF us g q k d = some (.ok x j) ∨ ∃ i, runF us g q k d = some (.err i 2)) := by
  obtain ⟨f, h⟩ := h
  refine ⟨f, fun g hg => ?_⟩
  rcases h with h | ⟨i, h⟩
  · exact .inl (run_mono ok hg h hq)
  · exact .inr ⟨i, run_mono ok hg h hq⟩
theorem Yld.paren (ht : us[k]? = some t) (hs : isS t ⟨#[40]⟩ = true) (h : Yld us .expr (k + 1) (d + 1) x j) (hu : us[j]? = some u) (hc : isS u ⟨#[41]⟩ = true) : Yld us .atom k d x (j + 1) := by
  obtain ⟨f, h⟩ := h
  refine ⟨f + 1, ?_⟩
  rw [runF_atom ht, if_pos hs]
  rcases h with h | ⟨i, h⟩
  · rw [h]; exact .inl (by simp only [PR.then_]; rw [hu]; dsimp only; rw [if_pos hc])
  · rw [h]; exact .inr ⟨i, rfl⟩
theorem Yld.atom_neg (ht : us[k]? = some t) (hs : isS t ⟨#[45]⟩ = false) (h : Yld us .atom k d x j) : Yld us .neg k d x j := by
  obtain ⟨f, h⟩ := h
  exact ⟨f + 1, by rw [runF_neg ht, hs, if_neg (by decide)]; exact h⟩
theorem Yld.minus (ht : us[k]? = some t) (hs : isS t ⟨#[45]⟩ = true) (hu : us[k + 1]? = some u) (hb : beginsT u = true) (h : Yld us .neg (k + 1) (d + 1) x j) : Yld us .neg k d (.mk 6 0 noB [x] t.at_) j := by
  obtain ⟨f, h⟩ := h
  refine ⟨f + 1, ?_⟩
  rw [runF_neg ht, if_pos hs, hu]
  dsimp only
  rcases first_ok (no := false) (.inl hb) (d + 1) with h0 | h0
  · rw [h0]
    rcases h with h | ⟨i, h⟩
    · rw [h]; exact .inl rfl
    · rw [h]; exact .inr ⟨i, rfl⟩
  · rw [h0]; exact .inr ⟨_, rfl⟩
theorem Yld.l7 (h : Yld us .neg k d x j) : Yld us (.level 7) k d x j := by
  obtain ⟨f, h⟩ := h
  have ht : ∃ t, us[k]? = some t := by
    cases f with
    | zero => simp [runF] at h
    | succ f => rcases h with h | ⟨i, h⟩ <;> exact runF_tok h
  obtain ⟨t, ht⟩ := ht
  exact ⟨f + 1, by rw [runF_level ht, if_neg (by decide), if_pos rfl]; exact h⟩
theorem Yld.l3 (ht : us[k]? = some t) (hs : isS t ⟨#[33]⟩ = false) (h : Yld us (.level 4) k d x j) : Yld us (.level 3) k d x j := by
  obtain ⟨f, h⟩ := h
  exact ⟨f + 1, by rw [runF_level ht, if_pos rfl, hs, if_neg (by decide)]; exact h⟩
theorem Yld.bang (ht : us[k]? = some t) (hs : isS t ⟨#[33]⟩ = true) (hu : us[k + 1]? = some u) (hb : beginsT u = true ∨ isS u ⟨#[33]⟩ = true) (h : Yld us (.level 3) (k + 1) (d + 1) x j) : Yld us (.level 3) k d (.mk 5 0 noB [x] t.at_) j := by
  obtain ⟨f, h⟩ := h
  refine ⟨f + 1, ?_⟩
  rw [runF_level ht, if_pos rfl, if_pos hs, hu]
  dsimp only
  rcases first_ok (no := true) (hb.imp id fun h => ⟨rfl, h⟩) (d + 1) with h0 | h0
  · rw [h0]
    rcases h with h | ⟨i, h⟩
    · rw [h]; exact .inl rfl
    · rw [h]; exact .inr ⟨i, rfl⟩
  · rw [h0]; exact .inr ⟨_, rfl⟩
theorem Yld.step (ok : TokOK us) (hn3 : n ≠ 3) (hn7 : n ≠ 7) (h : Yld us (.level (n + 1)) k d x j) (h2 : x.op ≠ 0 → Yld us (.loop n x) j d y i) : Yld us (.level n) k d y i := by
  obtain ⟨f, h⟩ := h
  have ht : ∃ t, us[k]? = some t := by
    cases f with
    | zero => simp [runF] at h
    | succ f => rcases h with h | ⟨i, h⟩ <;> exact runF_tok h
  obtain ⟨t, ht⟩ := ht
  rcases h with h | ⟨i2, h⟩
  · have hx := run_nz _ _ _ _ _ _ h trivial
    obtain ⟨g, hg⟩ := (h2 hx).up ok hx
    refine ⟨max f g + 1, ?_⟩
    rw [runF_level ht, if_neg hn3, if_neg hn7, run_mono ok (Nat.le_max_left f g) h trivial]
    exact hg _ (Nat.le_max_right f g)
  · refine ⟨f + 1, .inr ⟨i2, ?_⟩⟩
    rw [runF_level ht, if_neg hn3, if_neg hn7, h]; rfl
theorem Yld.loop_end (hu : us[j]? = some u) (ho : opAt n u = none) : Yld us (.loop n x) j d x j := ⟨1, .inl (by rw [runF_loop hu, ho])⟩
theorem Yld.loop_op4 {op : Int} (hu : us[j]? = some u) (ho : opAt 4 u = some op) (h : Yld us (.level 5) (j + 1) d y i) : Yld us (.loop 4 x) j d (.mk op 0 noB [x, y] x.at_) i := by
  obtain ⟨f, h⟩ := h
  refine ⟨f + 1, ?_⟩
  rw [runF_loop hu, ho]
  dsimp only
  rcases h with h | ⟨i2, h⟩
  · rw [h]; exact .inl rfl
  · rw [h]; exact .inr ⟨i2, rfl⟩
theorem Yld.loop_op (ok : TokOK us) {op : Int} {i2 : Nat} (hn : n ≠ 4) (hu : us[j]? = some u) (ho : opAt n u = some op) (h : Yld us (.level (n + 1)) (j + 1) d y i) (h2 : Yld us (.loop n (.mk op 0 noB [x, y] x.at_)) i d z i2) : Yld us (.loop n x) j d z i2 := by
  obtain ⟨f, h⟩ := h
  obtain ⟨g, hg⟩ := h2.up ok (by exact opAt_ne ho)
  rcases h with h | ⟨i2, h⟩
  · refine ⟨max f g + 1, ?_⟩
    rw [runF_loop hu, ho]
    dsimp only
    rw [run_mono ok (Nat.le_max_left f g) h trivial]
    simp only [PR.then_]
    rw [if_neg hn]
    exact hg _ (Nat.le_max_right f g)
  · refine ⟨f + 1, .inr ⟨i2, ?_⟩⟩
    rw [runF_loop hu, ho]
    dsimp only
    rw [h]; rfl
theorem Yld.expr (ht : us[k]? = some t) (hb : beginsT t = true ∨ isS t ⟨#[33]⟩ = true) (h : Yld us (.level 1) k d x j) (hu : us[j]? = some u) (hq : isS u ⟨#[63]⟩ = false) : Yld us .expr k d x j := by
  obtain ⟨f, h⟩ := h
  refine ⟨f + 1, ?_⟩
  rw [runF_expr ht]
  rcases first_ok (no := true) (hb.imp id fun h => ⟨rfl, h⟩) d with h0 | h0
  · rw [h0]
    dsimp only
    rcases h with h | ⟨i, h⟩
    · rw [h]; exact .inl (by simp only [PR.then_]; rw [hu]; dsimp only; rw [if_pos (by simp [hq])])
    · rw [h]; exact .inr ⟨i, rfl⟩
  · rw [h0]; exact .inr ⟨_, rfl⟩
theorem Yld.cond (ok : TokOK us) {v : Tok} {j2 j3 : Nat} (ht : us[k]? = some t) (hb : beginsT t = true ∨ isS t ⟨#[33]⟩ = true) (h : Yld us (.level 1) k d x j) (hu : us[j]? = some u) (hq : isS u ⟨#[63]⟩ = true)
    (h2 : Yld us .expr (j + 1) (d + 1) y j2) (hv : us[j2]? = some v) (hc : isS v ⟨#[58]⟩ = true) (h3 : Yld us .expr (j2 + 1) (d + 1) z j3) : Yld us .expr k d (.mk 20 0 noB [x, y, z] x.at_) j3 := by
  obtain ⟨f1, h1⟩ := h.up ok trivial
  obtain ⟨f2, h2⟩ := h2.up ok trivial
  obtain ⟨f3, h3⟩ := h3.up ok trivial
  refine ⟨max f1 (max f2 f3) + 1, ?_⟩
  rw [runF_expr ht]
  rcases first_ok (no := true) (hb.imp id fun h => ⟨rfl, h⟩) d with h0 | h0
  · rw [h0]
    dsimp only
    rcases h1 _ (by omega : f1 ≤ max f1 (max f2 f3)) with h | ⟨i, h⟩
    · rw [h]
      simp only [PR.then_]
      rw [hu]
      dsimp only
      rw [if_neg (by simp [hq])]
      rcases h2 _ (by omega : f2 ≤ max f1 (max f2 f3)) with h | ⟨i, h⟩
      · rw [h]
        dsimp only
        rw [hv]
        dsimp only
        rw [if_neg (by simp [hc])]
        rcases h3 _ (by omega : f3 ≤ max f1 (max f2 f3)) with h | ⟨i, h⟩
        · rw [h]; exact .inl rfl
        · rw [h]; exact .inr ⟨i, rfl⟩
      · rw [h]; exact .inr ⟨i, rfl⟩
    · rw [h]; exact .inr ⟨i, rfl⟩
  · rw [h0]; exact .inr ⟨_, rfl⟩
theorem Yld.number (ht : us[k]? = some t) (hk : t.kind = 2) : Yld us .atom k d (.mk 1 t.n noB [] t.at_) (k + 1) :=
  ⟨1, .inl (by rw [runF_atom ht, if_neg (by simp [isS, hk]), if_pos hk])⟩
theorem Yld.text (ht : us[k]? = some t) (hk : t.kind = 3) : Yld us .atom k d (.mk 2 0 t.s [] t.at_) (k + 1) :=
  ⟨1, .inl (by rw [runF_atom ht, if_neg (by simp [isS, hk]), if_neg (by omega), if_pos hk])⟩
theorem Yld.name (ht : us[k]? = some t) (hk : t.kind = 1) (hu : us[k + 1]? = some u) (hs : isS u ⟨#[40]⟩ = false) : Yld us .atom k d (.mk 3 0 t.s [] t.at_) (k + 1) :=
  ⟨1, .inl (by rw [runF_atom ht, if_neg (by simp [isS, hk]), if_neg (by omega), if_neg (by omega), if_pos hk, hu]; dsimp only; rw [if_pos (by simp [hs])])⟩
theorem Yld.call0 {v : Tok} (ht : us[k]? = some t) (hk : t.kind = 1) (hu : us[k + 1]? = some u) (hs : isS u ⟨#[40]⟩ = true) (hv : us[k + 2]? = some v) (hc : isS v ⟨#[41]⟩ = true) : Yld us .atom k d (.mk 4 0 t.s [] t.at_) (k + 3) :=
  ⟨1, .inl (by rw [runF_atom ht, if_neg (by simp [isS, hk]), if_neg (by omega), if_neg (by omega), if_pos hk, hu]; dsimp only; rw [if_neg (by simp [hs]), hv]; dsimp only; rw [if_pos hc])⟩
theorem Yld.call {v : Tok} (ht : us[k]? = some t) (hk : t.kind = 1) (hu : us[k + 1]? = some u) (hs : isS u ⟨#[40]⟩ = true) (hv : us[k + 2]? = some v) (hc : isS v ⟨#[41]⟩ = false) (h : Yld us (.args t []) (k + 2) d x j) : Yld us .atom k d x j := by
  obtain ⟨f, h⟩ := h
  refine ⟨f + 1, ?_⟩
  rw [runF_atom ht, if_neg (by simp [isS, hk]), if_neg (by omega), if_neg (by omega), if_pos hk, hu]
  dsimp only
  rw [if_neg (by simp [hs]), hv]
  dsimp only
  rw [hc, if_neg (by decide)]
  exact h
theorem Yld.full {ks : List Ex} {t0 : Tok} (ht : us[k]? = some t) (hb : beginsT t = true ∨ isS t ⟨#[33]⟩ = true) (hl : ks.length = 40) : Yld us (.args t0 ks) k d x j := by
  refine ⟨1, .inr ⟨k, ?_⟩⟩
  rw [runF_args ht, if_pos hl]
  rcases first_ok (no := true) (hb.imp id fun h => ⟨rfl, h⟩) 0 with h0 | h0 <;> rw [h0] <;> rfl
theorem Yld.args_last {ks : List Ex} {t0 : Tok} (ht : us[k]? = some t) (hl : ks.length ≠ 40) (h : Yld us .expr k (d + 1) x j) (hu : us[j]? = some u) (hc : isS u ⟨#[41]⟩ = true) : Yld us (.args t0 ks) k d (.mk 4 0 t0.s (ks ++ [x]) t0.at_) (j + 1) := by
  obtain ⟨f, h⟩ := h
  refine ⟨f + 1, ?_⟩
  rw [runF_args ht, if_neg hl]
  rcases h with h | ⟨i, h⟩
  · rw [h]; exact .inl (by simp only [PR.then_]; rw [hu]; dsimp only; rw [if_pos hc])
  · rw [h]; exact .inr ⟨i, rfl⟩
theorem Yld.args_more (ok : TokOK us) {ks : List Ex} {t0 : Tok} (ht : us[k]? = some t) (hl : ks.length ≠ 40) (h : Yld us .expr k (d + 1) x j) (hu : us[j]? = some u) (hc : isS u ⟨#[44]⟩ = true) (h2 : Yld us (.args t0 (ks ++ [x])) (j + 1) d y i) : Yld us (.args t0 ks) k d y i := by
  obtain ⟨f1, h1⟩ := h.up ok trivial
  obtain ⟨f2, h2⟩ := h2.up ok trivial
  have hc2 : isS u ⟨#[41]⟩ = false := by
    have := isS_s hc
    cases h3 : isS u ⟨#[41]⟩ with
    | false => rfl
    | true => have h4 := isS_s h3; rw [this] at h4; simp at h4
  refine ⟨max f1 f2 + 1, ?_⟩
  rw [runF_args ht, if_neg hl]
  rcases h1 _ (Nat.le_max_left f1 f2) with h | ⟨i, h⟩
  · rw [h]
    simp only [PR.then_]
    rw [hu]
    dsimp only
    rw [hc2, if_neg (by decide), if_pos hc]
    exact h2 _ (Nat.le_max_right f1 f2)
  · rw [h]; exact .inr ⟨i, rfl⟩
theorem Yld.climb (ok : TokOK us) (ht : us[k]? = some t) (hu : us[j]? = some u) : ∀ (c n : Nat), n + c ≤ 7 → (isS t ⟨#[33]⟩ = false ∨ n + c ≤ 3) → (∀ i, n ≤ i → i < n + c → opAt i u = none) → Yld us (.level (n + c)) k d x j → Yld us (.level n) k d x j
  | 0, n, _, _, _, h => h
  | c + 1, n, hc, hb, ho, h => by
    have h1 : Yld us (.level (n + 1)) k d x j := Yld.climb ok ht hu c (n + 1) (by omega) (hb.imp id fun h => by omega) (fun i h1 h2 => ho i (by omega) (by omega)) (by rw [show n + 1 + c = n + (c + 1) by omega]; exact h)
    by_cases h3 : n = 3
    · subst h3
      exact h1.l3 ht (by rcases hb with h | h; exact h; omega)
    · exact h1.step ok h3 (by omega) fun _ => Yld.loop_end hu (ho n (Nat.le_refl _) (by omega))
end
end Go.Proofs.YtjijdgkccfeeaaaGreatDoor
namespace Go.Proofs.YtjijdgkccfeeaaaGreatDoor
open Go Go.Proofs
def sg0 (s : ByteArray) : Tok := ⟨4, 0, s, 0⟩
def nm0 (s : ByteArray) : Tok := ⟨1, 0, s, 0⟩
theorem head_40 (l : List UInt8) : headT (40 :: l) = .tok (sg0 ⟨#[40]⟩) 1 := by kernel_rfl
theorem head_41 (l : List UInt8) : headT (41 :: l) = .tok (sg0 ⟨#[41]⟩) 1 := by kernel_rfl
theorem head_44 (l : List UInt8) : headT (44 :: l) = .tok (sg0 ⟨#[44]⟩) 1 := by kernel_rfl
theorem head_59 (l : List UInt8) : headT (59 :: l) = .tok (sg0 ⟨#[59]⟩) 1 := by kernel_rfl
theorem head_neg (l : List UInt8) : headT (45 :: 40 :: l) = .tok (sg0 ⟨#[45]⟩) 1 := by kernel_rfl
theorem head_not (l : List UInt8) : headT (33 :: 40 :: l) = .tok (sg0 ⟨#[33]⟩) 1 := by kernel_rfl
theorem head_f (l : List UInt8) : headT (102 :: 40 :: l) = .tok (nm0 ⟨#[102]⟩) 1 := by kernel_rfl
theorem head_w (l : List UInt8) : headT (119 :: 32 :: l) = .tok (nm0 ⟨#[119]⟩) 1 := by kernel_rfl
theorem head_op (r : ByteArray × Int × Nat) (h : r ∈ opRows) (l : List UInt8) : headT (r.1.data.toList ++ 40 :: l) = .tok (sg0 r.1) r.1.size ∧ blankL false (r.1.data.toList ++ 40 :: l) = 0 := by
  simp only [opRows, List.mem_cons, List.not_mem_nil, or_false] at h
  rcases h with rfl | rfl | rfl | rfl | rfl | rfl | rfl | rfl | rfl | rfl | rfl | rfl | rfl <;> exact ⟨by kernel_rfl, by kernel_rfl⟩
def Toks (l : List UInt8) (k : Nat) (us : List Tok) : Prop := srcT l k = .ok us
theorem Toks.tok {l : List UInt8} {k tt : Nat} {t : Tok} {us : List Tok} (hb : blankL false l = 0) (h : headT l = .tok t tt) (h2 : Toks (l.drop tt) (k + tt) us) : Toks l k (t.shift k :: us) := by
  unfold Toks at h2 ⊢
  have e : srcT l k = lexA l k := by unfold srcT; rw [hb]; rfl
  rw [e, lexA_tok h, h2]; rfl
theorem Toks.nil (k : Nat) : Toks [] k [⟨5, k, ⟨#[]⟩, 0⟩] := by
  unfold Toks srcT
  rw [show blankL false [] = 0 from rfl]
  exact lexA_nil _
theorem Toks.blank {l : List UInt8} {k : Nat} {us : List Tok} (h : Toks l (k + 1) us) : Toks (32 :: l) k us := by
  unfold Toks srcT at h ⊢
  have e : blankL false (32 :: l) = blankL false l + 1 := by
    rw [blankL, if_pos (by decide)]
  rw [e, List.drop_succ_cons, show k + (blankL false l + 1) = k + 1 + blankL false l by omega]
  exact h
theorem Toks.part {a : ByteArray} {ta : List Tok} {y : List UInt8} {k : Nat} {us : List Tok} (ha : tokensP a = .ok ta) (h : Toks y (k + a.size + 1) us) : Toks (a.data.toList ++ 10 :: y) k (ta.dropLast.map (Tok.shift k) ++ us) := by
  unfold Toks at h ⊢
  have h0 : srcT a.data.toList 0 = .ok ta := by
    rw [tokensP_eq] at ha
    split at ha
    · cases ha
    · exact ha
  have h1 := srcT_shift k a.data.toList 0
  rw [h0, Nat.zero_add] at h1
  rw [srcT_join, h1]
  show (srcT y (k + a.data.toList.length + 1)).pre (ta.map (Tok.shift k)).dropLast = _
  rw [show a.data.toList.length = a.size by simp, h]
  simp [LR.pre, List.map_dropLast]
theorem Toks.src {s : ByteArray} {us : List Tok} (hs : s.size ≤ 65536) (h : Toks s.data.toList 0 us) : tokensP s = .ok us := by
  rw [tokensP_eq, if_neg (by omega)]; exact h
theorem isS_sg (s t : ByteArray) (k : Nat) : isS ((sg0 s).shift k) t = (s.data.toList == t.data.toList) := by simp [isS, sg0, Tok.shift]
theorem opAt_sg (s : ByteArray) (k n : Nat) : opAt n ((sg0 s).shift k) = opAt n (sg0 s) := rfl
theorem opAt_close (n : Nat) (k : Nat) (s : ByteArray) (h : s = ⟨#[41]⟩ ∨ s = ⟨#[44]⟩) : opAt n ((sg0 s).shift k) = none := by
  unfold opAt
  rw [List.find?_eq_none.2]
  · rfl
  · intro r hr
    simp only [opRows, List.mem_cons, List.not_mem_nil, or_false] at hr
    rcases h with rfl | rfl <;> rcases hr with rfl | rfl | rfl | rfl | rfl | rfl | rfl | rfl | rfl | rfl | rfl | rfl | rfl <;> simp [isS_sg]
theorem stops_sg (k : Nat) (s : ByteArray) (h : s = ⟨#[41]⟩ ∨ s = ⟨#[44]⟩) : Stops ((sg0 s).shift k) := by
  refine ⟨?_, ?_, ?_, ?_, fun n => opAt_close n k s h⟩ <;> rw [isS_sg] <;> rcases h with rfl | rfl <;> decide
theorem opAt_row (r : ByteArray × Int × Nat) (h : r ∈ opRows) : (1 ≤ r.2.2 ∧ r.2.2 ≤ 6 ∧ r.2.2 ≠ 3) ∧ ∀ n k, opAt n ((sg0 r.1).shift k) = if n = r.2.2 then some r.2.1 else none := by
  have key : ∀ n k, opAt n ((sg0 r.1).shift k) = ((opRows.filter fun q => q.1.data.toList == r.1.data.toList).find? fun q => q.2.2 == n).map (·.2.1) := fun n k => by
    unfold opAt
    congr 1
    rw [List.find?_filter]
    congr 1
    funext q
    rw [isS_sg, Bool.and_comm]
    rw [Bool.eq_iff_iff, decide_eq_true_iff, Bool.and_eq_true]
    exact and_congr (by rw [beq_iff_eq, beq_iff_eq]; exact eq_comm) Iff.rfl
  simp only [opRows, List.mem_cons, List.not_mem_nil, or_false] at h
  refine ⟨?_, fun n k => ?_⟩
  · rcases h with rfl | rfl | rfl | rfl | rfl | rfl | rfl | rfl | rfl | rfl | rfl | rfl | rfl <;> decide
  · rw [key]
    rcases h with rfl | rfl | rfl | rfl | rfl | rfl | rfl | rfl | rfl | rfl | rfl | rfl | rfl <;>
      (rw [show (opRows.filter fun q => q.1.data.toList == _) = [_] from rfl]; simp only [List.find?_cons, List.find?_nil]; split <;> rename_i h1 <;> simp at h1 <;> simp [h1] <;> try omega)
mutual
theorem same_shX (c : Nat) : ∀ x : Ex, sameX false (shX c x) x = true
  | .mk p n s ks a => by
    by_cases h : p = 0
    · rw [shX, if_pos h]; exact sameX_refl _ _
    · rw [shX, if_neg h]; simp [sameX, same_shXs c ks]
theorem same_shXs (c : Nat) : ∀ l : List Ex, sameXs false (shXs c l) l = true
  | [] => rfl
  | x :: l => by simp [shXs, sameXs, same_shX c x, same_shXs c l]
end
theorem at_mid (pre mid : List Tok) (v : Tok) (l : List Tok) : (pre ++ (mid ++ v :: l))[pre.length + mid.length]? = some v := by
  rw [List.getElem?_append_right (by omega), List.getElem?_append_right (by omega)]
  simp
structure ExT (a : ByteArray) (x : Ex) (ts ua : List Tok) : Prop where
  toks : tokensP a = .ok ts
  eq : ua = ts.dropLast
  all : ts = ua ++ [endTok a]
  ok : TokOK ts
  run : ∃ f, runF ts f .expr 0 1 = some (.ok x ua.length)
  good : ∀ t ∈ ua, GoodT t
  len : ua.length ≤ a.size
theorem expr_toks {a : ByteArray} {x : Ex} (h : exprP a = .ok x) : ∃ ts ua, ExT a x ts ua := by
  unfold exprP at h
  split at h
  · cases h
  · rename_i ts hT
    obtain ⟨ok, hpos, ua, hts, hg, hl⟩ := tokens_good hT
    have hr := readE_some ok hpos
    cases hre : readE ts with
    | err j c => rw [hre] at h; cases h
    | ok y j =>
      rw [hre] at h hr
      unfold endP at h
      dsimp only at h
      split at h
      · rename_i h5
        cases h
        have hj : j = ua.length := by
          cases htj : ts[j]? with
          | none => rw [htj] at h5; cases h5
          | some t =>
            rw [htj] at h5
            have hk : t.kind = 5 := by simpa using h5
            have hlt := lt_of_some htj
            rw [hts, List.length_append, List.length_singleton] at hlt
            rcases Nat.lt_or_ge j ua.length with h1 | h1
            · rw [hts, List.getElem?_append_left h1] at htj
              exact absurd hk (hg t (List.mem_of_getElem? htj)).kind
            · omega
        subst hj
        exact ⟨ts, ua, hT, by rw [hts, List.dropLast_concat], hts, ok, ⟨_, hr⟩, hg, hl⟩
      · cases h
section
variable {a : ByteArray} {x : Ex} {ts ua us : List Tok} {c : Nat}
theorem ExT.sim (h : ExT a x ts ua) {pre rest : List Tok} {v : Tok} (hus : us = pre ++ (ua.map (Tok.shift c) ++ v :: rest)) (hv : Stops v) : Sim ts us pre.length c ua.length false := by
  refine ⟨fun i hi => ?_, fun t ht => ⟨v, ?_, .inr ⟨rfl, ?_, hv⟩⟩, fun h => by cases h⟩
  · rw [hus, List.getElem?_append_right (by omega), List.getElem?_append_left (by simp; omega), Nat.add_sub_cancel_left, List.getElem?_map, h.all, List.getElem?_append_left hi]
  · rw [hus]
    have := at_mid pre (ua.map (Tok.shift c)) v rest
    rw [List.length_map] at this
    exact this
  · rw [h.all, List.getElem?_append_right (Nat.le_refl _), Nat.sub_self] at ht
    cases ht; rfl
theorem ExT.yld (h : ExT a x ts ua) {pre rest : List Tok} {v : Tok} (hus : us = pre ++ (ua.map (Tok.shift c) ++ v :: rest)) (hv : Stops v) (d : Int) : Yld us .expr pre.length d (shX c x) (pre.length + ua.length) := by
  obtain ⟨f, hf⟩ := h.run
  obtain ⟨r', h1, h2⟩ := sim_run h.ok (h.sim hus hv) f f .expr 0 1 d _ (Nat.le_refl _) (fun h => by cases h) trivial hf (Nat.le_refl _)
  refine ⟨f, ?_⟩
  rcases h2 with rfl | ⟨-, i, rfl⟩
  · exact .inl h1
  · exact .inr ⟨i, h1⟩
theorem ExT.run1 (h : ExT a x ts ua) {pre rest : List Tok} {v : Tok} (hus : us = pre ++ (ua.map (Tok.shift c) ++ v :: rest)) (hv : Stops v) : ∃ f, runF us f .expr pre.length 1 = some (.ok (shX c x) (pre.length + ua.length)) := by
  obtain ⟨f, hf⟩ := h.run
  obtain ⟨r', h1, h2⟩ := sim_run h.ok (h.sim hus hv) f f .expr 0 1 1 _ (Nat.le_refl _) (fun h => by cases h) trivial hf (Nat.le_refl _)
  rcases h2 with rfl | ⟨h3, -⟩
  · exact ⟨f, h1⟩
  · omega
theorem ExT.first (h : ExT a x ts ua) : ∃ t l, ua = t :: l ∧ (beginsT t = true ∨ isS t ⟨#[33]⟩ = true) := by
  obtain ⟨f, hf⟩ := h.run
  cases f with
  | zero => simp [runF] at hf
  | succ f =>
    obtain ⟨t, ht⟩ := runF_tok hf
    rw [runF_expr ht] at hf
    have hb : beginsT t = true ∨ isS t ⟨#[33]⟩ = true := by
      cases h1 : firstP t 1 true with
      | some e => rw [h1] at hf; cases hf
      | none =>
        unfold firstP at h1
        split at h1
        · cases h1
        · rename_i h2
          simp only [Bool.true_and, Bool.and_eq_true, Bool.not_eq_true', not_and, Bool.not_eq_false] at h2
          cases hbt : beginsT t with
          | true => exact .inl rfl
          | false => exact .inr (h2 hbt)
    rw [h.all] at ht
    cases hua : ua with
    | nil =>
      rw [hua] at ht
      have : t = endTok a := by simpa using ht.symm
      subst this
      rcases hb with h1 | h1
      · simp [beginsT, isS, endTok] at h1
      · simp [isS, endTok] at h1
    | cons u l =>
      rw [hua] at ht
      have : t = u := by simpa using ht.symm
      subst this
      exact ⟨t, l, rfl, hb⟩
end
def NestOK (r : PE Ex) (w : Ex) : Prop := (∃ g, r = .ok g ∧ sameX false g w = true) ∨ ∃ i, r = .bad i 2
theorem nest_of {s : ByteArray} {us : List Tok} {y w : Ex} {j : Nat} (hT : tokensP s = .ok us) (h : Yld us .expr 0 1 y j) (h5 : (us[j]?).map (·.kind) = some 5) (hw : sameX false y w = true) : NestOK (exprP s) w := by
  obtain ⟨ok, hpos, -⟩ := tokens_good hT
  have hr := readE_some ok hpos
  obtain ⟨f, h⟩ := h
  unfold exprP
  rw [hT]
  dsimp only
  rcases h with h | ⟨i, h⟩
  · rw [run_det ok hr h trivial]
    exact .inl ⟨y, by simp [endP, h5], hw⟩
  · rw [run_det ok hr h trivial]
    exact .inr ⟨_, rfl⟩
theorem Yld.operand {us : List Tok} (ok : TokOK us) {k j : Nat} {d : Int} {x : Ex} {t u : Tok} (ht : us[k]? = some t) (hs : isS t ⟨#[40]⟩ = true) (h : Yld us .atom k d x j) (hu : us[j]? = some u) (n : Nat) (hn : n ≤ 7) (ho : ∀ i, n ≤ i → opAt i u = none) : Yld us (.level n) k d x j := by
  have e := isS_s hs
  have e2 := isS_kind hs
  have h1 := (h.atom_neg ht (by simp [isS, e])).l7
  have h2 := Yld.climb (x := x) (d := d) ok ht hu (7 - n) n (by omega) (.inl (by simp [isS, e])) (fun i h1 _ => ho i h1)
  rw [show n + (7 - n) = 7 by omega] at h2
  exact h2 h1
section
variable {a b s : ByteArray} {x y : Ex}
theorem opAt_endk (k : Nat) (n : Nat) : opAt n ⟨5, k, ⟨#[]⟩, 0⟩ = none := opAt_kind5 rfl n
theorem beg_open (k : Nat) : beginsT ((sg0 ⟨#[40]⟩).shift k) = true := rfl
theorem nest_one (ha : exprP a = .ok x) (hs : s.data.toList = 40 :: (a.data.toList ++ 10 :: [41])) (hz : s.size ≤ 65536) : NestOK (exprP s) x := by
  obtain ⟨ts, ua, H⟩ := expr_toks ha
  have hT := Toks.src hz (by rw [hs]; exact Toks.tok rfl (head_40 _) (Toks.part H.toks (Toks.tok rfl (head_41 _) (Toks.nil _))))
  obtain ⟨ok, -⟩ := tokens_good hT
  rw [← H.eq] at hT ok
  generalize hus : ((sg0 ⟨#[40]⟩).shift 0 :: (ua.map (Tok.shift (0 + 1)) ++ ((sg0 ⟨#[41]⟩).shift (0 + 1 + a.size + 1) :: [⟨5, (0 + 1 + a.size + 1 + 1 : Nat), ⟨#[]⟩, 0⟩]))) = us at hT ok
  have hus' : us = [(sg0 ⟨#[40]⟩).shift 0] ++ (ua.map (Tok.shift (0 + 1)) ++ ((sg0 ⟨#[41]⟩).shift (0 + 1 + a.size + 1) :: [⟨5, (0 + 1 + a.size + 1 + 1 : Nat), ⟨#[]⟩, 0⟩])) := hus.symm
  have hx := H.yld hus' (stops_sg _ _ (.inl rfl)) 2
  have t0 : us[0]? = some ((sg0 ⟨#[40]⟩).shift 0) := by rw [hus']; rfl
  have t1 : us[1 + ua.length]? = some ((sg0 ⟨#[41]⟩).shift (0 + 1 + a.size + 1)) := by
    rw [hus']; simpa using at_mid [(sg0 ⟨#[40]⟩).shift 0] (ua.map (Tok.shift (0 + 1))) _ _
  have t2 : us[1 + ua.length + 1]? = some ⟨5, (0 + 1 + a.size + 1 + 1 : Nat), ⟨#[]⟩, 0⟩ := by
    rw [hus']
    have := at_mid [(sg0 ⟨#[40]⟩).shift 0] (ua.map (Tok.shift (0 + 1)) ++ [(sg0 ⟨#[41]⟩).shift (0 + 1 + a.size + 1)]) ⟨5, (0 + 1 + a.size + 1 + 1 : Nat), ⟨#[]⟩, 0⟩ []
    simpa [Nat.add_assoc] using this
  have h1 : Yld us .atom 0 1 (shX (0 + 1) x) (1 + ua.length + 1) := Yld.paren t0 rfl hx t1 rfl
  have h2 := h1.operand ok t0 rfl t2 1 (by omega) (fun i _ => opAt_endk _ i)
  exact nest_of hT (h2.expr t0 (.inl rfl) t2 rfl) (by rw [t2]; rfl) (same_shX _ _)
end
end Go.Proofs.YtjijdgkccfeeaaaGreatDoor
