/- Part 20 of the proof of card: ParSim, ParSimF, ParRuns, ParRunsL. Conditions: those of each theorem. -/
import Derived.Test.YtjijdgkccfeeaaaGreatDoorRt01
import Derived.Test.YtjijdgkccfeeaaaGreatDoorRt04
import Derived.Test.YtjijdgkccfeeaaaGreatDoorRt14
import Derived.Test.YtjijdgkccfeeaaaGreatDoorRt19
namespace Go.Proofs.YtjijdgkccfeeaaaGreatDoor
open Go Go.Proofs
mutual
def shX (c : Nat) : Ex → Ex
  | .mk p n s ks a => if p = 0 then .mk p n s ks a else .mk p n s (shXs c ks) (a + c)
def shXs (c : Nat) : List Ex → List Ex
  | [] => []
  | x :: xs => shX c x :: shXs c xs
end
theorem shXs_map (c : Nat) : ∀ l : List Ex, shXs c l = l.map (shX c)
  | [] => rfl
  | x :: l => by rw [shXs, shXs_map c l]; rfl
theorem shX_mk {c : Nat} {p n : Int} {s : ByteArray} {ks : List Ex} {a : Int} (h : p ≠ 0) : shX c (.mk p n s ks a) = .mk p n s (ks.map (shX c)) (a + c) := by rw [shX, if_neg h, shXs_map]
theorem shX_at {c : Nat} {x : Ex} (h : x.op ≠ 0) : (shX c x).at_ = x.at_ + c := by
  obtain ⟨p, n, s, ks, a⟩ := x
  rw [shX_mk (by exact h)]; rfl
def shQ (c : Nat) : Qn → Qn
  | .expr => .expr
  | .level n => .level n
  | .loop n x => .loop n (shX c x)
  | .neg => .neg
  | .atom => .atom
  | .args t ks => .args (t.shift c) (ks.map (shX c))
def QNZ : Qn → Prop
  | .loop _ x => x.op ≠ 0
  | _ => True
structure Stops (u : Tok) : Prop where
  q : isS u ⟨#[63]⟩ = false
  p : isS u ⟨#[40]⟩ = false
  b : isS u ⟨#[33]⟩ = false
  m : isS u ⟨#[45]⟩ = false
  o : ∀ n, opAt n u = none
structure Sim (ts us : List Tok) (p c m : Nat) (full : Bool) : Prop where
  eq : ∀ i, i < m → us[p + i]? = (ts[i]?).map (Tok.shift c)
  last : ∀ t, ts[m]? = some t → ∃ u, us[p + m]? = some u ∧ (u = t.shift c ∨ (full = false ∧ t.kind = 5 ∧ Stops u))
  all : full = true → ts.length ≤ m + 1
def Good {α : Type} (full : Bool) (m : Nat) : PR α → Prop
  | .ok _ j => j ≤ m
  | .err _ _ => full = true
def Rel {α β : Type} (sh : α → β) (p : Nat) (lim : Prop) : PR α → PR β → Prop
  | .ok x j, r => r = .ok (sh x) (p + j) ∨ (lim ∧ ∃ i, r = .err i 2)
  | .err j e, r => r = .err (p + j) e
section
variable {ts us : List Tok} {p c m : Nat} {full : Bool}
theorem Sim.get (S : Sim ts us p c m full) {k : Nat} {t : Tok} (ht : ts[k]? = some t) (hk : k ≤ m) : ∃ u, us[p + k]? = some u ∧ (u = t.shift c ∨ (full = false ∧ t.kind = 5 ∧ Stops u)) := by
  rcases Nat.lt_or_ge k m with h | h
  · exact ⟨_, by rw [S.eq k h, ht]; rfl, .inl rfl⟩
  · obtain rfl : k = m := by omega
    exact S.last t ht
theorem Sim.get' (S : Sim ts us p c m full) {k : Nat} {t : Tok} (ht : ts[k]? = some t) (hk : k ≤ m) (h5 : full = true ∨ t.kind ≠ 5) : us[p + k]? = some (t.shift c) := by
  obtain ⟨u, hu, rfl | ⟨h1, h2, -⟩⟩ := S.get ht hk
  · exact hu
  · rcases h5 with h5 | h5
    · rw [h5] at h1; cases h1
    · exact absurd h2 h5
theorem Sim.le (S : Sim ts us p c m full) {α : Type} {r : PR α} {j : Nat} (hj : j < ts.length) (hg : Good full m r) (h : ∀ x i, r = .ok x i → j ≤ i) : j ≤ m := by
  cases r with
  | ok x i => exact Nat.le_trans (h x i rfl) hg
  | err i e => have := S.all hg; omega
theorem then_sim {α β γ δ : Type} {sh1 : α → γ} {sh2 : β → δ} {lim : Prop} (hl : lim → full = false) {r1 : Option (PR α)} {s1 : Option (PR γ)} {g : α → Nat → Option (PR β)} {g' : γ → Nat → Option (PR δ)} {r : PR β} (h : PR.then_ r1 g = some r) (hg : Good full m r)
    (Hk : ∀ x j, r1 = some (.ok x j) → g x j = some r → j ≤ m)
    (H1 : ∀ z, r1 = some z → Good full m z → ∃ z', s1 = some z' ∧ Rel sh1 p lim z z')
    (H2 : ∀ x j, r1 = some (.ok x j) → j ≤ m → g x j = some r → ∃ r', g' (sh1 x) (p + j) = some r' ∧ Rel sh2 p lim r r') :
    ∃ r', PR.then_ s1 g' = some r' ∧ Rel sh2 p lim r r' := by
  rcases PR.then_some h with ⟨j, e, h1, rfl⟩ | ⟨x, j, h1, h2⟩
  · obtain ⟨z', h3, h4⟩ := H1 _ h1 hg
    have h4' : z' = .err (p + j) e := h4
    subst h4'
    exact ⟨.err (p + j) e, by rw [h3]; rfl, rfl⟩
  · have hj := Hk x j h1 h2
    obtain ⟨z', h3, h4⟩ := H1 _ h1 hj
    rcases h4 with rfl | ⟨hlim, i, rfl⟩
    · obtain ⟨r', h5, h6⟩ := H2 x j h1 hj h2
      exact ⟨r', by rw [h3]; exact h5, h6⟩
    · cases r with
      | ok y i2 => exact ⟨.err i 2, by rw [h3]; rfl, .inr ⟨hlim, i, rfl⟩⟩
      | err i2 e => have h7 : full = true := hg; rw [hl hlim] at h7; cases h7
end
section
variable {ts : List Tok} {f k n : Nat} {d : Int} {t : Tok} {x : Ex} {ks : List Ex} {t0 : Tok}
theorem runF_tok {q : Qn} {r : PR Ex} (h : runF ts (f + 1) q k d = some r) : ∃ t, ts[k]? = some t := by
  unfold runF at h
  split at h
  · cases h
  · exact ⟨_, by assumption⟩
theorem runF_expr (ht : ts[k]? = some t) : runF ts (f + 1) .expr k d = match firstP t d true with
        | some c => some (.err k c)
        | none => PR.then_ (runF ts f (.level 1) k d) fun x j =>
          match ts[j]? with
          | none => none
          | some u => if !isS u ⟨#[63]⟩ then some (.ok x j) else
            PR.then_ (runF ts f .expr (j + 1) (d + 1)) fun a j2 =>
              match ts[j2]? with
              | none => none
              | some v => if !isS v ⟨#[58]⟩ then some (.err j2 5) else
                PR.then_ (runF ts f .expr (j2 + 1) (d + 1)) fun b j3 => some (.ok (.mk 20 0 noB [x, a, b] x.at_) j3) := by
  rw [runF, ht]; rfl
theorem runF_level (ht : ts[k]? = some t) : runF ts (f + 1) (.level n) k d = if n = 3 then
          if isS t ⟨#[33]⟩ then
            match ts[k + 1]? with
            | none => none
            | some u =>
              match firstP u (d + 1) true with
              | some c => some (.err (k + 1) c)
              | none => PR.then_ (runF ts f (.level 3) (k + 1) (d + 1)) fun x j => some (.ok (.mk 5 0 noB [x] t.at_) j)
          else runF ts f (.level 4) k d
        else if n = 7 then runF ts f .neg k d
        else PR.then_ (runF ts f (.level (n + 1)) k d) fun x j => runF ts f (.loop n x) j d := by
  rw [runF, ht]; rfl
theorem runF_loop (ht : ts[k]? = some t) : runF ts (f + 1) (.loop n x) k d = match opAt n t with
        | none => some (.ok x k)
        | some op => PR.then_ (runF ts f (.level (n + 1)) (k + 1) d) fun y j =>
          if n = 4 then some (.ok (.mk op 0 noB [x, y] x.at_) j) else runF ts f (.loop n (.mk op 0 noB [x, y] x.at_)) j d := by
  rw [runF, ht]; rfl
theorem runF_neg (ht : ts[k]? = some t) : runF ts (f + 1) .neg k d = if isS t ⟨#[45]⟩ then
          match ts[k + 1]? with
          | none => none
          | some u =>
            match firstP u (d + 1) false with
            | some c => some (.err (k + 1) c)
            | none => PR.then_ (runF ts f .neg (k + 1) (d + 1)) fun x j => some (.ok (.mk 6 0 noB [x] t.at_) j)
        else runF ts f .atom k d := by
  rw [runF, ht]; rfl
theorem runF_atom (ht : ts[k]? = some t) : runF ts (f + 1) .atom k d = if isS t ⟨#[40]⟩ then PR.then_ (runF ts f .expr (k + 1) (d + 1)) fun x j =>
          match ts[j]? with
          | none => none
          | some u => if isS u ⟨#[41]⟩ then some (.ok x (j + 1)) else some (.err j 5)
        else if t.kind = 2 then some (.ok (.mk 1 t.n noB [] t.at_) (k + 1))
        else if t.kind = 3 then some (.ok (.mk 2 0 t.s [] t.at_) (k + 1))
        else if t.kind = 1 then
          match ts[k + 1]? with
          | none => none
          | some u => if !isS u ⟨#[40]⟩ then some (.ok (.mk 3 0 t.s [] t.at_) (k + 1)) else
            match ts[k + 2]? with
            | none => none
            | some v => if isS v ⟨#[41]⟩ then some (.ok (.mk 4 0 t.s [] t.at_) (k + 3)) else runF ts f (.args t []) (k + 2) d
        else some (.err k 5) := by
  rw [runF, ht]; rfl
theorem runF_args (ht : ts[k]? = some t) : runF ts (f + 1) (.args t0 ks) k d = if ks.length = 40 then some (.err k ((firstP t 0 true).getD 2))
        else PR.then_ (runF ts f .expr k (d + 1)) fun x j =>
          match ts[j]? with
          | none => none
          | some u => if isS u ⟨#[41]⟩ then some (.ok (.mk 4 0 t0.s (ks ++ [x]) t0.at_) (j + 1))
            else if isS u ⟨#[44]⟩ then runF ts f (.args t0 (ks ++ [x])) (j + 1) d
            else some (.err j 5) := by
  rw [runF, ht]; rfl
end
theorem opAt_ne {n : Nat} {t : Tok} {op : Int} (h : opAt n t = some op) : op ≠ 0 := by
  unfold opAt at h
  simp only [Option.map_eq_some_iff] at h
  obtain ⟨r, h1, rfl⟩ := h
  have h2 := List.mem_of_find?_eq_some h1
  simp only [opRows, List.mem_cons, List.not_mem_nil, or_false] at h2
  rcases h2 with rfl | rfl | rfl | rfl | rfl | rfl | rfl | rfl | rfl | rfl | rfl | rfl | rfl <;> decide
theorem run_nz {ts : List Tok} : ∀ (f : Nat) (q : Qn) (k : Nat) (d : Int) (x : Ex) (j : Nat), runF ts f q k d = some (.ok x j) → QNZ q → x.op ≠ 0 := by
  intro f
  induction f with
  | zero => intro q k d x j h; cases q <;> simp [runF] at h
  | succ f ih =>
    intro q k d x j h hq
    obtain ⟨t, ht⟩ := runF_tok h
    cases q with
    | expr =>
      rw [runF_expr ht] at h
      split at h
      · cases h
      · rcases PR.then_some h with ⟨_, _, _, h2⟩ | ⟨x1, j1, h1, h2⟩
        · cases h2
        split at h2
        · cases h2
        split at h2
        · cases h2; exact ih _ _ _ _ _ h1 trivial
        · rcases PR.then_some h2 with ⟨_, _, _, h3⟩ | ⟨x2, j2, h3, h4⟩
          · cases h3
          split at h4
          · cases h4
          split at h4
          · cases h4
          · rcases PR.then_some h4 with ⟨_, _, _, h5⟩ | ⟨x3, j3, h5, h6⟩
            · cases h5
            cases h6; simp [Ex.op]
    | level n =>
      rw [runF_level ht] at h
      split at h
      · split at h
        · split at h
          · cases h
          split at h
          · cases h
          · rcases PR.then_some h with ⟨_, _, _, h2⟩ | ⟨x1, j1, h1, h2⟩
            · cases h2
            cases h2; simp [Ex.op]
        · exact ih _ _ _ _ _ h trivial
      · split at h
        · exact ih _ _ _ _ _ h trivial
        · rcases PR.then_some h with ⟨_, _, _, h2⟩ | ⟨x1, j1, h1, h2⟩
          · cases h2
          exact ih _ _ _ _ _ h2 (ih _ _ _ _ _ h1 trivial)
    | loop n y =>
      rw [runF_loop ht] at h
      split at h
      · cases h; exact hq
      · rename_i op ho
        rcases PR.then_some h with ⟨_, _, _, h2⟩ | ⟨x1, j1, h1, h2⟩
        · cases h2
        split at h2
        · cases h2; exact opAt_ne ho
        · exact ih _ _ _ _ _ h2 (by exact opAt_ne ho)
    | neg =>
      rw [runF_neg ht] at h
      split at h
      · split at h
        · cases h
        split at h
        · cases h
        · rcases PR.then_some h with ⟨_, _, _, h2⟩ | ⟨x1, j1, h1, h2⟩
          · cases h2
          cases h2; simp [Ex.op]
      · exact ih _ _ _ _ _ h trivial
    | atom =>
      rw [runF_atom ht] at h
      split at h
      · rcases PR.then_some h with ⟨_, _, _, h2⟩ | ⟨x1, j1, h1, h2⟩
        · cases h2
        split at h2
        · cases h2
        split at h2
        · cases h2; exact ih _ _ _ _ _ h1 trivial
        · cases h2
      · split at h
        · cases h; simp [Ex.op]
        · split at h
          · cases h; simp [Ex.op]
          · split at h
            · split at h
              · cases h
              split at h
              · cases h; simp [Ex.op]
              · split at h
                · cases h
                split at h
                · cases h; simp [Ex.op]
                · exact ih _ _ _ _ _ h trivial
            · cases h
    | args t0 ks =>
      rw [runF_args ht] at h
      split at h
      · cases h
      · rcases PR.then_some h with ⟨_, _, _, h2⟩ | ⟨x1, j1, h1, h2⟩
        · cases h2
        split at h2
        · cases h2
        split at h2
        · cases h2; simp [Ex.op]
        · split at h2
          · exact ih _ _ _ _ _ h2 trivial
          · cases h2
theorem isS_shift (t : Tok) (c : Nat) (s : ByteArray) : isS (t.shift c) s = isS t s := rfl
theorem firstP_shift (t : Tok) (c : Nat) (d : Int) (no : Bool) : firstP (t.shift c) d no = firstP t d no := rfl
theorem opAt_shift (n : Nat) (t : Tok) (c : Nat) : opAt n (t.shift c) = opAt n t := rfl
theorem firstP_deep {t : Tok} {d d' : Int} {no : Bool} (h : firstP t d no = none) : firstP t d' no = none ∨ (d < d' ∧ firstP t d' no = some 2) := by
  unfold firstP at h ⊢
  split at h
  · cases h
  · rename_i h1
    rw [if_neg h1]
    split at h
    · cases h
    · split
      · exact .inr ⟨by omega, rfl⟩
      · exact .inl rfl
theorem firstP_kind5 {t : Tok} (h : t.kind = 5) (d : Int) (no : Bool) : firstP t d no = some 5 := by
  unfold firstP
  rw [if_pos]
  simp [beginsT, isS, h]
theorem opAt_kind5 {t : Tok} (h : t.kind = 5) (n : Nat) : opAt n t = none := by
  unfold opAt
  rw [List.find?_eq_none.2 (fun r _ => by simp [isS, h])]
  rfl
theorem isS_kind5 {t : Tok} (h : t.kind = 5) (s : ByteArray) : isS t s = false := by simp [isS, h]
theorem shs_append (c : Nat) (ks : List Ex) (x : Ex) : (ks ++ [x]).map (shX c) = ks.map (shX c) ++ [shX c x] := by simp
set_option maxHeartbeats 1000000 in
theorem sim_run {ts us : List Tok} {p c m : Nat} {full : Bool} (ok : TokOK ts) (S : Sim ts us p c m full) :
    ∀ (f f' : Nat) (q : Qn) (k : Nat) (d d' : Int) (r : PR Ex), f ≤ f' → (full = true → d' = d) → QNZ q → runF ts f q k d = some r → Good full m r →
      ∃ r', runF us f' (shQ c q) (p + k) d' = some r' ∧ Rel (shX c) p (d < d') r r' := by
  intro f
  induction f with
  | zero => intro f' q k d d' r _ _ _ h; cases q <;> simp [runF] at h
  | succ f ih =>
    intro f' q k d d' r hf hd hq h hg
    obtain ⟨f', rfl⟩ : ∃ g, f' = g + 1 := ⟨f' - 1, by omega⟩
    have hf2 : f ≤ f' := by omega
    have hl : d < d' → full = false := fun h1 => by
      cases hfl : full with
      | false => rfl
      | true => have := hd hfl; omega
    have hd1 : full = true → d' + 1 = d + 1 := fun h1 => by rw [hd h1]
    have hlt : d + 1 < d' + 1 ↔ d < d' := by omega
    have RL : ∀ {r r' : PR Ex}, Rel (shX c) p (d + 1 < d' + 1) r r' → Rel (shX c) p (d < d') r r' := fun {r r'} h1 => by
      rw [show (d + 1 < d' + 1) = (d < d') from propext hlt] at h1; exact h1
    obtain ⟨t, ht⟩ := runF_tok h
    have hfit := run_fits ok _ _ _ _ _ h
    have hkm : k ≤ m := S.le (lt_of_some ht) hg fun x i he => by subst he; exact hfit.1
    obtain ⟨u, hu, hsh⟩ := S.get ht hkm
    cases q with
    | expr =>
      rw [runF_expr ht] at h
      show ∃ r', runF us (f' + 1) .expr (p + k) d' = some r' ∧ _
      rw [runF_expr hu]
      rcases hsh with rfl | ⟨h1, h5, -⟩
      rotate_left
      · rw [firstP_kind5 h5] at h
        cases h
        rw [show full = true from hg] at h1; cases h1
      rw [firstP_shift]
      split at h
      · rename_i e he
        cases h
        rw [hd hg, he]
        exact ⟨_, rfl, rfl⟩
      · rename_i he
        have hr := h
        rcases firstP_deep (d' := d') he with h0 | ⟨hlim, h0⟩
        rotate_left
        · rw [h0]
          refine ⟨_, rfl, ?_⟩
          cases r with
          | ok x j => exact .inr ⟨hlim, _, rfl⟩
          | err j e => have := hl hlim; rw [show full = true from hg] at this; cases this
        rw [h0]
        dsimp only
        refine then_sim hl h hg (fun x j hx h2 => ?_) (fun z hz hgz => ih f' (.level 1) k d d' z hf2 hd trivial hz hgz) (fun x j hx hjm h2 => ?_)
        · have hj := run_fits ok _ _ _ _ _ hx
          refine S.le hj.2 hg fun y i he => ?_
          subst he
          split at h2
          · cases h2
          split at h2
          · cases h2; exact Nat.le_refl _
          · rcases PR.then_some h2 with ⟨_, _, _, h3⟩ | ⟨x2, j2, h3, h4⟩
            · cases h3
            have hj2 := (run_fits ok _ _ _ _ _ h3).1
            split at h4
            · cases h4
            split at h4
            · cases h4
            · rcases PR.then_some h4 with ⟨_, _, _, h5⟩ | ⟨x3, j3, h5, h6⟩
              · cases h5
              have hj3 := (run_fits ok _ _ _ _ _ h5).1
              cases h6; omega
        · split at h2
          · cases h2
          rename_i v hv
          obtain ⟨v', hv', hsv⟩ := S.get hv hjm
          rw [hv']
          dsimp only
          split at h2
          · rename_i hq2
            cases h2
            have hq3 : isS v' ⟨#[63]⟩ = false := by
              rcases hsv with rfl | ⟨-, -, hst⟩
              · rw [isS_shift]; simpa using hq2
              · exact hst.q
            rw [if_pos (by simp [hq3])]
            exact ⟨_, rfl, .inl rfl⟩
          · rename_i hq2
            rcases hsv with rfl | ⟨-, h5, -⟩
            rotate_left
            · exact absurd (by simp [isS_kind5 h5]) hq2
            rw [isS_shift, if_neg hq2]
            refine then_sim hl h2 hg (fun a j2 ha h3 => ?_) (fun z hz hgz => (ih f' .expr (j + 1) (d + 1) (d' + 1) z hf2 hd1 trivial hz hgz).imp fun z' h9 => ⟨h9.1, RL h9.2⟩) (fun a j2 ha hj2m h3 => ?_)
            · have hj := run_fits ok _ _ _ _ _ ha
              refine S.le hj.2 hg fun y i he => ?_
              subst he
              split at h3
              · cases h3
              split at h3
              · cases h3
              · rcases PR.then_some h3 with ⟨_, _, _, h5⟩ | ⟨x3, j3, h5, h6⟩
                · cases h5
                have hj3 := (run_fits ok _ _ _ _ _ h5).1
                cases h6; omega
            · split at h3
              · cases h3
              rename_i w hw
              split at h3
              · rename_i hc
                cases h3
                rw [S.get' hw hj2m (.inl hg)]
                dsimp only
                rw [isS_shift, if_pos hc]
                exact ⟨_, rfl, rfl⟩
              · rename_i hc
                rw [S.get' hw hj2m (.inr (fun h5 => hc (by simp [isS_kind5 h5])))]
                dsimp only
                rw [isS_shift, if_neg hc]
                refine then_sim hl h3 hg (fun b j3 hb h4 => ?_) (fun z hz hgz => (ih f' .expr (j2 + 1) (d + 1) (d' + 1) z hf2 hd1 trivial hz hgz).imp fun z' h9 => ⟨h9.1, RL h9.2⟩) (fun b j3 hb hj3m h4 => ?_)
                · cases h4; exact hg
                · cases h4
                  refine ⟨_, rfl, .inl ?_⟩
                  have hxn := run_nz _ _ _ _ _ _ hx trivial
                  rw [shX_mk (by decide), shX_at hxn]
                  rfl
    | level n =>
      rw [runF_level ht] at h
      show ∃ r', runF us (f' + 1) (.level n) (p + k) d' = some r' ∧ _
      rw [runF_level hu]
      split at h
      · rename_i hn
        rw [if_pos hn]
        split at h
        · rename_i hb
          rcases hsh with rfl | ⟨-, h5, -⟩
          rotate_left
          · rw [isS_kind5 h5] at hb; cases hb
          rw [isS_shift, if_pos hb]
          split at h
          · cases h
          rename_i v hv
          have hvm : k + 1 ≤ m := by
            refine S.le (lt_of_some hv) hg fun y i he => ?_
            subst he
            split at h
            · cases h
            · rcases PR.then_some h with ⟨_, _, _, h3⟩ | ⟨x2, j2, h3, h4⟩
              · cases h3
              have hj2 := (run_fits ok _ _ _ _ _ h3).1
              cases h4; omega
          split at h
          · rename_i e he
            cases h
            rw [show p + k + 1 = p + (k + 1) from rfl, S.get' hv hvm (.inl hg)]
            dsimp only
            rw [firstP_shift, hd hg, he]
            exact ⟨_, rfl, rfl⟩
          · rename_i he
            rw [show p + k + 1 = p + (k + 1) from rfl, S.get' hv hvm (.inr (fun h5 => by rw [firstP_kind5 h5] at he; cases he))]
            dsimp only
            rw [firstP_shift]
            rcases firstP_deep (d' := d' + 1) he with h0 | ⟨hlim, h0⟩
            rotate_left
            · rw [h0]
              refine ⟨_, rfl, ?_⟩
              cases r with
              | ok x j => exact .inr ⟨by omega, _, rfl⟩
              | err j e => have := hl (by omega); rw [show full = true from hg] at this; cases this
            rw [h0]
            dsimp only
            refine then_sim hl h hg (fun b j3 hb h4 => ?_) (fun z hz hgz => (ih f' (.level 3) (k + 1) (d + 1) (d' + 1) z hf2 hd1 trivial hz hgz).imp fun z' h9 => ⟨h9.1, RL h9.2⟩) (fun b j3 hb hj3m h4 => ?_)
            · cases h4; exact hg
            · cases h4
              refine ⟨_, rfl, .inl ?_⟩
              rw [shX_mk (by decide)]
              rfl
        · rename_i hb
          have hb2 : isS u ⟨#[33]⟩ = false := by
            rcases hsh with rfl | ⟨-, -, hst⟩
            · rw [isS_shift]; simpa using hb
            · exact hst.b
          rw [hb2, if_neg (by decide)]
          exact ih f' (.level 4) k d d' r hf2 hd trivial h hg
      · rename_i hn
        rw [if_neg hn]
        split at h
        · rename_i h7
          rw [if_pos h7]
          exact ih f' .neg k d d' r hf2 hd trivial h hg
        · rename_i h7
          rw [if_neg h7]
          refine then_sim hl h hg (fun x j hx h2 => ?_) (fun z hz hgz => ih f' (.level (n + 1)) k d d' z hf2 hd trivial hz hgz) (fun x j hx hjm h2 => ?_)
          · have hj := run_fits ok _ _ _ _ _ hx
            have hj2 := run_fits ok _ _ _ _ _ h2
            exact S.le hj.2 hg fun y i he => by subst he; exact hj2.1
          · exact ih f' (.loop n x) j d d' r hf2 hd (by exact run_nz _ _ _ _ _ _ hx trivial) h2 hg
    | loop n x =>
      rw [runF_loop ht] at h
      show ∃ r', runF us (f' + 1) (.loop n (shX c x)) (p + k) d' = some r' ∧ _
      rw [runF_loop hu]
      split at h
      · rename_i ho
        cases h
        have ho2 : opAt n u = none := by
          rcases hsh with rfl | ⟨-, -, hst⟩
          · exact ho
          · exact hst.o n
        rw [ho2]
        exact ⟨_, rfl, .inl rfl⟩
      · rename_i op ho
        rcases hsh with rfl | ⟨-, h5, -⟩
        rotate_left
        · rw [opAt_kind5 h5] at ho; cases ho
        rw [opAt_shift, ho]
        dsimp only
        refine then_sim hl h hg (fun y j hy h2 => ?_) (fun z hz hgz => ih f' (.level (n + 1)) (k + 1) d d' z hf2 hd trivial hz hgz) (fun y j hy hjm h2 => ?_)
        · have hj := run_fits ok _ _ _ _ _ hy
          refine S.le hj.2 hg fun z i he => ?_
          subst he
          split at h2
          · cases h2; exact Nat.le_refl _
          · exact (run_fits ok _ _ _ _ _ h2).1
        · have hmk : shX c (.mk op 0 noB [x, y] x.at_) = .mk op 0 noB [shX c x, shX c y] (shX c x).at_ := by
            rw [shX_mk (opAt_ne ho), shX_at (by exact hq)]; rfl
          split at h2
          · rename_i h4
            cases h2
            rw [if_pos h4]
            exact ⟨_, rfl, .inl (by rw [hmk])⟩
          · rename_i h4
            rw [if_neg h4, ← hmk]
            exact ih f' (.loop n (.mk op 0 noB [x, y] x.at_)) j d d' r hf2 hd (by exact opAt_ne ho) h2 hg
    | neg =>
      rw [runF_neg ht] at h
      show ∃ r', runF us (f' + 1) .neg (p + k) d' = some r' ∧ _
      rw [runF_neg hu]
      split at h
      · rename_i hb
        rcases hsh with rfl | ⟨-, h5, -⟩
        rotate_left
        · rw [isS_kind5 h5] at hb; cases hb
        rw [isS_shift, if_pos hb]
        split at h
        · cases h
        rename_i v hv
        have hvm : k + 1 ≤ m := by
          refine S.le (lt_of_some hv) hg fun y i he => ?_
          subst he
          split at h
          · cases h
          · rcases PR.then_some h with ⟨_, _, _, h3⟩ | ⟨x2, j2, h3, h4⟩
            · cases h3
            have hj2 := (run_fits ok _ _ _ _ _ h3).1
            cases h4; omega
        split at h
        · rename_i e he
          cases h
          rw [show p + k + 1 = p + (k + 1) from rfl, S.get' hv hvm (.inl hg)]
          dsimp only
          rw [firstP_shift, hd hg, he]
          exact ⟨_, rfl, rfl⟩
        · rename_i he
          rw [show p + k + 1 = p + (k + 1) from rfl, S.get' hv hvm (.inr (fun h5 => by rw [firstP_kind5 h5] at he; cases he))]
          dsimp only
          rw [firstP_shift]
          rcases firstP_deep (d' := d' + 1) he with h0 | ⟨hlim, h0⟩
          rotate_left
          · rw [h0]
            refine ⟨_, rfl, ?_⟩
            cases r with
            | ok x j => exact .inr ⟨by omega, _, rfl⟩
            | err j e => have := hl (by omega); rw [show full = true from hg] at this; cases this
          rw [h0]
          dsimp only
          refine then_sim hl h hg (fun b j3 hb h4 => ?_) (fun z hz hgz => (ih f' .neg (k + 1) (d + 1) (d' + 1) z hf2 hd1 trivial hz hgz).imp fun z' h9 => ⟨h9.1, RL h9.2⟩) (fun b j3 hb hj3m h4 => ?_)
          · cases h4; exact hg
          · cases h4
            refine ⟨_, rfl, .inl ?_⟩
            rw [shX_mk (by decide)]
            rfl
      · rename_i hb
        have hb2 : isS u ⟨#[45]⟩ = false := by
          rcases hsh with rfl | ⟨-, -, hst⟩
          · rw [isS_shift]; simpa using hb
          · exact hst.m
        rw [hb2, if_neg (by decide)]
        exact ih f' .atom k d d' r hf2 hd trivial h hg
    | atom =>
      rw [runF_atom ht] at h
      show ∃ r', runF us (f' + 1) .atom (p + k) d' = some r' ∧ _
      rcases hsh with rfl | ⟨h1, h5, -⟩
      rotate_left
      · rw [isS_kind5 h5, if_neg (by decide), h5, if_neg (by decide), if_neg (by decide), if_neg (by decide)] at h
        cases h
        rw [show full = true from hg] at h1; cases h1
      rw [runF_atom hu, isS_shift]
      split at h
      · rename_i hb
        rw [if_pos hb]
        refine then_sim hl h hg (fun x j hx h2 => ?_) (fun z hz hgz => (ih f' .expr (k + 1) (d + 1) (d' + 1) z hf2 hd1 trivial hz hgz).imp fun z' h9 => ⟨h9.1, RL h9.2⟩) (fun x j hx hjm h2 => ?_)
        · have hj := run_fits ok _ _ _ _ _ hx
          refine S.le hj.2 hg fun z i he => ?_
          subst he
          split at h2
          · cases h2
          split at h2
          · cases h2; omega
          · cases h2
        · split at h2
          · cases h2
          rename_i v hv
          split at h2
          · rename_i hc
            cases h2
            rw [S.get' hv hjm (.inr (fun h5 => by rw [isS_kind5 h5] at hc; cases hc))]
            dsimp only
            rw [isS_shift, if_pos hc]
            exact ⟨_, rfl, .inl rfl⟩
          · rename_i hc
            cases h2
            rw [S.get' hv hjm (.inl hg)]
            dsimp only
            rw [isS_shift, if_neg hc]
            exact ⟨_, rfl, rfl⟩
      · rename_i hb
        rw [if_neg hb, show (t.shift c).kind = t.kind from rfl]
        split at h
        · rename_i h2
          cases h
          rw [if_pos h2]
          exact ⟨_, rfl, .inl (by rw [shX_mk (by decide)]; rfl)⟩
        · rename_i h2
          rw [if_neg h2]
          split at h
          · rename_i h3
            cases h
            rw [if_pos h3]
            exact ⟨_, rfl, .inl (by rw [shX_mk (by decide)]; rfl)⟩
          · rename_i h3
            rw [if_neg h3]
            split at h
            · rename_i h4
              rw [if_pos h4]
              split at h
              · cases h
              rename_i v hv
              have hvm : k + 1 ≤ m := by
                refine S.le (lt_of_some hv) hg fun y i he => ?_
                subst he
                split at h
                · cases h; exact Nat.le_refl _
                · split at h
                  · cases h
                  split at h
                  · cases h; omega
                  · have := (run_fits ok _ _ _ _ _ h).1; omega
              obtain ⟨v', hv', hsv⟩ := S.get hv hvm
              rw [show p + k + 1 = p + (k + 1) from rfl, hv']
              dsimp only
              split at h
              · rename_i hq2
                cases h
                have hq3 : isS v' ⟨#[40]⟩ = false := by
                  rcases hsv with rfl | ⟨-, -, hst⟩
                  · rw [isS_shift]; simpa using hq2
                  · exact hst.p
                rw [if_pos (by simp [hq3])]
                exact ⟨_, rfl, .inl (by rw [shX_mk (by decide)]; rfl)⟩
              · rename_i hq2
                rcases hsv with rfl | ⟨-, h5, -⟩
                rotate_left
                · exact absurd (by simp [isS_kind5 h5]) hq2
                rw [isS_shift, if_neg hq2]
                split at h
                · cases h
                rename_i z hz
                have hzm : k + 2 ≤ m := by
                  refine S.le (lt_of_some hz) hg fun y i he => ?_
                  subst he
                  split at h
                  · cases h; omega
                  · exact (run_fits ok _ _ _ _ _ h).1
                split at h
                · rename_i hc
                  cases h
                  rw [show p + k + 2 = p + (k + 2) from rfl, S.get' hz hzm (.inr (fun h5 => by rw [isS_kind5 h5] at hc; cases hc))]
                  dsimp only
                  rw [isS_shift, if_pos hc]
                  exact ⟨_, rfl, .inl (by rw [shX_mk (by decide)]; rfl)⟩
                · rename_i hc
                  by_cases h5 : full = true ∨ z.kind ≠ 5
                  · rw [show p + k + 2 = p + (k + 2) from rfl, S.get' hz hzm h5]
                    dsimp only
                    rw [isS_shift, if_neg hc]
                    exact ih f' (.args t []) (k + 2) d d' r hf2 hd trivial h hg
                  · obtain ⟨r', hr', hR⟩ := ih f' (.args t []) (k + 2) d d' r hf2 hd trivial h hg
                    obtain ⟨f, rfl⟩ : ∃ g, f = g + 1 := by
                      cases f with
                      | zero => simp [runF] at h
                      | succ f => exact ⟨f, rfl⟩
                    rw [runF_args hz, if_neg (by simp)] at h
                    have h5' : z.kind = 5 := by
                      rcases Decidable.em (z.kind = 5) with h6 | h6
                      · exact h6
                      · exact absurd (.inr h6) h5
                    exfalso
                    cases f with
                    | zero => simp [runF, PR.then_] at h
                    | succ f =>
                      rw [runF_expr hz, firstP_kind5 h5'] at h
                      cases h
                      exact h5 (.inl hg)
            · rename_i h4
              cases h
              rw [if_neg h4]
              exact ⟨_, rfl, rfl⟩
    | args t0 ks =>
      rw [runF_args ht] at h
      show ∃ r', runF us (f' + 1) (.args (t0.shift c) (ks.map (shX c))) (p + k) d' = some r' ∧ _
      rw [runF_args hu, List.length_map]
      split at h
      · rename_i h4
        cases h
        rcases hsh with rfl | ⟨h1, -, -⟩
        rotate_left
        · rw [show full = true from hg] at h1; cases h1
        rw [if_pos h4]
        exact ⟨_, rfl, rfl⟩
      · rename_i h4
        rw [if_neg h4]
        refine then_sim hl h hg (fun x j hx h2 => ?_) (fun z hz hgz => (ih f' .expr k (d + 1) (d' + 1) z hf2 hd1 trivial hz hgz).imp fun z' h9 => ⟨h9.1, RL h9.2⟩) (fun x j hx hjm h2 => ?_)
        · have hj := run_fits ok _ _ _ _ _ hx
          refine S.le hj.2 hg fun z i he => ?_
          subst he
          split at h2
          · cases h2
          split at h2
          · cases h2; omega
          · split at h2
            · have := (run_fits ok _ _ _ _ _ h2).1; omega
            · cases h2
        · split at h2
          · cases h2
          rename_i v hv
          split at h2
          · rename_i hc
            cases h2
            rw [S.get' hv hjm (.inr (fun h5 => by rw [isS_kind5 h5] at hc; cases hc))]
            dsimp only
            rw [isS_shift, if_pos hc]
            exact ⟨_, rfl, .inl (by rw [shX_mk (by decide), shs_append]; rfl)⟩
          · rename_i hc
            split at h2
            · rename_i hm2
              rw [S.get' hv hjm (.inr (fun h5 => by rw [isS_kind5 h5] at hm2; cases hm2))]
              dsimp only
              rw [isS_shift, if_neg hc, isS_shift, if_pos hm2]
              have h9 := ih f' (.args t0 (ks ++ [x])) (j + 1) d d' r hf2 hd trivial h2 hg
              rw [show shQ c (.args t0 (ks ++ [x])) = .args (t0.shift c) (ks.map (shX c) ++ [shX c x]) by simp [shQ]] at h9
              exact h9
            · rename_i hm2
              cases h2
              rw [S.get' hv hjm (.inl hg)]
              dsimp only
              rw [isS_shift, if_neg hc, isS_shift, if_neg hm2]
              exact ⟨_, rfl, rfl⟩
end Go.Proofs.YtjijdgkccfeeaaaGreatDoor
namespace Go.Proofs.YtjijdgkccfeeaaaGreatDoor
open Go Go.Proofs
mutual
theorem shX_zero : ∀ x : Ex, shX 0 x = x
  | .mk p n s ks a => by
    by_cases h : p = 0
    · rw [shX, if_pos h]
    · rw [shX, if_neg h, shXs_zero ks]; simp
theorem shXs_zero : ∀ l : List Ex, shXs 0 l = l
  | [] => rfl
  | x :: l => by rw [shXs, shX_zero x, shXs_zero l]
end
theorem shift_zero (t : Tok) : t.shift 0 = t := by simp [Tok.shift]
section
variable {ts us : List Tok} {p c m : Nat} {full : Bool}
end
section
variable {ts : List Tok} {f k n : Nat} {d : Int} {t t0 : Tok} {zs : List Ar} {fs : List Fm}
theorem formF_tok {q : Qf} {r : PR (Fm × Nat)} (h : formF ts (f + 1) q k d n = some r) : ∃ t, ts[k]? = some t := by
  unfold formF at h
  split at h
  · cases h
  · exact ⟨_, by assumption⟩
theorem formF_form (ht : ts[k]? = some t) : formF ts (f + 1) .form k d n = if t.kind ≠ 1 then some (.err k 5) else if 30 < d ∨ 2000 ≤ n then some (.err k 2) else formF ts f (.args t []) (k + 1) d (n + 1) := by
  rw [formF, ht]
theorem formF_args (ht : ts[k]? = some t) : formF ts (f + 1) (.args t0 zs) k d n = if isS t ⟨#[59]⟩ then some (.ok (.mk t0.s zs [] t0.at_, n) (k + 1))
        else if isS t ⟨#[123]⟩ then formF ts f (.body t0 zs []) (k + 1) d n
        else if !beginsT t && !isS t ⟨#[45, 62]⟩ then some (.err k 5)
        else if zs.length = 40 then some (.err k 2)
        else PR.then_ (argF ts f k) fun a j => formF ts f (.args t0 (zs ++ [a])) j d n := by
  rw [formF, ht]
theorem formF_body (ht : ts[k]? = some t) : formF ts (f + 1) (.body t0 zs fs) k d n = if isS t ⟨#[125]⟩ then some (.ok (.mk t0.s zs fs t0.at_, n) (k + 1))
        else PR.then_ (formF ts f .form k (d + 1) n) fun x j => formF ts f (.body t0 zs (fs ++ [x.1])) j d x.2 := by
  rw [formF, ht]
end
theorem sim_self (ts : List Tok) (full : Bool) : Sim ts ts 0 0 (ts.length - 1) full :=
  ⟨fun i _ => by
      rw [Nat.zero_add]
      cases ts[i]? with
      | none => rfl
      | some t => rw [Option.map_some, shift_zero],
    fun t ht => ⟨t, by rw [Nat.zero_add, ht], .inl (shift_zero t).symm⟩, fun _ => by omega⟩
end Go.Proofs.YtjijdgkccfeeaaaGreatDoor
namespace Go.Proofs.YtjijdgkccfeeaaaGreatDoor
open Go Go.Proofs
theorem run_mono {ts : List Tok} (ok : TokOK ts) {f f' k : Nat} {d : Int} {q : Qn} {r : PR Ex} (hf : f ≤ f') (h : runF ts f q k d = some r) (hq : QNZ q) : runF ts f' q k d = some r := by
  have hg : Good true (ts.length - 1) r := by
    have := run_fits ok _ _ _ _ _ h
    cases r with
    | ok x j => have := this.2; show j ≤ ts.length - 1; omega
    | err j e => rfl
  obtain ⟨r', h1, h2⟩ := sim_run ok (sim_self ts true) f f' q k d d r hf (fun _ => rfl) hq h hg
  have hsh : shQ 0 q = q := by
    cases q with
    | loop n x => rw [shQ, shX_zero]
    | args t ks => rw [shQ, shift_zero, show ks.map (shX 0) = ks by rw [show shX 0 = id from funext shX_zero, List.map_id]]
    | _ => rfl
  rw [Nat.zero_add, hsh] at h1
  rw [h1]
  cases r with
  | ok x j =>
    rcases h2 with rfl | ⟨h3, -⟩
    · rw [shX_zero, Nat.zero_add]
    · omega
  | err j e =>
    have h3 : r' = .err (0 + j) e := h2
    rw [h3, Nat.zero_add]
theorem run_det {ts : List Tok} (ok : TokOK ts) {f g k : Nat} {d : Int} {q : Qn} {r r' : PR Ex} (h : runF ts f q k d = some r) (h' : runF ts g q k d = some r') (hq : QNZ q) : r = r' := by
  have h1 := run_mono ok (Nat.le_max_left f g) h hq
  have h2 := run_mono ok (Nat.le_max_right f g) h' hq
  rw [h1] at h2
  cases h2; rfl
theorem first_ok {u : Tok} {no : Bool} (hb : beginsT u = true ∨ (no = true ∧ isS u ⟨#[33]⟩ = true)) (d : Int) : firstP u d no = none ∨ firstP u d no = some 2 := by
  unfold firstP
  rw [if_neg (by rcases hb with h | ⟨h1, h2⟩ <;> simp [*])]
  split
  · exact .inr rfl
  · exact .inl rfl
def Yld (us : List Tok) (q : Qn) (k : Nat) (d : Int) (x : Ex) (j : Nat) : Prop := ∃ f, runF us f q k d = some (.ok x j) ∨ ∃ i, runF us f q k d = some (.err i 2)
section
variable {us : List Tok} {k j i : Nat} {d : Int} {x y z : Ex} {n : Nat} {t u : Tok} {q : Qn}
theorem Yld.up (ok : TokOK us) (h : Yld us q k d x j) (hq : QNZ q) : ∃ f, ∀ g, f ≤ g → (runF us g q k d = some (.ok x j) ∨ ∃ i, runF us g q k d = some (.err i 2)) := by
  obtain ⟨f, h⟩ := h
  refine ⟨f, fun g hg => ?_⟩
  rcases h with h | ⟨i, h⟩
  · exact .inl (run_mono ok hg h hq)
  · exact .inr ⟨i, run_mono ok hg h hq⟩
theorem Yld.paren (ht : us[k]? = some t) (hs : isS t ⟨#[40]⟩ = true) (h : Yld us .expr (k + 1) (d + 1) x j) (hu : us[j]? = some u) (hc : isS u ⟨#[41]⟩ = true) : Yld us .atom k d x (j + 1) := by
  obtain ⟨f, h⟩ := h
  refine ⟨f + 1, ?_⟩
  rw [runF_atom ht, if_pos hs]
  rcases h with h | ⟨i, h⟩
  · rw [h]; exact .inl (by simp only [PR.then_]; rw [hu]; dsimp only; rw [if_pos hc])
  · rw [h]; exact .inr ⟨i, rfl⟩
theorem Yld.atom_neg (ht : us[k]? = some t) (hs : isS t ⟨#[45]⟩ = false) (h : Yld us .atom k d x j) : Yld us .neg k d x j := by
  obtain ⟨f, h⟩ := h
  exact ⟨f + 1, by rw [runF_neg ht, hs, if_neg (by decide)]; exact h⟩
theorem Yld.minus (ht : us[k]? = some t) (hs : isS t ⟨#[45]⟩ = true) (hu : us[k + 1]? = some u) (hb : beginsT u = true) (h : Yld us .neg (k + 1) (d + 1) x j) : Yld us .neg k d (.mk 6 0 noB [x] t.at_) j := by
  obtain ⟨f, h⟩ := h
  refine ⟨f + 1, ?_⟩
  rw [runF_neg ht, if_pos hs, hu]
  dsimp only
  rcases first_ok (no := false) (.inl hb) (d + 1) with h0 | h0
  · rw [h0]
    rcases h with h | ⟨i, h⟩
    · rw [h]; exact .inl rfl
    · rw [h]; exact .inr ⟨i, rfl⟩
  · rw [h0]; exact .inr ⟨_, rfl⟩
theorem Yld.l7 (h : Yld us .neg k d x j) : Yld us (.level 7) k d x j := by
  obtain ⟨f, h⟩ := h
  have ht : ∃ t, us[k]? = some t := by
    cases f with
    | zero => simp [runF] at h
    | succ f => rcases h with h | ⟨i, h⟩ <;> exact runF_tok h
  obtain ⟨t, ht⟩ := ht
  exact ⟨f + 1, by rw [runF_level ht, if_neg (by decide), if_pos rfl]; exact h⟩
theorem Yld.l3 (ht : us[k]? = some t) (hs : isS t ⟨#[33]⟩ = false) (h : Yld us (.level 4) k d x j) : Yld us (.level 3) k d x j := by
  obtain ⟨f, h⟩ := h
  exact ⟨f + 1, by rw [runF_level ht, if_pos rfl, hs, if_neg (by decide)]; exact h⟩
theorem Yld.bang (ht : us[k]? = some t) (hs : isS t ⟨#[33]⟩ = true) (hu : us[k + 1]? = some u) (hb : beginsT u = true ∨ isS u ⟨#[33]⟩ = true) (h : Yld us (.level 3) (k + 1) (d + 1) x j) : Yld us (.level 3) k d (.mk 5 0 noB [x] t.at_) j := by
  obtain ⟨f, h⟩ := h
  refine ⟨f + 1, ?_⟩
  rw [runF_level ht, if_pos rfl, if_pos hs, hu]
  dsimp only
  rcases first_ok (no := true) (hb.imp id fun h => ⟨rfl, h⟩) (d + 1) with h0 | h0
  · rw [h0]
    rcases h with h | ⟨i, h⟩
    · rw [h]; exact .inl rfl
    · rw [h]; exact .inr ⟨i, rfl⟩
  · rw [h0]; exact .inr ⟨_, rfl⟩
theorem Yld.step (ok : TokOK us) (hn3 : n ≠ 3) (hn7 : n ≠ 7) (h : Yld us (.level (n + 1)) k d x j) (h2 : x.op ≠ 0 → Yld us (.loop n x) j d y i) : Yld us (.level n) k d y i := by
  obtain ⟨f, h⟩ := h
  have ht : ∃ t, us[k]? = some t := by
    cases f with
    | zero => simp [runF] at h
    | succ f => rcases h with h | ⟨i, h⟩ <;> exact runF_tok h
  obtain ⟨t, ht⟩ := ht
  rcases h with h | ⟨i2, h⟩
  · have hx := run_nz _ _ _ _ _ _ h trivial
    obtain ⟨g, hg⟩ := (h2 hx).up ok hx
    refine ⟨max f g + 1, ?_⟩
    rw [runF_level ht, if_neg hn3, if_neg hn7, run_mono ok (Nat.le_max_left f g) h trivial]
    exact hg _ (Nat.le_max_right f g)
  · refine ⟨f + 1, .inr ⟨i2, ?_⟩⟩
    rw [runF_level ht, if_neg hn3, if_neg hn7, h]; rfl
theorem Yld.loop_end (hu : us[j]? = some u) (ho : opAt n u = none) : Yld us (.loop n x) j d x j := ⟨1, .inl (by rw [runF_loop hu, ho])⟩
theorem Yld.loop_op4 {op : Int} (hu : us[j]? = some u) (ho : opAt 4 u = some op) (h : Yld us (.level 5) (j + 1) d y i) : Yld us (.loop 4 x) j d (.mk op 0 noB [x, y] x.at_) i := by
  obtain ⟨f, h⟩ := h
  refine ⟨f + 1, ?_⟩
  rw [runF_loop hu, ho]
  dsimp only
  rcases h with h | ⟨i2, h⟩
  · rw [h]; exact .inl rfl
  · rw [h]; exact .inr ⟨i2, rfl⟩
theorem Yld.loop_op (ok : TokOK us) {op : Int} {i2 : Nat} (hn : n ≠ 4) (hu : us[j]? = some u) (ho : opAt n u = some op) (h : Yld us (.level (n + 1)) (j + 1) d y i) (h2 : Yld us (.loop n (.mk op 0 noB [x, y] x.at_)) i d z i2) : Yld us (.loop n x) j d z i2 := by
  obtain ⟨f, h⟩ := h
  obtain ⟨g, hg⟩ := h2.up ok (by exact opAt_ne ho)
  rcases h with h | ⟨i2, h⟩
  · refine ⟨max f g + 1, ?_⟩
    rw [runF_loop hu, ho]
    dsimp only
    rw [run_mono ok (Nat.le_max_left f g) h trivial]
    simp only [PR.then_]
    rw [if_neg hn]
    exact hg _ (Nat.le_max_right f g)
  · refine ⟨f + 1, .inr ⟨i2, ?_⟩⟩
    rw [runF_loop hu, ho]
    dsimp only
    rw [h]; rfl
theorem Yld.expr (ht : us[k]? = some t) (hb : beginsT t = true ∨ isS t ⟨#[33]⟩ = true) (h : Yld us (.level 1) k d x j) (hu : us[j]? = some u) (hq : isS u ⟨#[63]⟩ = false) : Yld us .expr k d x j := by
  obtain ⟨f, h⟩ := h
  refine ⟨f + 1, ?_⟩
  rw [runF_expr ht]
  rcases first_ok (no := true) (hb.imp id fun h => ⟨rfl, h⟩) d with h0 | h0
  · rw [h0]
    dsimp only
    rcases h with h | ⟨i, h⟩
    · rw [h]; exact .inl (by simp only [PR.then_]; rw [hu]; dsimp only; rw [if_pos (by simp [hq])])
    · rw [h]; exact .inr ⟨i, rfl⟩
  · rw [h0]; exact .inr ⟨_, rfl⟩
theorem Yld.cond (ok : TokOK us) {v : Tok} {j2 j3 : Nat} (ht : us[k]? = some t) (hb : beginsT t = true ∨ isS t ⟨#[33]⟩ = true) (h : Yld us (.level 1) k d x j) (hu : us[j]? = some u) (hq : isS u ⟨#[63]⟩ = true)
    (h2 : Yld us .expr (j + 1) (d + 1) y j2) (hv : us[j2]? = some v) (hc : isS v ⟨#[58]⟩ = true) (h3 : Yld us .expr (j2 + 1) (d + 1) z j3) : Yld us .expr k d (.mk 20 0 noB [x, y, z] x.at_) j3 := by
  obtain ⟨f1, h1⟩ := h.up ok trivial
  obtain ⟨f2, h2⟩ := h2.up ok trivial
  obtain ⟨f3, h3⟩ := h3.up ok trivial
  refine ⟨max f1 (max f2 f3) + 1, ?_⟩
  rw [runF_expr ht]
  rcases first_ok (no := true) (hb.imp id fun h => ⟨rfl, h⟩) d with h0 | h0
  · rw [h0]
    dsimp only
    rcases h1 _ (by omega : f1 ≤ max f1 (max f2 f3)) with h | ⟨i, h⟩
    · rw [h]
      simp only [PR.then_]
      rw [hu]
      dsimp only
      rw [if_neg (by simp [hq])]
      rcases h2 _ (by omega : f2 ≤ max f1 (max f2 f3)) with h | ⟨i, h⟩
      · rw [h]
        dsimp only
        rw [hv]
        dsimp only
        rw [if_neg (by simp [hc])]
        rcases h3 _ (by omega : f3 ≤ max f1 (max f2 f3)) with h | ⟨i, h⟩
        · rw [h]; exact .inl rfl
        · rw [h]; exact .inr ⟨i, rfl⟩
      · rw [h]; exact .inr ⟨i, rfl⟩
    · rw [h]; exact .inr ⟨i, rfl⟩
  · rw [h0]; exact .inr ⟨_, rfl⟩
theorem Yld.number (ht : us[k]? = some t) (hk : t.kind = 2) : Yld us .atom k d (.mk 1 t.n noB [] t.at_) (k + 1) :=
  ⟨1, .inl (by rw [runF_atom ht, if_neg (by simp [isS, hk]), if_pos hk])⟩
theorem Yld.text (ht : us[k]? = some t) (hk : t.kind = 3) : Yld us .atom k d (.mk 2 0 t.s [] t.at_) (k + 1) :=
  ⟨1, .inl (by rw [runF_atom ht, if_neg (by simp [isS, hk]), if_neg (by omega), if_pos hk])⟩
theorem Yld.name (ht : us[k]? = some t) (hk : t.kind = 1) (hu : us[k + 1]? = some u) (hs : isS u ⟨#[40]⟩ = false) : Yld us .atom k d (.mk 3 0 t.s [] t.at_) (k + 1) :=
  ⟨1, .inl (by rw [runF_atom ht, if_neg (by simp [isS, hk]), if_neg (by omega), if_neg (by omega), if_pos hk, hu]; dsimp only; rw [if_pos (by simp [hs])])⟩
theorem Yld.call0 {v : Tok} (ht : us[k]? = some t) (hk : t.kind = 1) (hu : us[k + 1]? = some u) (hs : isS u ⟨#[40]⟩ = true) (hv : us[k + 2]? = some v) (hc : isS v ⟨#[41]⟩ = true) : Yld us .atom k d (.mk 4 0 t.s [] t.at_) (k + 3) :=
  ⟨1, .inl (by rw [runF_atom ht, if_neg (by simp [isS, hk]), if_neg (by omega), if_neg (by omega), if_pos hk, hu]; dsimp only; rw [if_neg (by simp [hs]), hv]; dsimp only; rw [if_pos hc])⟩
theorem Yld.call {v : Tok} (ht : us[k]? = some t) (hk : t.kind = 1) (hu : us[k + 1]? = some u) (hs : isS u ⟨#[40]⟩ = true) (hv : us[k + 2]? = some v) (hc : isS v ⟨#[41]⟩ = false) (h : Yld us (.args t []) (k + 2) d x j) : Yld us .atom k d x j := by
  obtain ⟨f, h⟩ := h
  refine ⟨f + 1, ?_⟩
  rw [runF_atom ht, if_neg (by simp [isS, hk]), if_neg (by omega), if_neg (by omega), if_pos hk, hu]
  dsimp only
  rw [if_neg (by simp [hs]), hv]
  dsimp only
  rw [hc, if_neg (by decide)]
  exact h
theorem Yld.full {ks : List Ex} {t0 : Tok} (ht : us[k]? = some t) (hb : beginsT t = true ∨ isS t ⟨#[33]⟩ = true) (hl : ks.length = 40) : Yld us (.args t0 ks) k d x j := by
  refine ⟨1, .inr ⟨k, ?_⟩⟩
  rw [runF_args ht, if_pos hl]
  rcases first_ok (no := true) (hb.imp id fun h => ⟨rfl, h⟩) 0 with h0 | h0 <;> rw [h0] <;> rfl
theorem Yld.args_last {ks : List Ex} {t0 : Tok} (ht : us[k]? = some t) (hl : ks.length ≠ 40) (h : Yld us .expr k (d + 1) x j) (hu : us[j]? = some u) (hc : isS u ⟨#[41]⟩ = true) : Yld us (.args t0 ks) k d (.mk 4 0 t0.s (ks ++ [x]) t0.at_) (j + 1) := by
  obtain ⟨f, h⟩ := h
  refine ⟨f + 1, ?_⟩
  rw [runF_args ht, if_neg hl]
  rcases h with h | ⟨i, h⟩
  · rw [h]; exact .inl (by simp only [PR.then_]; rw [hu]; dsimp only; rw [if_pos hc])
  · rw [h]; exact .inr ⟨i, rfl⟩
theorem Yld.args_more (ok : TokOK us) {ks : List Ex} {t0 : Tok} (ht : us[k]? = some t) (hl : ks.length ≠ 40) (h : Yld us .expr k (d + 1) x j) (hu : us[j]? = some u) (hc : isS u ⟨#[44]⟩ = true) (h2 : Yld us (.args t0 (ks ++ [x])) (j + 1) d y i) : Yld us (.args t0 ks) k d y i := by
  obtain ⟨f1, h1⟩ := h.up ok trivial
  obtain ⟨f2, h2⟩ := h2.up ok trivial
  have hc2 : isS u ⟨#[41]⟩ = false := by
    have := isS_s hc
    cases h3 : isS u ⟨#[41]⟩ with
    | false => rfl
    | true => have h4 := isS_s h3; rw [this] at h4; simp at h4
  refine ⟨max f1 f2 + 1, ?_⟩
  rw [runF_args ht, if_neg hl]
  rcases h1 _ (Nat.le_max_left f1 f2) with h | ⟨i, h⟩
  · rw [h]
    simp only [PR.then_]
    rw [hu]
    dsimp only
    rw [hc2, if_neg (by decide), if_pos hc]
    exact h2 _ (Nat.le_max_right f1 f2)
  · rw [h]; exact .inr ⟨i, rfl⟩
theorem Yld.climb (ok : TokOK us) (ht : us[k]? = some t) (hu : us[j]? = some u) : ∀ (c n : Nat), n + c ≤ 7 → (isS t ⟨#[33]⟩ = false ∨ n + c ≤ 3) → (∀ i, n ≤ i → i < n + c → opAt i u = none) → Yld us (.level (n + c)) k d x j → Yld us (.level n) k d x j
  | 0, n, _, _, _, h => h
  | c + 1, n, hc, hb, ho, h => by
    have h1 : Yld us (.level (n + 1)) k d x j := Yld.climb ok ht hu c (n + 1) (by omega) (hb.imp id fun h => by omega) (fun i h1 h2 => ho i (by omega) (by omega)) (by rw [show n + 1 + c = n + (c + 1) by omega]; exact h)
    by_cases h3 : n = 3
    · subst h3
      exact h1.l3 ht (by rcases hb with h | h; exact h; omega)
    · exact h1.step ok h3 (by omega) fun _ => Yld.loop_end hu (ho n (Nat.le_refl _) (by omega))
end
end Go.Proofs.YtjijdgkccfeeaaaGreatDoor
namespace Go.Proofs.YtjijdgkccfeeaaaGreatDoor
open Go Go.Proofs
theorem firstL {L : Prop} {u : Tok} {no : Bool} (hb : beginsT u = true ∨ (no = true ∧ isS u ⟨#[33]⟩ = true)) (d : Int) (hl : 30 < d → L) : firstP u d no = none ∨ (L ∧ firstP u d no = some 2) := by
  unfold firstP
  rw [if_neg (by rcases hb with h | ⟨h1, h2⟩ <;> simp [*])]
  split
  · rename_i h; exact .inr ⟨hl h, rfl⟩
  · exact .inl rfl
def YL (L : Prop) (us : List Tok) (q : Qn) (k : Nat) (d : Int) (x : Ex) (j : Nat) : Prop := ∃ f, runF us f q k d = some (.ok x j) ∨ (L ∧ ∃ i, runF us f q k d = some (.err i 2))
section
variable {L : Prop} {us : List Tok} {k j i : Nat} {d : Int} {x y z : Ex} {n : Nat} {t u : Tok} {q : Qn}
theorem YL.up (ok : TokOK us) (h : YL L us q k d x j) (hq : QNZ q) : ∃ f, ∀ g, f ≤ g → (runF us g q k d = some (.ok x j) ∨ (L ∧ ∃ i, runF us g q k d = some (.err i 2))) := by
  obtain ⟨f, h⟩ := h
  refine ⟨f, fun g hg => ?_⟩
  rcases h with h | ⟨hL, i, h⟩
  · exact .inl (run_mono ok hg h hq)
  · exact .inr ⟨hL, i, run_mono ok hg h hq⟩
theorem YL.paren (ht : us[k]? = some t) (hs : isS t ⟨#[40]⟩ = true) (h : YL L us .expr (k + 1) (d + 1) x j) (hu : us[j]? = some u) (hc : isS u ⟨#[41]⟩ = true) : YL L us .atom k d x (j + 1) := by
  obtain ⟨f, h⟩ := h
  refine ⟨f + 1, ?_⟩
  rw [runF_atom ht, if_pos hs]
  rcases h with h | ⟨hL, i, h⟩
  · rw [h]; exact .inl (by simp only [PR.then_]; rw [hu]; dsimp only; rw [if_pos hc])
  · rw [h]; exact .inr ⟨hL, i, rfl⟩
theorem YL.atom_neg (ht : us[k]? = some t) (hs : isS t ⟨#[45]⟩ = false) (h : YL L us .atom k d x j) : YL L us .neg k d x j := by
  obtain ⟨f, h⟩ := h
  exact ⟨f + 1, by rw [runF_neg ht, hs, if_neg (by decide)]; exact h⟩
theorem YL.minus (hl : 30 < d + 1 → L) (ht : us[k]? = some t) (hs : isS t ⟨#[45]⟩ = true) (hu : us[k + 1]? = some u) (hb : beginsT u = true) (h : YL L us .neg (k + 1) (d + 1) x j) : YL L us .neg k d (.mk 6 0 noB [x] t.at_) j := by
  obtain ⟨f, h⟩ := h
  refine ⟨f + 1, ?_⟩
  rw [runF_neg ht, if_pos hs, hu]
  dsimp only
  rcases firstL (L := L) (no := false) (.inl hb) (d + 1) hl with h0 | ⟨hL, h0⟩
  · rw [h0]
    rcases h with h | ⟨hL, i, h⟩
    · rw [h]; exact .inl rfl
    · rw [h]; exact .inr ⟨hL, i, rfl⟩
  · rw [h0]; exact .inr ⟨hL, _, rfl⟩
theorem YL.l7 (h : YL L us .neg k d x j) : YL L us (.level 7) k d x j := by
  obtain ⟨f, h⟩ := h
  have ht : ∃ t, us[k]? = some t := by
    cases f with
    | zero => simp [runF] at h
    | succ f => rcases h with h | ⟨hL, i, h⟩ <;> exact runF_tok h
  obtain ⟨t, ht⟩ := ht
  exact ⟨f + 1, by rw [runF_level ht, if_neg (by decide), if_pos rfl]; exact h⟩
theorem YL.l3 (ht : us[k]? = some t) (hs : isS t ⟨#[33]⟩ = false) (h : YL L us (.level 4) k d x j) : YL L us (.level 3) k d x j := by
  obtain ⟨f, h⟩ := h
  exact ⟨f + 1, by rw [runF_level ht, if_pos rfl, hs, if_neg (by decide)]; exact h⟩
theorem YL.bang (hl : 30 < d + 1 → L) (ht : us[k]? = some t) (hs : isS t ⟨#[33]⟩ = true) (hu : us[k + 1]? = some u) (hb : beginsT u = true ∨ isS u ⟨#[33]⟩ = true) (h : YL L us (.level 3) (k + 1) (d + 1) x j) : YL L us (.level 3) k d (.mk 5 0 noB [x] t.at_) j := by
  obtain ⟨f, h⟩ := h
  refine ⟨f + 1, ?_⟩
  rw [runF_level ht, if_pos rfl, if_pos hs, hu]
  dsimp only
  rcases firstL (L := L) (no := true) (hb.imp id fun h => ⟨rfl, h⟩) (d + 1) hl with h0 | ⟨hL, h0⟩
  · rw [h0]
    rcases h with h | ⟨hL, i, h⟩
    · rw [h]; exact .inl rfl
    · rw [h]; exact .inr ⟨hL, i, rfl⟩
  · rw [h0]; exact .inr ⟨hL, _, rfl⟩
theorem YL.step (ok : TokOK us) (hn3 : n ≠ 3) (hn7 : n ≠ 7) (h : YL L us (.level (n + 1)) k d x j) (h2 : x.op ≠ 0 → YL L us (.loop n x) j d y i) : YL L us (.level n) k d y i := by
  obtain ⟨f, h⟩ := h
  have ht : ∃ t, us[k]? = some t := by
    cases f with
    | zero => simp [runF] at h
    | succ f => rcases h with h | ⟨hL, i, h⟩ <;> exact runF_tok h
  obtain ⟨t, ht⟩ := ht
  rcases h with h | ⟨hL, i2, h⟩
  · have hx := run_nz _ _ _ _ _ _ h trivial
    obtain ⟨g, hg⟩ := (h2 hx).up ok hx
    refine ⟨max f g + 1, ?_⟩
    rw [runF_level ht, if_neg hn3, if_neg hn7, run_mono ok (Nat.le_max_left f g) h trivial]
    exact hg _ (Nat.le_max_right f g)
  · refine ⟨f + 1, .inr ⟨hL, i2, ?_⟩⟩
    rw [runF_level ht, if_neg hn3, if_neg hn7, h]; rfl
theorem YL.loop_end (hu : us[j]? = some u) (ho : opAt n u = none) : YL L us (.loop n x) j d x j := ⟨1, .inl (by rw [runF_loop hu, ho])⟩
theorem YL.loop_op4 {op : Int} (hu : us[j]? = some u) (ho : opAt 4 u = some op) (h : YL L us (.level 5) (j + 1) d y i) : YL L us (.loop 4 x) j d (.mk op 0 noB [x, y] x.at_) i := by
  obtain ⟨f, h⟩ := h
  refine ⟨f + 1, ?_⟩
  rw [runF_loop hu, ho]
  dsimp only
  rcases h with h | ⟨hL, i2, h⟩
  · rw [h]; exact .inl rfl
  · rw [h]; exact .inr ⟨hL, i2, rfl⟩
theorem YL.loop_op (ok : TokOK us) {op : Int} {i2 : Nat} (hn : n ≠ 4) (hu : us[j]? = some u) (ho : opAt n u = some op) (h : YL L us (.level (n + 1)) (j + 1) d y i) (h2 : YL L us (.loop n (.mk op 0 noB [x, y] x.at_)) i d z i2) : YL L us (.loop n x) j d z i2 := by
  obtain ⟨f, h⟩ := h
  obtain ⟨g, hg⟩ := h2.up ok (by exact opAt_ne ho)
  rcases h with h | ⟨hL, i2, h⟩
  · refine ⟨max f g + 1, ?_⟩
    rw [runF_loop hu, ho]
    dsimp only
    rw [run_mono ok (Nat.le_max_left f g) h trivial]
    simp only [PR.then_]
    rw [if_neg hn]
    exact hg _ (Nat.le_max_right f g)
  · refine ⟨f + 1, .inr ⟨hL, i2, ?_⟩⟩
    rw [runF_loop hu, ho]
    dsimp only
    rw [h]; rfl
theorem YL.expr (hl : 30 < d → L) (ht : us[k]? = some t) (hb : beginsT t = true ∨ isS t ⟨#[33]⟩ = true) (h : YL L us (.level 1) k d x j) (hu : us[j]? = some u) (hq : isS u ⟨#[63]⟩ = false) : YL L us .expr k d x j := by
  obtain ⟨f, h⟩ := h
  refine ⟨f + 1, ?_⟩
  rw [runF_expr ht]
  rcases firstL (L := L) (no := true) (hb.imp id fun h => ⟨rfl, h⟩) d hl with h0 | ⟨hL, h0⟩
  · rw [h0]
    dsimp only
    rcases h with h | ⟨hL, i, h⟩
    · rw [h]; exact .inl (by simp only [PR.then_]; rw [hu]; dsimp only; rw [if_pos (by simp [hq])])
    · rw [h]; exact .inr ⟨hL, i, rfl⟩
  · rw [h0]; exact .inr ⟨hL, _, rfl⟩
theorem YL.cond (ok : TokOK us) (hl : 30 < d → L) {v : Tok} {j2 j3 : Nat} (ht : us[k]? = some t) (hb : beginsT t = true ∨ isS t ⟨#[33]⟩ = true) (h : YL L us (.level 1) k d x j) (hu : us[j]? = some u) (hq : isS u ⟨#[63]⟩ = true)
    (h2 : YL L us .expr (j + 1) (d + 1) y j2) (hv : us[j2]? = some v) (hc : isS v ⟨#[58]⟩ = true) (h3 : YL L us .expr (j2 + 1) (d + 1) z j3) : YL L us .expr k d (.mk 20 0 noB [x, y, z] x.at_) j3 := by
  obtain ⟨f1, h1⟩ := h.up ok trivial
  obtain ⟨f2, h2⟩ := h2.up ok trivial
  obtain ⟨f3, h3⟩ := h3.up ok trivial
  refine ⟨max f1 (max f2 f3) + 1, ?_⟩
  rw [runF_expr ht]
  rcases firstL (L := L) (no := true) (hb.imp id fun h => ⟨rfl, h⟩) d hl with h0 | ⟨hL, h0⟩
  · rw [h0]
    dsimp only
    rcases h1 _ (by omega : f1 ≤ max f1 (max f2 f3)) with h | ⟨hL, i, h⟩
    · rw [h]
      simp only [PR.then_]
      rw [hu]
      dsimp only
      rw [if_neg (by simp [hq])]
      rcases h2 _ (by omega : f2 ≤ max f1 (max f2 f3)) with h | ⟨hL, i, h⟩
      · rw [h]
        dsimp only
        rw [hv]
        dsimp only
        rw [if_neg (by simp [hc])]
        rcases h3 _ (by omega : f3 ≤ max f1 (max f2 f3)) with h | ⟨hL, i, h⟩
        · rw [h]; exact .inl rfl
        · rw [h]; exact .inr ⟨hL, i, rfl⟩
      · rw [h]; exact .inr ⟨hL, i, rfl⟩
    · rw [h]; exact .inr ⟨hL, i, rfl⟩
  · rw [h0]; exact .inr ⟨hL, _, rfl⟩
theorem YL.number (ht : us[k]? = some t) (hk : t.kind = 2) : YL L us .atom k d (.mk 1 t.n noB [] t.at_) (k + 1) :=
  ⟨1, .inl (by rw [runF_atom ht, if_neg (by simp [isS, hk]), if_pos hk])⟩
theorem YL.text (ht : us[k]? = some t) (hk : t.kind = 3) : YL L us .atom k d (.mk 2 0 t.s [] t.at_) (k + 1) :=
  ⟨1, .inl (by rw [runF_atom ht, if_neg (by simp [isS, hk]), if_neg (by omega), if_pos hk])⟩
theorem YL.name (ht : us[k]? = some t) (hk : t.kind = 1) (hu : us[k + 1]? = some u) (hs : isS u ⟨#[40]⟩ = false) : YL L us .atom k d (.mk 3 0 t.s [] t.at_) (k + 1) :=
  ⟨1, .inl (by rw [runF_atom ht, if_neg (by simp [isS, hk]), if_neg (by omega), if_neg (by omega), if_pos hk, hu]; dsimp only; rw [if_pos (by simp [hs])])⟩
theorem YL.call0 {v : Tok} (ht : us[k]? = some t) (hk : t.kind = 1) (hu : us[k + 1]? = some u) (hs : isS u ⟨#[40]⟩ = true) (hv : us[k + 2]? = some v) (hc : isS v ⟨#[41]⟩ = true) : YL L us .atom k d (.mk 4 0 t.s [] t.at_) (k + 3) :=
  ⟨1, .inl (by rw [runF_atom ht, if_neg (by simp [isS, hk]), if_neg (by omega), if_neg (by omega), if_pos hk, hu]; dsimp only; rw [if_neg (by simp [hs]), hv]; dsimp only; rw [if_pos hc])⟩
theorem YL.call {v : Tok} (ht : us[k]? = some t) (hk : t.kind = 1) (hu : us[k + 1]? = some u) (hs : isS u ⟨#[40]⟩ = true) (hv : us[k + 2]? = some v) (hc : isS v ⟨#[41]⟩ = false) (h : YL L us (.args t []) (k + 2) d x j) : YL L us .atom k d x j := by
  obtain ⟨f, h⟩ := h
  refine ⟨f + 1, ?_⟩
  rw [runF_atom ht, if_neg (by simp [isS, hk]), if_neg (by omega), if_neg (by omega), if_pos hk, hu]
  dsimp only
  rw [if_neg (by simp [hs]), hv]
  dsimp only
  rw [hc, if_neg (by decide)]
  exact h
theorem YL.full (hL : L) {ks : List Ex} {t0 : Tok} (ht : us[k]? = some t) (hb : beginsT t = true ∨ isS t ⟨#[33]⟩ = true) (hl : ks.length = 40) : YL L us (.args t0 ks) k d x j := by
  refine ⟨1, .inr ⟨hL, k, ?_⟩⟩
  rw [runF_args ht, if_pos hl]
  rcases first_ok (no := true) (hb.imp id fun h => ⟨rfl, h⟩) 0 with h0 | h0 <;> rw [h0] <;> rfl
theorem YL.args_last {ks : List Ex} {t0 : Tok} (ht : us[k]? = some t) (hl : ks.length ≠ 40) (h : YL L us .expr k (d + 1) x j) (hu : us[j]? = some u) (hc : isS u ⟨#[41]⟩ = true) : YL L us (.args t0 ks) k d (.mk 4 0 t0.s (ks ++ [x]) t0.at_) (j + 1) := by
  obtain ⟨f, h⟩ := h
  refine ⟨f + 1, ?_⟩
  rw [runF_args ht, if_neg hl]
  rcases h with h | ⟨hL, i, h⟩
  · rw [h]; exact .inl (by simp only [PR.then_]; rw [hu]; dsimp only; rw [if_pos hc])
  · rw [h]; exact .inr ⟨hL, i, rfl⟩
theorem YL.args_more (ok : TokOK us) {ks : List Ex} {t0 : Tok} (ht : us[k]? = some t) (hl : ks.length ≠ 40) (h : YL L us .expr k (d + 1) x j) (hu : us[j]? = some u) (hc : isS u ⟨#[44]⟩ = true) (h2 : YL L us (.args t0 (ks ++ [x])) (j + 1) d y i) : YL L us (.args t0 ks) k d y i := by
  obtain ⟨f1, h1⟩ := h.up ok trivial
  obtain ⟨f2, h2⟩ := h2.up ok trivial
  have hc2 : isS u ⟨#[41]⟩ = false := by
    have := isS_s hc
    cases h3 : isS u ⟨#[41]⟩ with
    | false => rfl
    | true => have h4 := isS_s h3; rw [this] at h4; simp at h4
  refine ⟨max f1 f2 + 1, ?_⟩
  rw [runF_args ht, if_neg hl]
  rcases h1 _ (Nat.le_max_left f1 f2) with h | ⟨hL, i, h⟩
  · rw [h]
    simp only [PR.then_]
    rw [hu]
    dsimp only
    rw [hc2, if_neg (by decide), if_pos hc]
    exact h2 _ (Nat.le_max_right f1 f2)
  · rw [h]; exact .inr ⟨hL, i, rfl⟩
theorem YL.climb (ok : TokOK us) (ht : us[k]? = some t) (hu : us[j]? = some u) : ∀ (c n : Nat), n + c ≤ 7 → (isS t ⟨#[33]⟩ = false ∨ n + c ≤ 3) → (∀ i, n ≤ i → i < n + c → opAt i u = none) → YL L us (.level (n + c)) k d x j → YL L us (.level n) k d x j
  | 0, n, _, _, _, h => h
  | c + 1, n, hc, hb, ho, h => by
    have h1 : YL L us (.level (n + 1)) k d x j := YL.climb ok ht hu c (n + 1) (by omega) (hb.imp id fun h => by omega) (fun i h1 h2 => ho i (by omega) (by omega)) (by rw [show n + 1 + c = n + (c + 1) by omega]; exact h)
    by_cases h3 : n = 3
    · subst h3
      exact h1.l3 ht (by rcases hb with h | h; exact h; omega)
    · exact h1.step ok h3 (by omega) fun _ => YL.loop_end hu (ho n (Nat.le_refl _) (by omega))
end
end Go.Proofs.YtjijdgkccfeeaaaGreatDoor
