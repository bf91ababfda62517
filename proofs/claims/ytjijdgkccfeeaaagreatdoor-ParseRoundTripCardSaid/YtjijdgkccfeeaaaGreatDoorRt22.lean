/- Part 22 of the proof of card: ParBackF, LexFill, LexRefF, LexWord, LexReread, ParWord. Conditions: those of each theorem. -/
import Derived.Test.YtjijdgkccfeeaaaGreatDoorRt01
import Derived.Test.YtjijdgkccfeeaaaGreatDoorRt12
import Derived.Test.YtjijdgkccfeeaaaGreatDoorRt13
import Derived.Test.YtjijdgkccfeeaaaGreatDoorRt14
import Derived.Test.YtjijdgkccfeeaaaGreatDoorRt17
import Derived.Test.YtjijdgkccfeeaaaGreatDoorRt19
import Derived.Test.YtjijdgkccfeeaaaGreatDoorRt21
namespace Go.Proofs.YtjijdgkccfeeaaaGreatDoor
open Go Go.Proofs Go.RowKit
theorem then_mono {α β : Type} {r1 r2 : Option (PR α)} {g g' : α → Nat → Option (PR β)} {r : PR β} (h : PR.then_ r1 g = some r) (h1 : ∀ y, r1 = some y → r2 = some y) (h2 : ∀ x j, r1 = some (.ok x j) → ∀ y, g x j = some y → g' x j = some y) : PR.then_ r2 g' = some r := by
  cases hr : r1 with
  | none => rw [hr] at h; cases h
  | some y =>
    rw [hr] at h
    rw [h1 y hr]
    cases y with
    | ok x j => exact h2 x j hr _ h
    | err i e => exact h
theorem argF_mono {ts : List Tok} (ok : TokOK ts) {f f' k : Nat} {r : PR Ar} (hf : f ≤ f') (h : argF ts f k = some r) : argF ts f' k = some r := by
  unfold argF at h ⊢
  cases ht : ts[k]? with
  | none => rw [ht] at h; cases h
  | some t =>
    rw [ht] at h
    dsimp only at h ⊢
    split
    · rename_i h1; rw [if_pos h1] at h; exact h
    rename_i h1; rw [if_neg h1] at h
    split
    · rename_i h1; rw [if_pos h1] at h; exact h
    rename_i h1; rw [if_neg h1] at h
    split
    · rename_i h1; rw [if_pos h1] at h; exact h
    rename_i h1; rw [if_neg h1] at h
    split
    · rename_i h1; rw [if_pos h1] at h; exact h
    rename_i h1; rw [if_neg h1] at h
    exact then_mono h (fun y hy => run_mono ok hf hy trivial) fun x j _ y hy => hy
theorem formF_mono {ts : List Tok} (ok : TokOK ts) : ∀ (f f' : Nat) (q : Qf) (k : Nat) (d : Int) (n : Nat) (r : PR (Fm × Nat)), f ≤ f' → formF ts f q k d n = some r → formF ts f' q k d n = some r
  | 0, _, q, k, d, n, r, _, h => by cases q <;> simp [formF] at h
  | f + 1, 0, _, _, _, _, _, hf, _ => by omega
  | f + 1, f' + 1, q, k, d, n, r, hf, h => by
    obtain ⟨t, ht⟩ := formF_tok h
    have ih := fun q k d n r => formF_mono ok f f' q k d n r (by omega)
    cases q with
    | form =>
      rw [formF_form ht] at h ⊢
      split
      · rename_i h1; rw [if_pos h1] at h; exact h
      rename_i h1; rw [if_neg h1] at h
      split
      · rename_i h1; rw [if_pos h1] at h; exact h
      rename_i h1; rw [if_neg h1] at h
      exact ih _ _ _ _ _ h
    | args t0 zs =>
      rw [formF_args ht] at h ⊢
      split
      · rename_i h1; rw [if_pos h1] at h; exact h
      rename_i h1; rw [if_neg h1] at h
      split
      · rename_i h1; rw [if_pos h1] at h; exact ih _ _ _ _ _ h
      rename_i h1; rw [if_neg h1] at h
      split
      · rename_i h1; rw [if_pos h1] at h; exact h
      rename_i h1; rw [if_neg h1] at h
      split
      · rename_i h1; rw [if_pos h1] at h; exact h
      rename_i h1; rw [if_neg h1] at h
      exact then_mono h (fun y hy => argF_mono ok (by omega) hy) fun x j _ y hy => ih _ _ _ _ _ hy
    | body t0 zs fs =>
      rw [formF_body ht] at h ⊢
      split
      · rename_i h1; rw [if_pos h1] at h; exact h
      rename_i h1; rw [if_neg h1] at h
      exact then_mono h (fun y hy => ih _ _ _ _ _ hy) fun x j _ y hy => ih _ _ _ _ _ hy
theorem formsF_mono {ts : List Tok} (ok : TokOK ts) : ∀ (f f' k n : Nat) (fs : List Fm) (r : PR (List Fm)), f ≤ f' → formsF ts f k n fs = some r → formsF ts f' k n fs = some r
  | 0, _, _, _, _, _, _, h => by simp [formsF] at h
  | f + 1, 0, _, _, _, _, hf, _ => by omega
  | f + 1, f' + 1, k, n, fs, r, hf, h => by
    unfold formsF at h ⊢
    cases ht : ts[k]? with
    | none => rw [ht] at h; cases h
    | some t =>
      rw [ht] at h
      dsimp only at h ⊢
      split
      · rename_i h1; rw [if_pos h1] at h; exact h
      rename_i h1; rw [if_neg h1] at h
      exact then_mono h (fun y hy => formF_mono ok _ _ _ _ _ _ _ (by omega) hy) fun x j _ y hy => formsF_mono ok f f' _ _ _ _ (by omega) hy
def YA (L : Prop) (us : List Tok) (k : Nat) (a : Ar) (j : Nat) : Prop := ∃ f, argF us f k = some (.ok a j) ∨ (L ∧ ∃ i, argF us f k = some (.err i 2))
def YF (L : Prop) (us : List Tok) (q : Qf) (k : Nat) (d : Int) (n : Nat) (r : Fm × Nat) (j : Nat) : Prop := ∃ f, formF us f q k d n = some (.ok r j) ∨ (L ∧ ∃ i, formF us f q k d n = some (.err i 2))
def YS (L : Prop) (us : List Tok) (k n : Nat) (fs r : List Fm) (j : Nat) : Prop := ∃ f, formsF us f k n fs = some (.ok r j) ∨ (L ∧ ∃ i, formsF us f k n fs = some (.err i 2))
section
variable {L : Prop} {us : List Tok} {k j j1 n : Nat} {d : Int} {t t0 u v : Tok} {zs : List Ar} {fs : List Fm} {r x : Fm × Nat} {a : Ar}
theorem YF.form (ht : us[k]? = some t) (hk : t.kind = 1) (hl : 30 < d ∨ 2000 ≤ n → L) (h : YF L us (.args t []) (k + 1) d (n + 1) r j) : YF L us .form k d n r j := by
  obtain ⟨f, h⟩ := h
  refine ⟨f + 1, ?_⟩
  rw [formF_form ht, if_neg (by omega)]
  by_cases h1 : 30 < d ∨ 2000 ≤ n
  · rw [if_pos h1]; exact .inr ⟨hl h1, _, rfl⟩
  · rw [if_neg h1]; exact h
theorem YF.semi (ht : us[k]? = some t) (hs : isS t ⟨#[59]⟩ = true) : YF L us (.args t0 zs) k d n (.mk t0.s zs [] t0.at_, n) (k + 1) := ⟨1, .inl (by rw [formF_args ht, if_pos hs])⟩
theorem YF.opened (ht : us[k]? = some t) (hs : isS t ⟨#[123]⟩ = true) (h : YF L us (.body t0 zs []) (k + 1) d n r j) : YF L us (.args t0 zs) k d n r j := by
  obtain ⟨f, h⟩ := h
  refine ⟨f + 1, ?_⟩
  rw [formF_args ht, if_neg (by rw [isS_of hs]; decide), if_pos hs]
  exact h
theorem YF.arg (ok : TokOK us) (ht : us[k]? = some t) (h1 : isS t ⟨#[59]⟩ = false) (h2 : isS t ⟨#[123]⟩ = false) (hb : beginsT t = true ∨ isS t ⟨#[45, 62]⟩ = true) (hl : zs.length = 40 → L) (ha : YA L us k a j1) (h : YF L us (.args t0 (zs ++ [a])) j1 d n r j) : YF L us (.args t0 zs) k d n r j := by
  obtain ⟨f1, ha⟩ := ha
  obtain ⟨f2, h⟩ := h
  refine ⟨max f1 f2 + 1, ?_⟩
  rw [formF_args ht, if_neg (by simp [h1]), if_neg (by simp [h2]), if_neg (by rcases hb with hb | hb <;> simp [hb])]
  by_cases h40 : zs.length = 40
  · rw [if_pos h40]; exact .inr ⟨hl h40, _, rfl⟩
  rw [if_neg h40]
  rcases ha with ha | ⟨hL, i, ha⟩
  · rw [argF_mono ok (Nat.le_max_left f1 f2) ha]
    simp only [PR.then_]
    rcases h with h | ⟨hL, i, h⟩
    · exact .inl (formF_mono ok _ _ _ _ _ _ _ (Nat.le_max_right f1 f2) h)
    · exact .inr ⟨hL, i, formF_mono ok _ _ _ _ _ _ _ (Nat.le_max_right f1 f2) h⟩
  · rw [argF_mono ok (Nat.le_max_left f1 f2) ha]; exact .inr ⟨hL, i, rfl⟩
theorem YF.shut (ht : us[k]? = some t) (hs : isS t ⟨#[125]⟩ = true) : YF L us (.body t0 zs fs) k d n (.mk t0.s zs fs t0.at_, n) (k + 1) := ⟨1, .inl (by rw [formF_body ht, if_pos hs])⟩
theorem YF.more (ok : TokOK us) (ht : us[k]? = some t) (hs : isS t ⟨#[125]⟩ = false) (hx : YF L us .form k (d + 1) n x j1) (h : YF L us (.body t0 zs (fs ++ [x.1])) j1 d x.2 r j) : YF L us (.body t0 zs fs) k d n r j := by
  obtain ⟨f1, hx⟩ := hx
  obtain ⟨f2, h⟩ := h
  refine ⟨max f1 f2 + 1, ?_⟩
  rw [formF_body ht, if_neg (by simp [hs])]
  rcases hx with hx | ⟨hL, i, hx⟩
  · rw [formF_mono ok _ _ _ _ _ _ _ (Nat.le_max_left f1 f2) hx]
    simp only [PR.then_]
    rcases h with h | ⟨hL, i, h⟩
    · exact .inl (formF_mono ok _ _ _ _ _ _ _ (Nat.le_max_right f1 f2) h)
    · exact .inr ⟨hL, i, formF_mono ok _ _ _ _ _ _ _ (Nat.le_max_right f1 f2) h⟩
  · rw [formF_mono ok _ _ _ _ _ _ _ (Nat.le_max_left f1 f2) hx]; exact .inr ⟨hL, i, rfl⟩
theorem YS.done (ht : us[k]? = some t) (h5 : t.kind = 5) : YS L us k n fs fs k := ⟨1, .inl (by unfold formsF; rw [ht]; dsimp only; rw [if_pos h5])⟩
theorem YS.more {r : List Fm} (ok : TokOK us) (ht : us[k]? = some t) (h5 : t.kind ≠ 5) (hx : YF L us .form k 1 n x j1) (h : YS L us j1 x.2 (fs ++ [x.1]) r j) : YS L us k n fs r j := by
  obtain ⟨f1, hx⟩ := hx
  obtain ⟨f2, h⟩ := h
  refine ⟨max f1 f2 + 1, ?_⟩
  unfold formsF
  rw [ht]
  dsimp only
  rw [if_neg h5]
  rcases hx with hx | ⟨hL, i, hx⟩
  · rw [formF_mono ok _ _ _ _ _ _ _ (Nat.le_max_left f1 f2) hx]
    simp only [PR.then_]
    rcases h with h | ⟨hL, i, h⟩
    · exact .inl (formsF_mono ok _ _ _ _ _ _ (Nat.le_max_right f1 f2) h)
    · exact .inr ⟨hL, i, formsF_mono ok _ _ _ _ _ _ (Nat.le_max_right f1 f2) h⟩
  · rw [formF_mono ok _ _ _ _ _ _ _ (Nat.le_max_left f1 f2) hx]; exact .inr ⟨hL, i, rfl⟩
end
def GoA (a : Ar) : Prop := a.kind = 5 → (1 + (dpX a.e : Int) ≤ 30 ∧ arX a.e)
mutual
def dpF : Fm → Nat
  | .mk _ _ fs _ => 1 + dpFs fs
def dpFs : List Fm → Nat
  | [] => 0
  | x :: xs => max (dpF x) (dpFs xs)
end
mutual
def cntF : Fm → Nat
  | .mk _ _ fs _ => 1 + cntFs fs
def cntFs : List Fm → Nat
  | [] => 0
  | x :: xs => cntF x + cntFs xs
end
mutual
def arF : Fm → Prop
  | .mk _ zs fs _ => zs.length ≤ 40 ∧ (∀ a ∈ zs, GoA a) ∧ arFs fs
def arFs : List Fm → Prop
  | [] => True
  | x :: xs => arF x ∧ arFs xs
end
section
variable {L : Prop} {us : List Tok}
theorem wrap_neg {n : Int} (h0 : n < 0) (h1 : ¬ n < -999999999999999) : max (wrap64 (-n)) 0 = -n := by
  have : wrap64 (-n) = -n := by unfold wrap64; omega
  rw [this]; omega
theorem arg_back (ok : TokOK us) (a : Ar) (hb : (showA a).2 = false) (hg : ¬ GoA a → L) (k : Nat) (hM : Mt us k (showA a).1) : ∃ t b, us[k]? = some t ∧ isS t ⟨#[59]⟩ = false ∧ isS t ⟨#[123]⟩ = false ∧ (beginsT t = true ∨ isS t ⟨#[45, 62]⟩ = true) ∧ sameA false a b = true ∧ YA L us k b (k + (showA a).1.length) := by
  unfold showA at hM hb ⊢
  by_cases h1 : a.kind = 1
  · rw [if_pos h1] at hM hb ⊢
    obtain ⟨t, ht, hl⟩ := hM.head
    have hk : t.kind = 1 := hl.1
    have hs : t.s = a.s := hl.2.1
    refine ⟨t, ⟨t.kind, 0, t.s, noEx, t.at_⟩, ht, by rw [hl.isS]; rfl, by rw [hl.isS]; rfl, .inl (by rw [hl.begins]; rfl), by simp [sameA, h1, hk, hs], 0, .inl ?_⟩
    unfold argF
    rw [ht]
    dsimp only
    rw [if_pos (.inl hk)]
    rfl
  rw [if_neg h1] at hM hb ⊢
  by_cases h2 : a.kind = 2
  · rw [if_pos h2] at hM hb ⊢
    by_cases hn : a.n < 0
    · rw [if_pos hn] at hM hb ⊢
      obtain ⟨t, ht, hl⟩ := hM.head
      obtain ⟨u, hu, hl2⟩ := hM.tail.head
      simp only [Bool.or_eq_false_iff, decide_eq_false_iff_not] at hb
      have hun : u.n = -a.n := by rw [hl2.2.2]; exact wrap_neg hn hb.2
      have hk : t.kind = 4 := hl.1
      refine ⟨t, ⟨2, -u.n, noB, noEx, t.at_⟩, ht, by rw [hl.isS]; rfl, by rw [hl.isS]; rfl, .inl (by rw [hl.begins]; rfl), by simp [sameA, h2, hun], 0, .inl ?_⟩
      unfold argF
      rw [ht]
      dsimp only
      rw [if_neg (by omega), if_neg (by omega), if_neg (by rw [hl.isS]; decide), if_pos (by rw [hl.isS]; rfl), hu]
      dsimp only
      rw [if_pos (show u.kind = 2 from hl2.1)]
      rfl
    · rw [if_neg hn] at hM hb ⊢
      obtain ⟨t, ht, hl⟩ := hM.head
      have hk : t.kind = 2 := hl.1
      have hs : t.n = a.n := hl.2.2
      refine ⟨t, ⟨2, t.n, noB, noEx, t.at_⟩, ht, by rw [hl.isS]; rfl, by rw [hl.isS]; rfl, .inl (by rw [hl.begins]; rfl), by simp [sameA, h2, hs], 0, .inl ?_⟩
      unfold argF
      rw [ht]
      dsimp only
      rw [if_neg (by omega), if_pos hk]
      rfl
  rw [if_neg h2] at hM hb ⊢
  by_cases h3 : a.kind = 3
  · rw [if_pos h3] at hM hb ⊢
    obtain ⟨t, ht, hl⟩ := hM.head
    have hk : t.kind = 3 := hl.1
    have hs : t.s = a.s := hl.2.1
    refine ⟨t, ⟨t.kind, 0, t.s, noEx, t.at_⟩, ht, by rw [hl.isS]; rfl, by rw [hl.isS]; rfl, .inl (by rw [hl.begins]; rfl), by simp [sameA, h3, hk, hs], 0, .inl ?_⟩
    unfold argF
    rw [ht]
    dsimp only
    rw [if_pos (.inr hk)]
    rfl
  rw [if_neg h3] at hM hb ⊢
  by_cases h4 : a.kind = 4
  · rw [if_pos h4] at hM hb ⊢
    obtain ⟨t, ht, hl⟩ := hM.head
    have hk : t.kind = 4 := hl.1
    refine ⟨t, ⟨4, 0, noB, noEx, t.at_⟩, ht, by rw [hl.isS]; rfl, by rw [hl.isS]; rfl, .inr (by rw [hl.isS]; rfl), by simp [sameA, h4], 0, .inl ?_⟩
    unfold argF
    rw [ht]
    dsimp only
    rw [if_neg (by omega), if_neg (by omega), if_pos (by rw [hl.isS]; rfl)]
    rfl
  rw [if_neg h4] at hM hb ⊢
  by_cases h5 : a.kind = 5
  · rw [if_pos h5] at hM hb ⊢
    obtain ⟨t, ht, hl⟩ := hM.head
    obtain ⟨u, hu, hl2⟩ := hM.tail.at
    have hk : t.kind = 4 := hl.1
    obtain ⟨z, hz, f, hy⟩ := (back_any (L := L) _ a.e (Nat.le_refl _) hb).whole (d := 1) ok hM.tail.left hu ((stop_41 0).like hl2) (fun h => hg fun h2 => by have := (h2 h5).1; omega) (fun h => hg fun h2 => h (h2 h5).2)
    refine ⟨t, ⟨5, 0, noB, z, t.at_⟩, ht, by rw [hl.isS]; rfl, by rw [hl.isS]; rfl, .inl (by rw [hl.begins]; rfl), by simp [sameA, h5, hz], f, ?_⟩
    unfold argF
    rw [ht]
    dsimp only
    rw [if_neg (by omega), if_neg (by omega), if_neg (by rw [hl.isS]; decide), if_neg (by rw [hl.isS]; decide)]
    rw [show k + (sgT ⟨#[40]⟩ :: ((showX a.e).2.1 ++ [sgT ⟨#[41]⟩])).length = k + 1 + (showX a.e).2.1.length + 1 by simp; omega]
    rcases hy with hy | ⟨hL, i, hy⟩
    · refine .inl ?_
      rw [hy]
      simp only [PR.then_]
      rw [hu]
      dsimp only
      rw [if_pos (by rw [hl2.isS]; rfl)]
    · refine .inr ⟨hL, i, ?_⟩
      rw [hy]
      rfl
  · rw [if_neg h5] at hb
    cases hb
theorem args_backF (ok : TokOK us) {d : Int} {n : Nat} (t0 : Tok) : ∀ (l : List Ar) (zs : List Ar) (k : Nat), (showAs l).2 = false → (∀ a ∈ l, ¬ GoA a → L) → (40 < zs.length + l.length → L) → Mt us k (showAs l).1 → ∃ bs, sameAs false l bs = true ∧ ∀ r j, YF L us (.args t0 (zs ++ bs)) (k + (showAs l).1.length) d n r j → YF L us (.args t0 zs) k d n r j
  | [], zs, k, _, _, _, _ => ⟨[], rfl, fun r j h => by rw [List.append_nil] at h; exact h⟩
  | a :: l, zs, k, hb, hg, h40, hM => by
    rw [showAs] at hb hM ⊢
    obtain ⟨hb1, hb2⟩ := app_bad hb
    have hM2 : Mt us k ((showA a).1 ++ (showAs l).1) := hM
    obtain ⟨t, b, ht, s1, s2, s3, hs, hy⟩ := arg_back ok a hb1 (hg a (by simp)) k hM2.left
    obtain ⟨bs, hbs, hc⟩ := args_backF ok (d := d) (n := n) t0 l (zs ++ [b]) (k + (showA a).1.length) hb2 (fun x hx => hg x (List.mem_cons_of_mem _ hx)) (fun h => h40 (by simp at h ⊢; omega)) hM2.right
    refine ⟨b :: bs, by rw [sameAs, hs, hbs]; rfl, fun r j h => ?_⟩
    refine YF.arg ok ht s1 s2 s3 (fun h => h40 (by simp; omega)) hy (hc r j ?_)
    rw [List.append_assoc, List.singleton_append]
    rw [show k + (showA a).1.length + (showAs l).1.length = k + (Pr.app (showA a) (showAs l)).1.length by simp [Pr.app]; omega]
    exact h
mutual
theorem form_back (ok : TokOK us) : ∀ (f : Fm), (showF f).2 = false → (¬ arF f → L) → ∀ (k : Nat) (d : Int) (n : Nat), (31 < d + dpF f → L) → (2000 < n + cntF f → L) → Mt us k (showF f).1 → ∃ g, sameF false f g = true ∧ YF L us .form k d n (g, n + cntF f) (k + (showF f).1.length)
  | .mk w zs fs a, hb, ha, k, d, n, hd, hc, hM => by
    rw [showF] at hb hM ⊢
    rw [dpF] at hd
    rw [cntF] at hc ⊢
    rw [arF] at ha
    have e1 : ∀ X : Pr, (Pr.app ([nmT w], badName w) X).1 = nmT w :: X.1 := fun X => rfl
    rw [e1] at hM ⊢
    obtain ⟨hb1, hb2⟩ := app_bad (app_bad hb).2
    obtain ⟨t, ht, hl⟩ := hM.head
    have hM2 : Mt us (k + 1) ((showAs zs).1 ++ (if fs.isEmpty then ([sgT ⟨#[59]⟩], false) else Pr.app ([sgT ⟨#[123]⟩], false) (Pr.app (showFs fs) ([sgT ⟨#[125]⟩], false))).1) := hM.tail
    obtain ⟨bs, hbs, hargs⟩ := args_backF ok (L := L) (d := d) (n := n + 1) t zs [] (k + 1) hb1 (fun x hx h => ha fun h2 => h (h2.2.1 x hx)) (fun h => ha fun h2 => by have := h2.1; simp at h; omega) hM2.left
    have hws : (w.data.toList == t.s.data.toList) = true := by rw [hl.2.1]; simp [nmT]
    cases fs with
    | nil =>
      obtain ⟨v, hv, hlv⟩ := hM2.right.head
      refine ⟨.mk t.s bs [] t.at_, by rw [sameF, hws, hbs]; rfl, YF.form ht hl.1 (fun h => ?_) (hargs _ _ ?_)⟩
      · rcases h with h | h
        · exact hd (by rw [dpFs]; omega)
        · exact hc (by rw [cntFs]; omega)
      · rw [cntFs, List.nil_append]
        have := YF.semi (L := L) (d := d) (n := n + 1) (t0 := t) (zs := bs) hv (by rw [hlv.isS]; rfl)
        simp only [List.isEmpty_nil, ↓reduceIte, Pr.app, List.length_cons, List.length_append, List.length_nil]
        rw [show k + ((showAs zs).1.length + (0 + 1) + 1) = k + 1 + (showAs zs).1.length + 1 by omega, show n + (1 + 0) = n + 1 by omega]
        exact this
    | cons f0 fs0 =>
      have e2 : (if (f0 :: fs0).isEmpty then ([sgT ⟨#[59]⟩], false) else Pr.app ([sgT ⟨#[123]⟩], false) (Pr.app (showFs (f0 :: fs0)) ([sgT ⟨#[125]⟩], false))) = Pr.app ([sgT ⟨#[123]⟩], false) (Pr.app (showFs (f0 :: fs0)) ([sgT ⟨#[125]⟩], false)) := rfl
      rw [e2] at hb2 hM2 ⊢
      have hM3 : Mt us (k + 1 + (showAs zs).1.length) (sgT ⟨#[123]⟩ :: ((showFs (f0 :: fs0)).1 ++ [sgT ⟨#[125]⟩])) := hM2.right
      obtain ⟨v, hv, hlv⟩ := hM3.head
      obtain ⟨u, hu, hlu⟩ := hM3.tail.at
      obtain ⟨gs, hgs, hbody⟩ := forms_back ok (f0 :: fs0) (app_bad (app_bad hb2).2).1 (fun h => ha fun h2 => h h2.2.2) t bs [] (k + 1 + (showAs zs).1.length + 1) d (n + 1) (fun h => hd (by omega)) (fun h => hc (by omega)) hM3.tail.left
      refine ⟨.mk t.s bs gs t.at_, by rw [sameF, hws, hbs, hgs]; rfl, YF.form ht hl.1 (fun h => ?_) (hargs _ _ ?_)⟩
      · rcases h with h | h
        · exact hd (by omega)
        · exact hc (by have := cntF f0; rw [cntFs]; cases f0; rw [cntF]; omega)
      · rw [List.nil_append]
        refine YF.opened hv (by rw [hlv.isS]; rfl) (hbody _ _ ?_)
        have := YF.shut (L := L) (d := d) (n := n + 1 + cntFs (f0 :: fs0)) (t0 := t) (zs := bs) (fs := [] ++ gs) hu (by rw [hlu.isS]; rfl)
        rw [List.nil_append] at this
        simp only [Pr.app, List.length_cons, List.length_append, List.length_nil, List.nil_append]
        rw [show k + ((showAs zs).1.length + (0 + 1 + ((showFs (f0 :: fs0)).1.length + (0 + 1))) + 1) = k + 1 + (showAs zs).1.length + 1 + (showFs (f0 :: fs0)).1.length + 1 by omega, show n + (1 + cntFs (f0 :: fs0)) = n + 1 + cntFs (f0 :: fs0) by omega]
        exact this
theorem forms_back (ok : TokOK us) : ∀ (l : List Fm), (showFs l).2 = false → (¬ arFs l → L) → ∀ (t0 : Tok) (zs : List Ar) (acc : List Fm) (k : Nat) (d : Int) (n : Nat), (31 < d + 1 + dpFs l → L) → (2000 < n + cntFs l → L) → Mt us k (showFs l).1 → ∃ gs, sameFs false l gs = true ∧ ∀ r j, YF L us (.body t0 zs (acc ++ gs)) (k + (showFs l).1.length) d (n + cntFs l) r j → YF L us (.body t0 zs acc) k d n r j
  | [], _, _, t0, zs, acc, k, d, n, _, _, _ => ⟨[], rfl, fun r j h => by rw [List.append_nil, showFs, cntFs] at h; exact h⟩
  | f :: l, hb, ha, t0, zs, acc, k, d, n, hd, hc, hM => by
    rw [showFs] at hb hM ⊢
    rw [dpFs] at hd
    rw [cntFs] at hc ⊢
    rw [arFs] at ha
    obtain ⟨hb1, hb2⟩ := app_bad hb
    have hM2 : Mt us k ((showF f).1 ++ (showFs l).1) := hM
    obtain ⟨g, hg, hy⟩ := form_back ok f hb1 (fun h => ha fun h2 => h h2.1) k (d + 1) n (fun h => hd (by omega)) (fun h => hc (by omega)) hM2.left
    obtain ⟨gs, hgs, hrest⟩ := forms_back ok l hb2 (fun h => ha fun h2 => h h2.2) t0 zs (acc ++ [g]) (k + (showF f).1.length) d (n + cntF f) (fun h => hd (by omega)) (fun h => hc (by omega)) hM2.right
    have hf : ∃ t, us[k]? = some t ∧ isS t ⟨#[125]⟩ = false := by
      obtain ⟨w, az, fs, a⟩ := f
      rw [showF] at hM2
      obtain ⟨t, ht, hl⟩ := Mt.head (t := nmT w) (b := _) hM2
      exact ⟨t, ht, by rw [hl.isS]; rfl⟩
    obtain ⟨t, ht, hs⟩ := hf
    refine ⟨g :: gs, by rw [sameFs, hg, hgs]; rfl, fun r j h => ?_⟩
    refine YF.more ok ht hs hy (hrest r j ?_)
    rw [List.append_assoc, List.singleton_append]
    rw [show k + (showF f).1.length + (showFs l).1.length = k + (Pr.app (showF f) (showFs l)).1.length by simp [Pr.app]; omega, show n + cntF f + cntFs l = n + (cntF f + cntFs l) by omega]
    exact h
end
theorem top_back (ok : TokOK us) {e : Tok} (h5 : e.kind = 5) : ∀ (l : List Fm), (showFs l).2 = false → (¬ arFs l → L) → ∀ (acc : List Fm) (k n : Nat), (30 < dpFs l → L) → (2000 < n + cntFs l → L) → Mt us k (showFs l).1 → us[k + (showFs l).1.length]? = some e → ∃ gs, sameFs false l gs = true ∧ YS L us k n acc (acc ++ gs) (k + (showFs l).1.length)
  | [], _, _, acc, k, n, _, _, _, he => by
    rw [showFs] at he ⊢
    exact ⟨[], rfl, by rw [List.append_nil]; exact YS.done he h5⟩
  | f :: l, hb, ha, acc, k, n, hd, hc, hM, he => by
    rw [showFs] at hb hM he ⊢
    rw [dpFs] at hd
    rw [cntFs] at hc
    rw [arFs] at ha
    obtain ⟨hb1, hb2⟩ := app_bad hb
    have hM2 : Mt us k ((showF f).1 ++ (showFs l).1) := hM
    have el : k + (Pr.app (showF f) (showFs l)).1.length = k + (showF f).1.length + (showFs l).1.length := by simp [Pr.app]; omega
    rw [el] at he ⊢
    obtain ⟨g, hg, hy⟩ := form_back ok f hb1 (fun h => ha fun h2 => h h2.1) k 1 n (fun h => hd (by omega)) (fun h => hc (by omega)) hM2.left
    obtain ⟨gs, hgs, hrest⟩ := top_back ok h5 l hb2 (fun h => ha fun h2 => h h2.2) (acc ++ [g]) (k + (showF f).1.length) (n + cntF f) (fun h => hd (by omega)) (fun h => hc (by omega)) hM2.right he
    have hf : ∃ t, us[k]? = some t ∧ t.kind ≠ 5 := by
      obtain ⟨w, az, fs, a⟩ := f
      rw [showF] at hM2
      obtain ⟨t, ht, hl⟩ := Mt.head (t := nmT w) (b := _) hM2
      exact ⟨t, ht, by rw [hl.1]; show (1 : Int) ≠ 5; decide⟩
    obtain ⟨t, ht, hs⟩ := hf
    refine ⟨g :: gs, by rw [sameFs, hg, hgs]; rfl, YS.more ok ht hs hy ?_⟩
    rw [List.append_assoc, List.singleton_append] at hrest
    exact hrest
end
end Go.Proofs.YtjijdgkccfeeaaaGreatDoor
namespace Go.Proofs.YtjijdgkccfeeaaaGreatDoor
open Go Go.Proofs
def Tok.strip (t : Tok) : Int × ByteArray × Int := (t.kind, t.s, t.n)
theorem Breaks.app {z : List UInt8} (h : Breaks z) (y : List UInt8) : Breaks (z ++ y) := by
  obtain ⟨c, z', rfl, hc⟩ := h
  exact ⟨c, z' ++ y, rfl, hc⟩
end Go.Proofs.YtjijdgkccfeeaaaGreatDoor
namespace Go.Proofs.YtjijdgkccfeeaaaGreatDoor
open Go Go.Proofs Go.RowKit
attribute [local go_sem] Oper.semAt_some
theorem has_take {l p : List UInt8} (hp : p.length = 2) : Lib.hasPrefix l p = true ↔ l.take 2 = p := by
  unfold Lib.hasPrefix
  rw [List.isPrefixOf_iff_prefix, List.prefix_iff_eq_take, hp]
  exact eq_comm
theorem sgn_pairs (l : List UInt8) : ∀ ps : List (List UInt8), (∀ p ∈ ps, p.length = 2) → sgnL l ps = if l.take 2 ∈ ps then .tok ⟨4, 0, ⟨(l.take 2).toArray⟩, 0⟩ 2 else sgnL l []
  | [], _ => by simp
  | p :: ps, h => by
    have hp := h p (List.mem_cons_self ..)
    conv => lhs; unfold sgnL
    rw [sgn_pairs l ps fun q hq => h q (List.mem_cons_of_mem _ hq)]
    by_cases h1 : l.take 2 = p
    · rw [if_pos ((has_take hp).2 h1), if_pos (by rw [h1]; exact List.mem_cons_self ..), h1]
    · rw [if_neg (fun h2 => h1 ((has_take hp).1 h2))]
      by_cases h2 : l.take 2 ∈ ps
      · rw [if_pos h2, if_pos (List.mem_cons_of_mem _ h2)]
      · rw [if_neg h2, if_neg (by simp [h1, h2])]
end Go.Proofs.YtjijdgkccfeeaaaGreatDoor
namespace Go.Proofs.YtjijdgkccfeeaaaGreatDoor
open Go Go.Proofs
theorem valL_pos : ∀ (l : List UInt8) (acc : Nat), 0 < acc → 0 < valL acc l
  | [], _, h => h
  | c :: l, acc, h => valL_pos l _ (by omega)
theorem dec_digits (c : UInt8) (hc : cls c = 2) : ∀ (l : List UInt8), (∀ b ∈ l, cls b = 2) → (l = [] ∨ c ≠ 48) → Lib.decDigits (valL 0 (c :: l)) = c :: l := by
  have h0 := (dig_iff c).1 hc
  intro l
  induction h : l.length generalizing l with
  | zero =>
    intro _ _
    obtain rfl : l = [] := List.length_eq_zero_iff.1 h
    show Lib.decDigits (0 * 10 + (c.toNat - 48)) = [c]
    rw [Lib.decDigits, dif_pos (by omega)]
    congr 1
    rw [show 48 + (0 * 10 + (c.toNat - 48)) = c.toNat by omega]
    exact UInt8.ofNat_toNat
  | succ n ih =>
    intro hl hne
    have hl0 : l ≠ [] := fun e => by subst e; simp at h
    have h48 : c ≠ 48 := hne.resolve_left hl0
    obtain ⟨m, d, rfl⟩ : ∃ m d, l = m ++ [d] := ⟨l.dropLast, l.getLast hl0, (List.dropLast_concat_getLast hl0).symm⟩
    have hd := (dig_iff d).1 (hl d (by simp))
    have hm := ih m (by simp at h; omega) (fun b hb => hl b (by simp [hb])) (.inr h48)
    have hv : valL 0 (c :: (m ++ [d])) = valL 0 (c :: m) * 10 + (d.toNat - 48) := valL_snoc 0 (c :: m) d
    have hpos : 0 < valL 0 (c :: m) := by
      have hc0 : c.toNat ≠ 48 := fun e => h48 (UInt8.toNat_inj.1 e)
      exact valL_pos m _ (by omega)
    rw [hv, Lib.decDigits, dif_neg (by omega)]
    rw [show (valL 0 (c :: m) * 10 + (d.toNat - 48)) / 10 = valL 0 (c :: m) by omega, show (valL 0 (c :: m) * 10 + (d.toNat - 48)) % 10 = d.toNat - 48 by omega, hm, show 48 + (d.toNat - 48) = d.toNat by omega]
    simp
theorem textL_word (k0 : Nat) (t : Tok) (tt : Nat) : ∀ (n : Nat) (l : List UInt8), l.length ≤ n → ∀ (j : Nat) (b : List UInt8), textL k0 l j b = .tok t tt → (t.kind = 3 ∧ t.n = 0) ∧ ∃ c, t.s = ⟨(b ++ c).toArray⟩ ∧ l.take (tt - j) = escL c ++ [34] ∧ b.length + c.length ≤ 200 := by
  intro n
  induction n using Nat.strongRecOn with
  | _ n ih =>
    intro l hl j b h
    have hfit := textL_fits _ _ _ _ _ _ h
    by_cases hb : 200 < b.length
    · rw [textL_lim _ _ _ _ hb] at h; cases h
    cases l with
    | nil => rw [textL_nil _ _ _ hb] at h; cases h
    | cons c l =>
      simp only [List.length_cons] at hl
      by_cases h34 : c = 34
      · subst h34
        rw [textL_quote _ _ _ _ hb] at h
        cases h
        exact ⟨⟨rfl, rfl⟩, [], by simp, by rw [Nat.add_sub_cancel_left]; simp [escL], by simp; omega⟩
      by_cases h92 : c = 92
      · subst h92
        cases l with
        | nil => rw [textL_esc0 _ _ _ hb] at h; cases h
        | cons d l =>
          simp only [List.length_cons] at hl
          rw [textL_esc _ _ _ _ _ hb] at h
          have key : ∀ x : UInt8, esc x = [92, d] → textL k0 l (j + 2) (b ++ [x]) = .tok t tt → (t.kind = 3 ∧ t.n = 0) ∧ ∃ c, t.s = ⟨(b ++ c).toArray⟩ ∧ (92 :: d :: l).take (tt - j) = escL c ++ [34] ∧ b.length + c.length ≤ 200 := fun x hx hh => by
            have hf2 := textL_fits _ _ _ _ _ _ hh
            obtain ⟨q0, c, q1, q2, q3⟩ := ih (n - 2) (by omega) l (by omega) (j + 2) (b ++ [x]) hh
            refine ⟨q0, x :: c, by rw [q1]; simp, ?_, by simp at q3 ⊢; omega⟩
            rw [show tt - j = (tt - (j + 2)) + 1 + 1 by omega, List.take_succ_cons, List.take_succ_cons, q2]
            simp [escL, hx]
          split at h
          · rename_i hd
            exact key 34 (by rw [hd]; rfl) h
          · split at h
            · rename_i hd
              exact key 92 (by rw [hd]; rfl) h
            · split at h
              · rename_i hd
                exact key 10 (by rw [hd]; rfl) h
              · cases h
      by_cases hc : c.toNat < 32 ∨ 126 < c.toNat
      · rw [textL_bad _ _ _ _ _ hb h34 h92 hc] at h; cases h
      · rw [textL_step _ _ _ _ _ hb h34 h92 hc] at h
        have hf2 := textL_fits _ _ _ _ _ _ h
        obtain ⟨q0, d, q1, q2, q3⟩ := ih (n - 1) (by omega) l (by omega) (j + 1) (b ++ [c]) h
        have h10 : c ≠ 10 := fun e => by subst e; exact hc (.inl (by decide))
        refine ⟨q0, c :: d, by rw [q1]; simp, ?_, by simp at q3 ⊢; omega⟩
        rw [show tt - j = (tt - (j + 1)) + 1 by omega, List.take_succ_cons, q2]
        simp [escL, esc_one h10 h92 h34]
theorem head_word {l : List UInt8} {t : Tok} {tt : Nat} (h : headT l = .tok t tt) : wordQ t = [⟨(l.take tt).toArray⟩] ∧ 0 ≤ t.n ∧ t.n < 9223372036854775807 ∧ t.s.size ≤ 200 ∧ t.kind ≠ 5 := by
  have hf := head_fits h
  cases l with
  | nil => rw [head_nil] at h; cases h
  | cons b l =>
    rcases heads b with hb | hb | hb | ⟨hb, hb2⟩
    · rw [head_name hb] at h
      split at h
      · cases h
      · rename_i h32
        cases h
        refine ⟨by unfold wordQ; rw [if_pos (.inl rfl)], by simp, by simp, ?_, by show (1 : Int) ≠ 5; decide⟩
        show ((b :: l).take (spanL 2 (b :: l))).length ≤ 200
        rw [List.length_take]; omega
    · rw [head_num hb] at h
      obtain rfl := numOf_tok h
      obtain ⟨m, hm⟩ : ∃ m, spanL 2 (b :: l) = m + 1 := ⟨spanL 2 (b :: l) - 1, by omega⟩
      rw [hm, List.take_succ_cons] at h ⊢
      have hall : ∀ x ∈ b :: l.take m, cls x = 2 := by
        intro x hx
        by_cases hx2 : cls x = 2
        · exact hx2
        · rw [numOf_bad hb ⟨x, hx, hx2⟩] at h; cases h
      have hlen : (l.take m).length < 15 := by
        rcases Nat.lt_or_ge (l.take m).length 15 with h1 | h1
        · exact h1
        · rw [numOf_long (by show 15 < (b :: l.take m).length; simp at h1 ⊢; omega)] at h; cases h
      have hz : ¬ (1 < (l.take m).length + 1 ∧ b = 48) := fun hz => by
        rw [numOf_zero (by show 1 < (b :: l.take m).length; simpa using hz.1) (by rw [hz.2]; rfl)] at h; cases h
      rw [numOf_ok hall hlen hz] at h
      cases h
      have hb2 : (0 + 1) * 10 ^ (b :: l.take m).length ≤ 10 ^ 15 := by rw [Nat.zero_add, Nat.one_mul]; exact pow_bound (by simp at hlen ⊢; omega)
      have hv := Nat.lt_of_lt_of_le (valL_lt (b :: l.take m) 0 hall) hb2
      refine ⟨?_, by simp, by show ((valL 0 (b :: l.take m) : Nat) : Int) < _; omega, by show 0 ≤ 200; omega, by show (2 : Int) ≠ 5; decide⟩
      unfold wordQ
      rw [if_neg (by show ¬ ((2 : Int) = 1 ∨ (2 : Int) = 4); decide), if_pos rfl]
      show [ByteArray.mk (Lib.itoa ((valL 0 (b :: l.take m) : Nat) : Int)).toArray] = _
      have e1 : Lib.itoa ((valL 0 (b :: l.take m) : Nat) : Int) = b :: l.take m := by
        unfold Lib.itoa
        rw [if_neg (by omega), Int.toNat_natCast]
        refine dec_digits b hb (l.take m) (fun x hx => hall x (List.mem_cons_of_mem _ hx)) ?_
        by_cases e : l.take m = []
        · exact .inl e
        · refine .inr fun e48 => hz ⟨?_, e48⟩
          have := List.length_pos_iff.2 e
          omega
      rw [e1]
    · subst hb
      rw [head_text] at h
      have hfit := textL_fits _ _ _ _ _ _ h
      obtain ⟨⟨q0, hn⟩, c, q1, q2, q3⟩ := textL_word 0 t tt _ l (Nat.le_refl _) 1 [] h
      refine ⟨?_, by omega, by omega, by rw [q1]; show ([] ++ c).length ≤ 200; simp at q3 ⊢; exact q3, by rw [q0]; decide⟩
      unfold wordQ
      rw [if_neg (by rw [q0]; decide), if_neg (by rw [q0]; decide), if_pos q0]
      obtain ⟨u, rfl⟩ : ∃ u, tt = u + 1 := ⟨tt - 1, by omega⟩
      rw [Nat.add_sub_cancel] at q2
      rw [List.take_succ_cons, q2]
      unfold quotedB
      rw [q1]
      simp only [List.nil_append]
      refine congrArg (fun x => [x]) ?_
      apply ByteArray.ext
      apply Array.ext'
      simp
    · rw [head_sign hb hb2] at h
      have h := orChar_tok h
      rw [sgn_pairs _ pairs pairs_len] at h
      split at h
      · rename_i h2
        cases h
        have h4 : ((b :: l).take 2).length = 2 := pairs_len _ h2
        exact ⟨by unfold wordQ; rw [if_pos (.inr rfl)], by simp, by simp, by show ((b :: l).take 2).length ≤ 200; omega, by show (4 : Int) ≠ 5; decide⟩
      · unfold sgnL at h
        split at h
        · cases h
          exact ⟨by unfold wordQ; rw [if_pos (.inr rfl)]; rfl, by simp, by simp, by show 1 ≤ 200; omega, by show (4 : Int) ≠ 5; decide⟩
        · cases h
end Go.Proofs.YtjijdgkccfeeaaaGreatDoor
namespace Go.Proofs.YtjijdgkccfeeaaaGreatDoor
open Go Go.Proofs
def wordS (x : Int × ByteArray × Int) : List ByteArray := wordQ ⟨x.1, 0, x.2.1, x.2.2⟩
theorem wordQ_strip (t : Tok) : wordQ t = wordS t.strip := rfl
theorem wordsQ_strip (ts : List Tok) : wordsQ ts = (ts.map Tok.strip).flatMap wordS := by
  unfold wordsQ
  rw [List.flatMap_map]
  rfl
def endS : Int × ByteArray × Int := (5, ⟨#[]⟩, 0)
def Worded (ps : List (List UInt8 × Tok)) : Prop := ∀ p ∈ ps, headT p.1 = .tok p.2 p.1.length
def sizes (ps : List (List UInt8 × Tok)) : Nat := (ps.map fun p => p.1.length + 1).sum
theorem lexA_words (l : List UInt8) : ∀ (k : Nat) (ts : List Tok), lexA l k = .ok ts → ∃ ps, Worded ps ∧ ts.map Tok.strip = ps.map (fun p => p.2.strip) ++ [endS] ∧ sizes ps ≤ 2 * l.length := by
  induction l using lex_ind with
  | nil => intro k ts h; rw [lexA_nil] at h; cases h; exact ⟨[], (fun p hp => absurd hp (by simp)), rfl, by simp [sizes]⟩
  | err l c hl h => intro k ts h2; rw [lexA_err hl h] at h2; cases h2
  | none l hl h => intro k ts h2; rw [lexA_none hl h] at h2; cases h2
  | tok l t tt h h0 h1 ih =>
    intro k ts h2
    rw [lexA_tok h] at h2
    obtain ⟨us, hus, rfl⟩ := cons_ok h2
    obtain ⟨ps, p1, p2, p3⟩ := ih _ us hus
    have hl : (l.take tt).length = tt := by rw [List.length_take, Nat.min_eq_left h1]
    refine ⟨(l.take tt, t) :: ps, fun p hp => ?_, by rw [List.map_cons, p2]; rfl, ?_⟩
    · rcases List.mem_cons.1 hp with rfl | hp
      · show headT (l.take tt) = .tok t (l.take tt).length
        rw [hl]; exact head_take h (Nat.le_refl _)
      · exact p1 p hp
    · simp only [List.length_drop] at p3
      simp only [sizes, List.map_cons, List.sum_cons, hl] at p3 ⊢
      omega
theorem head_fresh {l : List UInt8} {t : Tok} {tt : Nat} (h : headT l = .tok t tt) (y : List UInt8) : blankL false (l ++ y) = 0 := by
  cases l with
  | nil => rw [head_nil] at h; cases h
  | cons b l =>
    rw [List.cons_append]
    have nb : cls b ≠ 1 ∧ b ≠ 35 := by
      constructor
      · intro hb
        have hb2 : b ≠ 34 := fun e => by subst e; revert hb; decide
        have hlt : clsI b.toNat < 2 := by unfold cls at hb; omega
        have h32 : b = 32 ∨ b = 9 ∨ b = 10 ∨ b = 13 := by
          have := (cls1_iff (b.toNat : Int)).1 hb
          rcases this with e | e | e | e
          · exact .inl (UInt8.toNat_inj.1 (by simpa using Int.ofNat_inj.1 e))
          · exact .inr (.inl (UInt8.toNat_inj.1 (by simpa using Int.ofNat_inj.1 e)))
          · exact .inr (.inr (.inl (UInt8.toNat_inj.1 (by simpa using Int.ofNat_inj.1 e))))
          · exact .inr (.inr (.inr (UInt8.toNat_inj.1 (by simpa using Int.ofNat_inj.1 e))))
        rw [head_sign hlt hb2] at h
        have h := orChar_tok h
        rw [sgn_pairs _ pairs pairs_len] at h
        have n1 : (b :: l).take 2 ∉ pairs := fun hm => by
          have h3 : ∀ p ∈ pairs, p[0]! ≠ 32 ∧ p[0]! ≠ 9 ∧ p[0]! ≠ 10 ∧ p[0]! ≠ 13 ∧ p[0]! ≠ 35 := by decide
          have := h3 _ hm
          have e : ((b :: l).take 2)[0]! = b := rfl
          rw [e] at this
          rcases h32 with rfl | rfl | rfl | rfl <;> simp at this
        rw [if_neg n1] at h
        unfold sgnL at h
        rw [if_neg (by show ¬ 0 ≤ Lib.indexByte signText.data.toList b; rcases h32 with rfl | rfl | rfl | rfl <;> decide)] at h
        cases h
      · intro hb
        subst hb
        rw [head_sign (by decide) (by decide)] at h
        have h := orChar_tok h
        rw [sgn_pairs _ pairs pairs_len] at h
        have n1 : ((35 : UInt8) :: l).take 2 ∉ pairs := fun hm => by
          have h3 : ∀ p ∈ pairs, p[0]! ≠ 35 := by decide
          exact h3 _ hm rfl
        rw [if_neg n1] at h
        unfold sgnL at h
        rw [if_neg (by show ¬ 0 ≤ Lib.indexByte signText.data.toList 35; decide)] at h
        cases h
    simp only [blankL]
    rw [if_neg nb.1, if_neg nb.2]
theorem read_words : ∀ (ps : List (List UInt8 × Tok)), Worded ps → ∀ k, ∃ us, srcT (Lib.join (ps.map (·.1)) [32]) k = .ok us ∧ us.map Tok.strip = ps.map (fun p => p.2.strip) ++ [endS]
  | [], _, k => ⟨_, by show srcT [] k = _; unfold srcT; exact lexA_nil _, rfl⟩
  | [p], h, k => by
    have hp := h p (List.mem_cons_self ..)
    have hb := head_fresh hp []
    rw [List.append_nil] at hb
    refine ⟨[p.2.shift k, ⟨5, k + p.1.length, ⟨#[]⟩, 0⟩], ?_, rfl⟩
    rw [show Lib.join ([p].map (·.1)) [32] = p.1 from Lib.join_one _ _]
    unfold srcT
    rw [hb, List.drop_zero, Nat.add_zero, lexA_tok hp, List.drop_length]
    unfold srcT
    rw [show blankL false [] = 0 from rfl, List.drop_zero, Nat.add_zero, lexA_nil]
    simp [LR.cons]
  | p :: q :: ps, h, k => by
    have hp := h p (List.mem_cons_self ..)
    have hq := h q (by simp)
    obtain ⟨us, h1, h2⟩ := read_words (q :: ps) (fun r hr => h r (List.mem_cons_of_mem _ hr)) (k + p.1.length + 1)
    have hne : p.1 ≠ [] := fun e => by rw [e, head_nil] at hp; cases hp
    have ej : Lib.join ((p :: q :: ps).map (·.1)) [32] = p.1 ++ 32 :: Lib.join ((q :: ps).map (·.1)) [32] := by simp [Lib.join]
    have hh : headT (p.1 ++ 32 :: Lib.join ((q :: ps).map (·.1)) [32]) = .tok p.2 p.1.length := by
      rw [head_append hne ⟨32, _, rfl, by simp⟩ (.inl ⟨_, _, hp⟩), hp]
    refine ⟨p.2.shift k :: us, ?_, by rw [List.map_cons, h2]; rfl⟩
    rw [ej]
    unfold srcT
    rw [head_fresh hp, List.drop_zero, Nat.add_zero, lexA_tok hh, List.drop_left]
    have e2 : srcT (32 :: Lib.join ((q :: ps).map (·.1)) [32]) (k + p.1.length) = srcT (Lib.join ((q :: ps).map (·.1)) [32]) (k + p.1.length + 1) := by
      unfold srcT
      have : blankL false (32 :: Lib.join ((q :: ps).map (·.1)) [32]) = blankL false (Lib.join ((q :: ps).map (·.1)) [32]) + 1 := by
        simp only [blankL]; rw [if_pos (by decide)]
      rw [this, List.drop_succ_cons]
      congr 1
      omega
    rw [e2, h1]
    rfl
theorem worded_words : ∀ (ps : List (List UInt8 × Tok)), Worded ps → (ps.map fun p => p.2.strip).flatMap wordS = ps.map fun p => (⟨p.1.toArray⟩ : ByteArray)
  | [], _ => rfl
  | p :: ps, h => by
    have hp := h p (List.mem_cons_self ..)
    have h1 := (head_word hp).1
    rw [List.take_length] at h1
    rw [List.map_cons, List.flatMap_cons, ← wordQ_strip, h1, worded_words ps fun q hq => h q (List.mem_cons_of_mem _ hq)]
    rfl
theorem join_len : ∀ (ps : List (List UInt8 × Tok)), (Lib.join (ps.map (·.1)) [32]).length ≤ sizes ps
  | [] => by simp [Lib.join]
  | [p] => by simp [Lib.join, sizes]
  | p :: q :: ps => by
    have ih := join_len (q :: ps)
    have ej : Lib.join ((p :: q :: ps).map (·.1)) [32] = p.1 ++ 32 :: Lib.join ((q :: ps).map (·.1)) [32] := by simp [Lib.join]
    rw [ej]
    simp only [sizes, List.map_cons, List.sum_cons, List.length_append, List.length_cons] at ih ⊢
    omega
end Go.Proofs.YtjijdgkccfeeaaaGreatDoor
namespace Go.Proofs.YtjijdgkccfeeaaaGreatDoor
open Go Go.Proofs
theorem name_iff (s : ByteArray) : ∀ k : Nat, nameTo s k = true ↔ (0 < s.size ∧ s.size ≤ 32) ∧ ∀ i, i < k → letterB (s.data.toList.getD i 0) = true ∨ (0 < i ∧ digitB (s.data.toList.getD i 0) = true)
  | 0 => by simp [nameTo]
  | k + 1 => by
    simp only [nameTo, Bool.and_eq_true, name_iff s k, Bool.or_eq_true, decide_eq_true_eq]
    constructor
    · rintro ⟨⟨h1, h2⟩, h3⟩
      refine ⟨h1, fun i hi => ?_⟩
      rcases Nat.lt_or_ge i k with h | h
      · exact h2 i h
      · obtain rfl : i = k := by omega
        exact h3
    · rintro ⟨h1, h2⟩
      exact ⟨⟨h1, fun i hi => h2 i (by omega)⟩, h2 k (by omega)⟩
theorem text_iff (s : ByteArray) : ∀ k : Nat, textTo s k = false ↔ s.size ≤ 200 ∧ ∀ i, i < k → s.data.toList.getD i 0 = 10 ∨ (32 ≤ s.data.toList.getD i 0 ∧ s.data.toList.getD i 0 ≤ 126)
  | 0 => by simp [textTo]
  | k + 1 => by
    have e : (s.data.toList.getD k 0 != 10 && (decide (s.data.toList.getD k 0 < 32) || decide (126 < s.data.toList.getD k 0))) = false ↔ s.data.toList.getD k 0 = 10 ∨ (32 ≤ s.data.toList.getD k 0 ∧ s.data.toList.getD k 0 ≤ 126) := by
      generalize s.data.toList.getD k 0 = c
      by_cases h : c = 10
      · simp [h]
      · simp [h]
    simp only [textTo, Bool.or_eq_false_iff, text_iff s k]
    rw [e]
    constructor
    · rintro ⟨⟨h1, h2⟩, h3⟩
      refine ⟨h1, fun i hi => ?_⟩
      rcases Nat.lt_or_ge i k with h | h
      · exact h2 i h
      · obtain rfl : i = k := by omega
        exact h3
    · rintro ⟨h1, h2⟩
      exact ⟨⟨h1, fun i hi => h2 i (by omega)⟩, h2 k (by omega)⟩
theorem letter_cls (c : UInt8) : letterB c = true ↔ cls c = 3 := by
  unfold cls
  rw [cls3_iff]
  have e1 : ∀ a b : UInt8, a ≤ b ↔ a.toNat ≤ b.toNat := fun a b => UInt8.le_iff_toNat_le
  have e2 : c = 95 ↔ c.toNat = 95 := by rw [← UInt8.toNat_inj]; rfl
  simp only [letterB, Bool.or_eq_true, Bool.and_eq_true, decide_eq_true_eq, beq_iff_eq, e1, e2]
  show (97 ≤ c.toNat ∧ c.toNat ≤ 122 ∨ 65 ≤ c.toNat ∧ c.toNat ≤ 90) ∨ c.toNat = 95 ↔ _
  omega
theorem digit_cls (c : UInt8) : digitB c = true ↔ cls c = 2 := by
  rw [dig_iff]
  have e1 : ∀ a b : UInt8, a ≤ b ↔ a.toNat ≤ b.toNat := fun a b => UInt8.le_iff_toNat_le
  simp only [digitB, Bool.and_eq_true, decide_eq_true_eq, e1]
  exact Iff.rfl
theorem getD_mk (l : List UInt8) (i : Nat) : (ByteArray.mk l.toArray).data.toList.getD i 0 = l.getD i 0 := rfl
theorem takeWhile_all {p : UInt8 → Bool} : ∀ {l : List UInt8}, (∀ b ∈ l, p b = true) → l.takeWhile p = l
  | [], _ => rfl
  | b :: l, h => by rw [List.takeWhile_cons_of_pos (h b (by simp)), takeWhile_all fun x hx => h x (List.mem_cons_of_mem _ hx)]
theorem takeWhile_mem {p : UInt8 → Bool} {b : UInt8} : ∀ {l : List UInt8}, b ∈ l.takeWhile p → p b = true
  | c :: l, h => by
    by_cases hc : p c = true
    · rw [List.takeWhile_cons_of_pos hc] at h
      rcases List.mem_cons.1 h with rfl | h
      · exact hc
      · exact takeWhile_mem h
    · rw [List.takeWhile_cons_of_neg hc] at h; cases h
theorem span_all {c : Int} {l : List UInt8} (h : ∀ b ∈ l, c ≤ cls b) : spanL c l = l.length := by
  unfold spanL
  rw [takeWhile_all (fun b hb => by simpa using h b hb)]
theorem span_mem {c : Int} {l : List UInt8} (h : spanL c l = l.length) : ∀ b ∈ l, c ≤ cls b := by
  intro b hb
  unfold spanL at h
  have h1 : l.takeWhile (fun b => decide (c ≤ cls b)) = l := (List.takeWhile_sublist _).eq_of_length h
  rw [← h1] at hb
  simpa using takeWhile_mem hb
theorem getD_of {l : List UInt8} {i : Nat} (h : i < l.length) : l.getD i 0 ∈ l := by
  rw [List.getD_eq_getElem?_getD, List.getElem?_eq_getElem h]
  exact List.getElem_mem h
theorem mem_getD {l : List UInt8} {b : UInt8} (h : b ∈ l) : ∃ i, i < l.length ∧ l.getD i 0 = b := by
  obtain ⟨i, hi, rfl⟩ := List.mem_iff_getElem.1 h
  exact ⟨i, hi, by rw [List.getD_eq_getElem?_getD, List.getElem?_eq_getElem hi]; rfl⟩
def GoodTok (t : Tok) : Prop := (t.kind = 1 → badName t.s = false) ∧ (t.kind = 2 → badNum t.n = false) ∧ (t.kind = 3 → badText t.s = false)
theorem textL_chars (k0 : Nat) (t : Tok) (tt : Nat) (l : List UInt8) (j : Nat) (b : List UInt8) (hb : ∀ c ∈ b, c = 10 ∨ (32 ≤ c ∧ c ≤ 126)) (h : textL k0 l j b = .tok t tt) : ∀ c ∈ t.s.data.toList, c = 10 ∨ (32 ≤ c ∧ c ≤ 126) := by
  have key : ∀ {b : List UInt8} {x : UInt8}, (∀ c ∈ b, c = 10 ∨ (32 ≤ c ∧ c ≤ 126)) → (x = 10 ∨ (32 ≤ x ∧ x ≤ 126)) → ∀ c ∈ b ++ [x], c = 10 ∨ (32 ≤ c ∧ c ≤ 126) := fun h1 h2 c hc => by
    rcases List.mem_append.1 hc with hc | hc
    · exact h1 c hc
    · rw [List.mem_singleton.1 hc]; exact h2
  fun_induction textL k0 l j b with
  | case1 => cases h
  | case2 => cases h
  | case3 => cases h
  | case4 => cases h; exact hb
  | case5 => cases h
  | case6 => rename_i ih; exact ih (key hb (.inr (by decide))) h
  | case7 => rename_i ih; exact ih (key hb (.inr (by decide))) h
  | case8 => rename_i ih; exact ih (key hb (.inl rfl)) h
  | case9 => cases h
  | case10 => cases h
  | case11 => 
    rename_i h2 ih
    refine ih (key hb (.inr ?_)) h
    rw [UInt8.le_iff_toNat_le, UInt8.le_iff_toNat_le]
    show 32 ≤ _ ∧ _ ≤ 126
    omega
theorem head_right {l : List UInt8} {t : Tok} (h : headT l = .tok t l.length) : GoodTok t := by
  have hw := head_word h
  cases l with
  | nil => rw [head_nil] at h; cases h
  | cons b l =>
    rcases heads b with hb | hb | hb | ⟨hb, hb2⟩
    · rw [head_name hb] at h
      split at h
      · cases h
      · rename_i h32
        have hsp : spanL 2 (b :: l) = (b :: l).length := by injection h
        have hm := span_mem hsp
        rw [hsp, List.take_length] at h
        have ht : t = ⟨1, 0, ⟨(b :: l).toArray⟩, 0⟩ := by injection h with h _; exact h.symm
        subst ht
        refine ⟨fun _ => ?_, (fun h => by cases h), (fun h => by cases h)⟩
        show badName ⟨(b :: l).toArray⟩ = false
        unfold badName
        rw [Bool.not_eq_false', name_iff]
        have hsz : (ByteArray.mk (b :: l).toArray).size = (b :: l).length := rfl
        rw [hsz]
        refine ⟨⟨by simp, by omega⟩, fun i hi => ?_⟩
        rw [getD_mk]
        have h1 := hm _ (getD_of hi)
        have h2 := cls_bd ((b :: l).getD i 0).toNat
        have h3 : cls ((b :: l).getD i 0) = 2 ∨ cls ((b :: l).getD i 0) = 3 := by unfold cls at h1 ⊢; omega
        rcases h3 with h3 | h3
        · refine .inr ⟨?_, (digit_cls _).2 h3⟩
          rcases Nat.eq_zero_or_pos i with rfl | h4
          · have : cls b = 3 := hb
            rw [show (b :: l).getD 0 0 = b from rfl, this] at h3
            cases h3
          · exact h4
        · exact .inl ((letter_cls _).2 h3)
    · rw [head_num hb] at h
      have h0 := numOf_tok h
      obtain ⟨m, hm⟩ : ∃ m, spanL 2 (b :: l) = m + 1 := ⟨spanL 2 (b :: l) - 1, by rw [← h0]; simp⟩
      rw [hm, List.take_succ_cons] at h
      have hall : ∀ x ∈ b :: l.take m, cls x = 2 := by
        intro x hx
        by_cases hx2 : cls x = 2
        · exact hx2
        · rw [numOf_bad hb ⟨x, hx, hx2⟩] at h; cases h
      have hlen : (l.take m).length < 15 := by
        rcases Nat.lt_or_ge (l.take m).length 15 with h1 | h1
        · exact h1
        · rw [numOf_long (by show 15 < (b :: l.take m).length; simp at h1 ⊢; omega)] at h; cases h
      have hz : ¬ (1 < (l.take m).length + 1 ∧ b = 48) := fun hz => by
        rw [numOf_zero (by show 1 < (b :: l.take m).length; simpa using hz.1) (by rw [hz.2]; rfl)] at h; cases h
      rw [numOf_ok hall hlen hz] at h
      have hb2 : (0 + 1) * 10 ^ (b :: l.take m).length ≤ 10 ^ 15 := by rw [Nat.zero_add, Nat.one_mul]; exact pow_bound (by simp at hlen ⊢; omega)
      have hv := Nat.lt_of_lt_of_le (valL_lt (b :: l.take m) 0 hall) hb2
      have ht : t = ⟨2, 0, ⟨#[]⟩, valL 0 (b :: l.take m)⟩ := by injection h with h _; exact h.symm
      subst ht
      refine ⟨(fun h => by cases h), fun _ => ?_, (fun h => by cases h)⟩
      show badNum ((valL 0 (b :: l.take m) : Nat) : Int) = false
      unfold badNum
      simp only [Bool.or_eq_false_iff, decide_eq_false_iff_not]
      omega
    · subst hb
      rw [head_text] at h
      have h1 := textL_chars 0 t _ l 1 [] (fun c hc => by cases hc) h
      obtain ⟨⟨h2, h3⟩, -⟩ := textL_word 0 t _ _ l (Nat.le_refl _) 1 [] h
      refine ⟨(fun h => by omega), (fun h => by omega), fun _ => ?_⟩
      unfold badText
      rw [text_iff]
      refine ⟨hw.2.2.2.1, fun i hi => h1 _ (getD_of (by simpa using hi))⟩
    · rw [head_sign hb hb2] at h
      have h := orChar_tok h
      have h4 : t.kind = 4 := by
        rw [sgn_pairs _ pairs pairs_len] at h
        split at h
        · injection h with h _; rw [← h]
        · unfold sgnL at h
          split at h
          · injection h with h _; rw [← h]
          · cases h
      exact ⟨(fun h => by omega), (fun h => by omega), (fun h => by omega)⟩
def WordT (t : Tok) : Prop := ∃ (w : List UInt8) (u : Tok), headT w = .tok u w.length ∧ u.strip = t.strip
theorem word_name {s : ByteArray} (h : badName s = false) : WordT (nmT s) := by
  unfold badName at h
  rw [Bool.not_eq_false', name_iff] at h
  obtain ⟨⟨h1, h2⟩, h3⟩ := h
  have hl : s.data.toList.length = s.size := by simp
  have hc : ∀ b ∈ s.data.toList, 2 ≤ cls b := fun b hb => by
    obtain ⟨i, hi, rfl⟩ := mem_getD hb
    rcases h3 i (by omega) with h4 | ⟨-, h4⟩
    · rw [(letter_cls _).1 h4]; decide
    · rw [(digit_cls _).1 h4]; decide
  have h0 : cls (s.data.toList.getD 0 0) = 3 := by
    rcases h3 0 h1 with h4 | ⟨h4, -⟩
    · exact (letter_cls _).1 h4
    · omega
  refine ⟨s.data.toList, ⟨1, 0, s, 0⟩, ?_, rfl⟩
  have hsp := span_all hc
  generalize hL : s.data.toList = L at *
  cases L with
  | nil => simp at hl; omega
  | cons b l =>
    rw [head_name (show clsI (b.toNat : Int) = 3 from h0), hsp, if_neg (by omega), List.take_length]
    have : s = ⟨(b :: l).toArray⟩ := by apply ByteArray.ext; apply Array.ext'; rw [hL]
    rw [← this]
theorem dec_all : ∀ u : Nat, (∀ b ∈ Lib.decDigits u, cls b = 2) ∧ valL 0 (Lib.decDigits u) = u ∧ Lib.decDigits u ≠ [] ∧ (∀ l, Lib.decDigits u = 48 :: l → u = 0 ∧ l = []) := by
  have dig : ∀ v, v < 10 → (UInt8.ofNat (48 + v)).toNat = 48 + v := fun v hv => by simp [UInt8.toNat_ofNat']; omega
  intro u
  induction u using Nat.strongRecOn with
  | _ u ih =>
    rw [Lib.decDigits]
    split
    · rename_i h
      refine ⟨fun b hb => ?_, ?_, by simp, fun l hl => ?_⟩
      · rw [List.mem_singleton.1 hb, dig_iff, dig u h]; omega
      · show 0 * 10 + ((UInt8.ofNat (48 + u)).toNat - 48) = u
        rw [dig u h]; omega
      · simp only [List.cons.injEq] at hl
        have h2 := congrArg UInt8.toNat hl.1
        rw [dig u h] at h2
        have : (48 : UInt8).toNat = 48 := rfl
        exact ⟨by omega, hl.2.symm⟩
    · rename_i h
      obtain ⟨h1, h2, h3, h4⟩ := ih (u / 10) (by omega)
      refine ⟨fun b hb => ?_, ?_, by simp, fun l hl => ?_⟩
      · rcases List.mem_append.1 hb with hb | hb
        · exact h1 b hb
        · rw [List.mem_singleton.1 hb, dig_iff, dig _ (by omega)]; omega
      · rw [valL_snoc, h2, dig _ (by omega)]; omega
      · exfalso
        generalize hd : Lib.decDigits (u / 10) = D at *
        cases D with
        | nil => exact h3 rfl
        | cons c D =>
          rw [List.cons_append, List.cons.injEq] at hl
          obtain ⟨h5, h6⟩ := h4 D (by rw [hl.1])
          omega
theorem word_num {n : Int} (h : badNum n = false) : WordT (nuT n) := by
  unfold badNum at h
  simp only [Bool.or_eq_false_iff, decide_eq_false_iff_not] at h
  obtain ⟨u, rfl⟩ : ∃ u : Nat, n = u := ⟨n.toNat, by omega⟩
  obtain ⟨h1, h2, h3, h4⟩ := dec_all u
  have h5 := dec_len 14 u (by omega)
  refine ⟨Lib.decDigits u, ⟨2, 0, ⟨#[]⟩, u⟩, ?_, rfl⟩
  have hsp : spanL 2 (Lib.decDigits u) = (Lib.decDigits u).length := span_all fun b hb => by rw [h1 b hb]; decide
  generalize hD : Lib.decDigits u = D at *
  cases D with
  | nil => exact absurd rfl h3
  | cons c D =>
    rw [head_num (show clsI (c.toNat : Int) = 2 from h1 c (by simp)), hsp, List.take_length, numOf_ok h1 (by simp at h5; omega) (fun hz => by
      obtain ⟨-, h6⟩ := h4 D (by rw [hz.2])
      rw [h6] at hz
      simp at hz), h2]
    rfl
theorem textL_esc_all (k0 : Nat) : ∀ (c : List UInt8) (j : Nat) (b : List UInt8), b.length + c.length ≤ 200 → (∀ x ∈ c, x = 10 ∨ (32 ≤ x ∧ x ≤ 126)) → textL k0 (escL c ++ [34]) j b = .tok ⟨3, k0, ⟨(b ++ c).toArray⟩, 0⟩ (j + (escL c).length + 1)
  | [], j, b, h, _ => by
    show textL k0 [34] j b = _
    rw [textL_quote _ _ _ _ (by simp at h; omega), List.append_nil]
    rfl
  | x :: c, j, b, h, hc => by
    have e : escL (x :: c) ++ [34] = esc x ++ (escL c ++ [34]) := by simp [escL]
    have el : (escL (x :: c)).length = (esc x).length + (escL c).length := by simp [escL]
    have e2 : b ++ x :: c = (b ++ [x]) ++ c := by simp
    have hl : (b ++ [x]).length + c.length ≤ 200 := by simp at h ⊢; omega
    have hb : ¬ 200 < b.length := by simp at h; omega
    have ih := fun j => textL_esc_all k0 c j (b ++ [x]) hl (fun y hy => hc y (List.mem_cons_of_mem _ hy))
    rw [e, el, e2]
    unfold esc
    by_cases h10 : x = 10
    · subst h10
      rw [if_pos rfl]
      show textL k0 (92 :: 110 :: (escL c ++ [34])) j b = _
      rw [textL_esc _ _ _ _ _ hb, if_neg (by decide), if_neg (by decide), if_pos rfl, ih]
      congr 1
      show _ = j + (2 + _) + 1
      omega
    rw [if_neg h10]
    by_cases h92 : x = 92
    · subst h92
      rw [if_pos rfl]
      show textL k0 (92 :: 92 :: (escL c ++ [34])) j b = _
      rw [textL_esc _ _ _ _ _ hb, if_neg (by decide), if_pos rfl, ih]
      congr 1
      show _ = j + (2 + _) + 1
      omega
    rw [if_neg h92]
    by_cases h34 : x = 34
    · subst h34
      rw [if_pos rfl]
      show textL k0 (92 :: 34 :: (escL c ++ [34])) j b = _
      rw [textL_esc _ _ _ _ _ hb, if_pos rfl, ih]
      congr 1
      show _ = j + (2 + _) + 1
      omega
    rw [if_neg h34]
    show textL k0 (x :: (escL c ++ [34])) j b = _
    have hx : ¬ (x.toNat < 32 ∨ 126 < x.toNat) := by
      rcases hc x (by simp) with h1 | ⟨h1, h2⟩
      · exact absurd h1 h10
      · rw [UInt8.le_iff_toNat_le] at h1 h2
        have e1 : (32 : UInt8).toNat = 32 := rfl
        have e2 : (126 : UInt8).toNat = 126 := rfl
        omega
    rw [textL_step _ _ _ _ _ hb h34 h92 hx, ih]
    congr 1
    show _ = j + (1 + _) + 1
    omega
theorem word_text {s : ByteArray} (h : badText s = false) : WordT (txT s) := by
  unfold badText at h
  rw [text_iff] at h
  have hl : s.data.toList.length = s.size := by simp
  refine ⟨34 :: (escL s.data.toList ++ [34]), ⟨3, 0, s, 0⟩, ?_, rfl⟩
  rw [head_text, textL_esc_all 0 s.data.toList 1 [] (by simp; omega) (fun x hx => by
    obtain ⟨i, hi, rfl⟩ := mem_getD hx
    exact h.2 i (by omega))]
  have e : (⟨([] ++ s.data.toList).toArray⟩ : ByteArray) = s := by apply ByteArray.ext; apply Array.ext'; simp
  rw [e]
  congr 1
  simp
  omega
def printSigns : List (List UInt8) := [[40], [41], [44], [33], [45], [63], [58], [45, 62], [59], [123], [125], [42], [47], [37], [43], [61, 61], [33, 61], [60], [60, 61], [62], [62, 61], [38, 38], [124, 124]]
theorem head_signs : (printSigns.all fun w => match headT w with | .tok u n => decide (u.kind = 4) && u.s.data.toList == w && decide (u.n = 0) && n == w.length | _ => false) = true := by kernel_rfl
theorem word_sign {s : ByteArray} (h : s.data.toList ∈ printSigns) : WordT (sgT s) := by
  have h1 := List.all_eq_true.1 head_signs _ h
  cases hh : headT s.data.toList with
  | tok u n =>
    rw [hh] at h1
    simp only [Bool.and_eq_true, decide_eq_true_eq, beq_iff_eq] at h1
    obtain ⟨⟨⟨h2, h3⟩, h4⟩, h5⟩ := h1
    subst h5
    refine ⟨_, u, hh, ?_⟩
    have : u.s = s := by apply ByteArray.ext; apply Array.ext'; exact h3
    simp [Tok.strip, sgT, h2, h4, this]
  | _ => rw [hh] at h1; cases h1
end Go.Proofs.YtjijdgkccfeeaaaGreatDoor
