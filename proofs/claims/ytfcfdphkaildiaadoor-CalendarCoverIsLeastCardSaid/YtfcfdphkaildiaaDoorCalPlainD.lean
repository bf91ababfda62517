/- Plain laws of the calendar: blocks that follow one another, and Cover's recursion. Conditions: none beyond each lemma's own. -/
import Derived.Test.YtfcfdphkaildiaaDoorCalPlainC
namespace Go.Proofs.YtfcfdphkaildiaaDoor

abbrev Bn := Int × Int × Int

/-- the blocks follow one another from a to b, and each is not empty -/
def Chain : Int → List Bn → Int → Prop
  | a, [], b => a = b
  | a, x :: xs, b => x.2.1 = a ∧ a < x.2.2 ∧ Chain x.2.2 xs b

theorem Chain.le : ∀ {xs : List Bn} {a b : Int}, Chain a xs b → a + xs.length ≤ b
  | [], a, b, h => by simp [Chain] at h; simp; omega
  | x :: xs, a, b, ⟨h1, h2, h3⟩ => by have := h3.le; simp; omega
theorem Chain.append : ∀ {xs ys : List Bn} {a b c : Int}, Chain a xs b → Chain b ys c → Chain a (xs ++ ys) c
  | [], ys, a, b, c, h, h' => by simp [Chain] at h; subst h; exact h'
  | x :: xs, ys, a, b, c, ⟨h1, h2, h3⟩, h' => ⟨h1, h2, h3.append h'⟩

/-- where the blocks end: f, if there are none -/
def atEnd (f : Int) : List Bn → Int
  | [] => f
  | x :: xs => atEnd x.2.2 xs
theorem Chain.atEnd : ∀ {xs : List Bn} {a b : Int}, Chain a xs b → ∀ f, (xs = [] → f = b) → atEnd f xs = b
  | [], a, b, h, f, hf => hf rfl
  | x :: xs, a, b, ⟨h1, h2, h3⟩, f, hf => by
    simp only [Proofs.YtfcfdphkaildiaaDoor.atEnd]
    exact h3.atEnd _ (fun hx => by subst hx; exact h3)
theorem atEnd_snoc : ∀ (xs : List Bn) (f : Int) (x : Bn), atEnd f (xs ++ [x]) = x.2.2
  | [], _, _ => rfl
  | y :: ys, _, x => atEnd_snoc ys y.2.2 x

theorem Chain.take : ∀ {xs : List Bn} {a b : Int} (k : Nat), Chain a xs b → Chain a (xs.take k) (Proofs.YtfcfdphkaildiaaDoor.atEnd a (xs.take k))
  | [], a, b, k, h => by simp [Proofs.YtfcfdphkaildiaaDoor.atEnd, Chain]
  | x :: xs, a, b, 0, h => by simp [Proofs.YtfcfdphkaildiaaDoor.atEnd, Chain]
  | x :: xs, a, b, k + 1, ⟨h1, h2, h3⟩ => ⟨h1, h2, by
      have := h3.take k
      cases hx : xs.take k with
      | nil => rw [hx] at this; simp [Proofs.YtfcfdphkaildiaaDoor.atEnd, Chain, hx]
      | cons y ys => rw [hx] at this; simpa [Proofs.YtfcfdphkaildiaaDoor.atEnd, hx] using this⟩
theorem atEnd_any (f g : Int) : ∀ {xs : List Bn}, xs ≠ [] → atEnd f xs = atEnd g xs
  | [], h => absurd rfl h
  | _ :: _, _ => rfl
theorem Chain.atEnd_gt {xs : List Bn} {a b f : Int} {k : Nat} (h : Chain a xs b) (hk : 0 < k) (hk2 : k ≤ xs.length) (hf : f ≤ a) : f < Proofs.YtfcfdphkaildiaaDoor.atEnd f (xs.take k) := by
  have hne : xs.take k ≠ [] := by
    intro h; rw [List.take_eq_nil_iff] at h; rcases h with h | h
    · omega
    · subst h; simp at hk2; omega
  have := (h.take k).le
  rw [List.length_take_of_le hk2] at this
  rw [atEnd_any f a hne]; omega

/-- a block of level l that is there -/
def IsBlk (l : Int) (x : Bn) : Prop := x.1 = l ∧ 0 ≤ x.2.1 ∧ x.2.1 < 1402560 ∧ lo l x.2.1 = x.2.1 ∧ hi l x.2.1 = x.2.2

theorem lo_lo {l t : Int} (l0 : 0 ≤ l) (l1 : l ≤ 4) (t0 : 0 ≤ t) (t1 : t < 1402560) : lo l (lo l t) = lo l t ∧ hi l (lo l t) = hi l t := by
  have h := lh l t l0 l1 t0 t1
  have h' := lh l (lo l t) l0 l1 h.a0 (by have := h.lo; omega)
  have e1 : lo l (lo l t) = lo l t := by
    rcases Int.lt_or_le (lo l (lo l t)) (lo l t) with c | c
    · have := h'.sm (lo l t) c h'.hi; rw [h.sa] at this; cases this
    · have := h'.lo; omega
  refine ⟨e1, ?_⟩
  have hh := h'.hi
  rcases Int.lt_trichotomy (hi l (lo l t)) (hi l t) with c | c | c
  · have := h.sm (hi l (lo l t)) hh c; rw [h'.sb] at this; cases this
  · exact c
  · have := h'.sm (hi l t) (by have := h.lo; have := h.hi; have := h'.lo; omega) c; rw [h.sb] at this; cases this
theorem lo_hi {l t : Int} (l0 : 0 ≤ l) (l1 : l ≤ 4) (t0 : 0 ≤ t) (t1 : t < 1402560) (h2 : hi l t < 1402560) : lo l (hi l t) = hi l t := by
  have h := lh l t l0 l1 t0 t1
  have h' := lh l (hi l t) l0 l1 (by have := h.hi; omega) h2
  rcases Int.lt_or_le (lo l (hi l t)) (hi l t) with c | c
  · have := h'.sm (hi l t) c h'.hi; rw [h.sb] at this; cases this
  · have := h'.lo; omega
/-- where a block begins, and nowhere between two of them -/
theorem lo_eq_of_start {l t : Int} (l0 : 0 ≤ l) (l1 : l ≤ 4) (t0 : 0 ≤ t) (t1 : t < 1402560) (hs : startB l t = true) : lo l t = t := by
  have h := lh l t l0 l1 t0 t1
  rcases Int.lt_or_le (lo l t) t with c | c
  · have := h.sm t c h.hi; rw [hs] at this; cases this
  · have := h.lo; omega

/-- from a place where a block begins -/
theorem insP_chain (l t : Int) (l0 : 0 ≤ l) (l1 : l ≤ 4) (ht : t ≤ 1402560) : ∀ (n : Nat) (f : Int), 0 ≤ f → (t - f).toNat ≤ n → (f < t → lo l f = f) →
    ∃ b, Chain f (insP n l f t) b ∧ (b ≤ t ∨ insP n l f t = []) ∧ (∀ x ∈ insP n l f t, IsBlk l x) ∧ (b < t → t < hi l b) ∧ (insP n l f t = [] ∨ startB l b = true) := by
  intro n
  induction n with
  | zero =>
    intro f f0 hn hs
    exact ⟨f, rfl, .inr rfl, by simp [insP], fun h => by omega, .inl rfl⟩
  | succ n ih =>
    intro f f0 hn hs
    simp only [insP]
    by_cases hf : f < t
    · have h := lh l f l0 l1 f0 (by omega)
      have hh := h.hi
      rw [if_pos hf]
      by_cases hb : t < hi l f
      · rw [if_pos hb]
        exact ⟨f, rfl, .inr rfl, by simp, fun _ => hb, .inl rfl⟩
      · rw [if_neg hb, if_pos (by rw [hs hf]; exact Int.le_refl _)]
        obtain ⟨b, h1, h2, h3, h4, h5⟩ := ih (hi l f) (by omega) (by omega) (fun hlt => lo_hi l0 l1 f0 (by omega) (by omega))
        refine ⟨b, ⟨hs hf, hh, h1⟩, ?_, ?_, h4, .inr ?_⟩
        · rcases h2 with h2 | h2
          · exact .inl h2
          · rw [h2] at h1; simp [Chain] at h1; left; omega
        · intro x hx
          rcases List.mem_cons.1 hx with rfl | hx
          · exact ⟨rfl, h.a0, by have := h.lo; show lo l f < _; omega, (lo_lo l0 l1 f0 (by omega)).1, (lo_lo l0 l1 f0 (by omega)).2⟩
          · exact h3 x hx
        · rcases h5 with h5 | h5
          · rw [h5] at h1; simp [Chain] at h1; rw [← h1]; exact h.sb
          · exact h5
    · rw [if_neg hf]
      exact ⟨f, rfl, .inr rfl, by simp, fun h => by omega, .inl rfl⟩

/-- the shape of the list: it begins at f, if a block begins there, else where the next one begins -/
theorem insL_shape {l f t : Int} (l0 : 0 ≤ l) (l1 : l ≤ 4) (f0 : 0 ≤ f) (ht : t ≤ 1402560) (hft : f < t) :
    (insL l f t = [] ∧ t < (if lo l f = f then hi l f else if hi l f < t then hi l (hi l f) else t + 1)) ∨
    ∃ a b, insL l f t ≠ [] ∧ a = (if lo l f = f then f else hi l f) ∧ f ≤ a ∧ b ≤ t ∧ Chain a (insL l f t) b ∧ (∀ x ∈ insL l f t, IsBlk l x) ∧ (b < t → t < hi l b) ∧ startB l a = true ∧ startB l b = true := by
  have h := lh l f l0 l1 f0 (by omega)
  have hh := h.hi
  by_cases hs : lo l f = f
  · obtain ⟨b, h1, h2, h3, h4, h5⟩ := insP_chain l t l0 l1 ht (t - f).toNat f f0 (Nat.le_refl _) (fun _ => hs)
    by_cases he : insL l f t = []
    · refine .inl ⟨he, ?_⟩
      rw [if_pos hs]
      have : insP (t - f).toNat l f t = [] := he
      rw [this] at h1; simp [Chain] at h1; subst h1
      exact h4 hft
    · refine .inr ⟨f, b, he, by rw [if_pos hs], Int.le_refl _, ?_, h1, h3, h4, by rw [← hs]; exact h.sa, ?_⟩
      · rcases h2 with h2 | h2
        · exact h2
        · exact absurd h2 he
      · rcases h5 with h5 | h5
        · exact absurd h5 he
        · exact h5
  · by_cases hb : t < hi l f
    · refine .inl ⟨insL_out l0 l1 f0 ht hft hb, ?_⟩
      rw [if_neg hs, if_neg (by omega)]; omega
    · have hskip := insL_skip l0 l1 f0 ht hft hb (by have := h.lo; omega)
      obtain ⟨b, h1, h2, h3, h4, h5⟩ := insP_chain l t l0 l1 ht (t - hi l f).toNat (hi l f) (by omega) (Nat.le_refl _) (fun hlt => lo_hi l0 l1 f0 (by omega) (by omega))
      have he' : insL l f t = insP (t - hi l f).toNat l (hi l f) t := hskip
      rw [← he'] at h1 h2 h3 h5
      by_cases he : insL l f t = []
      · refine .inl ⟨he, ?_⟩
        rw [if_neg hs]
        rw [he] at h1; simp [Chain] at h1
        split
        · rw [h1]; exact h4 (by omega)
        · omega
      · refine .inr ⟨hi l f, b, he, by rw [if_neg hs], by omega, ?_, h1, h3, h4, h.sb, ?_⟩
        · rcases h2 with h2 | h2
          · exact h2
          · exact absurd h2 he
        · rcases h5 with h5 | h5
          · exact absurd h5 he
          · exact h5

/-- one level of Cover -/
def covOne (rec : Int → Int → List Bn) (l f t : Int) : List Bn :=
  if t ≤ f then [] else
  (match insL l f t with | [] => [] | x :: _ => if f < x.2.1 then rec f x.2.1 else []) ++ insL l f t ++ (if atEnd f (insL l f t) < t then rec (atEnd f (insL l f t)) t else [])
def covN : Nat → Int → Int → List Bn
  | 0 => covOne (fun _ _ => []) 0
  | n + 1 => covOne (covN n) ((n : Int) + 1)

theorem covOne_len (rec : Int → Int → List Bn) (l f t : Int) (l0 : 0 ≤ l) (l1 : l ≤ 4) (f0 : 0 ≤ f) (ht : t ≤ 1402560)
    (hrec : ∀ f' t', f ≤ f' → f' < t' → t' ≤ t → ((rec f' t').length : Int) ≤ t' - f') : ((covOne rec l f t).length : Int) ≤ max 0 (t - f) := by
  unfold covOne
  by_cases hft : t ≤ f
  · rw [if_pos hft]; simp; omega
  rw [if_neg hft]
  rcases insL_shape l0 l1 f0 ht (by omega : f < t) with ⟨he, -⟩ | ⟨a, b, hne, -, hfa, hbt, hch, -⟩
  · rw [he]
    rw [if_pos (show atEnd f [] < t from (by omega : f < t))]
    have := hrec f t (Int.le_refl _) (by omega) (Int.le_refl _)
    show ((rec f t).length : Int) ≤ _
    omega
  · have hend := hch.atEnd f (fun h => absurd h hne)
    rw [hend]
    have hlen := hch.le
    have hr2 : ((if b < t then rec b t else []).length : Int) ≤ t - b := by
      split
      · exact hrec b t (by omega) (by omega) (Int.le_refl _)
      · simp; omega
    cases hx : insL l f t with
    | nil => exact absurd hx hne
    | cons x xs =>
      rw [hx] at hch hlen
      obtain ⟨h1, h2, h3⟩ := hch
      have := h3.le
      have hr1 : ((if f < x.2.1 then rec f x.2.1 else []).length : Int) ≤ a - f := by
        split
        · rw [h1]; exact hrec f a (Int.le_refl _) (by omega) (by omega)
        · simp; omega
      simp only [List.length_append]
      push_cast
      omega

theorem covN_len : ∀ (n : Nat) (f t : Int), n ≤ 4 → 0 ≤ f → t ≤ 1402560 → ((covN n f t).length : Int) ≤ max 0 (t - f)
  | 0, f, t, _, f0, ht => covOne_len _ 0 f t (by omega) (by omega) f0 ht (fun f' t' _ h _ => by simp; omega)
  | n + 1, f, t, hn, f0, ht => covOne_len _ _ f t (by omega) (by omega) f0 ht (fun f' t' h1 h2 h3 => by have := covN_len n f' t' (by omega) (by omega) (by omega); omega)

/-- at level 0 nothing is left over -/
theorem insL_zero {f t : Int} (f0 : 0 ≤ f) (ht : t ≤ 1402560) (hft : f < t) : insL 0 f t ≠ [] ∧ Chain f (insL 0 f t) t := by
  have e0 : ∀ x, lo 0 x = x := fun x => by simp [lo]
  have e1 : ∀ x, hi 0 x = x + 1 := fun x => by simp [hi]
  rcases insL_shape (l := 0) (by omega) (by omega) f0 ht hft with ⟨he, h⟩ | ⟨a, b, hne, ha, hfa, hbt, hch, hall, hb, -, -⟩
  · rw [if_pos (e0 f), e1] at h; omega
  · rw [if_pos (e0 f)] at ha
    subst ha
    have : b = t := by
      rcases Int.lt_or_le b t with c | c
      · have := hb c; rw [e1] at this; omega
      · omega
    subst this
    exact ⟨hne, hch⟩
end Go.Proofs.YtfcfdphkaildiaaDoor
