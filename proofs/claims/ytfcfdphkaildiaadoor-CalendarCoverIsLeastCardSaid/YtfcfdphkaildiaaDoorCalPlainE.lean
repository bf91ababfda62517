/- Plain laws of the calendar: the cover by levels is the one that takes the greatest block at each place. Conditions: none beyond each lemma's own. -/
import Derived.Test.YtfcfdphkaildiaaDoorCalPlainD
namespace Go.Proofs.YtfcfdphkaildiaaDoor

/-- the greatest block of a level up to n that begins at f and does not go beyond t -/
def bestN : Nat → Int → Int → Bn
  | 0, f, _ => (0, f, f + 1)
  | n + 1, f, t => if lo ((n : Int) + 1) f = f ∧ hi ((n : Int) + 1) f ≤ t then ((n : Int) + 1, f, hi ((n : Int) + 1) f) else bestN n f t
/-- the list takes the greatest block at each place -/
def IsGre (n : Nat) : Int → Int → List Bn → Prop
  | f, t, [] => t ≤ f
  | f, t, x :: xs => f < t ∧ x = bestN n f t ∧ IsGre n x.2.2 t xs

theorem IsGre.unique {n : Nat} : ∀ {xs ys : List Bn} {f t : Int}, IsGre n f t xs → IsGre n f t ys → xs = ys
  | [], [], _, _, _, _ => rfl
  | [], y :: ys, f, t, h, ⟨k, _, _⟩ => by simp only [IsGre] at h; omega
  | x :: xs, [], f, t, ⟨k, _, _⟩, h => by simp only [IsGre] at h; omega
  | x :: xs, y :: ys, f, t, ⟨_, h1, h2⟩, ⟨_, k1, k2⟩ => by
    have e : x = y := h1.trans k1.symm
    subst e
    rw [IsGre.unique h2 k2]

theorem best_spec : ∀ (n : Nat) (f t : Int), n ≤ 4 → 0 ≤ f → f < t → t ≤ 1402560 → (bestN n f t).2.1 = f ∧ f < (bestN n f t).2.2 ∧ (bestN n f t).2.2 ≤ t
  | 0, f, t, _, f0, hf, ht => ⟨rfl, by show f < f + 1; omega, by show f + 1 ≤ t; omega⟩
  | n + 1, f, t, hn, f0, hf, ht => by
    simp only [bestN]
    split
    · rename_i h
      have := (lh ((n : Int) + 1) f (by omega) (by omega) f0 (by omega)).hi
      exact ⟨rfl, this, h.2⟩
    · exact best_spec n f t (by omega) f0 hf ht

theorem best_top (n : Nat) (a t : Int) (h0 : lo (n : Int) a = a) (h1 : hi (n : Int) a ≤ t) : bestN n a t = ((n : Int), a, hi (n : Int) a) := by
  cases n with
  | zero => simp [bestN, hi]
  | succ n =>
    simp only [bestN]
    push_cast at h0 h1 ⊢
    rw [if_pos ⟨h0, h1⟩]

theorem startB_down {l l' x : Int} (l0 : 0 ≤ l') (hl : l' ≤ l) (l4 : l ≤ 4) (h : startB l x = true) : startB l' x = true := by
  have hl' : l' = 0 ∨ l' = 1 ∨ l' = 2 ∨ l' = 3 ∨ l' = 4 := by omega
  have hll : l = 0 ∨ l = 1 ∨ l = 2 ∨ l = 3 ∨ l = 4 := by omega
  rcases hl' with rfl | rfl | rfl | rfl | rfl <;> rcases hll with rfl | rfl | rfl | rfl | rfl <;> simp_all [startB] <;> omega

/-- behind a place where a block of a level begins no block that begins ahead of it reaches -/
theorem hi_le_of_start {l x a : Int} (l0 : 0 ≤ l) (l1 : l ≤ 4) (x0 : 0 ≤ x) (x1 : x < 1402560) (hx : x < a) (ha : startB l a = true) : hi l x ≤ a := by
  have h := lh l x l0 l1 x0 x1
  rcases Int.lt_or_le a (hi l x) with c | c
  · have := h.sm a (by have := h.lo; omega) c
    rw [ha] at this; cases this
  · exact c

theorem best_same : ∀ (n : Nat) (f a t : Int), n ≤ 4 → 0 ≤ f → f < a → a ≤ t → a ≤ 1402560 → (∀ l' : Int, 0 ≤ l' → l' ≤ n → startB l' a = true) → bestN n f t = bestN n f a
  | 0, _, _, _, _, _, _, _, _, _ => rfl
  | n + 1, f, a, t, hn, f0, hf, ht, ha, hs => by
    simp only [bestN]
    have e := hi_le_of_start (l := (n : Int) + 1) (x := f) (a := a) (by omega) (by omega) f0 (by omega) hf (hs _ (by omega) (by omega))
    rw [best_same n f a t (by omega) f0 hf ht ha (fun l' h1 h2 => hs l' h1 (by omega))]
    by_cases c : lo ((n : Int) + 1) f = f
    · rw [if_pos ⟨c, by omega⟩, if_pos ⟨c, e⟩]
    · rw [if_neg (fun h => c h.1), if_neg (fun h => c h.1)]

theorem gre_low {n : Nat} {a t : Int} (hn : n ≤ 3) (hat : a ≤ t) (ha : a ≤ 1402560) (hs : ∀ l' : Int, 0 ≤ l' → l' ≤ n → startB l' a = true) {M : List Bn} (hM : IsGre (n + 1) a t M) :
    ∀ (L : List Bn) (f : Int), 0 ≤ f → f ≤ a → (∀ x, f ≤ x → x < a → lo ((n : Int) + 1) x ≠ x) → IsGre n f a L → IsGre (n + 1) f t (L ++ M)
  | [], f, f0, hf, _, h => by
    simp only [IsGre] at h
    obtain rfl : f = a := by omega
    exact hM
  | x :: xs, f, f0, hf, hne, ⟨h1, h2, h3⟩ => by
    have hb := best_spec n f a (by omega) f0 h1 ha
    rw [← h2] at hb
    refine ⟨by omega, ?_, gre_low hn hat ha hs hM xs x.2.2 (by omega) (by omega) (fun y h4 h5 => hne y (by omega) h5) h3⟩
    simp only [bestN]
    rw [if_neg (fun h => hne f (Int.le_refl _) h1 h.1), best_same n f a t (by omega) f0 h1 hat ha hs]
    exact h2

theorem gre_none {n : Nat} {t : Int} (hn : n ≤ 3) (ht : t ≤ 1402560) : ∀ (L : List Bn) (f : Int), 0 ≤ f → (∀ x, f ≤ x → x < t → ¬ (lo ((n : Int) + 1) x = x ∧ hi ((n : Int) + 1) x ≤ t)) → IsGre n f t L → IsGre (n + 1) f t L
  | [], _, _, _, h => h
  | x :: xs, f, f0, hne, ⟨h1, h2, h3⟩ => by
    have hb := best_spec n f t (by omega) f0 h1 ht
    rw [← h2] at hb
    refine ⟨h1, ?_, gre_none hn ht xs x.2.2 (by omega) (fun y h4 h5 => hne y (by omega) h5) h3⟩
    simp only [bestN]
    rw [if_neg (hne f (Int.le_refl _) h1)]
    exact h2

theorem gre_chain {n : Nat} {b t : Int} (hbt : b ≤ t) {M : List Bn} (hM : IsGre n b t M) : ∀ (xs : List Bn) (a : Int), Chain a xs b → (∀ x ∈ xs, IsBlk (n : Int) x) → IsGre n a t (xs ++ M)
  | [], a, h, _ => by simp only [Chain] at h; subst h; exact hM
  | x :: xs, a, ⟨h1, h2, h3⟩, hall => by
    obtain ⟨b1, b2, b3, b4, b5⟩ := hall x (List.mem_cons_self ..)
    have hle := h3.le
    obtain ⟨x1, x2, x3⟩ := x
    simp only at h1 h2 h3 b1 b2 b3 b4 b5 hle
    subst h1
    refine ⟨by omega, ?_, gre_chain hbt hM xs x3 h3 (fun y hy => hall y (List.mem_cons_of_mem _ hy))⟩
    rw [best_top n x2 t b4 (by omega), b1, b5]

theorem covOne_nil {rec : Int → Int → List Bn} {l f t : Int} (hft : f < t) (he : insL l f t = []) : covOne rec l f t = rec f t := by
  unfold covOne
  rw [if_neg (by omega), he]
  simp only [List.nil_append]
  rw [if_pos (show atEnd f [] < t from hft)]
  rfl
theorem covOne_some {rec : Int → Int → List Bn} {l f t a b : Int} (hft : f < t) (hne : insL l f t ≠ []) (hch : Chain a (insL l f t) b) :
    covOne rec l f t = (if f < a then rec f a else []) ++ insL l f t ++ (if b < t then rec b t else []) := by
  have hend := hch.atEnd f (fun h => absurd h hne)
  unfold covOne
  rw [if_neg (by omega), hend]
  cases hx : insL l f t with
  | nil => exact absurd hx hne
  | cons x xs =>
    rw [hx] at hch
    simp only [hch.1]

theorem gre_cov : ∀ (n : Nat) (f t : Int), n ≤ 4 → 0 ≤ f → t ≤ 1402560 → IsGre n f t (covN n f t)
  | 0, f, t, _, f0, ht => by
    simp only [covN]
    by_cases hft : t ≤ f
    · unfold covOne; rw [if_pos hft]; exact hft
    obtain ⟨hne, hch⟩ := insL_zero f0 ht (by omega : f < t)
    have hall : ∀ x ∈ insL 0 f t, IsBlk 0 x := by
      rcases insL_shape (l := 0) (by omega) (by omega) f0 ht (by omega : f < t) with ⟨he, -⟩ | ⟨a, b, -, -, -, -, -, hall, -⟩
      · exact absurd he hne
      · exact hall
    have key := gre_chain (n := 0) (Int.le_refl t) (M := []) (show IsGre 0 t t [] from Int.le_refl t) _ f hch hall
    rw [covOne_some (by omega) hne hch, if_neg (by omega), if_neg (by omega)]
    simpa using key
  | n + 1, f, t, hn, f0, ht => by
    simp only [covN]
    by_cases hft : t ≤ f
    · unfold covOne; rw [if_pos hft]; exact hft
    have hft' : f < t := by omega
    have hlf := lh ((n : Int) + 1) f (by omega) (by omega) f0 (by omega)
    rcases insL_shape (l := (n : Int) + 1) (by omega) (by omega) f0 ht hft' with ⟨he, hsh⟩ | ⟨a, b, hne, ha, hfa, hbt, hch, hall, hbe, hsa, hsb⟩
    · rw [covOne_nil hft' he]
      refine gre_none (by omega) ht _ f f0 ?_ (gre_cov n f t (by omega) f0 ht)
      rintro x h1 h2 ⟨h3, h4⟩
      have hlx := lh ((n : Int) + 1) x (by omega) (by omega) (by omega) (by omega)
      have hxs := hlx.sa
      rw [h3] at hxs
      by_cases hxf : x = f
      · subst hxf
        rw [if_pos h3] at hsh; omega
      · have hx1 : hi ((n : Int) + 1) f ≤ x := hi_le_of_start (by omega) (by omega) f0 (by omega) (by omega) hxs
        by_cases c : lo ((n : Int) + 1) f = f
        · rw [if_pos c] at hsh; omega
        · rw [if_neg c] at hsh
          by_cases c2 : hi ((n : Int) + 1) f < t
          · rw [if_pos c2] at hsh
            by_cases hxe : x = hi ((n : Int) + 1) f
            · rw [← hxe] at hsh; omega
            · have := hi_le_of_start (l := (n : Int) + 1) (x := hi ((n : Int) + 1) f) (a := x) (by omega) (by omega) (by have := hlf.hi; omega) (by omega) (by omega) hxs
              omega
          · omega
    · have hab := hch.le
      -- behind b
      have htail : IsGre (n + 1) b t (if b < t then covN n b t else []) := by
        split
        · rename_i hb
          refine gre_none (by omega) ht _ b (by omega) ?_ (gre_cov n b t (by omega) (by omega) ht)
          rintro x h1 h2 ⟨h3, h4⟩
          have hxs := (lh ((n : Int) + 1) x (by omega) (by omega) (by omega) (by omega)).sa
          rw [h3] at hxs
          have := hbe hb
          by_cases hxb : x = b
          · subst hxb; omega
          · have := hi_le_of_start (l := (n : Int) + 1) (x := b) (a := x) (by omega) (by omega) (by omega) (by omega) (by omega) hxs
            omega
        · show t ≤ b; omega
      have hmid := gre_chain (n := n + 1) hbt htail (insL ((n : Int) + 1) f t) a hch (by push_cast; exact hall)
      rw [covOne_some hft' hne hch, List.append_assoc]
      by_cases hfa' : f < a
      · rw [if_pos hfa']
        refine gre_low (by omega) (by omega) (by omega) (fun l' h1 h2 => startB_down h1 (by omega) (by omega) hsa) hmid _ f f0 hfa ?_ (gre_cov n f a (by omega) f0 (by omega))
        intro x h1 h2 h3
        by_cases c : lo ((n : Int) + 1) f = f
        · rw [if_pos c] at ha; omega
        · rw [if_neg c] at ha
          have hxs := (lh ((n : Int) + 1) x (by omega) (by omega) (by omega) (by omega)).sa
          rw [h3] at hxs
          have := hlf.sm x (by have := hlf.lo; omega) (by omega)
          rw [hxs] at this; cases this
      · rw [if_neg hfa']
        obtain rfl : f = a := by omega
        simpa using hmid
end Go.Proofs.YtfcfdphkaildiaaDoor
