/- Plain laws of the calendar: the cover is short, valid, and the least. Conditions: none beyond each lemma's own. -/
import Derived.Test.YtfcfdphkaildiaaDoorCalPlainF
namespace Go.Proofs.YtfcfdphkaildiaaDoor

/-- how long a block of a level is at least, at most -/
def mn (n : Nat) : Int := ([1, 4, 96, 2688, 35040] : List Int).getD n 1
def mx (n : Nat) : Int := ([1, 4, 96, 2976, 35136] : List Int).getD n 1
theorem block_len (n : Nat) (t : Int) (hn : n ≤ 4) (t0 : 0 ≤ t) (t1 : t < 1402560) : mn n ≤ hi (n : Int) t - lo (n : Int) t ∧ hi (n : Int) t - lo (n : Int) t ≤ mx n := by
  obtain ⟨p1, p2, p3, p4⟩ := lohi_34 (rfl : t / 96 = t / 96)
  have hd := isDate_of (t / 96) (by omega) (by omega)
  have hm := ms_succ (dY (t / 96)) (dM (t / 96)) hd.m1 hd.m2
  have hml := mlen_bd (dY (t / 96)) (dM (t / 96)) hd.m1 hd.m2
  have hy := ys_succ (dY (t / 96)) hd.y1 (by have := hd.y2; omega)
  have hyl := ylen_bd (dY (t / 96))
  have : n = 0 ∨ n = 1 ∨ n = 2 ∨ n = 3 ∨ n = 4 := by omega
  rcases this with rfl | rfl | rfl | rfl | rfl
  · simp [mn, mx, lo, hi]; omega
  · simp [mn, mx, lo, hi]; omega
  · simp [mn, mx, lo, hi]; omega
  · show mn 3 ≤ hi 3 t - lo 3 t ∧ hi 3 t - lo 3 t ≤ mx 3
    rw [p1, p2]; simp [mn, mx]; omega
  · show mn 4 ≤ hi 4 t - lo 4 t ∧ hi 4 t - lo 4 t ≤ mx 4
    rw [p3, p4]; simp [mn, mx]; omega

theorem chain_count (n : Nat) (hn : n ≤ 4) : ∀ (xs : List Bn) (a b : Int), Chain a xs b → (∀ x ∈ xs, IsBlk (n : Int) x) → (xs.length : Int) * mn n ≤ b - a
  | [], a, b, h, _ => by simp only [Chain] at h; simp; omega
  | x :: xs, a, b, ⟨h1, h2, h3⟩, hall => by
    have ih := chain_count n hn xs x.2.2 b h3 (fun y hy => hall y (List.mem_cons_of_mem _ hy))
    obtain ⟨b1, b2, b3, b4, b5⟩ := hall x (List.mem_cons_self ..)
    have := (block_len n x.2.1 hn b2 b3).1
    rw [b4, b5] at this
    simp only [List.length_cons]
    push_cast
    rw [Int.add_mul]
    omega

def hN (n : Nat) : Int := ([3, 26, 56, 69] : List Int).getD n 0

/-- what of the cover lies ahead of the first block of the next level -/
theorem head_len : ∀ (n : Nat) (f a : Int), n ≤ 3 → 0 ≤ f → f < a → a ≤ 1402560 → startB ((n : Int) + 1) a = true → (∀ x, f ≤ x → x < a → startB ((n : Int) + 1) x = false) → ((covN n f a).length : Int) ≤ hN n := by
  intro n
  induction n with
  | zero =>
    intro f a hn f0 hf ha hs hno
    have hl := covN_len 0 f a (by omega) f0 ha
    have k := lh 1 f (by omega) (by omega) f0 (by omega)
    have bl := (block_len 1 f (by omega) f0 (by omega)).2
    have hle : hi 1 f ≤ a := hi_le_of_start (by omega) (by omega) f0 (by omega) hf hs
    have hge : a ≤ hi 1 f := by
      rcases Int.lt_or_le (hi 1 f) a with c | c
      · have h1 := hno (hi 1 f) (by have := k.hi; omega) c
        have h2 := k.sb
        rw [show ((0 : Nat) : Int) + 1 = 1 from rfl] at h1
        rw [h1] at h2; cases h2
      · exact c
    have hlo : lo 1 f ≠ f := fun h => by
      have h1 := hno f (Int.le_refl _) hf
      have h2 := k.sa
      rw [h] at h2
      rw [show ((0 : Nat) : Int) + 1 = 1 from rfl] at h1
      rw [h1] at h2; cases h2
    have := k.lo
    simp [mx] at bl
    simp [hN]
    omega
  | succ n ih =>
    intro f a hn f0 hf ha hs hno
    have k := lh ((n : Int) + 1 + 1) f (by omega) (by omega) f0 (by omega)
    have bl := (block_len (n + 2) f (by omega) f0 (by omega)).2
    push_cast at hs hno bl
    have hle : hi ((n : Int) + 1 + 1) f ≤ a := hi_le_of_start (by omega) (by omega) f0 (by omega) hf hs
    have hlo : lo ((n : Int) + 1 + 1) f ≠ f := fun h => by
      have h1 := hno f (Int.le_refl _) hf
      have h2 := k.sa
      rw [h] at h2; rw [h1] at h2; cases h2
    have hge : a ≤ hi ((n : Int) + 1 + 1) f := by
      rcases Int.lt_or_le (hi ((n : Int) + 1 + 1) f) a with c | c
      · have h1 := hno _ (by have := k.hi; omega) c
        have h2 := k.sb
        rw [h1] at h2; cases h2
      · exact c
    have hlof := k.lo
    have hsn := startB_down (l' := (n : Int) + 1) (by omega) (by omega) (by omega) hs
    have kn := lh ((n : Int) + 1) f (by omega) (by omega) f0 (by omega)
    have hnf := hi_le_of_start (l := (n : Int) + 1) (x := f) (a := a) (by omega) (by omega) f0 (by omega) hf hsn
    simp only [covN]
    rcases insL_shape (l := (n : Int) + 1) (by omega) (by omega) f0 ha hf with ⟨he, hsh⟩ | ⟨a', b, hne, ha', hfa, hbt, hch, hall, hbe, hsa, -⟩
    · rw [covOne_nil hf he]
      have hlo1 : lo ((n : Int) + 1) f ≠ f := fun h => by rw [if_pos h] at hsh; omega
      rw [if_neg hlo1] at hsh
      have hfe : hi ((n : Int) + 1) f = a := by
        rcases Int.lt_or_le (hi ((n : Int) + 1) f) a with c | c
        · rw [if_pos c] at hsh
          have := hi_le_of_start (l := (n : Int) + 1) (x := hi ((n : Int) + 1) f) (a := a) (by omega) (by omega) (by have := kn.hi; omega) (by omega) c hsn
          omega
        · omega
      have hb := ih f a (by omega) f0 hf ha hsn (fun x h1 h2 => by
        by_cases hx : x = f
        · subst hx
          have h3 := kn.sm x (by have := kn.lo; omega) (by omega)
          exact h3
        · exact kn.sm x (by have := kn.lo; omega) (by omega))
      refine Int.le_trans hb ?_
      have : n = 0 ∨ n = 1 ∨ n = 2 := by omega
      rcases this with rfl | rfl | rfl <;> simp [hN]
    · rw [covOne_some hf hne hch]
      have hcl := hch.le
      have hba : b = a := by
        rcases Int.lt_or_le b a with c | c
        · have := hbe c
          have := hi_le_of_start (l := (n : Int) + 1) (x := b) (a := a) (by omega) (by omega) (by omega) (by omega) c hsn
          omega
        · omega
      subst hba
      rw [if_neg (Int.lt_irrefl _), List.append_nil, List.length_append]
      have hcount := chain_count (n + 1) (by omega) _ a' b hch (by push_cast; exact hall)
      have hhead : ((if f < a' then covN n f a' else []).length : Int) ≤ hN n := by
        split
        · rename_i hlt
          refine ih f a' (by omega) f0 hlt (by omega) hsa (fun x h1 h2 => ?_)
          by_cases c : lo ((n : Int) + 1) f = f
          · rw [if_pos c] at ha'; omega
          · rw [if_neg c] at ha'
            exact kn.sm x (by have := kn.lo; omega) (by omega)
        · have : n = 0 ∨ n = 1 ∨ n = 2 := by omega
          rcases this with rfl | rfl | rfl <;> simp [hN]
      push_cast
      generalize (insL ((n : Int) + 1) f b).length = len at *
      have : n = 0 ∨ n = 1 ∨ n = 2 := by omega
      rcases this with rfl | rfl | rfl <;> simp [hN, mn, mx] at * <;> omega

/-- what of the cover lies behind the last block of the next level -/
theorem tail_len : ∀ (n : Nat) (b t : Int), n ≤ 3 → 0 ≤ b → b ≤ t → t ≤ 1402560 → b < 1402560 → startB ((n : Int) + 1) b = true → t < hi ((n : Int) + 1) b → ((covN n b t).length : Int) ≤ hN n := by
  intro n
  induction n with
  | zero =>
    intro b t hn b0 hbt ht hb1 hs hlt
    have hl := covN_len 0 b t (by omega) b0 ht
    have bl := (block_len 1 b (by omega) b0 hb1).2
    have hlo := lo_eq_of_start (l := 1) (by omega) (by omega) b0 hb1 hs
    rw [show ((0 : Nat) : Int) + 1 = 1 from rfl] at hlt
    rw [show ((1 : Nat) : Int) = 1 from rfl, hlo] at bl
    simp [mx] at bl
    simp [hN]
    omega
  | succ n ih =>
    intro b t hn b0 hbt ht hb1 hs hlt
    push_cast at hs hlt
    have bl := (block_len (n + 2) b (by omega) b0 hb1).2
    push_cast at bl
    rw [lo_eq_of_start (l := (n : Int) + 1 + 1) (by omega) (by omega) b0 hb1 hs] at bl
    have hsn := startB_down (l' := (n : Int) + 1) (by omega) (by omega) (by omega) hs
    have hlon := lo_eq_of_start (l := (n : Int) + 1) (by omega) (by omega) b0 hb1 hsn
    have small : 0 ≤ hN n ∧ hN n ≤ hN (n + 1) := by
      have : n = 0 ∨ n = 1 ∨ n = 2 := by omega
      rcases this with rfl | rfl | rfl <;> simp [hN]
    simp only [covN]
    by_cases hbt' : b < t
    · rcases insL_shape (l := (n : Int) + 1) (by omega) (by omega) b0 ht hbt' with ⟨he, hsh⟩ | ⟨a', b', hne, ha', hfa, hbt2, hch, hall, hbe, hsa, hsb⟩
      · rw [covOne_nil hbt' he]
        rw [if_pos hlon] at hsh
        have := ih b t (by omega) b0 (by omega) ht hb1 hsn hsh
        omega
      · rw [if_pos hlon] at ha'
        subst ha'
        rw [covOne_some hbt' hne hch, if_neg (Int.lt_irrefl _), List.nil_append, List.length_append]
        have hcl := hch.le
        have hcount := chain_count (n + 1) (by omega) _ _ b' hch (by push_cast; exact hall)
        have htail : ((if b' < t then covN n b' t else []).length : Int) ≤ hN n := by
          split
          · rename_i hlt2
            exact ih b' t (by omega) (by omega) (by omega) ht (by omega) hsb (hbe hlt2)
          · simp; omega
        push_cast
        generalize (insL ((n : Int) + 1) a' t).length = len at *
        have : n = 0 ∨ n = 1 ∨ n = 2 := by omega
        rcases this with rfl | rfl | rfl <;> simp [hN, mn, mx] at * <;> omega
    · unfold covOne
      rw [if_pos (by omega)]
      simp; omega

theorem mid_len : ∀ (n : Nat) (f t : Int), n ≤ 3 → 0 ≤ f → f < t → t ≤ 1402560 → insL ((n : Int) + 1) f t = [] → ((covN n f t).length : Int) ≤ 180 := by
  intro n
  induction n with
  | zero =>
    intro f t hn f0 hf ht he
    have hl := covN_len 0 f t (by omega) f0 ht
    have bl := (block_len 1 f (by omega) f0 (by omega)).2
    have k := lh 1 f (by omega) (by omega) f0 (by omega)
    rcases insL_shape (l := 1) (by omega) (by omega) f0 ht hf with ⟨-, hsh⟩ | ⟨_, _, hne, -⟩
    · have h1 := k.lo
      simp [mx] at bl
      by_cases c : lo 1 f = f
      · rw [if_pos c] at hsh; omega
      · rw [if_neg c] at hsh
        by_cases c2 : hi 1 f < t
        · rw [if_pos c2] at hsh
          have bl2 := (block_len 1 (hi 1 f) (by omega) (by have := k.hi; omega) (by omega)).2
          have k2 := lh 1 (hi 1 f) (by omega) (by omega) (by have := k.hi; omega) (by omega)
          have hl2 := lo_eq_of_start (l := 1) (by omega) (by omega) (by have := k.hi; omega) (by omega : hi 1 f < 1402560) k.sb
          simp [mx] at bl2
          rw [hl2] at bl2
          omega
        · omega
    · exact absurd he hne
  | succ n ih =>
    intro f t hn f0 hf ht he
    push_cast at he
    have kk := lh ((n : Int) + 1 + 1) f (by omega) (by omega) f0 (by omega)
    have bl := (block_len (n + 2) f (by omega) f0 (by omega)).2
    push_cast at bl
    have hlen : t - f ≤ 2 * mx (n + 2) := by
      have h1 := kk.lo
      have h2 := kk.hi
      rcases insL_shape (l := (n : Int) + 1 + 1) (by omega) (by omega) f0 ht hf with ⟨-, hsh⟩ | ⟨_, _, hne, -⟩
      · by_cases c : lo ((n : Int) + 1 + 1) f = f
        · rw [if_pos c] at hsh; omega
        · rw [if_neg c] at hsh
          by_cases c2 : hi ((n : Int) + 1 + 1) f < t
          · rw [if_pos c2] at hsh
            have bl2 := (block_len (n + 2) (hi ((n : Int) + 1 + 1) f) (by omega) (by omega) (by omega)).2
            push_cast at bl2
            rw [lo_eq_of_start (l := (n : Int) + 1 + 1) (by omega) (by omega) (by omega) (by omega : hi ((n : Int) + 1 + 1) f < 1402560) kk.sb] at bl2
            omega
          · omega
      · exact absurd he hne
    have kn := lh ((n : Int) + 1) f (by omega) (by omega) f0 (by omega)
    simp only [covN]
    rcases insL_shape (l := (n : Int) + 1) (by omega) (by omega) f0 ht hf with ⟨he1, -⟩ | ⟨a', b, hne, ha', hfa, hbt, hch, hall, hbe, hsa, hsb⟩
    · rw [covOne_nil hf he1]
      exact ih f t (by omega) f0 hf ht he1
    · rw [covOne_some hf hne hch]
      have hcl := hch.le
      have hcount := chain_count (n + 1) (by omega) _ a' b hch (by push_cast; exact hall)
      have small : 0 ≤ hN n := by
        have : n = 0 ∨ n = 1 ∨ n = 2 := by omega
        rcases this with rfl | rfl | rfl <;> simp [hN]
      have hhead : ((if f < a' then covN n f a' else []).length : Int) ≤ hN n := by
        split
        · rename_i hlt
          refine head_len n f a' (by omega) f0 hlt (by omega) hsa (fun x h1 h2 => ?_)
          by_cases c : lo ((n : Int) + 1) f = f
          · rw [if_pos c] at ha'; omega
          · rw [if_neg c] at ha'
            exact kn.sm x (by have := kn.lo; omega) (by omega)
        · simp; omega
      have htail : ((if b < t then covN n b t else []).length : Int) ≤ hN n := by
        split
        · rename_i hlt2
          exact tail_len n b t (by omega) (by omega) (by omega) ht (by omega) hsb (hbe hlt2)
        · simp; omega
      simp only [List.length_append]
      push_cast
      generalize (insL ((n : Int) + 1) f t).length = len at *
      have : n = 0 ∨ n = 1 ∨ n = 2 := by omega
      rcases this with rfl | rfl | rfl <;> simp [hN, mn, mx] at * <;> omega

theorem cov_short (f t : Int) (f0 : 0 ≤ f) (ht : t ≤ 1402560) : (covN 4 f t).length ≤ 180 := by
  by_cases hft : f < t
  · have kn := lh 4 f (by omega) (by omega) f0 (by omega)
    rcases insL_shape (l := 4) (by omega) (by omega) f0 ht hft with ⟨he1, -⟩ | ⟨a', b, hne, ha', hfa, hbt, hch, hall, hbe, hsa, hsb⟩
    · have e : covN 4 f t = covN 3 f t := by
        show covOne (covN 3) 4 f t = _
        exact covOne_nil hft he1
      rw [e]
      have := mid_len 3 f t (by omega) f0 hft ht he1
      omega
    · have e : covN 4 f t = _ := (show covOne (covN 3) 4 f t = _ from covOne_some hft hne hch)
      rw [e]
      have hcl := hch.le
      have hcount := chain_count 4 (by omega) _ a' b hch hall
      have hhead : ((if f < a' then covN 3 f a' else []).length : Int) ≤ 69 := by
        split
        · rename_i hlt
          refine head_len 3 f a' (by omega) f0 hlt (by omega) hsa (fun x h1 h2 => ?_)
          by_cases c : lo 4 f = f
          · rw [if_pos c] at ha'; omega
          · rw [if_neg c] at ha'
            exact kn.sm x (by have := kn.lo; omega) (by omega)
        · simp
      have htail : ((if b < t then covN 3 b t else []).length : Int) ≤ 69 := by
        split
        · rename_i hlt2
          exact tail_len 3 b t (by omega) (by omega) (by omega) ht (by omega) hsb (hbe hlt2)
        · simp
      simp only [List.length_append]
      generalize (insL 4 f t).length = len at *
      simp [mn] at hcount
      omega
  · have : covN 4 f t = [] := by
      show covOne (covN 3) 4 f t = []
      unfold covOne
      rw [if_pos (by omega)]
    rw [this]; simp

/-- a block that is there -/
def OkB (x : Bn) : Prop := 0 ≤ x.1 ∧ x.1 ≤ 4 ∧ 0 ≤ x.2.1 ∧ x.2.1 < 1402560 ∧ lo x.1 x.2.1 = x.2.1 ∧ hi x.1 x.2.1 = x.2.2
/-- blocks that are there follow one another from f to t -/
def Fol : Int → List Bn → Int → Prop
  | f, [], t => f = t
  | f, x :: xs, t => x.2.1 = f ∧ OkB x ∧ Fol x.2.2 xs t

theorem OkB.lt {x : Bn} (h : OkB x) : x.2.1 < x.2.2 := by
  obtain ⟨h1, h2, h3, h4, h5, h6⟩ := h
  have := (lh x.1 x.2.1 h1 h2 h3 h4).hi
  rw [h6] at this; exact this
theorem Fol.chain : ∀ {xs : List Bn} {f t : Int}, Fol f xs t → Chain f xs t
  | [], _, _, h => h
  | _ :: _, _, _, ⟨h1, h2, h3⟩ => ⟨h1, by rw [← h1]; exact h2.lt, h3.chain⟩
theorem Fol.ok : ∀ {xs : List Bn} {f t : Int}, Fol f xs t → ∀ x ∈ xs, OkB x
  | [], _, _, _, _, h => by cases h
  | y :: ys, _, _, ⟨_, h2, h3⟩, x, h => by
    rcases List.mem_cons.1 h with rfl | h
    · exact h2
    · exact h3.ok x h

theorem best_ok : ∀ (n : Nat) (f t : Int), n ≤ 4 → 0 ≤ f → f < 1402560 → OkB (bestN n f t) ∧ (bestN n f t).2.1 = f
  | 0, f, t, _, f0, hf => ⟨⟨Int.le_refl _, by show (0 : Int) ≤ 4; decide, f0, hf, by simp [bestN, lo], by simp [bestN, hi]⟩, rfl⟩
  | n + 1, f, t, hn, f0, hf => by
    simp only [bestN]
    split
    · rename_i h
      exact ⟨⟨by show (0 : Int) ≤ (n : Int) + 1; omega, by show (n : Int) + 1 ≤ 4; omega, f0, hf, h.1, rfl⟩, rfl⟩
    · exact best_ok n f t (by omega) f0 hf
theorem best_le : ∀ (n : Nat) (f t : Int), (bestN n f t).1 ≤ n
  | 0, f, t => by simp [bestN]
  | n + 1, f, t => by
    simp only [bestN]
    split
    · show (n : Int) + 1 ≤ ((n + 1 : Nat) : Int); omega
    · have := best_le n f t; omega
theorem best_max : ∀ (n m : Nat) (f t : Int), m ≤ n → lo (m : Int) f = f → hi (m : Int) f ≤ t → (m : Int) ≤ (bestN n f t).1
  | 0, m, f, t, hm, _, _ => by
    obtain rfl : m = 0 := by omega
    simp [bestN]
  | n + 1, m, f, t, hm, h1, h2 => by
    simp only [bestN]
    by_cases hmn : m = n + 1
    · subst hmn
      push_cast at h1 h2
      rw [if_pos ⟨h1, h2⟩]
      show ((n + 1 : Nat) : Int) ≤ (n : Int) + 1
      omega
    · split
      · show (m : Int) ≤ (n : Int) + 1; omega
      · exact best_max n m f t (by omega) h1 h2

theorem gre_fol : ∀ (xs : List Bn) (f t : Int), 0 ≤ f → f ≤ t → t ≤ 1402560 → IsGre 4 f t xs → Fol f xs t
  | [], f, t, _, h, _, hg => by simp only [IsGre] at hg; show f = t; omega
  | x :: xs, f, t, f0, hft, ht, ⟨h1, h2, h3⟩ => by
    obtain ⟨b1, b2⟩ := best_ok 4 f t (by omega) f0 (by omega)
    have bs := best_spec 4 f t (by omega) f0 h1 ht
    rw [← h2] at b1 b2 bs
    exact ⟨b2, b1, gre_fol xs x.2.2 t (by omega) bs.2.2 ht h3⟩

theorem gre_mem : ∀ (xs : List Bn) (f t : Int), 0 ≤ f → t ≤ 1402560 → IsGre 4 f t xs → ∀ y ∈ xs, y = bestN 4 y.2.1 t ∧ f ≤ y.2.1 ∧ y.2.1 < t
  | [], _, _, _, _, _, _, h => by cases h
  | x :: xs, f, t, f0, ht, ⟨h1, h2, h3⟩, y, hy => by
    have bs := best_spec 4 f t (by omega) f0 h1 ht
    rw [← h2] at bs
    rcases List.mem_cons.1 hy with rfl | hy
    · exact ⟨by rw [bs.1]; exact h2, by omega, by omega⟩
    · obtain ⟨a, b, c⟩ := gre_mem xs x.2.2 t (by omega) ht h3 y hy
      exact ⟨a, by omega, c⟩

/-- blocks around one place: that of the lesser level lies in the other -/
theorem nest_levels {l l' p : Int} (l0 : 0 ≤ l) (hl : l ≤ l') (l4 : l' ≤ 4) (p0 : 0 ≤ p) (p1 : p < 1402560) : lo l' p ≤ lo l p ∧ hi l p ≤ hi l' p := by
  have h := lh l p l0 (by omega) p0 p1
  have k := lh l' p (by omega) l4 p0 p1
  have p1' := h.lo; have p2 := h.hi; have q1 := k.lo; have q2 := k.hi
  have sa := startB_down l0 hl l4 k.sa
  have sb := startB_down l0 hl l4 k.sb
  refine ⟨?_, ?_⟩
  · rcases Int.lt_or_le (lo l p) (lo l' p) with c | c
    · have := h.sm _ c (by omega); rw [sa] at this; cases this
    · exact c
  · rcases Int.lt_or_le (hi l' p) (hi l p) with c | c
    · have := h.sm _ (by omega) c; rw [sb] at this; cases this
    · exact c

theorem contain {f t : Int} {best : List Bn} (f0 : 0 ≤ f) (ht : t ≤ 1402560) (hg : IsGre 4 f t best) {x y : Bn} (hy : y ∈ best) (hx : OkB x) (hxt : x.2.2 ≤ t) (h1 : y.2.1 ≤ x.2.1) (h2 : x.2.1 < y.2.2) : x.2.2 ≤ y.2.2 := by
  obtain ⟨g1, g2, g3⟩ := gre_mem best f t f0 ht hg y hy
  have yo := (best_ok 4 y.2.1 t (by omega) (by omega) (by omega)).1
  rw [← g1] at yo
  obtain ⟨y1, y2, y3, y4, y5, y6⟩ := yo
  obtain ⟨x1, x2, x3, x4, x5, x6⟩ := hx
  have bs := block_same (l := y.1) (t := y.2.1) (x := x.2.1) y1 y2 y3 y4 (by rw [y5]; exact h1) (by rw [y6]; exact h2)
  rw [y5, y6] at bs
  rcases Int.lt_or_le y.1 x.1 with c | c
  · -- the greater block begins where the lesser does
    have n := nest_levels (l := y.1) (l' := x.1) (p := x.2.1) y1 (by omega) x2 x3 x4
    rw [x5, x6, bs.1, bs.2] at n
    have he : y.2.1 = x.2.1 := by omega
    have m := best_max 4 x.1.toNat y.2.1 t (by omega) (by rw [Int.toNat_of_nonneg x1, he]; exact x5) (by rw [Int.toNat_of_nonneg x1, he, x6]; exact hxt)
    rw [← g1, Int.toNat_of_nonneg x1] at m
    omega
  · have n := nest_levels (l := x.1) (l' := y.1) (p := x.2.1) x1 c y2 x3 x4
    rw [x6, bs.2] at n
    exact n.2

/-- whose blocks lie in those of another one that goes from the same place to the same is not shorter -/
theorem least : ∀ (xs ys : List Bn) (f t : Int), Chain f xs t → Chain f ys t → (∀ x ∈ xs, ∃ y ∈ ys, y.2.1 ≤ x.2.1 ∧ x.2.2 ≤ y.2.2) → ys.length ≤ xs.length
  | [], ys, f, t, h, k, _ => by
    simp only [Chain] at h
    subst h
    have := k.le
    show ys.length ≤ 0
    omega
  | x :: xs, [], f, t, ⟨h1, h2, h3⟩, k, _ => by
    simp
  | x :: xs, y :: ys, f, t, ⟨h1, h2, h3⟩, ⟨k1, k2, k3⟩, hin => by
    have hbound : ∀ z ∈ ys, y.2.2 ≤ z.2.1 := by
      intro z hz
      obtain ⟨i, hi⟩ := List.getElem?_of_mem hz
      exact (k3.at_ hi).2.1
    have hx : x.2.2 ≤ y.2.2 := by
      obtain ⟨z, hz, e1, e2⟩ := hin x (List.mem_cons_self ..)
      rcases List.mem_cons.1 hz with rfl | hz
      · exact e2
      · have := hbound z hz; omega
    have hrest : ∀ u ∈ xs, x.2.2 ≤ u.2.1 ∧ u.2.1 < u.2.2 := by
      intro u hu
      obtain ⟨i, hi⟩ := List.getElem?_of_mem hu
      exact ⟨(h3.at_ hi).2.1, (h3.at_ hi).2.2.1⟩
    by_cases he : x.2.2 = y.2.2
    · rw [he] at h3
      have := least xs ys y.2.2 t h3 k3 (fun u hu => by
        obtain ⟨z, hz, e1, e2⟩ := hin u (List.mem_cons_of_mem _ hu)
        rcases List.mem_cons.1 hz with rfl | hz
        · exfalso; have := hrest u hu; omega
        · exact ⟨z, hz, e1, e2⟩)
      simp; omega
    · have := least xs ((y.1, x.2.2, y.2.2) :: ys) x.2.2 t h3 ⟨rfl, by show x.2.2 < y.2.2; omega, k3⟩ (fun u hu => by
        obtain ⟨z, hz, e1, e2⟩ := hin u (List.mem_cons_of_mem _ hu)
        rcases List.mem_cons.1 hz with rfl | hz
        · exact ⟨_, List.mem_cons_self .., by show x.2.2 ≤ u.2.1; exact (hrest u hu).1, e2⟩
        · exact ⟨z, List.mem_cons_of_mem _ hz, e1, e2⟩)
      simp at this ⊢; omega
end Go.Proofs.YtfcfdphkaildiaaDoor
