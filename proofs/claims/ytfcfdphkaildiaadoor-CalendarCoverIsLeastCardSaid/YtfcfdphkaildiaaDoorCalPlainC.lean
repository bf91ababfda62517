/- Plain laws of the calendar: the blocks of a level that lie in an interval. Conditions: none beyond each lemma's own. -/
import Derived.Test.YtfcfdphkaildiaaDoorCalPlainB
namespace Go.Proofs.YtfcfdphkaildiaaDoor

/-- the blocks of a level that lie in an interval, by fuel -/
def insP : Nat → Int → Int → Int → List (Int × Int × Int)
  | 0, _, _, _ => []
  | n + 1, l, f, t => if f < t then (if t < hi l f then [] else if f ≤ lo l f then (l, lo l f, hi l f) :: insP n l (hi l f) t else insP n l (hi l f) t) else []
def insL (l f t : Int) : List (Int × Int × Int) := insP (t - f).toNat l f t

theorem insP_fuel (l t : Int) (l0 : 0 ≤ l) (l1 : l ≤ 4) (ht : t ≤ 1402560) : ∀ (n m : Nat) (f : Int), 0 ≤ f → (t - f).toNat ≤ n → (t - f).toNat ≤ m → insP n l f t = insP m l f t := by
  intro n
  induction n with
  | zero =>
    intro m f f0 hn hm
    cases m with
    | zero => rfl
    | succ m => simp only [insP]; rw [if_neg (by omega)]
  | succ n ih =>
    intro m f f0 hn hm
    cases m with
    | zero => simp only [insP]; rw [if_neg (by omega)]
    | succ m =>
      simp only [insP]
      by_cases hf : f < t
      · have h := lh l f l0 l1 f0 (by omega)
        have hhi := h.hi
        rw [if_pos hf, if_pos hf, ih m (hi l f) (by omega) (by omega) (by omega)]
      · rw [if_neg hf, if_neg hf]

theorem insL_nil {l f t : Int} (h : t ≤ f) : insL l f t = [] := by
  unfold insL
  rw [show (t - f).toNat = 0 from by omega]
  rfl
theorem insL_step {l f t : Int} (l0 : 0 ≤ l) (l1 : l ≤ 4) (f0 : 0 ≤ f) (ht : t ≤ 1402560) (h : f < t) :
    insL l f t = if t < hi l f then [] else if f ≤ lo l f then (l, lo l f, hi l f) :: insL l (hi l f) t else insL l (hi l f) t := by
  have hh := (lh l f l0 l1 f0 (by omega)).hi
  unfold insL
  rw [show (t - f).toNat = (t - f - 1).toNat + 1 from by omega]
  simp only [insP]
  rw [if_pos h, insP_fuel l t l0 l1 ht (t - f - 1).toNat (t - hi l f).toNat (hi l f) (by omega) (by omega) (by omega)]
theorem insL_out {l f t : Int} (l0 : 0 ≤ l) (l1 : l ≤ 4) (f0 : 0 ≤ f) (ht : t ≤ 1402560) (h : f < t) (h2 : t < hi l f) : insL l f t = [] := by
  rw [insL_step l0 l1 f0 ht h, if_pos h2]
theorem insL_skip {l f t : Int} (l0 : 0 ≤ l) (l1 : l ≤ 4) (f0 : 0 ≤ f) (ht : t ≤ 1402560) (h : f < t) (h2 : ¬ t < hi l f) (h3 : ¬ f ≤ lo l f) : insL l f t = insL l (hi l f) t := by
  rw [insL_step l0 l1 f0 ht h, if_neg h2, if_neg h3]
theorem insL_cons {l f t : Int} (l0 : 0 ≤ l) (l1 : l ≤ 4) (f0 : 0 ≤ f) (ht : t ≤ 1402560) (h : f < t) (h2 : ¬ t < hi l f) (h3 : f ≤ lo l f) : insL l f t = (l, lo l f, hi l f) :: insL l (hi l f) t := by
  rw [insL_step l0 l1 f0 ht h, if_neg h2, if_pos h3]
theorem insP_len (l t : Int) (l0 : 0 ≤ l) (l1 : l ≤ 4) (ht : t ≤ 1402560) : ∀ (n : Nat) (f : Int), 0 ≤ f → ((insP n l f t).length : Int) ≤ max 0 (t - f) := by
  intro n
  induction n with
  | zero => intro f _; simp [insP]; omega
  | succ n ih =>
    intro f f0
    simp only [insP]
    by_cases hf : f < t
    · have h := lh l f l0 l1 f0 (by omega)
      have hh := h.hi
      have := ih (hi l f) (by omega)
      rw [if_pos hf]
      split
      · simp; omega
      · split
        · simp only [List.length_cons]; omega
        · omega
    · rw [if_neg hf]; simp; omega
theorem insL_len {l f t : Int} (l0 : 0 ≤ l) (l1 : l ≤ 4) (f0 : 0 ≤ f) (ht : t ≤ 1402560) : (insL l f t).length ≤ 1402560 := by
  have := insP_len l t l0 l1 ht (t - f).toNat f f0
  unfold insL
  omega
end Go.Proofs.YtfcfdphkaildiaaDoor
