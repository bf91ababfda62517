/- Plain laws of the calendar: blocks lie in the blocks of the next level. Conditions: none beyond each lemma's own. -/
import Derived.Test.YtfcfdphkaildiaaDoorCalPlainE
namespace Go.Proofs.YtfcfdphkaildiaaDoor

theorem block_same {l t x : Int} (l0 : 0 ≤ l) (l1 : l ≤ 4) (t0 : 0 ≤ t) (t1 : t < 1402560) (h1 : lo l t ≤ x) (h2 : x < hi l t) : lo l x = lo l t ∧ hi l x = hi l t := by
  have h := lh l t l0 l1 t0 t1
  have k := lh l x l0 l1 (by have := h.a0; omega) (by have := h.b1; omega)
  have p1 := h.lo; have p2 := h.hi; have q1 := k.lo; have q2 := k.hi
  refine ⟨?_, ?_⟩
  · rcases Int.lt_trichotomy (lo l x) (lo l t) with c | c | c
    · have := k.sm _ c (by omega); rw [h.sa] at this; cases this
    · exact c
    · have := h.sm _ c (by omega); rw [k.sa] at this; cases this
  · rcases Int.lt_trichotomy (hi l x) (hi l t) with c | c | c
    · have := h.sm _ (by omega) c; rw [k.sb] at this; cases this
    · exact c
    · have := k.sm _ (by omega) c; rw [h.sb] at this; cases this

theorem nest_le {l t : Int} (l0 : 0 ≤ l) (l1 : l ≤ 3) (t0 : 0 ≤ t) (t1 : t < 1402560) : lo (l + 1) t ≤ lo l t ∧ hi l t ≤ hi (l + 1) t := by
  have h := lh l t l0 (by omega) t0 t1
  have k := lh (l + 1) t (by omega) (by omega) t0 t1
  have p1 := h.lo; have p2 := h.hi; have q1 := k.lo; have q2 := k.hi
  have sa := startB_down (l' := l) l0 (by omega) (by omega) k.sa
  have sb := startB_down (l' := l) l0 (by omega) (by omega) k.sb
  refine ⟨?_, ?_⟩
  · rcases Int.lt_or_le (lo l t) (lo (l + 1) t) with c | c
    · have := h.sm _ c (by omega); rw [sa] at this; cases this
    · exact c
  · rcases Int.lt_or_le (hi (l + 1) t) (hi l t) with c | c
    · have := h.sm _ (by omega) c; rw [sb] at this; cases this
    · exact c

/-- the parent of the block around t is the block of the next level around t -/
theorem nest_parent {l t : Int} (l0 : 0 ≤ l) (l1 : l ≤ 3) (t0 : 0 ≤ t) (t1 : t < 1402560) : lo (l + 1) (lo l t) = lo (l + 1) t ∧ hi (l + 1) (lo l t) = hi (l + 1) t := by
  have h := lh l t l0 (by omega) t0 t1
  have n := nest_le l0 l1 t0 t1
  exact block_same (by omega) (by omega) t0 t1 n.1 (by have := h.lo; have := h.hi; omega)

theorem valid_block {l t : Int} (l0 : 0 ≤ l) (l1 : l ≤ 4) (t0 : 0 ≤ t) (t1 : t < 1402560) : 0 ≤ lo l t ∧ lo l t < 1402560 ∧ lo l (lo l t) = lo l t ∧ hi l (lo l t) = hi l t := by
  have h := lh l t l0 l1 t0 t1
  have k := lo_lo l0 l1 t0 t1
  exact ⟨h.a0, by have := h.lo; omega, k.1, k.2⟩

theorem Chain.at_ : ∀ {xs : List Bn} {a b : Int} {k : Nat} {x : Bn}, Chain a xs b → xs[k]? = some x → Proofs.YtfcfdphkaildiaaDoor.atEnd a (xs.take k) = x.2.1 ∧ a ≤ x.2.1 ∧ x.2.1 < x.2.2 ∧ x.2.2 ≤ b ∧ Proofs.YtfcfdphkaildiaaDoor.atEnd a (xs.take (k + 1)) = x.2.2
  | [], _, _, _, _, _, h => by simp at h
  | y :: ys, a, b, 0, x, ⟨h1, h2, h3⟩, h => by
    simp at h
    subst h
    have := h3.le
    exact ⟨h1.symm, by omega, by omega, by omega, rfl⟩
  | y :: ys, a, b, k + 1, x, ⟨h1, h2, h3⟩, h => by
    have := h3.at_ (k := k) (x := x) (by simpa using h)
    have e : Proofs.YtfcfdphkaildiaaDoor.atEnd a ((y :: ys).take (k + 1)) = Proofs.YtfcfdphkaildiaaDoor.atEnd y.2.2 (ys.take k) := by simp [Proofs.YtfcfdphkaildiaaDoor.atEnd]
    have e' : Proofs.YtfcfdphkaildiaaDoor.atEnd a ((y :: ys).take (k + 1 + 1)) = Proofs.YtfcfdphkaildiaaDoor.atEnd y.2.2 (ys.take (k + 1)) := by simp [Proofs.YtfcfdphkaildiaaDoor.atEnd]
    rw [e, e']
    omega

/-- the children of a block follow one another from its beginning to its end -/
theorem children_chain {l a b : Int} (l0 : 0 ≤ l) (l1 : l ≤ 3) (a0 : 0 ≤ a) (a1 : a < 1402560) (h1 : lo (l + 1) a = a) (h2 : hi (l + 1) a = b) : insL l a b ≠ [] ∧ Chain a (insL l a b) b ∧ ∀ x ∈ insL l a b, IsBlk l x := by
  have k := lh (l + 1) a (by omega) (by omega) a0 a1
  rw [h1, h2] at k
  have sa := startB_down (l' := l) l0 (by omega) (by omega) k.sa
  have sb := startB_down (l' := l) l0 (by omega) (by omega) k.sb
  have hlt := k.hi
  have hlo := lo_eq_of_start l0 (by omega) a0 a1 sa
  have hhi := hi_le_of_start (l := l) (x := a) (a := b) l0 (by omega) a0 a1 hlt sb
  rcases insL_shape (l := l) l0 (by omega) a0 k.b1 hlt with ⟨-, h⟩ | ⟨a', b', hne, ha, hfa, hbt, hch, hall, hbe, -, -⟩
  · rw [if_pos hlo] at h; omega
  · rw [if_pos hlo] at ha
    subst ha
    have hle := hch.le
    have : b' = b := by
      rcases Int.lt_or_le b' b with c | c
      · have := hbe c
        have := hi_le_of_start (l := l) (x := b') (a := b) l0 (by omega) (by omega) (by have := k.b1; omega) c sb
        omega
      · omega
    subst this
    exact ⟨hne, hch, hall⟩
end Go.Proofs.YtfcfdphkaildiaaDoor
