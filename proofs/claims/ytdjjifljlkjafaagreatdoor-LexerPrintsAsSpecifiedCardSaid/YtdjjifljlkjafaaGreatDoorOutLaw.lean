/- A variable in a box that holds a slice of the call's own, to which a loop appends. Conditions: those of each lemma. -/
import Derived.Test.YtdjjifljlkjafaaGreatDoorRangeLaw
import Derived.Maps.AppendAt
import Derived.Maps.OwnIn
namespace Go.Proofs.YtdjjifljlkjafaaGreatDoor
open Go Go.Proofs Go.RowKit

theorem getElem?_lt {w : World} {k : Nat} {o : Obj} (h : w.heap[k]? = some o) : k < w.heap.size := (Array.getElem?_eq_some_iff.1 h).1

theorem ownsRow_turned {C : Nat → Prop} {A B : World} {base e size n : Nat} {v : Value} {xs : List Value} (ht : Turned C A B) (hC : ∀ k, C k → k < base) (h : A.ownsRow base e size v n xs) : B.ownsRow base e size v n xs := by
  obtain ⟨h1, h2⟩ := h
  refine ⟨h1, ?_⟩
  rcases h2 with h2 | ⟨g, cap, cur, hv, hg, hh, r⟩
  · exact .inl h2
  · exact .inr ⟨g, cap, cur, hv, hg, (ht.block g (getElem?_lt hh) (fun h => by have := hC g h; omega)).trans hh, r⟩

theorem ownsRow_block {A : World} {base e size n : Nat} {v : Value} {xs : List Value} (h : A.ownsRow base e size v n xs) : ∀ g, v.ownBlock = some g → base ≤ g ∧ g < A.heap.size := by
  intro g hg
  obtain ⟨-, h2⟩ := h
  rcases h2 with ⟨rfl, -⟩ | ⟨g', cap, cur, rfl, hb, hh, -⟩
  · simp [Value.ownBlock] at hg
  · simp [Value.ownBlock] at hg
    subst hg
    exact ⟨hb, getElem?_lt hh⟩

/-- The box B holds a slice that is nil or the call's own (its array at or beyond base, below N), and reads as bs. -/
def Out {α : Type} (W : World) (B T base N e size : Nat) (enc : α → List Value) (bs : List α) : Prop :=
  ∃ v, W.heap[B]? = some (.cells #[v] T (0, 0)) ∧ W.ownsRow base e size v bs.length (bs.flatMap enc) ∧ (∀ g, v.ownBlock = some g → g < N) ∧ B < N

section
variable {α : Type} {W : World} {B T base N e size : Nat} {enc : α → List Value} {bs : List α}
theorem Out.mono {N' : Nat} (h : Out W B T base N e size enc bs) (hN : N ≤ N') : Out W B T base N' e size enc bs := by
  obtain ⟨v, h1, h2, h3, h4⟩ := h
  exact ⟨v, h1, h2, fun g hg => Nat.lt_of_lt_of_le (h3 g hg) hN, Nat.lt_of_lt_of_le h4 hN⟩
theorem Out.turned {C : Nat → Prop} {W' : World} (h : Out W B T base N e size enc bs) (ht : Turned C W W') (hC : ∀ k, C k → k < base ∧ k ≠ B) : Out W' B T base N e size enc bs := by
  obtain ⟨v, h1, h2, h3, h4⟩ := h
  exact ⟨v, (ht.block B (getElem?_lt h1) (fun hb => (hC B hb).2 rfl)).trans h1, ownsRow_turned ht (fun k hk => (hC k hk).1) h2, h3, h4⟩
theorem Out.start (h : W.heap[B]? = some (.cells #[.slice none 0 0] T (0, 0))) (hN : B < N) : Out W B T base N e size enc ([] : List α) :=
  ⟨_, h, ⟨by simp, .inl ⟨rfl, rfl⟩⟩, fun g hg => by simp [Value.ownBlock] at hg, hN⟩
end
theorem cell_of_box {W : World} {B T : Nat} {v : Value} (h : W.heap[B]? = some (.cells #[v] T (0, 0))) : W.cell? ⟨B, 0, none⟩ = some v := by simp [World.cell?, h]
theorem free_of_box {W : World} {B T : Nat} {cs : Array Value} (h : W.heap[B]? = some (.cells cs T (0, 0))) (o : Nat) : W.frozen? ⟨B, o, none⟩ = false := by simp [World.frozen?, h]
theorem box_setCell {W : World} {B T : Nat} {v : Value} (u : Value) (h : W.heap[B]? = some (.cells #[v] T (0, 0))) : (W.setCell ⟨B, 0, none⟩ u).heap[B]? = some (.cells #[u] T (0, 0)) := by
  simp [World.setCell, Array.getElem?_modify, h]
theorem heap_setCell_other {W : World} {a : Addr} {u : Value} {k : Nat} (h : k ≠ a.block) : (W.setCell a u).heap[k]? = W.heap[k]? := Below.heap_setCell _ _ _ _ h

/-- Behind an append of one element (laid in a block of its own first) and the store of the result into the box. -/
theorem Out.appended {α : Type} {W w1 : World} {B T base e size n : Nat} {enc : α → List Value} {bs : List α} {x : α} {v v' : Value} {o : Obj}
    (hbox : W.heap[B]? = some (.cells #[v] T (0, 0))) (hown : W.ownsRow base e size v bs.length (bs.flatMap enc)) (hB : B < base) (hn : n = bs.length + 1)
    (hown' : w1.ownsRow base e size v' n (bs.flatMap enc ++ enc x)) (hg : (W.alloc o).grownBy w1 v.ownBlock) :
    Out (w1.setCell ⟨B, 0, none⟩ v') B T base (w1.setCell ⟨B, 0, none⟩ v').heap.size e size enc (bs ++ [x]) ∧ Turned (fun k => k = B ∨ v.ownBlock = some k) W (w1.setCell ⟨B, 0, none⟩ v') ∧ w1.heap[B]? = some (.cells #[v] T (0, 0)) ∧ W.heap.size < w1.heap.size := by
  have hBlt := getElem?_lt hbox
  have hob := ownsRow_block hown
  have ht1 : Turned (fun k => v.ownBlock = some k) W w1 := ((Turned.refl _ W).alloc o).trans (Turned.of_grown hg fun k hk => hk)
  have hb1 : w1.heap[B]? = some (.cells #[v] T (0, 0)) := (ht1.block B hBlt (fun h => by have := hob B h; omega)).trans hbox
  have hsz : (w1.setCell ⟨B, 0, none⟩ v').heap.size = w1.heap.size := by simp [World.setCell]
  have ht2 : Turned (fun k => k = B) w1 (w1.setCell ⟨B, 0, none⟩ v') := (Turned.refl (fun k => k = B) w1).setCell (p := ⟨B, 0, none⟩) rfl _
  have hob' := ownsRow_block hown'
  refine ⟨⟨v', box_setCell v' hb1, ?_, fun g hg' => by rw [hsz]; exact (hob' g hg').2, by rw [hsz]; exact getElem?_lt hb1⟩, (ht1.mono fun _ h => .inr h).trans (ht2.mono fun _ h => .inl h), hb1, ?_⟩
  · subst hn
    have := ownsRow_turned ht2 (fun k hk => by rw [hk]; exact hB) hown'
    simpa using this
  · have := hg.size; simp at this; omega

theorem flatMap_at {α : Type} (enc : α → List Value) (s : Nat) (henc : ∀ x, (enc x).length = s) : ∀ (bs : List α) (i j : Nat) (hi : i < bs.length), j < s → (bs.flatMap enc)[i * s + j]? = (enc bs[i])[j]?
  | [], i, j, hi, _ => by simp at hi
  | b :: bs, 0, j, _, hj => by
    simp only [List.flatMap_cons, Nat.zero_mul, Nat.zero_add, List.getElem_cons_zero]
    rw [List.getElem?_append_left (by rw [henc]; exact hj)]
  | b :: bs, i + 1, j, hi, hj => by
    simp only [List.flatMap_cons, List.getElem_cons_succ]
    rw [List.getElem?_append_right (by rw [henc, Nat.add_mul]; omega), henc, ← flatMap_at enc s henc bs i j (by simpa using hi) hj]
    congr 1
    rw [Nat.add_mul]; omega

theorem owns_shape {W : World} {base e s n : Nat} {xs : List Value} {v : Value} (h : W.ownsRow base e s v n xs) : ∃ a c, v = .slice a n c := by
  obtain ⟨-, ⟨rfl, rfl⟩ | ⟨g, cap, cur, rfl, -⟩⟩ := h
  · exact ⟨none, 0, rfl⟩
  · exact ⟨_, cap, rfl⟩

/-- The cells of a slice that the call owns. -/
theorem owns_cell {α : Type} {W : World} {base e s : Nat} {enc : α → List Value} {bs : List α} {v : Value} (henc : ∀ x, (enc x).length = s) (h : W.ownsRow base e s v bs.length (bs.flatMap enc)) :
    (v = .slice none 0 0 ∧ bs = []) ∨ ∃ g cap, v = .slice (some ⟨g, 0, none⟩) bs.length cap ∧ bs.length ≤ cap ∧ cap ≤ maxLen ∧ base ≤ g ∧ g < W.heap.size ∧ ∀ (i j : Nat) (hi : i < bs.length), j < s → W.cell? ⟨g, 0 + i * s + j, none⟩ = (enc bs[i])[j]? := by
  obtain ⟨h1, h2⟩ := h
  rcases h2 with ⟨hv, hn⟩ | ⟨g, cap, cur, hv, hg, hh, hc1, hc2, hcs, ht⟩
  · exact .inl ⟨hv, List.length_eq_zero_iff.1 hn⟩
  · refine .inr ⟨g, cap, hv, hc1, hc2, hg, getElem?_lt hh, fun i j hi hj => ?_⟩
    have hlt : i * s + j < bs.length * s := by
      have : (i + 1) * s ≤ bs.length * s := Nat.mul_le_mul_right _ hi
      rw [Nat.add_mul] at this; omega
    rw [← flatMap_at enc s henc bs i j hi hj, ← ht, List.getElem?_take_of_lt hlt]
    simp [World.cell?, hh]
end Go.Proofs.YtdjjifljlkjafaaGreatDoor
