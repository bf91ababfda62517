/- A variable in a box that collects: a slice of the call's own whose array lies among given blocks. Conditions: those of each lemma. -/
import Derived.Test.YtdjjifljlkjafaaGreatDoorOutLaw
import Derived.Test.YtdjjifljlkjafaaGreatDoorRoundLaw
namespace Go.Proofs.YtdjjifljlkjafaaGreatDoor
open Go Go.Proofs Go.RowKit

/-- The box B holds a slice that is nil or owned, whose array's block satisfies G; it reads as bs. -/
def Col {α : Type} (W : World) (B T : Nat) (G : Nat → Prop) (e size : Nat) (enc : α → List Value) (bs : List α) : Prop :=
  ∃ v, W.heap[B]? = some (.cells #[v] T (0, 0)) ∧ W.ownsRow 0 e size v bs.length (bs.flatMap enc) ∧ (∀ g, v.ownBlock = some g → G g)

theorem ownsRow_turned' {C : Nat → Prop} {A B : World} {base e size n : Nat} {v : Value} {xs : List Value} (ht : Turned C A B) (hC : ∀ g, v.ownBlock = some g → ¬ C g) (h : A.ownsRow base e size v n xs) : B.ownsRow base e size v n xs := by
  obtain ⟨h1, h2⟩ := h
  refine ⟨h1, ?_⟩
  rcases h2 with h2 | ⟨g, cap, cur, rfl, hg, hh, r⟩
  · exact .inl h2
  · exact .inr ⟨g, cap, cur, rfl, hg, (ht.block g (getElem?_lt hh) (hC g rfl)).trans hh, r⟩

section
variable {α : Type} {W : World} {B T e size : Nat} {G : Nat → Prop} {enc : α → List Value} {bs : List α}
theorem Col.imp {G' : Nat → Prop} (h : Col W B T G e size enc bs) (hG : ∀ g, g < W.heap.size → G g → G' g) : Col W B T G' e size enc bs := by
  obtain ⟨v, h1, h2, h3⟩ := h
  exact ⟨v, h1, h2, fun g hg => hG g (ownsRow_block h2 g hg).2 (h3 g hg)⟩
theorem Col.turned {C : Nat → Prop} {W' : World} (h : Col W B T G e size enc bs) (ht : Turned C W W') (hC : ∀ k, C k → ¬ G k ∧ k ≠ B) : Col W' B T G e size enc bs := by
  obtain ⟨v, h1, h2, h3⟩ := h
  exact ⟨v, (ht.block B (getElem?_lt h1) (fun hb => (hC B hb).2 rfl)).trans h1, ownsRow_turned' ht (fun g hg hc => (hC g hc).1 (h3 g hg)) h2, h3⟩
theorem Col.start (h : W.heap[B]? = some (.cells #[.slice none 0 0] T (0, 0))) : Col W B T G e size enc ([] : List α) :=
  ⟨_, h, ⟨by simp, .inl ⟨rfl, rfl⟩⟩, fun g hg => by simp [Value.ownBlock] at hg⟩

/-- Behind an append of one element (laid in a block of its own first) and the store of the result into the box. -/
theorem Col.appended {w1 : World} {n : Nat} {x : α} {v v' : Value} {o : Obj}
    (hbox : W.heap[B]? = some (.cells #[v] T (0, 0))) (hG : ∀ g, v.ownBlock = some g → G g) (hB : ¬ G B) (hnew : ∀ g, W.heap.size ≤ g → G g) (hn : n = bs.length + 1)
    (hown' : w1.ownsRow 0 e size v' n (bs.flatMap enc ++ enc x)) (hg : (W.alloc o).grownBy w1 v.ownBlock) (hex : ∀ g, v'.ownBlock = some g → v.ownBlock = some g ∨ (W.alloc o).heap.size ≤ g) :
    Col (w1.setCell ⟨B, 0, none⟩ v') B T G e size enc (bs ++ [x]) ∧ Turned (fun k => k = B ∨ G k) W (w1.setCell ⟨B, 0, none⟩ v') ∧ w1.heap[B]? = some (.cells #[v] T (0, 0)) ∧ W.heap.size < w1.heap.size ∧ Turned G W w1 := by
  have hBlt := getElem?_lt hbox
  have ht1 : Turned G W w1 := ((Turned.refl _ W).alloc o).trans ((Turned.of_grown hg fun k hk => hk).mono fun k hk => hG k hk)
  have hb1 : w1.heap[B]? = some (.cells #[v] T (0, 0)) := (ht1.block B hBlt hB).trans hbox
  have ht2 : Turned (fun k => k = B) w1 (w1.setCell ⟨B, 0, none⟩ v') := (Turned.refl (fun k => k = B) w1).setCell (p := ⟨B, 0, none⟩) rfl _
  have hG' : ∀ g, v'.ownBlock = some g → G g := fun g hg' => by
    rcases hex g hg' with h | h
    · exact hG g h
    · exact hnew g (by simp at h; omega)
  refine ⟨⟨v', box_setCell v' hb1, ?_, hG'⟩, (ht1.mono fun _ h => .inr h).trans (ht2.mono fun _ h => .inl h), hb1, ?_, ht1⟩
  · subst hn
    have := ownsRow_turned' ht2 (fun g hg' hk => by have := hG' g hg'; rw [hk] at this; exact hB this) hown'
    simpa using this
  · have := hg.size; simp at this; omega
end
theorem ownsRow_lower {W : World} {base base' e size n : Nat} {v : Value} {xs : List Value} (h : W.ownsRow base e size v n xs) (hb : ∀ g, v.ownBlock = some g → base' ≤ g) : W.ownsRow base' e size v n xs := by
  obtain ⟨h1, h2⟩ := h
  refine ⟨h1, ?_⟩
  rcases h2 with h2 | ⟨g, cap, cur, rfl, hg, r⟩
  · exact .inl h2
  · exact .inr ⟨g, cap, cur, rfl, hb g rfl, r⟩
end Go.Proofs.YtdjjifljlkjafaaGreatDoor
