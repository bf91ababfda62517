/- What a walk carries from call to call: blocks that lie, and what else stays while nothing old turns. Conditions: those of each theorem. -/
import Derived.Test.YtdjjifljlkjafaaGreatDoorOutLaw
import Derived.Lib.Hide
namespace Go.Proofs.YtdjjifljlkjafaaGreatDoor
open Go Go.Proofs Go.RowKit

/-- the blocks of the list lie -/
def Lays (W : World) (L : List (Nat × Obj)) : Prop := ∀ p ∈ L, W.heap[p.1]? = some p.2
theorem Lays.get {W : World} {L : List (Nat × Obj)} (h : Lays W L) (i : Nat) {b : Nat} {o : Obj} (hi : L[i]? = some (b, o)) : W.heap[b]? = some o := h (b, o) (List.mem_of_getElem? hi)
theorem Lays.below {W W' : World} {L : List (Nat × Obj)} (h : Lays W L) (hb : Below W.heap.size W W') : Lays W' L := fun p hp => (hb.block p.1 (getElem?_lt (h p hp))).trans (h p hp)
theorem Lays.nil (W : World) : Lays W [] := fun _ h => by cases h

/-- a fact on worlds that stays while nothing old turns -/
def Stays (T : World → Prop) : Prop := ∀ A B, T A → Below A.heap.size A B → T B
theorem Stays.and {T R : World → Prop} (h : Stays T) (k : Stays R) : Stays (fun W => T W ∧ R W) := fun A B ha hb => ⟨h A B ha.1 hb, k A B ha.2 hb⟩
theorem Stays.true : Stays (fun _ => True) := fun _ _ _ _ => trivial

structure St (T : World → Prop) (w W : World) (L : List (Nat × Obj)) : Prop where
  lays : Lays W L
  bel : Below w.heap.size w W
  tab : T W
  stays : Stays T
section
variable {T R : World → Prop} {w W W' : World} {L : List (Nat × Obj)}
theorem St.start (h : T w) (hs : Stays T) : Hid (St T w w []) := Lib.hid ⟨Lays.nil _, Below.refl _ _, h, hs⟩
theorem St.call (h : Hid (St T w W L)) (hb : Below W.heap.size W W') : Hid (St T w W' L) :=
  Lib.hid ⟨h.out.lays.below hb, h.out.bel.trans (hb.mono h.out.bel.size), h.out.stays _ _ h.out.tab hb, h.out.stays⟩
theorem St.box (h : Hid (St T w W L)) (o : Obj) : ∃ W1 B, W1 = W.alloc o ∧ B = W.heap.size ∧ Hid (Below W.heap.size W W1) ∧ Hid (St T w W1 ((B, o) :: L)) := by
  have hb : Below W.heap.size W (W.alloc o) := (Below.refl _ _).alloc (Nat.le_refl _) _
  refine ⟨_, _, rfl, rfl, Lib.hid hb, Lib.hid (St.mk (fun p hp => ?_) (h.out.bel.trans (hb.mono h.out.bel.size)) (h.out.stays _ _ h.out.tab hb) h.out.stays)⟩
  rcases List.mem_cons.1 hp with rfl | hp
  · exact World.alloc_heap_new _ _
  · exact h.out.lays.below hb p hp
theorem St.more (h : Hid (St T w W L)) (hR : R W) (hs : Stays R) : Hid (St (fun W => T W ∧ R W) w W L) := Lib.hid ⟨h.out.lays, h.out.bel, ⟨h.out.tab, hR⟩, h.out.stays.and hs⟩
theorem St.cells3 (h : Hid (St T w W L)) (i : Nat) {b t : Nat} {x y z : Value} (hi : L[i]? = some (b, .cells #[x, y, z] t (0, 0))) : W.cell? ⟨b, 0, none⟩ = some x ∧ W.cell? ⟨b, 1, none⟩ = some y ∧ W.cell? ⟨b, 2, none⟩ = some z := by
  simp [World.cell?, h.out.lays.get i hi]
theorem St.cells4 (h : Hid (St T w W L)) (i : Nat) {b t : Nat} {x y z u : Value} (hi : L[i]? = some (b, .cells #[x, y, z, u] t (0, 0))) : W.cell? ⟨b, 0, none⟩ = some x ∧ W.cell? ⟨b, 1, none⟩ = some y ∧ W.cell? ⟨b, 2, none⟩ = some z ∧ W.cell? ⟨b, 3, none⟩ = some u := by
  simp [World.cell?, h.out.lays.get i hi]
theorem St.cells2 (h : Hid (St T w W L)) (i : Nat) {b t : Nat} {x y : Value} (hi : L[i]? = some (b, .cells #[x, y] t (0, 0))) : W.cell? ⟨b, 0, none⟩ = some x ∧ W.cell? ⟨b, 1, none⟩ = some y := by
  simp [World.cell?, h.out.lays.get i hi]
theorem St.cells1 (h : Hid (St T w W L)) (i : Nat) {b t : Nat} {x : Value} (hi : L[i]? = some (b, .cells #[x] t (0, 0))) : W.cell? ⟨b, 0, none⟩ = some x := by
  simp [World.cell?, h.out.lays.get i hi]
theorem St.drew (h : Hid (St T w W L)) : Hid (St T w W.drew L) := St.call h (Below.refl _ _).drew
theorem St.lt (h : Hid (St T w W L)) (i : Nat) {b : Nat} {o : Obj} (hi : L[i]? = some (b, o)) : b < W.heap.size := getElem?_lt (h.out.lays.get i hi)
end
end Go.Proofs.YtdjjifljlkjafaaGreatDoor
