/- Part 2 of the proofs about parse: OutLaw, ParAt, ParShow, Lays, LexWalkA, Shelf. Conditions: those of each theorem. -/
import Derived.Maps.AppendAt
import Derived.Maps.OwnIn
import Derived.Lib.Hide
import Derived.Test.YtjijdgkccfeeaaaGreatDoorProg
import Derived.WalkKit
import Derived.Deep.QuietTactic
import Derived.BigQuiet
import Derived.Shelf.Strings.Builder1
import Derived.Shelf.Strings.Builder2
import Derived.Shelf.Strings.OnBuilder
import Derived.Shelf.Small.Strs
import Derived.Shelf.Strings.Builder2Cap
import Derived.Shelf.Strconv.Atoi
import Derived.Shelf.Strconv.Itoa0
import Derived.Shelf.Strconv.Itoa1
import Derived.Shelf.LaysM
import Derived.Shelf.Strconv.Itoa2
import Derived.Shelf.Strconv.Itoa3
import Derived.Shelf.Strconv.AtoiErrFast
import Derived.Shelf.Strconv.ParseIntEmpty
import Derived.Shelf.Strconv.AtoiFail
import Derived.Shelf.Strconv.Clone
import Derived.Shelf.Strconv.SyntaxError
import Derived.Shelf.LaysC
import Derived.Shelf.Strconv.ToError
import Derived.Shelf.Strconv.Lower
import Derived.Shelf.Strconv.ParseUint10
import Derived.Shelf.Strconv.ParseUint10Empty
import Derived.Shelf.Strconv.ParseUint10Any
import Derived.Shelf.Strconv.ParseInt10
import Derived.Shelf.Strconv.AtoiLong
import Derived.Shelf.Strconv.AtoiInnerAll
import Derived.Shelf.Strconv.RangeError
import Derived.Shelf.Strconv.ToErrorRange
import Derived.Shelf.Strconv.AtoiAll
import Derived.Shelf.Strconv.ErrVarAll
import Derived.Shelf.Strings.Search1
import Derived.Shelf.Strings.Search2
import Derived.Shelf.Strings.Search3
import Derived.Shelf.Strings.Count
import Derived.Shelf.Strings.Shaped
import Derived.Shelf.Strings.Prefix
import Derived.Shelf.Strings.Fields
import Derived.Shelf.Unicode.Latin
import Derived.Shelf.Unicode.Is16White
import Derived.Shelf.Unicode.IsSpaceAny
import Derived.Shelf.Unicode.Is16Any
import Derived.Shelf.Unicode.Is32Any
import Derived.Shelf.Unicode.ExclAny
import Derived.Test.YtjijdgkccfeeaaaGreatDoorNt01
namespace Go.Proofs.YtjijdgkccfeeaaaGreatDoor
open Go Go.Proofs Go.RowKit
theorem getElem?_lt {w : World} {k : Nat} {o : Obj} (h : w.heap[k]? = some o) : k < w.heap.size := (Array.getElem?_eq_some_iff.1 h).1
theorem ownsRow_turned {C : Nat → Prop} {A B : World} {base e size n : Nat} {v : Value} {xs : List Value} (ht : Turned C A B) (hC : ∀ k, C k → k < base) (h : A.ownsRow base e size v n xs) : B.ownsRow base e size v n xs := by
  obtain ⟨h1, h2⟩ := h
  refine ⟨h1, ?_⟩
  rcases h2 with h2 | ⟨g, cap, cur, hv, hg, hh, r⟩
  · exact .inl h2
  · exact .inr ⟨g, cap, cur, hv, hg, (ht.block g (getElem?_lt hh) (fun h => by have := hC g h; omega)).trans hh, r⟩
theorem ownsRow_block {A : World} {base e size n : Nat} {v : Value} {xs : List Value} (h : A.ownsRow base e size v n xs) : ∀ g, v.ownBlock = some g → base ≤ g ∧ g < A.heap.size := by
  intro g hg
  obtain ⟨-, h2⟩ := h
  rcases h2 with ⟨rfl, -⟩ | ⟨g', cap, cur, rfl, hb, hh, -⟩
  · simp [Value.ownBlock] at hg
  · simp [Value.ownBlock] at hg
    subst hg
    exact ⟨hb, getElem?_lt hh⟩
def Out {α : Type} (W : World) (B T base N e size : Nat) (enc : α → List Value) (bs : List α) : Prop :=
  ∃ v, W.heap[B]? = some (.cells #[v] T (0, 0)) ∧ W.ownsRow base e size v bs.length (bs.flatMap enc) ∧ (∀ g, v.ownBlock = some g → g < N) ∧ B < N
section
variable {α : Type} {W : World} {B T base N e size : Nat} {enc : α → List Value} {bs : List α}
theorem Out.mono {N' : Nat} (h : Out W B T base N e size enc bs) (hN : N ≤ N') : Out W B T base N' e size enc bs := by
  obtain ⟨v, h1, h2, h3, h4⟩ := h
  exact ⟨v, h1, h2, fun g hg => Nat.lt_of_lt_of_le (h3 g hg) hN, Nat.lt_of_lt_of_le h4 hN⟩
theorem Out.turned {C : Nat → Prop} {W' : World} (h : Out W B T base N e size enc bs) (ht : Turned C W W') (hC : ∀ k, C k → k < base ∧ k ≠ B) : Out W' B T base N e size enc bs := by
  obtain ⟨v, h1, h2, h3, h4⟩ := h
  exact ⟨v, (ht.block B (getElem?_lt h1) (fun hb => (hC B hb).2 rfl)).trans h1, ownsRow_turned ht (fun k hk => (hC k hk).1) h2, h3, h4⟩
theorem Out.start (h : W.heap[B]? = some (.cells #[.slice none 0 0] T (0, 0))) (hN : B < N) : Out W B T base N e size enc ([] : List α) :=
  ⟨_, h, ⟨by simp, .inl ⟨rfl, rfl⟩⟩, fun g hg => by simp [Value.ownBlock] at hg, hN⟩
end
theorem cell_of_box {W : World} {B T : Nat} {v : Value} (h : W.heap[B]? = some (.cells #[v] T (0, 0))) : W.cell? ⟨B, 0, none⟩ = some v := by simp [World.cell?, h]
theorem free_of_box {W : World} {B T : Nat} {cs : Array Value} (h : W.heap[B]? = some (.cells cs T (0, 0))) (o : Nat) : W.frozen? ⟨B, o, none⟩ = false := by simp [World.frozen?, h]
theorem box_setCell {W : World} {B T : Nat} {v : Value} (u : Value) (h : W.heap[B]? = some (.cells #[v] T (0, 0))) : (W.setCell ⟨B, 0, none⟩ u).heap[B]? = some (.cells #[u] T (0, 0)) := by
  simp [World.setCell, Array.getElem?_modify, h]
theorem heap_setCell_other {W : World} {a : Addr} {u : Value} {k : Nat} (h : k ≠ a.block) : (W.setCell a u).heap[k]? = W.heap[k]? := Below.heap_setCell _ _ _ _ h
theorem Out.appended {α : Type} {W w1 : World} {B T base e size n : Nat} {enc : α → List Value} {bs : List α} {x : α} {v v' : Value} {o : Obj}
    (hbox : W.heap[B]? = some (.cells #[v] T (0, 0))) (hown : W.ownsRow base e size v bs.length (bs.flatMap enc)) (hB : B < base) (hn : n = bs.length + 1)
    (hown' : w1.ownsRow base e size v' n (bs.flatMap enc ++ enc x)) (hg : (W.alloc o).grownBy w1 v.ownBlock) :
    Out (w1.setCell ⟨B, 0, none⟩ v') B T base (w1.setCell ⟨B, 0, none⟩ v').heap.size e size enc (bs ++ [x]) ∧ Turned (fun k => k = B ∨ v.ownBlock = some k) W (w1.setCell ⟨B, 0, none⟩ v') ∧ w1.heap[B]? = some (.cells #[v] T (0, 0)) ∧ W.heap.size < w1.heap.size := by
  have hBlt := getElem?_lt hbox
  have hob := ownsRow_block hown
  have ht1 : Turned (fun k => v.ownBlock = some k) W w1 := ((Turned.refl _ W).alloc o).trans (Turned.of_grown hg fun k hk => hk)
  have hb1 : w1.heap[B]? = some (.cells #[v] T (0, 0)) := (ht1.block B hBlt (fun h => by have := hob B h; omega)).trans hbox
  have hsz : (w1.setCell ⟨B, 0, none⟩ v').heap.size = w1.heap.size := by simp [World.setCell]
  have ht2 : Turned (fun k => k = B) w1 (w1.setCell ⟨B, 0, none⟩ v') := (Turned.refl (fun k => k = B) w1).setCell (p := ⟨B, 0, none⟩) rfl _
  have hob' := ownsRow_block hown'
  refine ⟨⟨v', box_setCell v' hb1, ?_, fun g hg' => by rw [hsz]; exact (hob' g hg').2, by rw [hsz]; exact getElem?_lt hb1⟩, (ht1.mono fun _ h => .inr h).trans (ht2.mono fun _ h => .inl h), hb1, ?_⟩
  · subst hn
    have := ownsRow_turned ht2 (fun k hk => by rw [hk]; exact hB) hown'
    simpa using this
  · have := hg.size; simp at this; omega
theorem flatMap_at {α : Type} (enc : α → List Value) (s : Nat) (henc : ∀ x, (enc x).length = s) : ∀ (bs : List α) (i j : Nat) (hi : i < bs.length), j < s → (bs.flatMap enc)[i * s + j]? = (enc bs[i])[j]?
  | [], i, j, hi, _ => by simp at hi
  | b :: bs, 0, j, _, hj => by
    simp only [List.flatMap_cons, Nat.zero_mul, Nat.zero_add, List.getElem_cons_zero]
    rw [List.getElem?_append_left (by rw [henc]; exact hj)]
  | b :: bs, i + 1, j, hi, hj => by
    simp only [List.flatMap_cons, List.getElem_cons_succ]
    rw [List.getElem?_append_right (by rw [henc, Nat.add_mul]; omega), henc, ← flatMap_at enc s henc bs i j (by simpa using hi) hj]
    congr 1
    rw [Nat.add_mul]; omega
theorem owns_shape {W : World} {base e s n : Nat} {xs : List Value} {v : Value} (h : W.ownsRow base e s v n xs) : ∃ a c, v = .slice a n c := by
  obtain ⟨-, ⟨rfl, rfl⟩ | ⟨g, cap, cur, rfl, -⟩⟩ := h
  · exact ⟨none, 0, rfl⟩
  · exact ⟨_, cap, rfl⟩
theorem owns_cell {α : Type} {W : World} {base e s : Nat} {enc : α → List Value} {bs : List α} {v : Value} (henc : ∀ x, (enc x).length = s) (h : W.ownsRow base e s v bs.length (bs.flatMap enc)) :
    (v = .slice none 0 0 ∧ bs = []) ∨ ∃ g cap, v = .slice (some ⟨g, 0, none⟩) bs.length cap ∧ bs.length ≤ cap ∧ cap ≤ maxLen ∧ base ≤ g ∧ g < W.heap.size ∧ ∀ (i j : Nat) (hi : i < bs.length), j < s → W.cell? ⟨g, 0 + i * s + j, none⟩ = (enc bs[i])[j]? := by
  obtain ⟨h1, h2⟩ := h
  rcases h2 with ⟨hv, hn⟩ | ⟨g, cap, cur, hv, hg, hh, hc1, hc2, hcs, ht⟩
  · exact .inl ⟨hv, List.length_eq_zero_iff.1 hn⟩
  · refine .inr ⟨g, cap, hv, hc1, hc2, hg, getElem?_lt hh, fun i j hi hj => ?_⟩
    have hlt : i * s + j < bs.length * s := by
      have : (i + 1) * s ≤ bs.length * s := Nat.mul_le_mul_right _ hi
      rw [Nat.add_mul] at this; omega
    rw [← flatMap_at enc s henc bs i j hi hj, ← ht, List.getElem?_take_of_lt hlt]
    simp [World.cell?, hh]
end Go.Proofs.YtjijdgkccfeeaaaGreatDoor
namespace Go.Proofs.YtjijdgkccfeeaaaGreatDoor
open Go Go.Proofs Go.RowKit
def Ex.op : Ex → Int | .mk o _ _ _ _ => o
def Ex.n : Ex → Int | .mk _ n _ _ _ => n
def Ex.s : Ex → ByteArray | .mk _ _ s _ _ => s
def Ex.kids : Ex → List Ex | .mk _ _ _ k _ => k
def Fm.word : Fm → ByteArray | .mk w _ _ _ => w
def Fm.args : Fm → List Ar | .mk _ a _ _ => a
def Fm.body : Fm → List Fm | .mk _ _ b _ => b
def Fm.at_ : Fm → Int | .mk _ _ _ a => a
def exV (x : Ex) (k : Value) : List Value := [(.int .i64 (x.op)), (.int .i64 (x.n)), .string x.s, k, (.int .i64 (x.at_))]
def arV (x : Ar) (k : Value) : List Value := [(.int .i64 (x.kind)), (.int .i64 (x.n)), .string x.s, (.int .i64 (x.e.op)), (.int .i64 (x.e.n)), .string x.e.s, k, (.int .i64 (x.e.at_)), (.int .i64 (x.at_))]
def fmV (x : Fm) (a b : Value) : List Value := [.string x.word, a, b, (.int .i64 (x.at_))]
def RowAt (W : World) (b a s : Nat) (n : Nat) (f : Nat → List Value) : Prop := ∀ i, i < n → ∀ j u, (f i)[j]? = some u → W.cell? ⟨b, a + i * s + j, none⟩ = some u
theorem cell_turned {C : Nat → Prop} {W W' : World} (h : Turned C W W') {b o : Nat} {u : Value} (hb : ¬ C b) (hc : W.cell? ⟨b, o, none⟩ = some u) : W'.cell? ⟨b, o, none⟩ = some u := by
  have hlt : b < W.heap.size := by
    rcases Nat.lt_or_ge b W.heap.size with h1 | h1
    · exact h1
    · simp [World.cell?, h1] at hc
  have hb2 := h.block b hlt hb
  simp only [World.cell?] at hc ⊢
  rw [hb2]
  exact hc
theorem RowAt.turned {C : Nat → Prop} {W W' : World} {b a s n : Nat} {f : Nat → List Value} (h : RowAt W b a s n f) (ht : Turned C W W') (hb : ¬ C b) : RowAt W' b a s n f := fun i hi j u hu => cell_turned ht hb (h i hi j u hu)
inductive KidsAt (W : World) (N : Nat → Prop) : List Ex → Value → Prop
  | nil (p : Option Addr) (c : Nat) : KidsAt W N [] (.slice p 0 c)
  | some (kids : List Ex) (b a c : Nat) (k : Nat → Value) (hN : N b) (hl : kids.length ≤ maxLen) (hcell : RowAt W b a 5 kids.length fun i => match kids[i]? with | .some x => exV x (k i) | .none => [])
      (hk : ∀ i x, kids[i]? = .some x → KidsAt W N x.kids (k i)) : KidsAt W N kids (.slice (some ⟨b, a, none⟩) kids.length c)
inductive ArgsAt (W : World) (N : Nat → Prop) : List Ar → Value → Prop
  | nil (p : Option Addr) (c : Nat) : ArgsAt W N [] (.slice p 0 c)
  | some (as_ : List Ar) (b a c : Nat) (k : Nat → Value) (hN : N b) (hl : as_.length ≤ maxLen) (hcell : RowAt W b a 9 as_.length fun i => match as_[i]? with | .some x => arV x (k i) | .none => [])
      (hk : ∀ i x, as_[i]? = .some x → KidsAt W N x.e.kids (k i)) : ArgsAt W N as_ (.slice (some ⟨b, a, none⟩) as_.length c)
inductive FormsAt (W : World) (N : Nat → Prop) : List Fm → Value → Prop
  | nil (p : Option Addr) (c : Nat) : FormsAt W N [] (.slice p 0 c)
  | some (fs : List Fm) (b a c : Nat) (k l : Nat → Value) (hN : N b) (hl : fs.length ≤ maxLen) (hcell : RowAt W b a 4 fs.length fun i => match fs[i]? with | .some x => fmV x (k i) (l i) | .none => [])
      (ha : ∀ i x, fs[i]? = .some x → ArgsAt W N x.args (k i)) (hb : ∀ i x, fs[i]? = .some x → FormsAt W N x.body (l i)) : FormsAt W N fs (.slice (some ⟨b, a, none⟩) fs.length c)
theorem KidsAt.move {W W' : World} {N M C : Nat → Prop} {l : List Ex} {v : Value} (h : KidsAt W N l v) (ht : Turned C W W') (hC : ∀ b, N b → ¬ C b) (hM : ∀ b, N b → b < W.heap.size → M b) : KidsAt W' M l v := by
  induction h with
  | nil p c => exact .nil p c
  | some kids b a c k hN hl hcell hk ih =>
    cases kids with
    | nil => exact .nil _ _
    | cons x xs =>
      have h0 := hcell 0 (by simp) 0 (.int .i64 (x.op)) (by simp [exV])
      have hlt : b < W.heap.size := by
        rcases Nat.lt_or_ge b W.heap.size with h1 | h1
        · exact h1
        · simp [World.cell?, h1] at h0
      exact .some _ b a c k (hM b hN hlt) hl (hcell.turned ht (hC b hN)) ih
theorem ArgsAt.move {W W' : World} {N M C : Nat → Prop} {l : List Ar} {v : Value} (h : ArgsAt W N l v) (ht : Turned C W W') (hC : ∀ b, N b → ¬ C b) (hM : ∀ b, N b → b < W.heap.size → M b) : ArgsAt W' M l v := by
  cases h with
  | nil p c => exact .nil p c
  | some _ b a c k hN hl hcell hk =>
    cases l with
    | nil => exact .nil _ _
    | cons x xs =>
      have h0 := hcell 0 (by simp) 0 (.int .i64 (x.kind)) (by simp [arV])
      have hlt : b < W.heap.size := by
        rcases Nat.lt_or_ge b W.heap.size with h1 | h1
        · exact h1
        · simp [World.cell?, h1] at h0
      exact .some _ b a c k (hM b hN hlt) hl (hcell.turned ht (hC b hN)) fun i x hx => (hk i x hx).move ht hC hM
theorem FormsAt.move {W W' : World} {N M C : Nat → Prop} {l : List Fm} {v : Value} (h : FormsAt W N l v) (ht : Turned C W W') (hC : ∀ b, N b → ¬ C b) (hM : ∀ b, N b → b < W.heap.size → M b) : FormsAt W' M l v := by
  induction h with
  | nil p c => exact .nil p c
  | some fs b a c k m hN hl hcell ha hb ih =>
    cases fs with
    | nil => exact .nil _ _
    | cons x xs =>
      have h0 := hcell 0 (by simp) 0 (.string x.word) (by simp [fmV])
      have hlt : b < W.heap.size := by
        rcases Nat.lt_or_ge b W.heap.size with h1 | h1
        · exact h1
        · simp [World.cell?, h1] at h0
      exact .some _ b a c k m (hM b hN hlt) hl (hcell.turned ht (hC b hN)) (fun i x hx => (ha i x hx).move ht hC hM) ih
theorem KidsAt.shape {W : World} {N : Nat → Prop} {l : List Ex} {v : Value} (h : KidsAt W N l v) : ∃ p c, v = .slice p l.length c := by
  cases h with
  | nil p c => exact ⟨p, c, rfl⟩
  | some => exact ⟨_, _, rfl⟩
theorem ArgsAt.shape {W : World} {N : Nat → Prop} {l : List Ar} {v : Value} (h : ArgsAt W N l v) : ∃ p c, v = .slice p l.length c := by
  cases h with
  | nil p c => exact ⟨p, c, rfl⟩
  | some => exact ⟨_, _, rfl⟩
theorem FormsAt.shape {W : World} {N : Nat → Prop} {l : List Fm} {v : Value} (h : FormsAt W N l v) : ∃ p c, v = .slice p l.length c := by
  cases h with
  | nil p c => exact ⟨p, c, rfl⟩
  | some => exact ⟨_, _, rfl⟩
def From (n b : Nat) : Prop := n ≤ b
theorem kids_of_owns {W : World} {base e n : Nat} {v : Value} {N : Nat → Prop} {ps : List (Ex × Value)} (h : W.ownsRow base e 5 v n (ps.flatMap fun p => exV p.1 p.2)) (hn : n = ps.length) (hN : ∀ g, v.ownBlock = some g → N g) (hk : ∀ p ∈ ps, KidsAt W N p.1.kids p.2) : KidsAt W N (ps.map (·.1)) v := by
  subst hn
  rcases owns_cell (enc := fun p : Ex × Value => exV p.1 p.2) (fun _ => rfl) h with ⟨rfl, rfl⟩ | ⟨g, cap, rfl, h1, h2, h3, h4, h5⟩
  · exact .nil _ _
  · have := KidsAt.some (W := W) (N := N) (ps.map (·.1)) g 0 cap (fun i => ((ps[i]?).map (·.2)).getD undef) (hN g (by simp [Value.ownBlock])) (by rw [List.length_map]; omega) (fun i hi j u hu => ?_) (fun i x hx => ?_)
    · simpa using this
    · simp only [List.length_map] at hi
      simp only [List.getElem?_map, List.getElem?_eq_getElem hi, Option.map_some, Option.getD_some] at hu
      have hj : j < 5 := by
        have := (List.getElem?_eq_some_iff.1 hu).1
        simpa [exV] using this
      rw [h5 i j hi hj]
      exact hu
    · simp only [List.getElem?_map] at hx ⊢
      obtain ⟨p, hp, rfl⟩ := Option.map_eq_some_iff.1 hx
      simp only [hp, Option.map_some, Option.getD_some]
      exact hk p (List.mem_of_getElem? hp)
theorem args_of_owns {W : World} {base e n : Nat} {v : Value} {N : Nat → Prop} {ps : List (Ar × Value)} (h : W.ownsRow base e 9 v n (ps.flatMap fun p => arV p.1 p.2)) (hn : n = ps.length) (hN : ∀ g, v.ownBlock = some g → N g) (hk : ∀ p ∈ ps, KidsAt W N p.1.e.kids p.2) : ArgsAt W N (ps.map (·.1)) v := by
  subst hn
  rcases owns_cell (enc := fun p : Ar × Value => arV p.1 p.2) (fun _ => rfl) h with ⟨rfl, rfl⟩ | ⟨g, cap, rfl, h1, h2, h3, h4, h5⟩
  · exact .nil _ _
  · have := ArgsAt.some (W := W) (N := N) (ps.map (·.1)) g 0 cap (fun i => ((ps[i]?).map (·.2)).getD undef) (hN g (by simp [Value.ownBlock])) (by rw [List.length_map]; omega) (fun i hi j u hu => ?_) (fun i x hx => ?_)
    · simpa using this
    · simp only [List.length_map] at hi
      simp only [List.getElem?_map, List.getElem?_eq_getElem hi, Option.map_some, Option.getD_some] at hu
      have hj : j < 9 := by
        have := (List.getElem?_eq_some_iff.1 hu).1
        simpa [arV] using this
      rw [h5 i j hi hj]
      exact hu
    · simp only [List.getElem?_map] at hx ⊢
      obtain ⟨p, hp, rfl⟩ := Option.map_eq_some_iff.1 hx
      simp only [hp, Option.map_some, Option.getD_some]
      exact hk p (List.mem_of_getElem? hp)
theorem forms_of_owns {W : World} {base e n : Nat} {v : Value} {N : Nat → Prop} {ps : List (Fm × Value × Value)} (h : W.ownsRow base e 4 v n (ps.flatMap fun p => fmV p.1 p.2.1 p.2.2)) (hn : n = ps.length) (hN : ∀ g, v.ownBlock = some g → N g) (ha : ∀ p ∈ ps, ArgsAt W N p.1.args p.2.1) (hb : ∀ p ∈ ps, FormsAt W N p.1.body p.2.2) : FormsAt W N (ps.map (·.1)) v := by
  subst hn
  rcases owns_cell (enc := fun p : Fm × Value × Value => fmV p.1 p.2.1 p.2.2) (fun _ => rfl) h with ⟨rfl, rfl⟩ | ⟨g, cap, rfl, h1, h2, h3, h4, h5⟩
  · exact .nil _ _
  · have := FormsAt.some (W := W) (N := N) (ps.map (·.1)) g 0 cap (fun i => ((ps[i]?).map (·.2.1)).getD undef) (fun i => ((ps[i]?).map (·.2.2)).getD undef) (hN g (by simp [Value.ownBlock])) (by rw [List.length_map]; omega) (fun i hi j u hu => ?_) (fun i x hx => ?_) (fun i x hx => ?_)
    · simpa using this
    · simp only [List.length_map] at hi
      simp only [List.getElem?_map, List.getElem?_eq_getElem hi, Option.map_some, Option.getD_some] at hu
      have hj : j < 4 := by
        have := (List.getElem?_eq_some_iff.1 hu).1
        simpa [fmV] using this
      rw [h5 i j hi hj]
      exact hu
    · simp only [List.getElem?_map] at hx ⊢
      obtain ⟨p, hp, rfl⟩ := Option.map_eq_some_iff.1 hx
      simp only [hp, Option.map_some, Option.getD_some]
      exact ha p (List.mem_of_getElem? hp)
    · simp only [List.getElem?_map] at hx ⊢
      obtain ⟨p, hp, rfl⟩ := Option.map_eq_some_iff.1 hx
      simp only [hp, Option.map_some, Option.getD_some]
      exact hb p (List.mem_of_getElem? hp)
end Go.Proofs.YtjijdgkccfeeaaaGreatDoor
namespace Go.Proofs.YtjijdgkccfeeaaaGreatDoor
open Go Go.Proofs Go.RowKit
def sgT (s : ByteArray) : Tok := ⟨4, 0, s, 0⟩
def nmT (s : ByteArray) : Tok := ⟨1, 0, s, 0⟩
def nuT (n : Int) : Tok := ⟨2, 0, noB, n⟩
def txT (s : ByteArray) : Tok := ⟨3, 0, s, 0⟩
def letterB (c : UInt8) : Bool := (decide (97 ≤ c) && decide (c ≤ 122)) || (decide (65 ≤ c) && decide (c ≤ 90)) || c == 95
def digitB (c : UInt8) : Bool := decide (48 ≤ c) && decide (c ≤ 57)
def nameTo (s : ByteArray) : Nat → Bool
  | 0 => decide (0 < s.size) && decide (s.size ≤ 32)
  | k + 1 => nameTo s k && (letterB (s.data.toList.getD k 0) || (decide (0 < k) && digitB (s.data.toList.getD k 0)))
def badName (s : ByteArray) : Bool := !nameTo s s.size
def textTo (s : ByteArray) : Nat → Bool
  | 0 => decide (200 < s.size)
  | k + 1 => textTo s k || (s.data.toList.getD k 0 != 10 && (decide (s.data.toList.getD k 0 < 32) || decide (126 < s.data.toList.getD k 0)))
def badText (s : ByteArray) : Bool := textTo s s.size
def badNum (n : Int) : Bool := decide (n < 0) || decide (999999999999999 < n)
def lvlX (op : Int) : Nat := if op = 20 then 0 else if op = 5 then 3 else if op = 6 then 7 else match opRows.find? fun r => r.2.1 == op with | some r => r.2.2 | none => 8
abbrev Pr := List Tok × Bool
def Pr.app (a b : Pr) : Pr := (a.1 ++ b.1, a.2 || b.2)
def opndX (need : Nat) (op : Int) (p : Pr) : Pr := if need ≤ lvlX op then p else (sgT ⟨#[40]⟩ :: (p.1 ++ [sgT ⟨#[41]⟩]), p.2)
def callX : Nat → List (Int × Pr) → Pr
  | _, [] => ([], false)
  | k, (op, p) :: r => Pr.app (if 0 < k then [sgT ⟨#[44]⟩] else [], false) (Pr.app (opndX 0 op p) (callX (k + 1) r))
def headX (op n : Int) (s : ByteArray) (K : List (Int × Pr)) : Pr :=
  if op = 1 then ([nuT n], badNum n)
  else if op = 2 then ([txT s], badText s)
  else if op = 3 then ([nmT s], badName s)
  else if op = 4 then Pr.app ([nmT s, sgT ⟨#[40]⟩], badName s) (Pr.app (callX 0 K) ([sgT ⟨#[41]⟩], false))
  else match K with
    | [(p, a)] => if op = 5 then Pr.app ([sgT ⟨#[33]⟩], false) (opndX 3 p a) else if op = 6 then Pr.app ([sgT ⟨#[45]⟩], false) (opndX 7 p a) else ([], true)
    | [(p, a), (q, b)] => match opRows.find? fun r => r.2.1 == op with
      | some r => Pr.app (opndX (if r.2.2 = 4 then 5 else r.2.2) p a) (Pr.app ([sgT r.1], false) (opndX (r.2.2 + 1) q b))
      | none => ([], true)
    | [(p, a), (q, b), (r, c)] => if op = 20 then Pr.app (opndX 1 p a) (Pr.app ([sgT ⟨#[63]⟩], false) (Pr.app (opndX 0 q b) (Pr.app ([sgT ⟨#[58]⟩], false) (opndX 0 r c)))) else ([], true)
    | _ => ([], true)
mutual
def showX : Ex → Int × Pr
  | .mk op n s ks _ => (op, headX op n s (showXs ks))
def showXs : List Ex → List (Int × Pr)
  | [] => []
  | x :: xs => showX x :: showXs xs
end
def showA (a : Ar) : Pr :=
  if a.kind = 1 then ([nmT a.s], badName a.s)
  else if a.kind = 2 then if a.n < 0 then ([sgT ⟨#[45]⟩, nuT (max (wrap64 (-a.n)) 0)], badNum (max (wrap64 (-a.n)) 0) || decide (a.n < -999999999999999)) else ([nuT a.n], badNum a.n)
  else if a.kind = 3 then ([txT a.s], badText a.s)
  else if a.kind = 4 then ([sgT ⟨#[45, 62]⟩], false)
  else if a.kind = 5 then (sgT ⟨#[40]⟩ :: ((showX a.e).2.1 ++ [sgT ⟨#[41]⟩]), (showX a.e).2.2)
  else ([], true)
def showAs : List Ar → Pr
  | [] => ([], false)
  | a :: as_ => Pr.app (showA a) (showAs as_)
mutual
def showF : Fm → Pr
  | .mk w as_ fs _ => Pr.app ([nmT w], badName w) (Pr.app (showAs as_) (if fs.isEmpty then ([sgT ⟨#[59]⟩], false) else Pr.app ([sgT ⟨#[123]⟩], false) (Pr.app (showFs fs) ([sgT ⟨#[125]⟩], false))))
def showFs : List Fm → Pr
  | [] => ([], false)
  | x :: xs => Pr.app (showF x) (showFs xs)
end
theorem Pr.app_nil (a : Pr) : Pr.app a ([], false) = a := by simp [Pr.app]
theorem Pr.nil_app (a : Pr) : Pr.app ([], false) a = a := by simp [Pr.app]
theorem Pr.app_assoc (a b c : Pr) : Pr.app (Pr.app a b) c = Pr.app a (Pr.app b c) := by simp [Pr.app, Bool.or_assoc]
theorem showXs_map (l : List Ex) : showXs l = l.map showX := by
  induction l with
  | nil => rfl
  | cons x xs ih => simp [showXs, ih]
end Go.Proofs.YtjijdgkccfeeaaaGreatDoor
namespace Go.Proofs.YtjijdgkccfeeaaaGreatDoor
open Go Go.Proofs Go.RowKit
def Lays (W : World) (L : List (Nat × Obj)) : Prop := ∀ p ∈ L, W.heap[p.1]? = some p.2
theorem Lays.get {W : World} {L : List (Nat × Obj)} (h : Lays W L) (i : Nat) {b : Nat} {o : Obj} (hi : L[i]? = some (b, o)) : W.heap[b]? = some o := h (b, o) (List.mem_of_getElem? hi)
theorem Lays.below {W W' : World} {L : List (Nat × Obj)} (h : Lays W L) (hb : Below W.heap.size W W') : Lays W' L := fun p hp => (hb.block p.1 (getElem?_lt (h p hp))).trans (h p hp)
theorem Lays.nil (W : World) : Lays W [] := fun _ h => by cases h
def Stays (T : World → Prop) : Prop := ∀ A B, T A → Below A.heap.size A B → T B
theorem Stays.and {T R : World → Prop} (h : Stays T) (k : Stays R) : Stays (fun W => T W ∧ R W) := fun A B ha hb => ⟨h A B ha.1 hb, k A B ha.2 hb⟩
theorem Stays.true : Stays (fun _ => True) := fun _ _ _ _ => trivial
structure St (T : World → Prop) (w W : World) (L : List (Nat × Obj)) : Prop where
  lays : Lays W L
  bel : Below w.heap.size w W
  tab : T W
  stays : Stays T
section
variable {T R : World → Prop} {w W W' : World} {L : List (Nat × Obj)}
theorem St.start (h : T w) (hs : Stays T) : Hid (St T w w []) := Lib.hid ⟨Lays.nil _, Below.refl _ _, h, hs⟩
theorem St.call (h : Hid (St T w W L)) (hb : Below W.heap.size W W') : Hid (St T w W' L) :=
  Lib.hid ⟨h.out.lays.below hb, h.out.bel.trans (hb.mono h.out.bel.size), h.out.stays _ _ h.out.tab hb, h.out.stays⟩
theorem St.box (h : Hid (St T w W L)) (o : Obj) : ∃ W1 B, W1 = W.alloc o ∧ B = W.heap.size ∧ Hid (Below W.heap.size W W1) ∧ Hid (St T w W1 ((B, o) :: L)) := by
  have hb : Below W.heap.size W (W.alloc o) := (Below.refl _ _).alloc (Nat.le_refl _) _
  refine ⟨_, _, rfl, rfl, Lib.hid hb, Lib.hid (St.mk (fun p hp => ?_) (h.out.bel.trans (hb.mono h.out.bel.size)) (h.out.stays _ _ h.out.tab hb) h.out.stays)⟩
  rcases List.mem_cons.1 hp with rfl | hp
  · exact World.alloc_heap_new _ _
  · exact h.out.lays.below hb p hp
theorem St.more (h : Hid (St T w W L)) (hR : R W) (hs : Stays R) : Hid (St (fun W => T W ∧ R W) w W L) := Lib.hid ⟨h.out.lays, h.out.bel, ⟨h.out.tab, hR⟩, h.out.stays.and hs⟩
theorem St.cells3 (h : Hid (St T w W L)) (i : Nat) {b t : Nat} {x y z : Value} (hi : L[i]? = some (b, .cells #[x, y, z] t (0, 0))) : W.cell? ⟨b, 0, none⟩ = some x ∧ W.cell? ⟨b, 1, none⟩ = some y ∧ W.cell? ⟨b, 2, none⟩ = some z := by
  simp [World.cell?, h.out.lays.get i hi]
theorem St.cells4 (h : Hid (St T w W L)) (i : Nat) {b t : Nat} {x y z u : Value} (hi : L[i]? = some (b, .cells #[x, y, z, u] t (0, 0))) : W.cell? ⟨b, 0, none⟩ = some x ∧ W.cell? ⟨b, 1, none⟩ = some y ∧ W.cell? ⟨b, 2, none⟩ = some z ∧ W.cell? ⟨b, 3, none⟩ = some u := by
  simp [World.cell?, h.out.lays.get i hi]
theorem St.cells2 (h : Hid (St T w W L)) (i : Nat) {b t : Nat} {x y : Value} (hi : L[i]? = some (b, .cells #[x, y] t (0, 0))) : W.cell? ⟨b, 0, none⟩ = some x ∧ W.cell? ⟨b, 1, none⟩ = some y := by
  simp [World.cell?, h.out.lays.get i hi]
theorem St.cells1 (h : Hid (St T w W L)) (i : Nat) {b t : Nat} {x : Value} (hi : L[i]? = some (b, .cells #[x] t (0, 0))) : W.cell? ⟨b, 0, none⟩ = some x := by
  simp [World.cell?, h.out.lays.get i hi]
theorem St.drew (h : Hid (St T w W L)) : Hid (St T w W.drew L) := St.call h (Below.refl _ _).drew
theorem St.lt (h : Hid (St T w W L)) (i : Nat) {b : Nat} {o : Obj} (hi : L[i]? = some (b, o)) : b < W.heap.size := getElem?_lt (h.out.lays.get i hi)
end
end Go.Proofs.YtjijdgkccfeeaaaGreatDoor
namespace Go.Proofs.YtjijdgkccfeeaaaGreatDoor
open Go Go.Proofs Go.RowKit
attribute [local go_sem] Oper.semAt_some
theorem ret_int {k : IntKind} {a b : Int} (h : a = b) : Ending.returned (.int k a) = .returned (.int k b) := by rw [h]
set_option maxHeartbeats 1000000 in
theorem class_any (c : Int) (w : World) (h0 : 0 ≤ c) (h1 : c ≤ 255) : Calls Tryz.prog 109 #[.int .u8 c] w fun e w' => e = .returned (.int .i64 (clsI c)) ∧ w = w' := by
  go_enter Tryz.func109, Tryz.ntmps109
  go_wp2
  all_goals go_ret
  all_goals refine ⟨ret_int ?_, rfl⟩
  all_goals (unfold clsI; simp at *; omega)
def Rd (W : World) (B : Nat) (s : ByteArray) (k : Int) (v : Value) : Prop := W.heap[B]? = some (.cells #[.string s, (.int .i64 k), v] 146 (0, 0))
theorem Rd.cells {W : World} {B : Nat} {s : ByteArray} {k : Int} {v : Value} (h : Rd W B s k v) : W.cell? ⟨B, 0, none⟩ = some (.string s) ∧ W.cell? ⟨B, 1, none⟩ = some (.int .i64 k) ∧ W.cell? ⟨B, 2, none⟩ = some v := by
  unfold Rd at h; simp [World.cell?, h]
theorem Rd.free {W : World} {B : Nat} {s : ByteArray} {k : Int} {v : Value} (h : Rd W B s k v) (o : Nat) : W.frozen? ⟨B, o, none⟩ = false := by
  unfold Rd at h; simp [World.frozen?, h]
set_option maxHeartbeats 1000000 in
theorem span_any (B : Nat) (s : ByteArray) (k : Nat) (v : Value) (least : Int) (w : World) (hR : Rd w B s k v) (hs : s.size ≤ 9223372036854775807) (hk : k ≤ s.size) :
    Calls Tryz.prog 127 #[.pointer (some ⟨B, 0, none⟩), (.int .i64 least)] w fun e w' => e = .returned (.int .i64 ((spanTo s k least : Nat))) ∧ w = w' := by
  obtain ⟨c0, c1, c2⟩ := hR.cells
  have HR := Lib.hid hR
  clear hR
  go_enter Tryz.func127, Tryz.ntmps127
  go_wp2
  go_loop [5] (fun u => ∃ j : Nat, k ≤ j ∧ j ≤ s.size ∧ u = (.int .i64 j) ∧ Hid (j + spanL least (rest s j) = k + spanL least (rest s k))) (fun u => s.size - (intOf u).toNat)
  case atStart => exact ⟨k, Nat.le_refl _, hk, rfl, rfl⟩
  case round =>
    obtain ⟨j, hj1, hj2, rfl, HJ⟩ := hrel
    by_cases hlt : j < s.size
    · have hb : (s[j].toNat : Int) ≤ 255 := by have := s[j].toNat_lt; omega
      have hc := rest_cons s j hlt
      have HY : Hid (least ≤ cls s[j] → j + 1 + spanL least (rest s (j + 1)) = k + spanL least (rest s k)) := fun h => by
        rw [← HJ.out, hc, spanL_cons_yes h]; omega
      have HN : Hid (cls s[j] < least → j = k + spanL least (rest s k)) := fun h => by
        rw [← HJ.out, hc, spanL_cons_no h]; rfl
      clear hc
      have HC := Lib.hid (class_any (s[j].toNat : Int) w (by omega) hb)
      by_cases hp : least ≤ cls s[j]
      · have bp : decide (least ≤ clsI (s[j].toNat : Int)) = true := by simpa [cls] using hp
        go_wp2_with (go_at_call 109; refine HC.out.mono ?_; rintro e w' ⟨rfl, rfl⟩)
        go_round
        case rel => exact ⟨j + 1, by omega, by omega, by go_num, HY.out hp⟩
        case measure => simp [intOf]; omega
      · have bp : decide (least ≤ clsI (s[j].toNat : Int)) = false := by simp [cls] at hp ⊢; omega
        have HE := Lib.hid (HN.out (by omega))
        go_wp2_with (go_at_call 109; refine HC.out.mono ?_; rintro e w' ⟨rfl, rfl⟩)
        go_ret
        exact ⟨ret_int (by have := HE.out; unfold spanTo; omega), rfl⟩
    · have HE : Hid (j = k + spanL least (rest s k)) := by rw [← HJ.out, rest_nil s j (by omega)]; rfl
      go_wp2
      go_ret
      exact ⟨ret_int (by have := HE.out; unfold spanTo; omega), rfl⟩
end Go.Proofs.YtjijdgkccfeeaaaGreatDoor
namespace Go.Proofs
open Go.Shelf
def Tryz.lays156_ren : Go.Shelf.Ren := ⟨fun | 156 => 73 | 165 => 103 | 166 => 104 | 169 => 105 | 240 => 122 | 241 => 123 | 276 => 143 | 277 => 144 | n => n, fun | 31 => 42 | 9 => 9 | 3 => 3 | 4 => 4 | 0 => 0 | 20 => 20 | 72 => 174 | 76 => 177 | 70 => 171 | 37 => 172 | 75 => 176 | 127 => 193 | 164 => 216 | 5 => 5 | 80 => 179 | n => n, fun | n => n⟩
theorem Tryz.lays156 : Go.Proofs.Lays.n156 Tryz.prog Tryz.lays156_ren := {
  mixed := by kernel_rfl
  f156 := Tryz.func73.trans (congrArg some (by kernel_rfl))
  f165 := Tryz.func103.trans (congrArg some (by kernel_rfl))
  f166 := Tryz.func104.trans (congrArg some (by kernel_rfl))
  f169 := Tryz.func105.trans (congrArg some (by kernel_rfl))
  f240 := Tryz.func122.trans (congrArg some (by kernel_rfl))
  f241 := Tryz.func123.trans (congrArg some (by kernel_rfl))
  f276 := Tryz.func143.trans (congrArg some (by kernel_rfl))
  f277 := Tryz.func144.trans (congrArg some (by kernel_rfl))
  t0 := Tryz.underlying0
  a0 := Tryz.isAgg0
  z0 := Tryz.sizeOf0
  v0 := Tryz.zeroValue0
  t3 := Tryz.underlying3
  a3 := Tryz.isAgg3
  z3 := Tryz.sizeOf3
  v3 := Tryz.zeroValue3
  t4 := Tryz.underlying4
  a4 := Tryz.isAgg4
  z4 := Tryz.sizeOf4
  v4 := Tryz.zeroValue4
  t9 := Tryz.underlying9
  a9 := Tryz.isAgg9
  z9 := Tryz.sizeOf9
  v9 := Tryz.zeroValue9
  t20 := Tryz.underlying20
  a20 := Tryz.isAgg20
  z20 := Tryz.sizeOf20
  v20 := Tryz.zeroValue20
  t31 := Tryz.underlying42
  a31 := Tryz.isAgg42
  z31 := Tryz.sizeOf42
  v31 := Tryz.zeroValue42
  t37 := Tryz.underlying172
  a37 := Tryz.isAgg172
  z37 := Tryz.sizeOf172
  v37 := Tryz.zeroValue172
  t70 := Tryz.underlying171
  a70 := Tryz.isAgg171
  z70 := Tryz.sizeOf171
  v70 := Tryz.zeroValue171
  t72 := Tryz.underlying174
  a72 := Tryz.isAgg174
  z72 := Tryz.sizeOf174
  v72 := Tryz.zeroValue174
  t75 := Tryz.underlying176
  a75 := Tryz.isAgg176
  z75 := Tryz.sizeOf176
  v75 := Tryz.zeroValue176
  t76 := Tryz.underlying177
  a76 := Tryz.isAgg177
  z76 := Tryz.sizeOf177
  v76 := Tryz.zeroValue177
  t127 := Tryz.underlying193
  a127 := Tryz.isAgg193
  z127 := Tryz.sizeOf193
  v127 := Tryz.zeroValue193
  t164 := Tryz.underlying216
  a164 := Tryz.isAgg216
  z164 := Tryz.sizeOf216
  v164 := Tryz.zeroValue216 }
theorem Tryz.Builder_Extra_156 : Builder.Extra Tryz.prog Tryz.lays156_ren := {
  sizeBuilder := by kernel_rfl
  liesBuilder := by kernel_rfl
  t5 := Tryz.underlying5
  a5 := Tryz.isAgg5
  z5 := Tryz.sizeOf5
  v5 := Tryz.zeroValue5
  infoByte := by kernel_rfl
  cellsByte := by kernel_rfl
  sizeByte := by kernel_rfl
  neB5 := by decide }
open Go.RowKit in
theorem Tryz.strings_Join_none (a : Option Addr) (c : Nat) (sep : ByteArray) (w : World) :
    Calls Tryz.prog 73 #[.slice a 0 c, .string sep] w fun e w' => e = .returned (.string ⟨#[]⟩) ∧ w' = w := Any.strings_Join_none Tryz.lays156 Tryz.Builder_Extra_156 a c sep w
open Go.RowKit in
theorem Tryz.strings_Join (bk o c : Nat) (xs : List ByteArray) (sep : ByteArray) (w : World) (hcells : ∀ (j : Nat) x, xs[j]? = some x → w.cell? ⟨bk, o + j, none⟩ = some (.string x)) (hbk : bk < w.heap.size) (hN : xs.length ≤ 140737488355328) (hcap : xs.length ≤ c) (hlen : (Lib.join (xs.map (·.data.toList)) sep.data.toList).length ≤ 140737488355328) :
    Calls Tryz.prog 73 #[.slice (some ⟨bk, o, none⟩) xs.length c, .string sep] w fun e w' => e = .returned (.string ⟨(Lib.join (xs.map (·.data.toList)) sep.data.toList).toArray⟩) ∧ Below w.heap.size w w' := Any.strings_Join Tryz.lays156 Tryz.Builder_Extra_156 bk o c xs sep w hcells hbk hN hcap hlen
def Tryz.lays137_ren : Go.Shelf.Ren := ⟨fun | 137 => 108 | 217 => 126 | 266 => 145 | n => n, fun | 9 => 9 | 5 => 5 | 3 => 3 | n => n, fun | n => n⟩
theorem Tryz.lays137 : Go.Proofs.Lays.n137 Tryz.prog Tryz.lays137_ren := {
  mixed := by kernel_rfl
  f137 := Tryz.func108.trans (congrArg some (by kernel_rfl))
  f217 := Tryz.func126.trans (congrArg some (by kernel_rfl))
  f266 := Tryz.func145.trans (congrArg some (by kernel_rfl))
  t3 := Tryz.underlying3
  a3 := Tryz.isAgg3
  z3 := Tryz.sizeOf3
  v3 := Tryz.zeroValue3
  t5 := Tryz.underlying5
  a5 := Tryz.isAgg5
  z5 := Tryz.sizeOf5
  v5 := Tryz.zeroValue5
  t9 := Tryz.underlying9
  a9 := Tryz.isAgg9
  z9 := Tryz.sizeOf9
  v9 := Tryz.zeroValue9 }
open Go.RowKit in
theorem Tryz.strings_IndexByte (s : ByteArray) (c : Int) (w : World) :
    Calls Tryz.prog 108 #[.string s, .int .u8 c] w fun e w' => e = .returned (.int .i64 (Lib.indexByte s.data.toList c.toNat.toUInt8)) ∧ w' = w := Any.strings_IndexByte Tryz.lays137 s c w
def Tryz.laysM171_ren : Go.Shelf.Ren := ⟨fun | 171 => 70 | 243 => 100 | 246 => 118 | 283 => 133 | 284 => 134 | 285 => 135 | 286 => 136 | 129 => 153 | 317 => 152 | 318 => 154 | 319 => 155 | 320 => 156 | 337 => 170 | 338 => 171 | n => n, fun | 3 => 3 | 9 => 9 | 2 => 2 | 4 => 4 | 171 => 195 | 0 => 0 | 53 => 196 | 37 => 172 | 5 => 5 | 173 => 199 | 212 => 224 | 51 => 157 | 20 => 20 | 213 => 225 | 46 => 227 | 232 => 280 | 233 => 281 | n => n, fun | 17 => 1 | 18 => 6 | 19 => 7 | n => n⟩
theorem Tryz.laysM171 : Go.Proofs.LaysM.n171 Tryz.prog Tryz.laysM171_ren := {
  mixed := by kernel_rfl
  f129 := Tryz.func153.trans (congrArg some (by kernel_rfl))
  f171 := Tryz.func70.trans (congrArg some (by kernel_rfl))
  f243 := Tryz.func100.trans (congrArg some (by kernel_rfl))
  f246 := Tryz.func118.trans (congrArg some (by kernel_rfl))
  f283 := Tryz.func133.trans (congrArg some (by kernel_rfl))
  f284 := Tryz.func134.trans (congrArg some (by kernel_rfl))
  f285 := Tryz.func135.trans (congrArg some (by kernel_rfl))
  f286 := Tryz.func136.trans (congrArg some (by kernel_rfl))
  f317 := Tryz.func152.trans (congrArg some (by kernel_rfl))
  f318 := Tryz.func154.trans (congrArg some (by kernel_rfl))
  f319 := Tryz.func155.trans (congrArg some (by kernel_rfl))
  f320 := Tryz.func156.trans (congrArg some (by kernel_rfl))
  f337 := Tryz.func170.trans (congrArg some (by kernel_rfl))
  f338 := Tryz.func171.trans (congrArg some (by kernel_rfl))
  t0 := Tryz.underlying0
  a0 := Tryz.isAgg0
  z0 := Tryz.sizeOf0
  v0 := Tryz.zeroValue0
  t2 := Tryz.underlying2
  a2 := Tryz.isAgg2
  z2 := Tryz.sizeOf2
  v2 := Tryz.zeroValue2
  t3 := Tryz.underlying3
  a3 := Tryz.isAgg3
  z3 := Tryz.sizeOf3
  v3 := Tryz.zeroValue3
  t4 := Tryz.underlying4
  a4 := Tryz.isAgg4
  z4 := Tryz.sizeOf4
  v4 := Tryz.zeroValue4
  t5 := Tryz.underlying5
  a5 := Tryz.isAgg5
  z5 := Tryz.sizeOf5
  v5 := Tryz.zeroValue5
  t9 := Tryz.underlying9
  a9 := Tryz.isAgg9
  z9 := Tryz.sizeOf9
  v9 := Tryz.zeroValue9
  t20 := Tryz.underlying20
  a20 := Tryz.isAgg20
  z20 := Tryz.sizeOf20
  v20 := Tryz.zeroValue20
  t37 := Tryz.underlying172
  a37 := Tryz.isAgg172
  z37 := Tryz.sizeOf172
  v37 := Tryz.zeroValue172
  t46 := Tryz.underlying227
  a46 := Tryz.isAgg227
  z46 := Tryz.sizeOf227
  v46 := Tryz.zeroValue227
  t51 := Tryz.underlying157
  a51 := Tryz.isAgg157
  z51 := Tryz.sizeOf157
  v51 := Tryz.zeroValue157
  t53 := Tryz.underlying196
  a53 := Tryz.isAgg196
  z53 := Tryz.sizeOf196
  v53 := Tryz.zeroValue196
  t171 := Tryz.underlying195
  a171 := Tryz.isAgg195
  z171 := Tryz.sizeOf195
  v171 := Tryz.zeroValue195
  t173 := Tryz.underlying199
  a173 := Tryz.isAgg199
  z173 := Tryz.sizeOf199
  v173 := Tryz.zeroValue199
  t212 := Tryz.underlying224
  a212 := Tryz.isAgg224
  z212 := Tryz.sizeOf224
  v212 := Tryz.zeroValue224
  t213 := Tryz.underlying225
  a213 := Tryz.isAgg225
  z213 := Tryz.sizeOf225
  t232 := Tryz.underlying280
  a232 := Tryz.isAgg280
  z232 := Tryz.sizeOf280
  v232 := Tryz.zeroValue280
  t233 := Tryz.underlying281
  a233 := Tryz.isAgg281
  z233 := Tryz.sizeOf281
  v233 := Tryz.zeroValue281
  g17 := by kernel_rfl
  g18 := by kernel_rfl
  g19 := by kernel_rfl
  i0 := by kernel_rfl
  i2 := by kernel_rfl
  i3 := by kernel_rfl
  i4 := by kernel_rfl
  i5 := by kernel_rfl
  i9 := by kernel_rfl
  i20 := by kernel_rfl
  i37 := by kernel_rfl
  i46 := by kernel_rfl
  i51 := by kernel_rfl
  i53 := by kernel_rfl
  i171 := by kernel_rfl
  i173 := by kernel_rfl
  i212 := by kernel_rfl
  i232 := by kernel_rfl
  i233 := by kernel_rfl
  m17 := by kernel_rfl
  m18 := by kernel_rfl
  m19 := by kernel_rfl }
open Go.RowKit Go.Sort Go.Lib in
theorem Tryz.strconv_Itoa (n : Int) (h0 : -9223372036854775808 ≤ n) (h1 : n ≤ 9223372036854775807) (w : World) (htab : Lib.TabIs Tryz.prog w "internal/strconv.uint64pow10" .u64 Lib.pow10Tab) :
    Calls Tryz.prog 70 #[.int .i64 n] w fun e w' => e = .returned (.string ⟨(Lib.itoa n).toArray⟩) ∧ ∃ k os, w' = grow (w.drewN k) os := Any.strconv_Itoa Tryz.laysM171 n h0 h1 w htab
def Tryz.laysC172_ren : Go.Shelf.Ren := ⟨fun | 172 => 128 | 244 => 146 | 245 => 147 | 247 => 163 | 279 => 164 | 280 => 165 | 281 => 166 | 282 => 167 | 287 => 181 | 316 => 182 | 171 => 70 | 205 => 183 | 321 => 196 | 322 => 197 | 243 => 100 | 246 => 118 | 283 => 133 | 284 => 134 | 285 => 135 | 286 => 136 | 129 => 153 | 317 => 152 | 318 => 154 | 319 => 155 | 320 => 156 | 337 => 170 | 338 => 171 | n => n, fun | 9 => 9 | 3 => 3 | 75 => 176 | 76 => 177 | 4 => 4 | 5 => 5 | 167 => 243 | 37 => 172 | 0 => 0 | 85 => 244 | 2 => 2 | 168 => 246 | 53 => 196 | 175 => 264 | 46 => 227 | 210 => 267 | 127 => 193 | 145 => 286 | 143 => 284 | 21 => 21 | 171 => 195 | 173 => 199 | 212 => 224 | 51 => 157 | 20 => 20 | 213 => 225 | 232 => 280 | 233 => 281 | 80 => 179 | n => n, fun | 15 => 4 | 16 => 5 | 17 => 1 | 18 => 6 | 19 => 7 | n => n⟩
theorem Tryz.laysC172 : Go.Proofs.LaysC.n172 Tryz.prog Tryz.laysC172_ren := {
  mixed := by kernel_rfl
  f129 := Tryz.func153.trans (congrArg some (by kernel_rfl))
  f171 := Tryz.func70.trans (congrArg some (by kernel_rfl))
  f172 := Tryz.func128.trans (congrArg some (by kernel_rfl))
  f205 := Tryz.func183.trans (congrArg some (by kernel_rfl))
  f243 := Tryz.func100.trans (congrArg some (by kernel_rfl))
  f244 := Tryz.func146.trans (congrArg some (by kernel_rfl))
  f245 := Tryz.func147.trans (congrArg some (by kernel_rfl))
  f246 := Tryz.func118.trans (congrArg some (by kernel_rfl))
  f247 := Tryz.func163.trans (congrArg some (by kernel_rfl))
  f279 := Tryz.func164.trans (congrArg some (by kernel_rfl))
  f280 := Tryz.func165.trans (congrArg some (by kernel_rfl))
  f281 := Tryz.func166.trans (congrArg some (by kernel_rfl))
  f282 := Tryz.func167.trans (congrArg some (by kernel_rfl))
  f283 := Tryz.func133.trans (congrArg some (by kernel_rfl))
  f284 := Tryz.func134.trans (congrArg some (by kernel_rfl))
  f285 := Tryz.func135.trans (congrArg some (by kernel_rfl))
  f286 := Tryz.func136.trans (congrArg some (by kernel_rfl))
  f287 := Tryz.func181.trans (congrArg some (by kernel_rfl))
  f316 := Tryz.func182.trans (congrArg some (by kernel_rfl))
  f317 := Tryz.func152.trans (congrArg some (by kernel_rfl))
  f318 := Tryz.func154.trans (congrArg some (by kernel_rfl))
  f319 := Tryz.func155.trans (congrArg some (by kernel_rfl))
  f320 := Tryz.func156.trans (congrArg some (by kernel_rfl))
  f321 := Tryz.func196.trans (congrArg some (by kernel_rfl))
  f322 := Tryz.func197.trans (congrArg some (by kernel_rfl))
  f337 := Tryz.func170.trans (congrArg some (by kernel_rfl))
  f338 := Tryz.func171.trans (congrArg some (by kernel_rfl))
  t0 := Tryz.underlying0
  a0 := Tryz.isAgg0
  z0 := Tryz.sizeOf0
  v0 := Tryz.zeroValue0
  t2 := Tryz.underlying2
  a2 := Tryz.isAgg2
  z2 := Tryz.sizeOf2
  v2 := Tryz.zeroValue2
  t3 := Tryz.underlying3
  a3 := Tryz.isAgg3
  z3 := Tryz.sizeOf3
  v3 := Tryz.zeroValue3
  t4 := Tryz.underlying4
  a4 := Tryz.isAgg4
  z4 := Tryz.sizeOf4
  v4 := Tryz.zeroValue4
  t5 := Tryz.underlying5
  a5 := Tryz.isAgg5
  z5 := Tryz.sizeOf5
  v5 := Tryz.zeroValue5
  t9 := Tryz.underlying9
  a9 := Tryz.isAgg9
  z9 := Tryz.sizeOf9
  v9 := Tryz.zeroValue9
  t20 := Tryz.underlying20
  a20 := Tryz.isAgg20
  z20 := Tryz.sizeOf20
  v20 := Tryz.zeroValue20
  t21 := Tryz.underlying21
  a21 := Tryz.isAgg21
  z21 := Tryz.sizeOf21
  v21 := Tryz.zeroValue21
  t37 := Tryz.underlying172
  a37 := Tryz.isAgg172
  z37 := Tryz.sizeOf172
  v37 := Tryz.zeroValue172
  t46 := Tryz.underlying227
  a46 := Tryz.isAgg227
  z46 := Tryz.sizeOf227
  v46 := Tryz.zeroValue227
  t51 := Tryz.underlying157
  a51 := Tryz.isAgg157
  z51 := Tryz.sizeOf157
  v51 := Tryz.zeroValue157
  t53 := Tryz.underlying196
  a53 := Tryz.isAgg196
  z53 := Tryz.sizeOf196
  v53 := Tryz.zeroValue196
  t75 := Tryz.underlying176
  a75 := Tryz.isAgg176
  z75 := Tryz.sizeOf176
  v75 := Tryz.zeroValue176
  t76 := Tryz.underlying177
  a76 := Tryz.isAgg177
  z76 := Tryz.sizeOf177
  v76 := Tryz.zeroValue177
  t85 := Tryz.underlying244
  a85 := Tryz.isAgg244
  z85 := Tryz.sizeOf244
  v85 := Tryz.zeroValue244
  t127 := Tryz.underlying193
  a127 := Tryz.isAgg193
  z127 := Tryz.sizeOf193
  v127 := Tryz.zeroValue193
  t143 := Tryz.underlying284
  a143 := Tryz.isAgg284
  z143 := Tryz.sizeOf284
  v143 := Tryz.zeroValue284
  t145 := Tryz.underlying286
  a145 := Tryz.isAgg286
  z145 := Tryz.sizeOf286
  v145 := Tryz.zeroValue286
  t167 := Tryz.underlying243
  a167 := Tryz.isAgg243
  z167 := Tryz.sizeOf243
  v167 := Tryz.zeroValue243
  t168 := Tryz.underlying246
  a168 := Tryz.isAgg246
  z168 := Tryz.sizeOf246
  v168 := Tryz.zeroValue246
  t171 := Tryz.underlying195
  a171 := Tryz.isAgg195
  z171 := Tryz.sizeOf195
  v171 := Tryz.zeroValue195
  t173 := Tryz.underlying199
  a173 := Tryz.isAgg199
  z173 := Tryz.sizeOf199
  v173 := Tryz.zeroValue199
  t175 := Tryz.underlying264
  a175 := Tryz.isAgg264
  z175 := Tryz.sizeOf264
  v175 := Tryz.zeroValue264
  t210 := Tryz.underlying267
  a210 := Tryz.isAgg267
  z210 := Tryz.sizeOf267
  v210 := Tryz.zeroValue267
  t212 := Tryz.underlying224
  a212 := Tryz.isAgg224
  z212 := Tryz.sizeOf224
  v212 := Tryz.zeroValue224
  t213 := Tryz.underlying225
  a213 := Tryz.isAgg225
  z213 := Tryz.sizeOf225
  t232 := Tryz.underlying280
  a232 := Tryz.isAgg280
  z232 := Tryz.sizeOf280
  v232 := Tryz.zeroValue280
  t233 := Tryz.underlying281
  a233 := Tryz.isAgg281
  z233 := Tryz.sizeOf281
  v233 := Tryz.zeroValue281
  g15 := by kernel_rfl
  g16 := by kernel_rfl
  g17 := by kernel_rfl
  g18 := by kernel_rfl
  g19 := by kernel_rfl
  t80 := Tryz.underlying179
  a80 := Tryz.isAgg179
  z80 := Tryz.sizeOf179
  v80 := Tryz.zeroValue179
  i0 := by kernel_rfl
  i2 := by kernel_rfl
  i3 := by kernel_rfl
  i4 := by kernel_rfl
  i5 := by kernel_rfl
  i9 := by kernel_rfl
  i20 := by kernel_rfl
  i21 := by kernel_rfl
  i37 := by kernel_rfl
  i46 := by kernel_rfl
  i51 := by kernel_rfl
  i53 := by kernel_rfl
  i75 := by kernel_rfl
  i76 := by kernel_rfl
  i80 := by kernel_rfl
  i85 := by kernel_rfl
  i127 := by kernel_rfl
  i143 := by kernel_rfl
  i145 := by kernel_rfl
  i167 := by kernel_rfl
  i168 := by kernel_rfl
  i171 := by kernel_rfl
  i173 := by kernel_rfl
  i175 := by kernel_rfl
  i210 := by kernel_rfl
  i212 := by kernel_rfl
  i232 := by kernel_rfl
  i233 := by kernel_rfl
  m15 := by kernel_rfl
  m16 := by kernel_rfl
  m17 := by kernel_rfl
  m18 := by kernel_rfl
  m19 := by kernel_rfl
  c0 := by kernel_rfl
  c2 := by kernel_rfl
  c3 := by kernel_rfl
  c4 := by kernel_rfl
  c5 := by kernel_rfl
  c9 := by kernel_rfl
  c20 := by kernel_rfl
  c21 := by kernel_rfl
  c37 := by kernel_rfl
  c46 := by kernel_rfl
  c51 := by kernel_rfl
  c53 := by kernel_rfl
  c75 := by kernel_rfl
  c76 := by kernel_rfl
  c80 := by kernel_rfl
  c85 := by kernel_rfl
  c127 := by kernel_rfl
  c143 := by kernel_rfl
  c145 := by kernel_rfl
  c167 := by kernel_rfl
  c168 := by kernel_rfl
  c171 := by kernel_rfl
  c173 := by kernel_rfl
  c175 := by kernel_rfl
  c210 := by kernel_rfl
  c212 := by kernel_rfl
  c213 := by kernel_rfl
  c232 := by kernel_rfl
  c233 := by kernel_rfl }
open Go.RowKit in
theorem Tryz.strconv_Atoi_ok (s : ByteArray) (hmax : s.size ≤ 9223372036854775806) (v : Int) (h : Lib.atoiAll s.data.toList = .ok v) (w : World) :
    Calls Tryz.prog 128 #[.string s] w fun e w' => e = .returned (.tuple #[.int .i64 v, .nilIface]) ∧ (w' = w ∨ ∃ t, w' = Lib.bytesWorld w 5 t) := Any.strconv_Atoi_ok Tryz.laysC172 s hmax v h w
open Go.RowKit in
theorem Tryz.strconv_Atoi_range_var (s : ByteArray) (hlim : s.size ≤ 281474976710656) (h : Lib.atoiAll s.data.toList = .range) (tp : TypeId) (p : Value) (w : World) (hvar : w.var? Tryz.prog "strconv.ErrRange" = some #[.iface tp p]) :
    Calls Tryz.prog 128 #[.string s] w fun e w' => ∃ N, e = .returned (.tuple #[.int .i64 (Lib.atoiSat s.data.toList), .iface 246 (.pointer (some ⟨N, 0, none⟩))]) ∧ w.heap.size ≤ N ∧ w'.heap[N]? = some (.cells #[.string ⟨#[65, 116, 111, 105]⟩, .string s, .iface tp p] 267 (0, 0)) ∧ Below w.heap.size w w' := Any.strconv_Atoi_range_var Tryz.laysC172 s hlim h tp p w hvar
def Tryz.lays144_ren : Go.Shelf.Ren := ⟨fun | 144 => 131 | 143 => 151 | 219 => 169 | 217 => 126 | 225 => 186 | 224 => 187 | 267 => 188 | 266 => 145 | 314 => 198 | n => n, fun | 9 => 9 | 4 => 4 | 3 => 3 | 5 => 5 | 46 => 227 | 146 => 289 | 51 => 157 | n => n, fun | 1 => 2 | n => n⟩
theorem Tryz.lays144 : Go.Proofs.Lays.n144 Tryz.prog Tryz.lays144_ren := {
  mixed := by kernel_rfl
  f143 := Tryz.func151.trans (congrArg some (by kernel_rfl))
  f144 := Tryz.func131.trans (congrArg some (by kernel_rfl))
  f217 := Tryz.func126.trans (congrArg some (by kernel_rfl))
  f219 := Tryz.func169.trans (congrArg some (by kernel_rfl))
  f224 := Tryz.func187.trans (congrArg some (by kernel_rfl))
  f225 := Tryz.func186.trans (congrArg some (by kernel_rfl))
  f266 := Tryz.func145.trans (congrArg some (by kernel_rfl))
  f267 := Tryz.func188.trans (congrArg some (by kernel_rfl))
  f314 := Tryz.func198.trans (congrArg some (by kernel_rfl))
  t3 := Tryz.underlying3
  a3 := Tryz.isAgg3
  z3 := Tryz.sizeOf3
  v3 := Tryz.zeroValue3
  t4 := Tryz.underlying4
  a4 := Tryz.isAgg4
  z4 := Tryz.sizeOf4
  v4 := Tryz.zeroValue4
  t5 := Tryz.underlying5
  a5 := Tryz.isAgg5
  z5 := Tryz.sizeOf5
  v5 := Tryz.zeroValue5
  t9 := Tryz.underlying9
  a9 := Tryz.isAgg9
  z9 := Tryz.sizeOf9
  v9 := Tryz.zeroValue9
  t46 := Tryz.underlying227
  a46 := Tryz.isAgg227
  z46 := Tryz.sizeOf227
  v46 := Tryz.zeroValue227
  t51 := Tryz.underlying157
  a51 := Tryz.isAgg157
  z51 := Tryz.sizeOf157
  v51 := Tryz.zeroValue157
  t146 := Tryz.underlying289
  a146 := Tryz.isAgg289
  z146 := Tryz.sizeOf289
  v146 := Tryz.zeroValue289
  g1 := by kernel_rfl }
open Go.RowKit Go.Lib in
theorem Tryz.strings_Contains_one (s : ByteArray) (c : UInt8) (w : World) :
    Calls Tryz.prog 131 #[.string s, .string ⟨#[c]⟩] w fun e w' => e = .returned (.bool (decide (0 ≤ Lib.indexByte s.data.toList c))) ∧ w' = w := Any.strings_Contains_one Tryz.lays144 s c w
def Tryz.lays138_ren : Go.Shelf.Ren := ⟨fun | 138 => 226 | 195 => 227 | 218 => 228 | 143 => 151 | 219 => 169 | 217 => 126 | 225 => 186 | 224 => 187 | 267 => 188 | 266 => 145 | 314 => 198 | n => n, fun | 9 => 9 | 3 => 3 | 4 => 4 | 5 => 5 | 0 => 0 | 46 => 227 | 146 => 289 | 51 => 157 | n => n, fun | 1 => 2 | n => n⟩
theorem Tryz.lays138 : Go.Proofs.Lays.n138 Tryz.prog Tryz.lays138_ren := {
  mixed := by kernel_rfl
  f138 := Tryz.func226.trans (congrArg some (by kernel_rfl))
  f143 := Tryz.func151.trans (congrArg some (by kernel_rfl))
  f195 := Tryz.func227.trans (congrArg some (by kernel_rfl))
  f217 := Tryz.func126.trans (congrArg some (by kernel_rfl))
  f218 := Tryz.func228.trans (congrArg some (by kernel_rfl))
  f219 := Tryz.func169.trans (congrArg some (by kernel_rfl))
  f224 := Tryz.func187.trans (congrArg some (by kernel_rfl))
  f225 := Tryz.func186.trans (congrArg some (by kernel_rfl))
  f266 := Tryz.func145.trans (congrArg some (by kernel_rfl))
  f267 := Tryz.func188.trans (congrArg some (by kernel_rfl))
  f314 := Tryz.func198.trans (congrArg some (by kernel_rfl))
  t0 := Tryz.underlying0
  a0 := Tryz.isAgg0
  z0 := Tryz.sizeOf0
  v0 := Tryz.zeroValue0
  t3 := Tryz.underlying3
  a3 := Tryz.isAgg3
  z3 := Tryz.sizeOf3
  v3 := Tryz.zeroValue3
  t4 := Tryz.underlying4
  a4 := Tryz.isAgg4
  z4 := Tryz.sizeOf4
  v4 := Tryz.zeroValue4
  t5 := Tryz.underlying5
  a5 := Tryz.isAgg5
  z5 := Tryz.sizeOf5
  v5 := Tryz.zeroValue5
  t9 := Tryz.underlying9
  a9 := Tryz.isAgg9
  z9 := Tryz.sizeOf9
  v9 := Tryz.zeroValue9
  t46 := Tryz.underlying227
  a46 := Tryz.isAgg227
  z46 := Tryz.sizeOf227
  v46 := Tryz.zeroValue227
  t51 := Tryz.underlying157
  a51 := Tryz.isAgg157
  z51 := Tryz.sizeOf157
  v51 := Tryz.zeroValue157
  t146 := Tryz.underlying289
  a146 := Tryz.isAgg289
  z146 := Tryz.sizeOf289
  v146 := Tryz.zeroValue289
  g1 := by kernel_rfl }
open Go.RowKit Go.Lib in
theorem Tryz.strings_Count_one (s : ByteArray) (c : UInt8) (w : World) :
    Calls Tryz.prog 226 #[.string s, .string ⟨#[c]⟩] w fun e w' => e = .returned (.int .i64 (Lib.countByte s.data.toList c)) ∧ w' = w := Any.strings_Count_one Tryz.lays138 s c w
def Tryz.lays99_ren : Go.Shelf.Ren := ⟨fun | 99 => 130 | 206 => 150 | n => n, fun | 9 => 9 | 4 => 4 | 3 => 3 | n => n, fun | n => n⟩
theorem Tryz.lays99 : Go.Proofs.Lays.n99 Tryz.prog Tryz.lays99_ren := {
  mixed := by kernel_rfl
  f99 := Tryz.func130.trans (congrArg some (by kernel_rfl))
  f206 := Tryz.func150.trans (congrArg some (by kernel_rfl))
  t3 := Tryz.underlying3
  a3 := Tryz.isAgg3
  z3 := Tryz.sizeOf3
  v3 := Tryz.zeroValue3
  t4 := Tryz.underlying4
  a4 := Tryz.isAgg4
  z4 := Tryz.sizeOf4
  v4 := Tryz.zeroValue4
  t9 := Tryz.underlying9
  a9 := Tryz.isAgg9
  z9 := Tryz.sizeOf9
  v9 := Tryz.zeroValue9 }
open Go.RowKit Go.Lib in
theorem Tryz.strings_HasPrefix (s p : ByteArray) (w : World) :
    Calls Tryz.prog 130 #[.string s, .string p] w fun e w' => e = .returned (.bool (Lib.hasPrefix s.data.toList p.data.toList)) ∧ w' = w := Any.strings_HasPrefix Tryz.lays99 s p w
def Tryz.lays157_ren : Go.Shelf.Ren := ⟨fun | 157 => 129 | 229 => 148 | 199 => 149 | 261 => 168 | 311 => 184 | 312 => 185 | n => n, fun | 9 => 9 | 31 => 42 | 3 => 3 | 5 => 5 | 4 => 4 | 119 => 209 | 0 => 0 | 40 => 221 | 152 => 249 | 21 => 21 | 154 => 251 | 51 => 157 | 141 => 253 | 196 => 272 | 193 => 269 | 198 => 275 | 49 => 273 | 194 => 270 | 201 => 278 | 226 => 287 | 46 => 227 | 227 => 288 | n => n, fun | 0 => 0 | 6 => 3 | n => n⟩
theorem Tryz.lays157 : Go.Proofs.Lays.n157 Tryz.prog Tryz.lays157_ren := {
  mixed := by kernel_rfl
  f157 := Tryz.func129.trans (congrArg some (by kernel_rfl))
  f199 := Tryz.func149.trans (congrArg some (by kernel_rfl))
  f229 := Tryz.func148.trans (congrArg some (by kernel_rfl))
  f261 := Tryz.func168.trans (congrArg some (by kernel_rfl))
  f311 := Tryz.func184.trans (congrArg some (by kernel_rfl))
  f312 := Tryz.func185.trans (congrArg some (by kernel_rfl))
  t0 := Tryz.underlying0
  a0 := Tryz.isAgg0
  z0 := Tryz.sizeOf0
  v0 := Tryz.zeroValue0
  t3 := Tryz.underlying3
  a3 := Tryz.isAgg3
  z3 := Tryz.sizeOf3
  v3 := Tryz.zeroValue3
  t4 := Tryz.underlying4
  a4 := Tryz.isAgg4
  z4 := Tryz.sizeOf4
  v4 := Tryz.zeroValue4
  t5 := Tryz.underlying5
  a5 := Tryz.isAgg5
  z5 := Tryz.sizeOf5
  v5 := Tryz.zeroValue5
  t9 := Tryz.underlying9
  a9 := Tryz.isAgg9
  z9 := Tryz.sizeOf9
  v9 := Tryz.zeroValue9
  t21 := Tryz.underlying21
  a21 := Tryz.isAgg21
  z21 := Tryz.sizeOf21
  v21 := Tryz.zeroValue21
  t31 := Tryz.underlying42
  a31 := Tryz.isAgg42
  z31 := Tryz.sizeOf42
  v31 := Tryz.zeroValue42
  t40 := Tryz.underlying221
  a40 := Tryz.isAgg221
  z40 := Tryz.sizeOf221
  v40 := Tryz.zeroValue221
  t46 := Tryz.underlying227
  a46 := Tryz.isAgg227
  z46 := Tryz.sizeOf227
  v46 := Tryz.zeroValue227
  t49 := Tryz.underlying273
  a49 := Tryz.isAgg273
  z49 := Tryz.sizeOf273
  v49 := Tryz.zeroValue273
  t51 := Tryz.underlying157
  a51 := Tryz.isAgg157
  z51 := Tryz.sizeOf157
  v51 := Tryz.zeroValue157
  t119 := Tryz.underlying209
  a119 := Tryz.isAgg209
  z119 := Tryz.sizeOf209
  t141 := Tryz.underlying253
  a141 := Tryz.isAgg253
  z141 := Tryz.sizeOf253
  v141 := Tryz.zeroValue253
  t152 := Tryz.underlying249
  a152 := Tryz.isAgg249
  z152 := Tryz.sizeOf249
  v152 := Tryz.zeroValue249
  t154 := Tryz.underlying251
  a154 := Tryz.isAgg251
  z154 := Tryz.sizeOf251
  v154 := Tryz.zeroValue251
  t193 := Tryz.underlying269
  a193 := Tryz.isAgg269
  z193 := Tryz.sizeOf269
  v193 := Tryz.zeroValue269
  t194 := Tryz.underlying270
  a194 := Tryz.isAgg270
  z194 := Tryz.sizeOf270
  v194 := Tryz.zeroValue270
  t196 := Tryz.underlying272
  a196 := Tryz.isAgg272
  z196 := Tryz.sizeOf272
  v196 := Tryz.zeroValue272
  t198 := Tryz.underlying275
  a198 := Tryz.isAgg275
  z198 := Tryz.sizeOf275
  v198 := Tryz.zeroValue275
  t201 := Tryz.underlying278
  a201 := Tryz.isAgg278
  z201 := Tryz.sizeOf278
  v201 := Tryz.zeroValue278
  t226 := Tryz.underlying287
  a226 := Tryz.isAgg287
  z226 := Tryz.sizeOf287
  v226 := Tryz.zeroValue287
  t227 := Tryz.underlying288
  a227 := Tryz.isAgg288
  z227 := Tryz.sizeOf288
  v227 := Tryz.zeroValue288
  g0 := by kernel_rfl
  g6 := by kernel_rfl }
open Go.RowKit Go.Lib in
theorem Tryz.strings_Fields (s : ByteArray) (w : World) (hs : s.size < 4294967281) (hascii : ∀ (j : Nat) b, s.data.toList[j]? = some b → b.toNat < 128) (htab : Lib.TabIs Tryz.prog w "strings.asciiSpace" .u8 Lib.asciiSpaceTab) :
    Calls Tryz.prog 129 #[.string s] w fun e w' =>
      e = .returned (.slice (some ⟨w.heap.size, 0, none⟩) (Lib.fields s.data.toList).length (Lib.fields s.data.toList).length) ∧ w' = w.alloc (.cells ((Lib.fields s.data.toList).map fun l => Value.string ⟨l.toArray⟩).toArray 9) := Any.strings_Fields Tryz.lays157 (by kernel_rfl) (by kernel_rfl) s w hs hascii htab
end Go.Proofs
