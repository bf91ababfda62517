/- Walk of (*strings.Replacer).build, for the three pairs of the lexer's Text. Conditions: those of each theorem. -/
import Derived.Test.YtdjjifljlkjafaaGreatDoorLexRepl
import Derived.Deep.WholeRow
import Derived.Lib.ConvBytes
namespace Go.Proofs.YtdjjifljlkjafaaGreatDoor
open Go Go.Proofs Go.RowKit
attribute [local go_sem] Oper.semAt_some

theorem six_cells6 {W : World} {g : Nat} (h : SixAt W g) : W.cell? ⟨g, 0, none⟩ = some (.string ⟨#[34]⟩) ∧ W.cell? ⟨g, 1, none⟩ = some (.string ⟨#[92, 34]⟩) ∧ W.cell? ⟨g, 2, none⟩ = some (.string ⟨#[92]⟩) ∧ W.cell? ⟨g, 3, none⟩ = some (.string ⟨#[92, 92]⟩) ∧ W.cell? ⟨g, 4, none⟩ = some (.string ⟨#[10]⟩) ∧ W.cell? ⟨g, 5, none⟩ = some (.string ⟨#[92, 110]⟩) :=
  ⟨h 0 _ rfl, h 1 _ rfl, h 2 _ rfl, h 3 _ rfl, h 4 _ rfl, h 5 _ rfl⟩
/-- the pairs, in the order in which they are laid -/
def rows : List (UInt8 × List UInt8) := [(10, [92, 110]), (92, [92, 92]), (34, [92, 34])]
/-- a row of bytes lies in a block -/
def BytesAt (W : World) (q : Nat) (l : List UInt8) : Prop := ∃ arr fz, W.heap[q]? = some (.cells arr 5 fz) ∧ ∀ (j : Nat) (c : UInt8), l[j]? = some c → arr[j]? = some (encB c)
/-- the replacer's table, behind some pairs -/
structure BT (base R : Nat) (D : List (UInt8 × List UInt8)) (W : World) (arr : Array Value) (v : Value) : Prop where
  row : W.heap[R]? = some (.cells arr 127 (0, 0))
  size : arr.size = 257
  nil : ∀ b, b < 256 → (∀ p ∈ D, p.1.toNat ≠ b) → arr[b]? = some (.slice none 0 0)
  set : ∀ p ∈ D, ∃ q cap, arr[p.1.toNat]? = some (.slice (some ⟨q, 0, none⟩) p.2.length cap) ∧ BytesAt W q p.2
  last : arr[256]? = some v
  own : W.ownsRow base 9 1 v D.length (D.map fun p => .string ⟨#[p.1]⟩)
theorem set_block {W : World} {R : Nat} {arr : Array Value} {t : TypeId} {fz : Nat × Nat} (h : W.heap[R]? = some (.cells arr t fz)) (i : Nat) (x : Value) : (W.setCell ⟨R, i, none⟩ x).heap[R]? = some (.cells (arr.setIfInBounds i x) t fz) := by
  simp [World.setCell, Array.getElem?_modify, h]
theorem row_cell' {W : World} {g : Nat} {arr : Array Value} {t : TypeId} {fz : Nat × Nat} (h : W.heap[g]? = some (.cells arr t fz)) (j : Nat) : W.cell? ⟨g, j, none⟩ = arr[j]? := by
  simp [World.cell?, h]
theorem own_type {W : World} {base e size n : Nat} {v : Value} {xs : List Value} (h : W.ownsRow base e size v n xs) : ∀ g, v.ownBlock = some g → ∃ cur, W.heap[g]? = some (.cells cur e (0, 0)) := by
  intro g hg
  obtain ⟨-, h2⟩ := h
  rcases h2 with ⟨rfl, -⟩ | ⟨g', cap, cur, rfl, hb, hh, -⟩
  · cases hg
  · cases hg; exact ⟨cur, hh⟩
theorem own_not {W : World} {base e size n R : Nat} {v : Value} {xs : List Value} {arr : Array Value} {t : TypeId} {fz : Nat × Nat} (h : W.ownsRow base e size v n xs) (hR : W.heap[R]? = some (.cells arr t fz)) (hte : t ≠ e) : v.ownBlock ≠ some R := fun hg => by
  obtain ⟨cur, h1⟩ := own_type h R hg
  rw [h1] at hR
  simp at hR
  exact hte hR.2.1.symm
/-- what the append leaves of the table -/
theorem BT.after {base R : Nat} {D : List (UInt8 × List UInt8)} {W wa w4 : World} {arr : Array Value} {v : Value} (h : BT base R D W arr v) (ha : Turned (fun _ => False) W wa) (hg : wa.grownBy w4 v.ownBlock) : w4.heap[R]? = some (.cells arr 127 (0, 0)) ∧ ∀ q l, BytesAt W q l → BytesAt w4 q l := by
  refine ⟨?_, fun q l hq => ?_⟩
  · have hlt := getElem?_lt h.row
    rw [hg.block R (Nat.lt_of_lt_of_le hlt ha.size) (fun e => own_not h.own h.row (by decide) e.symm), ha.block R hlt id]
    exact h.row
  · obtain ⟨ar, fz, h1, h2⟩ := hq
    have hlt := getElem?_lt h1
    refine ⟨ar, fz, ?_, h2⟩
    rw [hg.block q (Nat.lt_of_lt_of_le hlt ha.size) (fun e => own_not h.own h1 (by decide) e.symm), ha.block q hlt id]
    exact h1
theorem BytesAt.set {W : World} {q R i : Nat} {l : List UInt8} {x : Value} (h : BytesAt W q l) (hne : R ≠ q) : BytesAt (W.setCell ⟨R, i, none⟩ x) q l := by
  obtain ⟨ar, fz, h1, h2⟩ := h
  exact ⟨ar, fz, by rw [show (W.setCell ⟨R, i, none⟩ x).heap[q]? = W.heap[q]? by simp [World.setCell, Array.getElem?_modify, hne]]; exact h1, h2⟩
theorem BytesAt.bytes {W : World} {q : Nat} {l : List UInt8} {s : ByteArray} (h : BytesAt W q l) : BytesAt (Lib.bytesWorld W 5 s) q l := by
  obtain ⟨ar, fz, h1, h2⟩ := h
  exact ⟨ar, fz, by rw [Lib.bytesWorld_at_old _ _ _ _ (getElem?_lt h1)]; exact h1, h2⟩
theorem BytesAt.ne {W : World} {q R : Nat} {l : List UInt8} {arr : Array Value} (h : BytesAt W q l) (hR : W.heap[R]? = some (.cells arr 127 (0, 0))) : R ≠ q := fun e => by
  subst e
  obtain ⟨ar, fz, h1, -⟩ := h
  rw [hR] at h1
  simp at h1
theorem bytes_new (W : World) (l : List UInt8) : BytesAt (Lib.bytesWorld W 5 ⟨l.toArray⟩) W.heap.size l := by
  refine ⟨_, _, Lib.bytesWorld_at_new _ _ _, fun j c hj => ?_⟩
  have hlt : j < l.length := (List.getElem?_eq_some_iff.1 hj).1
  unfold Lib.bytesCells
  rw [Array.getElem?_append_left (by simp; exact hlt)]
  simp [hj, encB]
theorem bytesWorld_turned (W : World) (s : ByteArray) : Turned (fun _ => False) W (Lib.bytesWorld W 5 s) := by
  refine ⟨rfl, rfl, rfl, by rw [Lib.bytesWorld_size]; omega, fun k hk _ => Lib.bytesWorld_at_old _ _ _ _ hk⟩
theorem ownsRow_bytes {W : World} {base e size n : Nat} {v : Value} {xs : List Value} {s : ByteArray} (h : W.ownsRow base e size v n xs) : (Lib.bytesWorld W 5 s).ownsRow base e size v n xs := ownsRow_turned' (bytesWorld_turned W s) (fun _ _ => id) h
theorem BT.step {base R : Nat} {D : List (UInt8 × List UInt8)} {W wa w4 : World} {arr : Array Value} {v v' : Value} (h : BT base R D W arr v) (ha : Turned (fun _ => False) W wa) (hg : wa.grownBy w4 v.ownBlock) (o : UInt8) (l : List UInt8) (ho : ∀ p ∈ D, p.1 ≠ o)
    (hown : w4.ownsRow base 9 1 v' (D.length + 1) (D.map (fun p => .string ⟨#[p.1]⟩) ++ [.string ⟨#[o]⟩])) (c : Nat) :
    BT base R (D ++ [(o, l)]) ((Lib.bytesWorld (w4.setCell ⟨R, 256, none⟩ v') 5 ⟨l.toArray⟩).setCell ⟨R, o.toNat, none⟩ (.slice (some ⟨w4.heap.size, 0, none⟩) l.length c)) ((arr.setIfInBounds 256 v').setIfInBounds o.toNat (.slice (some ⟨w4.heap.size, 0, none⟩) l.length c)) v' := by
  obtain ⟨g1, g2⟩ := h.after ha hg
  have hsz := h.size
  have ho256 := o.toNat_lt
  have hR4 := getElem?_lt g1
  have e5 := set_block g1 256 v'
  have hs5 : (w4.setCell ⟨R, 256, none⟩ v').heap.size = w4.heap.size := by simp [World.setCell]
  have e6 : (Lib.bytesWorld (w4.setCell ⟨R, 256, none⟩ v') 5 ⟨l.toArray⟩).heap[R]? = some (.cells (arr.setIfInBounds 256 v') 127 (0, 0)) := by
    rw [Lib.bytesWorld_at_old _ _ _ _ (by rw [hs5]; exact hR4)]; exact e5
  have e7 := set_block e6 o.toNat (.slice (some ⟨w4.heap.size, 0, none⟩) l.length c)
  have hR5 : v'.ownBlock ≠ some R := own_not hown g1 (by decide)
  have hown5 : (w4.setCell ⟨R, 256, none⟩ v').ownsRow base 9 1 v' (D.length + 1) (D.map (fun p => .string ⟨#[p.1]⟩) ++ [.string ⟨#[o]⟩]) :=
    ownsRow_turned' (C := fun j => j = R) ((Turned.refl (fun j => j = R) _).setCell (p := ⟨R, 256, none⟩) rfl v') (fun g hg e => hR5 (by rw [hg, e])) hown
  refine ⟨e7, by simp [hsz], fun b hb hp => ?_, fun p hp => ?_, ?_, ?_⟩
  · have hob : o.toNat ≠ b := hp (o, l) (List.mem_append_right _ (List.mem_singleton.2 rfl))
    rw [Array.getElem?_setIfInBounds_ne hob, Array.getElem?_setIfInBounds_ne (by omega)]
    exact h.nil b hb fun p hp2 => hp p (List.mem_append_left _ hp2)
  · rcases List.mem_append.1 hp with hp | hp
    · obtain ⟨q, cap, h1, h2⟩ := h.set p hp
      have hpo : o.toNat ≠ p.1.toNat := fun e => ho p hp (UInt8.toNat_inj.1 e.symm)
      have hp256 := p.1.toNat_lt
      refine ⟨q, cap, ?_, ?_⟩
      · rw [Array.getElem?_setIfInBounds_ne hpo, Array.getElem?_setIfInBounds_ne (by omega)]
        exact h1
      · have h3 := g2 q _ h2
        have h4 := h3.ne g1
        exact ((h3.set h4).bytes).set h4
    · obtain rfl := List.mem_singleton.1 hp
      refine ⟨w4.heap.size, c, ?_, ?_⟩
      · rw [Array.getElem?_setIfInBounds_self_of_lt (by simp [hsz]; omega)]
      · have h3 := bytes_new (w4.setCell ⟨R, 256, none⟩ v') l
        rw [hs5] at h3
        exact h3.set (by omega)
  · rw [Array.getElem?_setIfInBounds_ne (by omega), Array.getElem?_setIfInBounds_self_of_lt (by omega)]
  · have h9 : (D ++ [(o, l)]).map (fun p : UInt8 × List UInt8 => Value.string ⟨#[p.1]⟩) = D.map (fun p => .string ⟨#[p.1]⟩) ++ [.string ⟨#[o]⟩] := by simp
    rw [h9]
    have h10 := ownsRow_bytes (s := ⟨l.toArray⟩) hown5
    have h11 := ownsRow_turned' (C := fun j => j = R) ((Turned.refl (fun j => j = R) (Lib.bytesWorld (w4.setCell ⟨R, 256, none⟩ v') 5 ⟨l.toArray⟩)).setCell (p := ⟨R, o.toNat, none⟩) rfl (.slice (some ⟨w4.heap.size, 0, none⟩) l.length c)) (fun g hg e => hR5 (by rw [hg, e])) h10
    simpa using h11
theorem bsr_size : (Tryz.prog.info? 127).map (·.size) = some 257 := by kernel_rfl
theorem zero_size : Tryz.zeroCells127.size = 257 := by kernel_rfl
theorem zero_take : Tryz.zeroCells127.toList.take 256 = List.replicate 256 (.slice none 0 0) := by kernel_rfl
theorem zero_one : Tryz.zeroCells127.toList.all (·.oneCell') = true := by kernel_rfl
/-- the facts on a list of which one value is set -/
theorem set_row (zs : Array Value) (v : Value) (h1 : zs.size = 257) (h2 : zs.toList.take 256 = List.replicate 256 (.slice none 0 0)) (h3 : zs.toList.all (·.oneCell') = true) (hv : v.oneCell' = true) :
    ∃ arr : Array Value, arr.toList = zs.toList.set 256 v ∧ arr.size = 257 ∧ (∀ b, b < 256 → arr[b]? = some (.slice none 0 0)) ∧ arr[256]? = some v ∧ arr.all (·.oneCell') = true := by
  refine ⟨(zs.toList.set 256 v).toArray, rfl, by simp [h1], fun b hb => ?_, ?_, ?_⟩
  · have h4 : (zs.toList.set 256 v).toArray[b]? = (zs.toList.set 256 v)[b]? := by simp
    rw [h4, List.getElem?_set_ne (by omega), ← List.getElem?_take_of_lt hb, h2, List.getElem?_replicate]
    simp [hb]
  · have h4 : (zs.toList.set 256 v).toArray[256]? = (zs.toList.set 256 v)[256]? := by simp
    rw [h4, List.getElem?_set_self (by simp [h1])]
  · rw [List.all_toArray, List.all_eq_true]
    intro x hx
    rcases List.mem_or_eq_of_mem_set hx with h | rfl
    · exact List.all_eq_true.1 h3 x h
    · exact hv
theorem store_fresh (w : World) (v : Value) (hv : v.oneCell' = true) : ∃ arr : Array Value, arr.size = 257 ∧ (∀ b, b < 256 → arr[b]? = some (.slice none 0 0)) ∧ arr[256]? = some v ∧
    (storeCells ⟨w.heap.size, 0, none⟩ (Tryz.zeroCells127.toList.set 256 v)).run Tryz.prog (w.alloc (.cells Tryz.zeroCells127 127)) = .ok () (w.alloc (.cells arr 127)) := by
  obtain ⟨arr, e1, e2, e3, e4, e5⟩ := set_row _ v zero_size zero_take zero_one hv
  have h := run_storeCells_new (P := Tryz.prog) w 127 Tryz.zeroCells127 arr (by rw [bsr_size, e2]) (by rw [zero_size, e2]) e5
  rw [e1] at h
  exact ⟨arr, e2, e3, e4, h⟩
end Go.Proofs.YtdjjifljlkjafaaGreatDoor
