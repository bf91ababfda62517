/- Walks of (*strings.Replacer).buildOnce. Conditions: those of each theorem. -/
import Derived.Test.YtdjjifljlkjafaaGreatDoorLexBuildW
namespace Go.Proofs.YtdjjifljlkjafaaGreatDoor
open Go Go.Proofs Go.RowKit
attribute [local go_sem] Oper.semAt_some

/-- a table stays where another block is written -/
theorem BT.other {base R B : Nat} {D : List (UInt8 × List UInt8)} {W : World} {arr arr2 : Array Value} {v : Value} {fz : Nat × Nat} (h : BT base R D W arr v) (hB : W.heap[B]? = some (.cells arr2 85 fz)) (i : Nat) (x : Value) : BT base R D (W.setCell ⟨B, i, none⟩ x) arr v := by
  have ne : ∀ (q : Nat) (c : Array Value) (t : TypeId) (f : Nat × Nat), W.heap[q]? = some (.cells c t f) → t ≠ 85 → (W.setCell ⟨B, i, none⟩ x).heap[q]? = W.heap[q]? := fun q c t f hq ht => by
    have hne : B ≠ q := fun e => by
      subst e
      rw [hB] at hq
      simp at hq
      exact ht hq.2.1.symm
    simp [World.setCell, Array.getElem?_modify, hne]
  refine ⟨?_, h.size, h.nil, fun p hp => ?_, h.last, ?_⟩
  · rw [ne _ _ _ _ h.row (by decide)]; exact h.row
  · obtain ⟨q, cap, h1, ar, f, h2, h3⟩ := h.set p hp
    exact ⟨q, cap, h1, ar, f, by rw [ne _ _ _ _ h2 (by decide)]; exact h2, h3⟩
  · refine ownsRow_turned' (C := fun j => j = B) ((Turned.refl (fun j => j = B) _).setCell (p := ⟨B, i, none⟩) rfl x) (fun g hg e => ?_) h.own
    subst e
    exact own_not h.own hB (by decide) hg
theorem BT.drew {base R : Nat} {D : List (UInt8 × List UInt8)} {W : World} {arr : Array Value} {v : Value} (h : BT base R D W arr v) : BT base R D W.drew arr v :=
  ⟨h.row, h.size, h.nil, h.set, h.last, h.own⟩
/-- what buildOnce leaves -/
def Built (w : World) (B Rb : Nat) (W : World) : Prop := ∃ arr v c, BT w.heap.size Rb rows W arr v ∧ W.heap[B]? = some (.cells #[.int .u32 0, .int .i32 1, .int .u32 c, .iface 128 (.pointer (some ⟨Rb, 0, none⟩)), .slice none 0 0] 85 (0, 0)) ∧ Turned (fun i => i = B ∨ w.heap.size ≤ i) w W
theorem set_at {W : World} {B : Nat} {a b c d e x : Value} {t : TypeId} (h : W.heap[B]? = some (.cells #[a, b, c, d, e] t (0, 0))) : (W.setCell ⟨B, 0, none⟩ x).heap[B]? = some (.cells #[x, b, c, d, e] t (0, 0)) ∧ (W.setCell ⟨B, 1, none⟩ x).heap[B]? = some (.cells #[a, x, c, d, e] t (0, 0)) ∧ (W.setCell ⟨B, 3, none⟩ x).heap[B]? = some (.cells #[a, b, c, x, e] t (0, 0)) ∧ (W.setCell ⟨B, 4, none⟩ x).heap[B]? = some (.cells #[a, b, c, d, x] t (0, 0)) := by
  simp [World.setCell, Array.getElem?_modify, h]
theorem five_cells {V : World} {N : Nat} {a b c d e : Value} {t : TypeId} (h : V.heap[N]? = some (.cells #[a, b, c, d, e] t (0, 0))) : V.cell? ⟨N, 0, none⟩ = some a ∧ V.cell? ⟨N, 1, none⟩ = some b ∧ V.cell? ⟨N, 2, none⟩ = some c ∧ V.cell? ⟨N, 3, none⟩ = some d ∧ V.cell? ⟨N, 4, none⟩ = some e ∧ ∀ i, V.frozen? ⟨N, i, none⟩ = false := by
  simp [World.cell?, World.frozen?, h]
set_option maxRecDepth 20000 in
set_option maxHeartbeats 1000000 in
theorem once_any (B g cap : Nat) (w : World) (h5 : w.heap[B]? = some (.cells #[.int .u32 0, .int .i32 1, .int .u32 0, .nilIface, .slice (some ⟨g, 0, none⟩) 6 cap] 85 (0, 0))) (h6 : SixAt w g) (hg : g < w.heap.size) :
    Calls Tryz.prog 44 #[.pointer (some ⟨B, 0, none⟩)] w fun e w' => e = .returned (.tuple #[]) ∧ w'.cell? ⟨B, 0, none⟩ = some (.int .u32 0) ∧ w'.cell? ⟨B, 1, none⟩ = some (.int .i32 1) ∧ w'.frozen? ⟨B, 0, none⟩ = false ∧ w'.frozen? ⟨B, 1, none⟩ = false ∧ Built w B (w.heap.size + 1) w' := by
  have hb := getElem?_lt h5
  have HBld := Lib.hid (build_any B g cap w (five_cells h5).2.2.2.2.1 h6 hg)
  have H5 := Lib.hid h5
  clear h5 h6
  go_enter Tryz.func44, Tryz.ntmps44
  go_wp2_with fail
  refine HBld.out.mono ?_
  rintro e X ⟨rfl, HS⟩
  obtain ⟨arr, v, hB, hT⟩ := HS.out
  have h7 : X.heap[B]? = some (.cells #[.int .u32 0, .int .i32 1, .int .u32 0, .nilIface, .slice (some ⟨g, 0, none⟩) 6 cap] 85 (0, 0)) := (hT.block B hb (by omega)).trans H5.out
  obtain ⟨c0, c1, c2, c3, c4, cf⟩ := five_cells h7
  have HB := Lib.hid hB
  have HT := Lib.hid hT
  have H7 := Lib.hid h7
  clear hB hT h7 HS
  go_wp2_with fail
  have s3 := (set_at (x := .iface 128 (.pointer (some ⟨w.heap.size + 1, 0, none⟩))) H7.out).2.2.1
  have s4 := (set_at (x := .slice none 0 0) s3).2.2.2
  obtain ⟨d0, d1, -, -, -, df⟩ := five_cells s4
  go_end0
  refine ⟨rfl, d0, d1, df 0, df 1, arr, v, 0, (HB.out.other H7.out 3 _).other s3 4 _, s4, ?_⟩
  exact ((HT.out.mono fun i hi => .inr hi).setCell (p := ⟨B, 3, none⟩) (.inl rfl) _).setCell (p := ⟨B, 4, none⟩) (.inl rfl) _
end Go.Proofs.YtdjjifljlkjafaaGreatDoor
