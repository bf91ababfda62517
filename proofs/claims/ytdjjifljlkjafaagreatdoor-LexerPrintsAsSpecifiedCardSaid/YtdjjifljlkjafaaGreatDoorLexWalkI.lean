/- Walk of the lexer: Position. Conditions: those of each theorem. -/
import Derived.Test.YtdjjifljlkjafaaGreatDoorLexWalkA
import Derived.Test.YtdjjifljlkjafaaGreatDoorColLaw
import Derived.Laws.RangeAny
import Derived.Laws.RangeString
namespace Go.Proofs.YtdjjifljlkjafaaGreatDoor
open Go Go.Proofs Go.RowKit
attribute [local go_sem] Oper.semAt_some

/-- line feeds so far, and the offset behind the last one, over the bytes that are left -/
def posF : List UInt8 → Nat → Nat → Nat → Nat × Nat
  | [], _, n, f => (n, f)
  | c :: l, k, n, f => if c = 10 then posF l (k + 1) (n + 1) (k + 1) else posF l (k + 1) n f
/-- what Position returns -/
def posP (s : ByteArray) (a : Int) : Int × Int :=
  if a < 0 ∨ a > s.size then (0, 0) else ((posF (s.extract 0 a.toNat).data.toList 0 0 0).1 + 1, a - (posF (s.extract 0 a.toNat).data.toList 0 0 0).2 + 1)

theorem decode_cont (s : ByteArray) (pos i : Nat) (h1 : 1 ≤ i) (h2 : i < (Utf8.decode s pos).2) : pos + i < s.size ∧ (s.get! (pos + i)).toNat / 64 = 2 := by
  revert h2
  simp only [Utf8.decode]
  split
  · intro h; simp at h; omega
  split
  · rename_i h
    simp only [Bool.and_eq_true, decide_eq_true_eq, beq_iff_eq] at h
    split
    · intro h2; obtain rfl : i = 1 := by simp at h2; omega
      exact h.2
    · intro h2; simp at h2; omega
  split
  · rename_i h
    simp only [Bool.and_eq_true, decide_eq_true_eq, beq_iff_eq] at h
    split
    · intro h2
      have : i = 1 ∨ i = 2 := by simp at h2; omega
      rcases this with rfl | rfl
      · exact h.1.2
      · exact h.2
    · intro h2; simp at h2; omega
  split
  · rename_i h
    simp only [Bool.and_eq_true, decide_eq_true_eq, beq_iff_eq] at h
    split
    · intro h2
      have : i = 1 ∨ i = 2 ∨ i = 3 := by simp at h2; omega
      rcases this with rfl | rfl | rfl
      · exact h.1.1.2
      · exact h.1.2
      · exact h.2
    · intro h2; simp at h2; omega
  · intro h2; simp at h2; omega

theorem posF_far (s : ByteArray) : ∀ (d pos n f : Nat), pos + d ≤ s.size → (∀ i (h : i < s.size), pos ≤ i → i < pos + d → s[i] ≠ 10) → posF (s.data.toList.drop pos) pos n f = posF (s.data.toList.drop (pos + d)) (pos + d) n f
  | 0, _, _, _, _, _ => rfl
  | d + 1, pos, n, f, h, hn => by
    have hc := rest_cons s pos (by omega)
    unfold rest at hc
    rw [hc]
    conv => lhs; unfold posF
    rw [if_neg (hn pos (by omega) (Nat.le_refl _) (by omega)), posF_far s d (pos + 1) n f (by omega) (fun i hi h1 h2 => hn i hi (by omega) (by omega))]
    rw [show pos + 1 + d = pos + (d + 1) by omega]
theorem posF_line (s : ByteArray) (pos n f : Nat) (h : pos < s.size) (hc : s[pos] = 10) : posF (s.data.toList.drop pos) pos n f = posF (s.data.toList.drop (pos + 1)) (pos + 1) (n + 1) (pos + 1) := by
  have h1 := rest_cons s pos h
  unfold rest at h1
  rw [h1]
  conv => lhs; unfold posF
  rw [if_pos hc]
theorem get_get (s : ByteArray) (i : Nat) (h : i < s.size) : s.get! i = s[i] := by simp [ByteArray.get!, getElem!_pos, h]; rfl
theorem width_in (s : ByteArray) (pos : Nat) (h : pos < s.size) : pos + (Utf8.decode s pos).2 ≤ s.size := by
  by_cases h1 : (Utf8.decode s pos).2 ≤ 1
  · omega
  · have := (decode_cont s pos ((Utf8.decode s pos).2 - 1) (by omega) (by omega)).1
    omega
/-- one rune that is no line feed -/
theorem posF_rune (s : ByteArray) (pos n f : Nat) (h : pos < s.size) (hc : (Utf8.decode s pos).1 ≠ 10) : posF (s.data.toList.drop pos) pos n f = posF (s.data.toList.drop (pos + (Utf8.decode s pos).2)) (pos + (Utf8.decode s pos).2) n f := by
  refine posF_far s _ pos n f (width_in s pos h) (fun i hi h1 h2 => ?_)
  by_cases he : i = pos
  · subst he
    intro h10
    apply hc
    rw [decode_ascii s i h (by rw [h10]; decide), h10]
    rfl
  · have := (decode_cont s pos (i - pos) (by omega) (by omega)).2
    rw [show pos + (i - pos) = i by omega, get_get s i hi] at this
    intro h10
    rw [h10] at this
    revert this; decide
/-- one rune that is a line feed -/
theorem posF_feed (s : ByteArray) (pos n f : Nat) (h : pos < s.size) (hc : (Utf8.decode s pos).1 = 10) : (Utf8.decode s pos).2 = 1 ∧ posF (s.data.toList.drop pos) pos n f = posF (s.data.toList.drop (pos + 1)) (pos + 1) (n + 1) (pos + 1) := by
  by_cases ha : (s[pos]'h).toNat < 128
  · have hd := decode_ascii s pos h ha
    rw [hd] at hc ⊢
    exact ⟨rfl, posF_line s pos n f h (UInt8.toNat_inj.1 hc)⟩
  · have := (decode_high s pos h (by omega)).1
    omega
structure PS (t : ByteArray) (pos N F : Nat) : Prop where
  le : pos ≤ t.size
  n : N ≤ pos
  f : F ≤ pos
  eq : posF (t.data.toList.drop pos) pos N F = posF t.data.toList 0 0 0
theorem width_pos' (s : ByteArray) (pos : Nat) (h : pos < s.size) : 1 ≤ (Utf8.decode s pos).2 := by
  by_cases ha : (s[pos]'h).toNat < 128
  · rw [decode_ascii s pos h ha]
    exact Nat.le_refl _
  · exact (decode_high s pos h (by omega)).2
theorem iter_turned (C : Nat → Prop) (w : World) (t : ByteArray) (pos : Nat) : Turned C w (w.iter t pos) := (Turned.refl C w).alloc _
set_option maxHeartbeats 1000000 in
theorem position_any (s : ByteArray) (a : Int) (w : World) (hs : s.size ≤ 65536) : Calls Tryz.prog 16 #[.string s, (.int .i64 a)] w fun e w' => e = .returned (.tuple #[(.int .i64 ((posP s a).1)), (.int .i64 ((posP s a).2))]) ∧ Turned (fun _ => False) w w' := by
  go_enter Tryz.func16, Tryz.ntmps16
  by_cases hout : a < 0 ∨ a > s.size
  · have HF : Hid (posP s a = (0, 0)) := by show _ = _; unfold posP; rw [if_pos hout]
    rcases hout with h | h
    · go_wp2
      go_ret2
      rw [HF.out]
      exact ⟨rfl, Turned.refl _ _⟩
    · have : 0 ≤ a := by omega
      go_wp2
      go_ret2
      rw [HF.out]
      exact ⟨rfl, Turned.refl _ _⟩
  · obtain ⟨k, rfl⟩ : ∃ k : Nat, a = k := ⟨a.toNat, by omega⟩
    have hk : k ≤ s.size := by omega
    have HF : Hid (posP s k = (((posF (s.extract 0 k).data.toList 0 0 0).1 : Int) + 1, (k : Int) - (posF (s.extract 0 k).data.toList 0 0 0).2 + 1)) := by show _ = _; unfold posP; rw [if_neg hout]; rfl
    clear hout
    go_wp2
    have hz : (s.extract 0 k).size = k := by simp; omega
    generalize s.extract 0 k = t at HF hz ⊢
    go_loopw [4, 6] (fun n f wr => ∃ pos N F : Nat, wr = w.iter t pos ∧ n = (.int .i64 N) ∧ f = (.int .i64 F) ∧ Hid (PS t pos N F)) (fun _ _ wr => t.size - wr.iterPos w.heap.size)
    case atStart => exact ⟨0, 0, 0, rfl, rfl, rfl, ⟨by omega, by omega, by omega, rfl⟩⟩
    case round =>
      obtain ⟨pos, N, F, rfl, rfl, rfl, HS⟩ := hrel
      have hle := HS.out.le
      have hn := HS.out.n
      have hf := HS.out.f
      by_cases hp : pos < t.size
      · have hnx : ∀ ty, (Instr.next (.pointer (some ⟨w.heap.size, 0, none⟩)) true ty).run Tryz.prog (w.iter t pos) = _ := fun ty => run_next_any w t pos ty hp
        have hwd := width_pos' t pos hp
        have hin := width_in t pos hp
        by_cases hc : (Utf8.decode t pos).1 = 10
        · obtain ⟨hw1, hfe⟩ := posF_feed t pos N F hp hc
          have HS2 : Hid (PS t (pos + 1) (N + 1) (pos + 1)) := ⟨by omega, by omega, by omega, by rw [← hfe]; exact HS.out.eq⟩
          rw [hw1, hc] at hnx
          clear hfe
          go_wp2
          go_roundw
          case rel => exact ⟨pos + 1, N + 1, pos + 1, rfl, by go_num, by go_num, HS2⟩
          case measure => simp; omega
        · have hfe := posF_rune t pos N F hp hc
          have HS2 : Hid (PS t (pos + (Utf8.decode t pos).2) N F) := ⟨hin, by omega, by omega, by rw [← hfe]; exact HS.out.eq⟩
          have hc' : (((Utf8.decode t pos).1 : Int) == 10) = false := by simp; omega
          clear hfe hc
          go_wp2
          go_roundw
          case rel => exact ⟨pos + (Utf8.decode t pos).2, N, F, rfl, rfl, rfl, HS2⟩
          case measure => simp; omega
      · have hnx : ∀ ty, (Instr.next (.pointer (some ⟨w.heap.size, 0, none⟩)) true ty).run Tryz.prog (w.iter t pos) = _ := fun ty => run_next_end w t pos ty hp
        have HE : Hid (posF t.data.toList 0 0 0 = (N, F)) := by
          show _ = _
          rw [← HS.out.eq, List.drop_eq_nil_of_le (by simp; omega)]
          rfl
        go_wp2
        go_ret2
        rw [HF.out, HE.out]
        exact ⟨rfl, iter_turned _ _ _ _⟩
end Go.Proofs.YtdjjifljlkjafaaGreatDoor
