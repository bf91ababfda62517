/- Plain laws of the lexer: a source and what stands before an offset of it. Conditions: each lemma's own. -/
import Derived.Test.YtdjjifljlkjafaaGreatDoorLexWalkH
namespace Go.Proofs.YtdjjifljlkjafaaGreatDoor
open Go Go.Proofs

theorem pre_list (s : ByteArray) (k : Nat) : (s.extract 0 k).data.toList = s.data.toList.take k := by
  simp
theorem rest_pre (s : ByteArray) (k j : Nat) : rest (s.extract 0 k) j = (rest s j).take (k - j) := by
  unfold rest
  rw [pre_list, List.drop_take]
theorem spanL_take (least : Int) : ∀ (l : List UInt8) (m : Nat), spanL least l ≤ m → spanL least (l.take m) = spanL least l
  | [], m, _ => by simp
  | b :: l, 0, h => by
    by_cases h1 : least ≤ cls b
    · rw [spanL_cons_yes h1] at h; omega
    · rw [spanL_cons_no (by omega)]; rfl
  | b :: l, m + 1, h => by
    rw [List.take_succ_cons]
    by_cases h1 : least ≤ cls b
    · rw [spanL_cons_yes h1] at h
      rw [spanL_cons_yes h1, spanL_cons_yes h1, spanL_take least l m (by omega)]
    · rw [spanL_cons_no (by omega), spanL_cons_no (by omega)]
theorem blankL_take : ∀ (c : Bool) (l : List UInt8) (m : Nat), blankL c l ≤ m → blankL c (l.take m) = blankL c l
  | _, [], m, _ => by simp
  | c, b :: l, 0, h => by
    cases c <;> simp only [blankL] at h ⊢ <;> (repeat' split at h) <;> first | omega | (simp_all [blankL])
  | false, b :: l, m + 1, h => by
    rw [List.take_succ_cons]
    simp only [blankL] at h ⊢
    split
    · rename_i h1
      rw [if_pos h1] at h
      rw [blankL_take false l m (by omega)]
    · rename_i h1
      rw [if_neg h1] at h
      split
      · rename_i h2
        rw [if_pos h2] at h
        rw [blankL_take true l m (by omega)]
      · rfl
  | true, b :: l, m + 1, h => by
    rw [List.take_succ_cons]
    simp only [blankL] at h ⊢
    split
    · rename_i h1
      rw [if_pos h1] at h
      rw [blankL_take false l m (by omega)]
    · rename_i h1
      rw [if_neg h1] at h
      rw [blankL_take true l m (by omega)]
theorem textL_take (k0 : Nat) (t : Tok) (tt : Nat) : ∀ (n : Nat) (l : List UInt8), l.length ≤ n → ∀ (j : Nat) (b : List UInt8) (m : Nat), textL k0 l j b = .tok t tt → tt ≤ j + m → textL k0 (l.take m) j b = .tok t tt := by
  intro n
  induction n using Nat.strongRecOn with
  | _ n ih =>
    intro l hl j b m h hm
    have hfit := textL_fits _ _ _ _ _ _ h
    by_cases hb : 200 < b.length
    · rw [textL_lim _ _ _ _ hb] at h; cases h
    cases l with
    | nil => rw [textL_nil _ _ _ hb] at h; cases h
    | cons c l =>
      obtain ⟨m, rfl⟩ : ∃ m', m = m' + 1 := ⟨m - 1, by omega⟩
      rw [List.take_succ_cons]
      simp only [List.length_cons] at hl
      by_cases h34 : c = 34
      · subst h34
        rw [textL_quote _ _ _ _ hb] at h ⊢
        exact h
      by_cases h92 : c = 92
      · subst h92
        cases l with
        | nil => rw [textL_esc0 _ _ _ hb] at h; cases h
        | cons d l =>
          simp only [List.length_cons] at hl
          rw [textL_esc _ _ _ _ _ hb] at h
          have key : ∀ x : UInt8, textL k0 l (j + 2) (b ++ [x]) = .tok t tt → ∃ m', m = m' + 1 ∧ textL k0 (l.take m') (j + 2) (b ++ [x]) = .tok t tt := fun x hx => by
            have := textL_fits _ _ _ _ _ _ hx
            exact ⟨m - 1, by omega, ih (n - 2) (by omega) l (by omega) _ _ _ hx (by omega)⟩
          split at h
          · rename_i hd
            obtain ⟨m', rfl, h'⟩ := key _ h
            rw [List.take_succ_cons, textL_esc _ _ _ _ _ hb, if_pos hd, h']
          · rename_i hd
            split at h
            · rename_i hd2
              obtain ⟨m', rfl, h'⟩ := key _ h
              rw [List.take_succ_cons, textL_esc _ _ _ _ _ hb, if_neg hd, if_pos hd2, h']
            · rename_i hd2
              split at h
              · rename_i hd3
                obtain ⟨m', rfl, h'⟩ := key _ h
                rw [List.take_succ_cons, textL_esc _ _ _ _ _ hb, if_neg hd, if_neg hd2, if_pos hd3, h']
              · cases h
      by_cases hc : c.toNat < 32 ∨ 126 < c.toNat
      · rw [textL_bad _ _ _ _ _ hb h34 h92 hc] at h; cases h
      · rw [textL_step _ _ _ _ _ hb h34 h92 hc] at h ⊢
        exact ih (n - 1) (by omega) l (by omega) _ _ _ h (by omega)
end Go.Proofs.YtdjjifljlkjafaaGreatDoor
