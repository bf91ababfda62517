/- Plain laws of the lexer: what Text prints of a token is what stood in the source. Conditions: each lemma's own. -/
import Derived.Test.YtdjjifljlkjafaaGreatDoorLexText
import Derived.Test.YtdjjifljlkjafaaGreatDoorLexFill
import Derived.Test.YtdjjifljlkjafaaGreatDoorLexRefF
namespace Go.Proofs.YtdjjifljlkjafaaGreatDoor
open Go Go.Proofs

theorem valL_pos : ∀ (l : List UInt8) (acc : Nat), 0 < acc → 0 < valL acc l
  | [], _, h => h
  | c :: l, acc, h => valL_pos l _ (by omega)
theorem dec_digits (c : UInt8) (hc : cls c = 2) : ∀ (l : List UInt8), (∀ b ∈ l, cls b = 2) → (l = [] ∨ c ≠ 48) → Lib.decDigits (valL 0 (c :: l)) = c :: l := by
  have h0 := (dig_iff c).1 hc
  intro l
  induction h : l.length generalizing l with
  | zero =>
    intro _ _
    obtain rfl : l = [] := List.length_eq_zero_iff.1 h
    show Lib.decDigits (0 * 10 + (c.toNat - 48)) = [c]
    rw [Lib.decDigits, dif_pos (by omega)]
    congr 1
    rw [show 48 + (0 * 10 + (c.toNat - 48)) = c.toNat by omega]
    exact UInt8.ofNat_toNat
  | succ n ih =>
    intro hl hne
    have hl0 : l ≠ [] := fun e => by subst e; simp at h
    have h48 : c ≠ 48 := hne.resolve_left hl0
    obtain ⟨m, d, rfl⟩ : ∃ m d, l = m ++ [d] := ⟨l.dropLast, l.getLast hl0, (List.dropLast_concat_getLast hl0).symm⟩
    have hd := (dig_iff d).1 (hl d (by simp))
    have hm := ih m (by simp at h; omega) (fun b hb => hl b (by simp [hb])) (.inr h48)
    have hv : valL 0 (c :: (m ++ [d])) = valL 0 (c :: m) * 10 + (d.toNat - 48) := valL_snoc 0 (c :: m) d
    have hpos : 0 < valL 0 (c :: m) := by
      have hc0 : c.toNat ≠ 48 := fun e => h48 (UInt8.toNat_inj.1 e)
      exact valL_pos m _ (by omega)
    rw [hv, Lib.decDigits, dif_neg (by omega)]
    rw [show (valL 0 (c :: m) * 10 + (d.toNat - 48)) / 10 = valL 0 (c :: m) by omega, show (valL 0 (c :: m) * 10 + (d.toNat - 48)) % 10 = d.toNat - 48 by omega, hm, show 48 + (d.toNat - 48) = d.toNat by omega]
    simp
/-- a text is printed as it stood -/
theorem textL_word (k0 : Nat) (t : Tok) (tt : Nat) : ∀ (n : Nat) (l : List UInt8), l.length ≤ n → ∀ (j : Nat) (b : List UInt8), textL k0 l j b = .tok t tt → (t.kind = 3 ∧ t.n = 0) ∧ ∃ c, t.s = ⟨(b ++ c).toArray⟩ ∧ l.take (tt - j) = escL c ++ [34] ∧ b.length + c.length ≤ 200 := by
  intro n
  induction n using Nat.strongRecOn with
  | _ n ih =>
    intro l hl j b h
    have hfit := textL_fits _ _ _ _ _ _ h
    by_cases hb : 200 < b.length
    · rw [textL_lim _ _ _ _ hb] at h; cases h
    cases l with
    | nil => rw [textL_nil _ _ _ hb] at h; cases h
    | cons c l =>
      simp only [List.length_cons] at hl
      by_cases h34 : c = 34
      · subst h34
        rw [textL_quote _ _ _ _ hb] at h
        cases h
        exact ⟨⟨rfl, rfl⟩, [], by simp, by rw [Nat.add_sub_cancel_left]; simp [escL], by simp; omega⟩
      by_cases h92 : c = 92
      · subst h92
        cases l with
        | nil => rw [textL_esc0 _ _ _ hb] at h; cases h
        | cons d l =>
          simp only [List.length_cons] at hl
          rw [textL_esc _ _ _ _ _ hb] at h
          have key : ∀ x : UInt8, esc x = [92, d] → textL k0 l (j + 2) (b ++ [x]) = .tok t tt → (t.kind = 3 ∧ t.n = 0) ∧ ∃ c, t.s = ⟨(b ++ c).toArray⟩ ∧ (92 :: d :: l).take (tt - j) = escL c ++ [34] ∧ b.length + c.length ≤ 200 := fun x hx hh => by
            have hf2 := textL_fits _ _ _ _ _ _ hh
            obtain ⟨q0, c, q1, q2, q3⟩ := ih (n - 2) (by omega) l (by omega) (j + 2) (b ++ [x]) hh
            refine ⟨q0, x :: c, by rw [q1]; simp, ?_, by simp at q3 ⊢; omega⟩
            rw [show tt - j = (tt - (j + 2)) + 1 + 1 by omega, List.take_succ_cons, List.take_succ_cons, q2]
            simp [escL, hx]
          split at h
          · rename_i hd
            exact key 34 (by rw [hd]; rfl) h
          · split at h
            · rename_i hd
              exact key 92 (by rw [hd]; rfl) h
            · split at h
              · rename_i hd
                exact key 10 (by rw [hd]; rfl) h
              · cases h
      by_cases hc : c.toNat < 32 ∨ 126 < c.toNat
      · rw [textL_bad _ _ _ _ _ hb h34 h92 hc] at h; cases h
      · rw [textL_step _ _ _ _ _ hb h34 h92 hc] at h
        have hf2 := textL_fits _ _ _ _ _ _ h
        obtain ⟨q0, d, q1, q2, q3⟩ := ih (n - 1) (by omega) l (by omega) (j + 1) (b ++ [c]) h
        have h10 : c ≠ 10 := fun e => by subst e; exact hc (.inl (by decide))
        refine ⟨q0, c :: d, by rw [q1]; simp, ?_, by simp at q3 ⊢; omega⟩
        rw [show tt - j = (tt - (j + 1)) + 1 by omega, List.take_succ_cons, q2]
        simp [escL, esc_one h10 h92 h34]
/-- what Text prints of the token that stands ahead is what stands there -/
theorem head_word {l : List UInt8} {t : Tok} {tt : Nat} (h : headT l = .tok t tt) : wordQ t = [⟨(l.take tt).toArray⟩] ∧ 0 ≤ t.n ∧ t.n < 9223372036854775807 ∧ t.s.size ≤ 200 ∧ t.kind ≠ 5 := by
  have hf := head_fits h
  cases l with
  | nil => rw [head_nil] at h; cases h
  | cons b l =>
    rcases heads b with hb | hb | hb | ⟨hb, hb2⟩
    · rw [head_name hb] at h
      split at h
      · cases h
      · rename_i h32
        cases h
        refine ⟨by unfold wordQ; rw [if_pos (.inl rfl)], by simp, by simp, ?_, by show (1 : Int) ≠ 5; decide⟩
        show ((b :: l).take (spanL 2 (b :: l))).length ≤ 200
        rw [List.length_take]; omega
    · rw [head_num hb] at h
      obtain rfl := numOf_tok h
      obtain ⟨m, hm⟩ : ∃ m, spanL 2 (b :: l) = m + 1 := ⟨spanL 2 (b :: l) - 1, by omega⟩
      rw [hm, List.take_succ_cons] at h ⊢
      have hall : ∀ x ∈ b :: l.take m, cls x = 2 := by
        intro x hx
        by_cases hx2 : cls x = 2
        · exact hx2
        · rw [numOf_bad hb ⟨x, hx, hx2⟩] at h; cases h
      have hlen : (l.take m).length < 15 := by
        rcases Nat.lt_or_ge (l.take m).length 15 with h1 | h1
        · exact h1
        · rw [numOf_long (by show 15 < (b :: l.take m).length; simp at h1 ⊢; omega)] at h; cases h
      have hz : ¬ (1 < (l.take m).length + 1 ∧ b = 48) := fun hz => by
        rw [numOf_zero (by show 1 < (b :: l.take m).length; simpa using hz.1) (by rw [hz.2]; rfl)] at h; cases h
      rw [numOf_ok hall hlen hz] at h
      cases h
      have hb2 : (0 + 1) * 10 ^ (b :: l.take m).length ≤ 10 ^ 15 := by rw [Nat.zero_add, Nat.one_mul]; exact pow_bound (by simp at hlen ⊢; omega)
      have hv := Nat.lt_of_lt_of_le (valL_lt (b :: l.take m) 0 hall) hb2
      refine ⟨?_, by simp, by show ((valL 0 (b :: l.take m) : Nat) : Int) < _; omega, by show 0 ≤ 200; omega, by show (2 : Int) ≠ 5; decide⟩
      unfold wordQ
      rw [if_neg (by show ¬ ((2 : Int) = 1 ∨ (2 : Int) = 4); decide), if_pos rfl]
      show [ByteArray.mk (Lib.itoa ((valL 0 (b :: l.take m) : Nat) : Int)).toArray] = _
      have e1 : Lib.itoa ((valL 0 (b :: l.take m) : Nat) : Int) = b :: l.take m := by
        unfold Lib.itoa
        rw [if_neg (by omega), Int.toNat_natCast]
        refine dec_digits b hb (l.take m) (fun x hx => hall x (List.mem_cons_of_mem _ hx)) ?_
        by_cases e : l.take m = []
        · exact .inl e
        · refine .inr fun e48 => hz ⟨?_, e48⟩
          have := List.length_pos_iff.2 e
          omega
      rw [e1]
    · subst hb
      rw [head_text] at h
      have hfit := textL_fits _ _ _ _ _ _ h
      obtain ⟨⟨q0, hn⟩, c, q1, q2, q3⟩ := textL_word 0 t tt _ l (Nat.le_refl _) 1 [] h
      refine ⟨?_, by omega, by omega, by rw [q1]; show ([] ++ c).length ≤ 200; simp at q3 ⊢; exact q3, by rw [q0]; decide⟩
      unfold wordQ
      rw [if_neg (by rw [q0]; decide), if_neg (by rw [q0]; decide), if_pos q0]
      obtain ⟨u, rfl⟩ : ∃ u, tt = u + 1 := ⟨tt - 1, by omega⟩
      rw [Nat.add_sub_cancel] at q2
      rw [List.take_succ_cons, q2]
      unfold quotedB
      rw [q1]
      simp only [List.nil_append]
      refine congrArg (fun x => [x]) ?_
      apply ByteArray.ext
      apply Array.ext'
      simp
    · rw [head_sign hb hb2] at h
      have h := orChar_tok h
      rw [sgn_pairs _ pairs pairs_len] at h
      split at h
      · rename_i h2
        cases h
        have h4 : ((b :: l).take 2).length = 2 := pairs_len _ h2
        exact ⟨by unfold wordQ; rw [if_pos (.inr rfl)], by simp, by simp, by show ((b :: l).take 2).length ≤ 200; omega, by show (4 : Int) ≠ 5; decide⟩
      · unfold sgnL at h
        split at h
        · cases h
          exact ⟨by unfold wordQ; rw [if_pos (.inr rfl)]; rfl, by simp, by simp, by show 1 ≤ 200; omega, by show (4 : Int) ≠ 5; decide⟩
        · cases h
end Go.Proofs.YtdjjifljlkjafaaGreatDoor
