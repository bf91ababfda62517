/- Part 14 of the proof of card: LexNum, LexPre, LexList, LexRefC, ParTok, ParWalkK. Conditions: those of each theorem. -/
import Derived.Test.YtjijdgkccfeeaaaGreatDoorRt01
import Derived.Test.YtjijdgkccfeeaaaGreatDoorRt12
import Derived.Test.YtjijdgkccfeeaaaGreatDoorRt13
namespace Go.Proofs.YtjijdgkccfeeaaaGreatDoor
open Go Go.Proofs
def isDig (b : UInt8) : Bool := decide (cls b = 2)
def digL (l : List UInt8) : Nat := (l.takeWhile isDig).length
theorem digL_yes {b : UInt8} {l : List UInt8} (h : cls b = 2) : digL (b :: l) = digL l + 1 := by
  unfold digL
  rw [List.takeWhile_cons_of_pos (by simpa [isDig] using h)]
  rfl
theorem digL_no {b : UInt8} {l : List UInt8} (h : cls b ≠ 2) : digL (b :: l) = 0 := by
  unfold digL
  rw [List.takeWhile_cons_of_neg (by simpa [isDig] using h)]
  rfl
theorem digL_le (l : List UInt8) : digL l ≤ l.length := (List.takeWhile_sublist _).length_le
theorem digL_all : ∀ (l : List UInt8), ∀ b ∈ l.take (digL l), cls b = 2
  | [], b, h => by simp at h
  | c :: l, b, h => by
    by_cases hc : cls c = 2
    · rw [digL_yes hc, List.take_succ_cons] at h
      rcases List.mem_cons.1 h with rfl | h
      · exact hc
      · exact digL_all l b h
    · rw [digL_no hc] at h
      simp at h
theorem dig_iff (b : UInt8) : cls b = 2 ↔ 48 ≤ b.toNat ∧ b.toNat ≤ 57 := by
  unfold cls clsI
  split
  · constructor
    · intro h; omega
    · intro h; omega
  · split
    · simp_all; omega
    · split <;> simp_all <;> omega
def valL : Nat → List UInt8 → Nat
  | acc, [] => acc
  | acc, c :: r => valL (acc * 10 + (c.toNat - 48)) r
theorem valL_snoc : ∀ (acc : Nat) (l : List UInt8) (c : UInt8), valL acc (l ++ [c]) = valL acc l * 10 + (c.toNat - 48)
  | _, [], _ => rfl
  | _, _ :: l, c => valL_snoc _ l c
theorem valL_lt : ∀ (l : List UInt8) (acc : Nat), (∀ b ∈ l, cls b = 2) → valL acc l < (acc + 1) * 10 ^ l.length
  | [], acc, _ => by show acc < (acc + 1) * 1; omega
  | c :: l, acc, h => by
    have hc := (dig_iff c).1 (h c (List.mem_cons_self ..))
    have h1 := valL_lt l (acc * 10 + (c.toNat - 48)) fun b hb => h b (List.mem_cons_of_mem _ hb)
    have h2 : (acc * 10 + (c.toNat - 48) + 1) ≤ (acc + 1) * 10 := by omega
    generalize hp : 10 ^ l.length = p at h1
    have h3 := Nat.mul_le_mul_right p h2
    have h4 : (acc + 1) * 10 * p = (acc + 1) * 10 ^ (c :: l).length := by
      rw [List.length_cons, Nat.pow_succ, hp, Nat.mul_assoc, Nat.mul_comm 10]
    rw [← h4]
    exact Nat.lt_of_lt_of_le h1 h3
theorem pow_bound {n : Nat} (h : n ≤ 15) : 10 ^ n ≤ 10 ^ 15 := Nat.pow_le_pow_right (by omega) h
theorem parse_digits : ∀ (l : List UInt8) (acc : Nat), (∀ b ∈ l, cls b = 2) → (acc + 1) * 10 ^ l.length ≤ 10 ^ 15 → Lib.parseUint10 acc l = .ok (valL acc l)
  | [], acc, _, _ => rfl
  | c :: l, acc, h, hb => by
    have hc := (dig_iff c).1 (h c (List.mem_cons_self ..))
    have h2 : (acc * 10 + (c.toNat - 48) + 1) ≤ (acc + 1) * 10 := by omega
    have h3 : (acc * 10 + (c.toNat - 48) + 1) * 10 ^ l.length ≤ 10 ^ 15 := by
      refine Nat.le_trans (Nat.mul_le_mul_right _ h2) ?_
      simp only [List.length_cons, Nat.pow_succ] at hb
      rw [Nat.mul_assoc, Nat.mul_comm 10]; exact hb
    have h4 : acc * 10 + (c.toNat - 48) + 1 ≤ 10 ^ 15 := Nat.le_trans (Nat.le_mul_of_pos_right _ (Nat.pow_pos (by omega))) h3
    unfold Lib.parseUint10
    rw [if_pos hc, if_neg (by omega), if_neg (by omega)]
    exact parse_digits l _ (fun b hb => h b (List.mem_cons_of_mem _ hb)) h3
theorem parse_bad : ∀ (l : List UInt8) (acc u : Nat), (∃ b ∈ l, cls b ≠ 2) → Lib.parseUint10 acc l ≠ .ok u
  | [], acc, u, h => by obtain ⟨b, hb, -⟩ := h; cases hb
  | c :: l, acc, u, h => by
    unfold Lib.parseUint10
    split
    · rename_i hc
      split
      · simp
      · split
        · simp
        · refine parse_bad l _ u ?_
          obtain ⟨b, hb, hb2⟩ := h
          rcases List.mem_cons.1 hb with rfl | hb
          · exact absurd ((dig_iff b).2 hc) hb2
          · exact ⟨b, hb, hb2⟩
    · simp
theorem atoi_mag {c : UInt8} {l : List UInt8} (hc : cls c = 2) : Lib.atoiAll (c :: l) = (match Lib.parseUint10 0 (c :: l) with | .ok u => if 9223372036854775808 ≤ u then .range else .ok (u : Int) | .range => .range | _ => Lib.atoiAll []) := by
  have h := (dig_iff c).1 hc
  have h1 : ¬ (c.toNat = 43 ∨ c.toNat = 45) := by omega
  have h2 : ¬ c.toNat = 45 := by omega
  simp only [Lib.atoiAll, Lib.parseMag]
  rw [if_neg h1, if_neg (by simp)]
  generalize Lib.parseUint10 0 (c :: l) = r
  cases r <;> simp [h2]
theorem numOf_bad {k tt : Nat} {c : UInt8} {l : List UInt8} (hc : cls c = 2) (h : ∃ b ∈ c :: l, cls b ≠ 2) : numOf k tt ⟨(c :: l).toArray⟩ = .err 27 := by
  have hp := fun u => parse_bad (c :: l) 0 u h
  have ha := atoi_mag (l := l) hc
  unfold numOf
  show (match Lib.atoiAll (c :: l) with | .ok n => _ | _ => _) = _
  rw [ha]
  cases hr : Lib.parseUint10 0 (c :: l) with
  | ok u => exact absurd hr (hp u)
  | range => rfl
  | _ => rfl
theorem numOf_long {k tt : Nat} {s : ByteArray} (h : 15 < s.size) : numOf k tt s = .err 27 := by
  unfold numOf
  split
  · rw [if_pos (.inl h)]
  · rfl
theorem numOf_zero {k tt : Nat} {s : ByteArray} (h : 1 < s.size) (h0 : s[0]! = 48) : numOf k tt s = .err 27 := by
  unfold numOf
  split
  · rw [if_pos (.inr ⟨h, h0⟩)]
  · rfl
theorem numOf_ok {k tt : Nat} {c : UInt8} {l : List UInt8} (hc : ∀ b ∈ c :: l, cls b = 2) (hl : l.length < 15) (h0 : ¬ (1 < l.length + 1 ∧ c = 48)) : numOf k tt ⟨(c :: l).toArray⟩ = .tok ⟨2, k, ⟨#[]⟩, valL 0 (c :: l)⟩ tt := by
  have hb : (0 + 1) * 10 ^ (c :: l).length ≤ 10 ^ 15 := by rw [Nat.zero_add, Nat.one_mul]; exact pow_bound (by simp; omega)
  have hp := parse_digits (c :: l) 0 hc hb
  have hv := Nat.lt_of_lt_of_le (valL_lt (c :: l) 0 hc) hb
  have ha := atoi_mag (l := l) (hc c (List.mem_cons_self ..))
  rw [hp] at ha
  simp only at ha
  rw [if_neg (by omega)] at ha
  unfold numOf
  show (match Lib.atoiAll (c :: l) with | .ok n => _ | _ => _) = _
  rw [ha]
  simp only
  rw [if_neg]
  rintro (h | ⟨h, h1⟩)
  · have : 15 < (c :: l).length := h
    simp at this; omega
  · have h2 : 1 < (c :: l).length := h
    exact h0 ⟨by simpa using h2, h1⟩
theorem span_dig : ∀ (l : List UInt8), digL l ≤ spanL 2 l ∧ (digL l < spanL 2 l → ∃ h : digL l < l.length, cls l[digL l] = 3) ∧ (∀ h : digL l < l.length, cls l[digL l] = 3 → digL l < spanL 2 l)
  | [] => ⟨by simp [digL], fun h => by simp [spanL] at h, fun h => by simp at h⟩
  | c :: l => by
    obtain ⟨i1, i2, i3⟩ := span_dig l
    have hb := cls_bd c.toNat
    by_cases hc : cls c = 2
    · have e1 := digL_yes (l := l) hc
      have e2 := spanL_cons_yes (least := 2) (b := c) (l := l) (by omega)
      refine ⟨by omega, fun h => ?_, fun h h3 => ?_⟩
      · obtain ⟨h4, h5⟩ := i2 (by omega)
        refine ⟨by simp; omega, ?_⟩
        simp only [e1, List.getElem_cons_succ]
        exact h5
      · simp only [e1, List.getElem_cons_succ] at h3
        have h4 : digL l < l.length := by rw [e1] at h; simpa using h
        have := i3 h4 h3
        omega
    · have e1 := digL_no (l := l) hc
      refine ⟨by omega, fun h => ?_, fun h h3 => ?_⟩
      · refine ⟨by simp; omega, ?_⟩
        simp only [e1, List.getElem_cons_zero]
        by_cases h2 : 2 ≤ cls c
        · unfold cls at hc h2 ⊢; omega
        · rw [spanL_cons_no (by omega)] at h; omega
      · simp only [e1, List.getElem_cons_zero] at h3
        rw [e1, spanL_cons_yes (by omega)]; omega
end Go.Proofs.YtjijdgkccfeeaaaGreatDoor
namespace Go.Proofs.YtjijdgkccfeeaaaGreatDoor
open Go Go.Proofs
theorem spanL_take (least : Int) : ∀ (l : List UInt8) (m : Nat), spanL least l ≤ m → spanL least (l.take m) = spanL least l
  | [], m, _ => by simp
  | b :: l, 0, h => by
    by_cases h1 : least ≤ cls b
    · rw [spanL_cons_yes h1] at h; omega
    · rw [spanL_cons_no (by omega)]; rfl
  | b :: l, m + 1, h => by
    rw [List.take_succ_cons]
    by_cases h1 : least ≤ cls b
    · rw [spanL_cons_yes h1] at h
      rw [spanL_cons_yes h1, spanL_cons_yes h1, spanL_take least l m (by omega)]
    · rw [spanL_cons_no (by omega), spanL_cons_no (by omega)]
theorem textL_take (k0 : Nat) (t : Tok) (tt : Nat) : ∀ (n : Nat) (l : List UInt8), l.length ≤ n → ∀ (j : Nat) (b : List UInt8) (m : Nat), textL k0 l j b = .tok t tt → tt ≤ j + m → textL k0 (l.take m) j b = .tok t tt := by
  intro n
  induction n using Nat.strongRecOn with
  | _ n ih =>
    intro l hl j b m h hm
    have hfit := textL_fits _ _ _ _ _ _ h
    by_cases hb : 200 < b.length
    · rw [textL_lim _ _ _ _ hb] at h; cases h
    cases l with
    | nil => rw [textL_nil _ _ _ hb] at h; cases h
    | cons c l =>
      obtain ⟨m, rfl⟩ : ∃ m', m = m' + 1 := ⟨m - 1, by omega⟩
      rw [List.take_succ_cons]
      simp only [List.length_cons] at hl
      by_cases h34 : c = 34
      · subst h34
        rw [textL_quote _ _ _ _ hb] at h ⊢
        exact h
      by_cases h92 : c = 92
      · subst h92
        cases l with
        | nil => rw [textL_esc0 _ _ _ hb] at h; cases h
        | cons d l =>
          simp only [List.length_cons] at hl
          rw [textL_esc _ _ _ _ _ hb] at h
          have key : ∀ x : UInt8, textL k0 l (j + 2) (b ++ [x]) = .tok t tt → ∃ m', m = m' + 1 ∧ textL k0 (l.take m') (j + 2) (b ++ [x]) = .tok t tt := fun x hx => by
            have := textL_fits _ _ _ _ _ _ hx
            exact ⟨m - 1, by omega, ih (n - 2) (by omega) l (by omega) _ _ _ hx (by omega)⟩
          split at h
          · rename_i hd
            obtain ⟨m', rfl, h'⟩ := key _ h
            rw [List.take_succ_cons, textL_esc _ _ _ _ _ hb, if_pos hd, h']
          · rename_i hd
            split at h
            · rename_i hd2
              obtain ⟨m', rfl, h'⟩ := key _ h
              rw [List.take_succ_cons, textL_esc _ _ _ _ _ hb, if_neg hd, if_pos hd2, h']
            · rename_i hd2
              split at h
              · rename_i hd3
                obtain ⟨m', rfl, h'⟩ := key _ h
                rw [List.take_succ_cons, textL_esc _ _ _ _ _ hb, if_neg hd, if_neg hd2, if_pos hd3, h']
              · cases h
      by_cases hc : c.toNat < 32 ∨ 126 < c.toNat
      · rw [textL_bad _ _ _ _ _ hb h34 h92 hc] at h; cases h
      · rw [textL_step _ _ _ _ _ hb h34 h92 hc] at h ⊢
        exact ih (n - 1) (by omega) l (by omega) _ _ _ h (by omega)
end Go.Proofs.YtjijdgkccfeeaaaGreatDoor
namespace Go.Proofs.YtjijdgkccfeeaaaGreatDoor
open Go Go.Proofs
def Tok.shift (d : Nat) (t : Tok) : Tok := ⟨t.kind, t.at_ + d, t.s, t.n⟩
def TR.shift (d : Nat) : TR → TR
  | .none => .none
  | .err c => .err c
  | .tok t tt => .tok (t.shift d) (tt + d)
def nameL (l : List UInt8) : TR := if clsI l[0]!.toNat ≠ 3 then .none else if 32 < spanL 2 l then .err 2 else .tok ⟨1, 0, ⟨(l.take (spanL 2 l)).toArray⟩, 0⟩ (spanL 2 l)
def numL (l : List UInt8) : TR := if clsI l[0]!.toNat ≠ 2 then .none else numOf 0 (spanL 2 l) ⟨(l.take (spanL 2 l)).toArray⟩
def txtL (l : List UInt8) : TR := if l[0]! ≠ 34 then .none else textL 0 l.tail 1 []
def sgnL (l : List UInt8) : List (List UInt8) → TR
  | [] => if 0 ≤ Lib.indexByte signText.data.toList l[0]! then .tok ⟨4, 0, ⟨#[l[0]!]⟩, 0⟩ 1 else .none
  | p :: ps => if Lib.hasPrefix l p then .tok ⟨4, 0, ⟨p.toArray⟩, 0⟩ 2 else sgnL l ps
def headT (l : List UInt8) : TR := firstT [nameL l, numL l, txtL l, sgnL l pairs]
theorem rest_drop (s : ByteArray) (k d : Nat) : rest s (k + d) = (rest s k).drop d := by
  unfold rest; rw [List.drop_drop]
theorem extract_rest (s : ByteArray) (k n : Nat) : s.extract k (k + n) = ⟨((rest s k).take n).toArray⟩ := by
  apply ByteArray.ext
  apply Array.ext'
  simp [rest]
theorem name_shift (s : ByteArray) (k : Nat) : nameT s k = (nameL (rest s k)).shift k := by
  unfold nameT nameL spanTo
  rw [Nat.add_sub_cancel_left, extract_rest]
  split
  · rfl
  · split
    · rfl
    · simp [TR.shift, Tok.shift, Nat.add_comm]
theorem num_shift (s : ByteArray) (k : Nat) : numT s k = (numL (rest s k)).shift k := by
  unfold numT numL spanTo numOf
  rw [extract_rest]
  split
  · rfl
  · split
    · split
      · rfl
      · simp [TR.shift, Tok.shift, Nat.add_comm]
    · rfl
theorem textL_shiftN (d k0 : Nat) : ∀ (n : Nat) (x : List UInt8), x.length ≤ n → ∀ (j : Nat) (b : List UInt8), textL (k0 + d) x (j + d) b = (textL k0 x j b).shift d := by
  intro n
  induction n using Nat.strongRecOn with
  | _ n ih =>
    intro x hx j b
    by_cases hb : 200 < b.length
    · rw [textL_lim _ _ _ _ hb, textL_lim _ _ _ _ hb]; rfl
    cases x with
    | nil => rw [textL_nil _ _ _ hb, textL_nil _ _ _ hb]; rfl
    | cons c x =>
      simp only [List.length_cons] at hx
      by_cases h34 : c = 34
      · subst h34
        rw [textL_quote _ _ _ _ hb, textL_quote _ _ _ _ hb]
        simp [TR.shift, Tok.shift, Nat.add_right_comm]
      by_cases h92 : c = 92
      · subst h92
        cases x with
        | nil => rw [textL_esc0 _ _ _ hb, textL_esc0 _ _ _ hb]; rfl
        | cons e x =>
          simp only [List.length_cons] at hx
          rw [textL_esc _ _ _ _ _ hb, textL_esc _ _ _ _ _ hb, Nat.add_right_comm]
          split
          · exact ih (n - 2) (by omega) x (by omega) _ _
          · split
            · exact ih (n - 2) (by omega) x (by omega) _ _
            · split
              · exact ih (n - 2) (by omega) x (by omega) _ _
              · rfl
      by_cases hc : c.toNat < 32 ∨ 126 < c.toNat
      · rw [textL_bad _ _ _ _ _ hb h34 h92 hc, textL_bad _ _ _ _ _ hb h34 h92 hc]; rfl
      · rw [textL_step _ _ _ _ _ hb h34 h92 hc, textL_step _ _ _ _ _ hb h34 h92 hc, Nat.add_right_comm]
        exact ih (n - 1) (by omega) x (by omega) _ _
theorem textL_shift (d k0 : Nat) (x : List UInt8) (j : Nat) (b : List UInt8) : textL (k0 + d) x (j + d) b = (textL k0 x j b).shift d := textL_shiftN d k0 _ x (Nat.le_refl _) j b
theorem sgn_shift (s : ByteArray) (k : Nat) : ∀ ps, signL s k ps = (sgnL (rest s k) ps).shift k
  | [] => by
    unfold signL sgnL
    split <;> simp [TR.shift, Tok.shift, Nat.add_comm]
  | p :: ps => by
    unfold signL sgnL
    split
    · simp [TR.shift, Tok.shift, Nat.add_comm]
    · exact sgn_shift s k ps
theorem firstT_shift (d : Nat) : ∀ l, firstT (l.map (TR.shift d)) = (firstT l).shift d
  | [] => rfl
  | .none :: l => by
    show firstT (l.map (TR.shift d)) = _
    rw [firstT_shift d l]; rfl
  | .err _ :: _ => rfl
  | .tok _ _ :: _ => rfl
theorem next_head (s : ByteArray) (k : Nat) (hk : k < s.size) : nextT s k = (headT (rest s k)).shift k := by
  unfold nextT headT
  rw [← firstT_shift]
  simp only [List.map]
  rw [name_shift, num_shift, signT, sgn_shift]
  congr 4
  unfold textT txtL
  rw [rest_cons s k hk]
  simp only [List.tail_cons]
  split
  · rfl
  · have := textL_shift k 0 (rest s (k + 1)) 1 []
    simpa [Nat.add_comm] using this
theorem textL_some (k0 : Nat) (l : List UInt8) (j : Nat) (b : List UInt8) : textL k0 l j b ≠ .none := by
  fun_induction textL k0 l j b <;> simp_all
theorem numOf_some (k tt : Nat) (s : ByteArray) : numOf k tt s ≠ .none := by
  unfold numOf
  split
  · split <;> simp
  · simp
theorem head_name {b : UInt8} {l : List UInt8} (h : clsI b.toNat = 3) : headT (b :: l) = if 32 < spanL 2 (b :: l) then .err 2 else .tok ⟨1, 0, ⟨((b :: l).take (spanL 2 (b :: l))).toArray⟩, 0⟩ (spanL 2 (b :: l)) := by
  have h1 : nameL (b :: l) = if 32 < spanL 2 (b :: l) then .err 2 else .tok ⟨1, 0, ⟨((b :: l).take (spanL 2 (b :: l))).toArray⟩, 0⟩ (spanL 2 (b :: l)) := by
    unfold nameL
    rw [if_neg (by simpa using h)]
  unfold headT
  rw [h1]
  split <;> rfl
theorem head_num {b : UInt8} {l : List UInt8} (h : clsI b.toNat = 2) : headT (b :: l) = numOf 0 (spanL 2 (b :: l)) ⟨((b :: l).take (spanL 2 (b :: l))).toArray⟩ := by
  have h1 : nameL (b :: l) = .none := by
    unfold nameL
    rw [if_pos (by simp [h])]
  have h2 : numL (b :: l) = numOf 0 (spanL 2 (b :: l)) ⟨((b :: l).take (spanL 2 (b :: l))).toArray⟩ := by
    unfold numL
    rw [if_neg (by simpa using h)]
  unfold headT
  rw [h1, h2]
  have := numOf_some 0 (spanL 2 (b :: l)) ⟨((b :: l).take (spanL 2 (b :: l))).toArray⟩
  generalize numOf 0 (spanL 2 (b :: l)) ⟨((b :: l).take (spanL 2 (b :: l))).toArray⟩ = r at this ⊢
  cases r <;> simp_all [firstT]
theorem head_text (l : List UInt8) : headT (34 :: l) = textL 0 l 1 [] := by
  have h1 : nameL (34 :: l) = .none := by unfold nameL; rw [if_pos (by show clsI ((34 : UInt8).toNat : Int) ≠ 3; decide)]
  have h2 : numL (34 :: l) = .none := by unfold numL; rw [if_pos (by show clsI ((34 : UInt8).toNat : Int) ≠ 2; decide)]
  have h3 : txtL (34 :: l) = textL 0 l 1 [] := by unfold txtL; rw [if_neg (by simp)]; rfl
  unfold headT
  rw [h1, h2, h3]
  have := textL_some 0 l 1 []
  generalize textL 0 l 1 [] = r at this ⊢
  cases r <;> simp_all [firstT]
def orChar : TR → TR
  | .none => .err 26
  | r => r
theorem head_sign {b : UInt8} {l : List UInt8} (h : clsI b.toNat < 2) (h2 : b ≠ 34) : headT (b :: l) = orChar (sgnL (b :: l) pairs) := by
  have e1 : nameL (b :: l) = .none := by unfold nameL; rw [if_pos (by simp; omega)]
  have e2 : numL (b :: l) = .none := by unfold numL; rw [if_pos (by simp; omega)]
  have e3 : txtL (b :: l) = .none := by unfold txtL; rw [if_pos (by simpa using h2)]
  unfold headT
  rw [e1, e2, e3]
  generalize sgnL (b :: l) pairs = r
  cases r <;> rfl
theorem head_nil : headT [] = .err 26 := by
  have e1 : nameL [] = .none := by unfold nameL; rw [if_pos (by decide)]
  have e2 : numL [] = .none := by unfold numL; rw [if_pos (by decide)]
  have e3 : txtL [] = .none := by unfold txtL; rw [if_pos (by decide)]
  have e4 : sgnL [] pairs = .none := by kernel_rfl
  unfold headT
  rw [e1, e2, e3, e4]
  rfl
theorem heads (b : UInt8) : clsI b.toNat = 3 ∨ clsI b.toNat = 2 ∨ b = 34 ∨ (clsI b.toNat < 2 ∧ b ≠ 34) := by
  have := cls_bd b.toNat
  by_cases h : b = 34
  · exact .inr (.inr (.inl h))
  · have : clsI b.toNat = 3 ∨ clsI b.toNat = 2 ∨ clsI b.toNat < 2 := by omega
    rcases this with h1 | h1 | h1
    · exact .inl h1
    · exact .inr (.inl h1)
    · exact .inr (.inr (.inr ⟨h1, h⟩))
theorem span_pos {b : UInt8} {l : List UInt8} (h : 2 ≤ clsI b.toNat) : 0 < spanL 2 (b :: l) := by
  rw [spanL_cons_yes (by exact h)]; omega
theorem numOf_tok {k tt : Nat} {s : ByteArray} {t : Tok} {uu : Nat} (h : numOf k tt s = .tok t uu) : uu = tt := by
  unfold numOf at h
  split at h
  · split at h
    · cases h
    · cases h; rfl
  · cases h
theorem pairs_len : ∀ p ∈ pairs, p.length = 2 := by decide
theorem sgn_fits {l : List UInt8} {t : Tok} {tt : Nat} (hl : l ≠ []) : ∀ ps, (∀ p ∈ ps, p.length = 2) → sgnL l ps = .tok t tt → 0 < tt ∧ tt ≤ l.length ∧ (tt = 1 → ∀ p ∈ ps, Lib.hasPrefix l p = false)
  | [], _, h => by
    unfold sgnL at h
    split at h
    · cases h
      exact ⟨by omega, by cases l <;> simp_all, fun _ _ h => by cases h⟩
    · cases h
  | p :: ps, hp, h => by
    unfold sgnL at h
    split at h
    · rename_i h1
      cases h
      have := (List.isPrefixOf_iff_prefix.1 h1).length_le
      rw [hp p (List.mem_cons_self ..)] at this
      exact ⟨by omega, this, fun h => by omega⟩
    · rename_i h1
      obtain ⟨a1, a2, a3⟩ := sgn_fits hl ps (fun q hq => hp q (List.mem_cons_of_mem _ hq)) h
      refine ⟨a1, a2, fun h0 q hq => ?_⟩
      rcases List.mem_cons.1 hq with rfl | hq
      · simpa using h1
      · exact a3 h0 q hq
theorem orChar_tok {r : TR} {t : Tok} {tt : Nat} (h : orChar r = .tok t tt) : r = .tok t tt := by
  cases r <;> simp_all [orChar]
theorem head_fits {l : List UInt8} {t : Tok} {tt : Nat} (h : headT l = .tok t tt) : 0 < tt ∧ tt ≤ l.length := by
  cases l with
  | nil => rw [head_nil] at h; cases h
  | cons b l =>
    rcases heads b with hb | hb | hb | ⟨hb, hb2⟩
    · rw [head_name hb] at h
      split at h
      · cases h
      · cases h; exact ⟨span_pos (by omega), spanL_le _ _⟩
    · rw [head_num hb] at h
      obtain rfl := numOf_tok h
      exact ⟨span_pos (by omega), spanL_le _ _⟩
    · subst hb
      rw [head_text] at h
      have := textL_fits _ _ _ _ _ _ h
      simp; omega
    · rw [head_sign hb hb2] at h
      have := sgn_fits (by simp) pairs pairs_len (orChar_tok h)
      exact ⟨this.1, this.2.1⟩
theorem sgn_congr {l l' : List UInt8} (h0 : l[0]! = l'[0]!) : ∀ ps, (∀ p ∈ ps, Lib.hasPrefix l p = Lib.hasPrefix l' p) → sgnL l ps = sgnL l' ps
  | [], _ => by unfold sgnL; rw [h0]
  | p :: ps, h => by
    unfold sgnL
    rw [h p (List.mem_cons_self ..), sgn_congr h0 ps fun q hq => h q (List.mem_cons_of_mem _ hq)]
theorem has_two {b c : UInt8} {l l' : List UInt8} {p : List UInt8} (hp : p.length = 2) : Lib.hasPrefix (b :: c :: l) p = Lib.hasPrefix (b :: c :: l') p := by
  match p, hp with
  | [x, y], _ => simp [Lib.hasPrefix, List.isPrefixOf]
theorem has_one {b : UInt8} {p : List UInt8} (hp : p.length = 2) : Lib.hasPrefix [b] p = false := by
  match p, hp with
  | [x, y], _ => simp [Lib.hasPrefix, List.isPrefixOf]
theorem head_take {l : List UInt8} {t : Tok} {tt m : Nat} (h : headT l = .tok t tt) (hm : tt ≤ m) : headT (l.take m) = .tok t tt := by
  have hf := head_fits h
  cases l with
  | nil => rw [head_nil] at h; cases h
  | cons b l =>
    obtain ⟨m, rfl⟩ : ∃ m', m = m' + 1 := ⟨m - 1, by omega⟩
    rcases heads b with hb | hb | hb | ⟨hb, hb2⟩
    · rw [head_name hb] at h
      rw [List.take_succ_cons, head_name hb, ← List.take_succ_cons]
      split at h
      · cases h
      · cases h
        rename_i h3
        rw [spanL_take _ _ _ hm, if_neg h3, List.take_take, Nat.min_eq_left hm]
    · rw [head_num hb] at h
      obtain rfl := numOf_tok h
      rw [List.take_succ_cons, head_num hb, ← List.take_succ_cons, spanL_take _ _ _ hm, List.take_take, Nat.min_eq_left hm, h]
    · subst hb
      rw [head_text] at h
      rw [List.take_succ_cons, head_text]
      exact textL_take 0 t tt _ _ (Nat.le_refl _) 1 [] m h (by omega)
    · rw [head_sign hb hb2] at h
      have h4 := orChar_tok h
      obtain ⟨a1, a2, a3⟩ := sgn_fits (by simp) pairs pairs_len h4
      rw [List.take_succ_cons, head_sign hb hb2, ← h]
      congr 1
      refine sgn_congr (by simp) _ fun p hp => ?_
      have hp2 := pairs_len p hp
      cases l with
      | nil => simp
      | cons c l =>
        cases m with
        | zero =>
          rw [List.take_zero, has_one hp2, a3 (by omega) p hp]
        | succ m =>
          rw [List.take_succ_cons]
          exact has_two hp2
def Breaks (y : List UInt8) : Prop := ∃ c y', y = c :: y' ∧ (c = 32 ∨ c = 9 ∨ c = 10 ∨ c = 13 ∨ c = 35)
theorem Breaks.cls {c : UInt8} (h : c = 32 ∨ c = 9 ∨ c = 10 ∨ c = 13 ∨ c = 35) : clsI c.toNat < 2 := by
  rcases h with rfl | rfl | rfl | rfl | rfl <;> decide
theorem spanL_append (least : Int) {c : UInt8} (hc : clsI c.toNat < least) (y : List UInt8) : ∀ x : List UInt8, spanL least (x ++ c :: y) = spanL least x
  | [] => by
    rw [List.nil_append, spanL_cons_no (by exact hc), spanL_nil]
  | b :: x => by
    rw [List.cons_append]
    by_cases h1 : least ≤ Go.Proofs.YtjijdgkccfeeaaaGreatDoor.cls b
    · rw [spanL_cons_yes h1, spanL_cons_yes h1, spanL_append least hc y x]
    · rw [spanL_cons_no (by omega), spanL_cons_no (by omega)]
theorem take_append_le {x y : List UInt8} {n : Nat} (h : n ≤ x.length) : (x ++ y).take n = x.take n := by
  rw [List.take_append, show n - x.length = 0 by omega]; simp
theorem textL_app (k0 : Nat) (y : List UInt8) : ∀ (n : Nat) (x : List UInt8), x.length ≤ n → ∀ (j : Nat) (b : List UInt8), ((∃ t tt, textL k0 x j b = .tok t tt) ∨ y.head? = some 10) → textL k0 (x ++ y) j b = textL k0 x j b := by
  intro n
  induction n using Nat.strongRecOn with
  | _ n ih =>
    intro x hx j b h
    by_cases hb : 200 < b.length
    · rw [textL_lim _ _ _ _ hb, textL_lim _ _ _ _ hb]
    cases x with
    | nil =>
      rcases h with ⟨t, tt, h⟩ | h
      · rw [textL_nil _ _ _ hb] at h; cases h
      · cases y with
        | nil => simp at h
        | cons c y =>
          simp at h
          subst h
          rw [textL_nil _ _ _ hb, List.nil_append, textL_bad _ _ _ _ _ hb (by decide) (by decide) (by decide)]
    | cons c x =>
      rw [List.cons_append]
      simp only [List.length_cons] at hx
      by_cases h34 : c = 34
      · subst h34
        rw [textL_quote _ _ _ _ hb, textL_quote _ _ _ _ hb]
      by_cases h92 : c = 92
      · subst h92
        cases x with
        | nil =>
          rcases h with ⟨t, tt, h⟩ | h
          · rw [textL_esc0 _ _ _ hb] at h; cases h
          · cases y with
            | nil => simp at h
            | cons c y =>
              simp at h
              subst h
              rw [textL_esc0 _ _ _ hb, List.nil_append, textL_esc _ _ _ _ _ hb]
              simp
        | cons d x =>
          simp only [List.length_cons] at hx
          rw [List.cons_append, textL_esc _ _ _ _ _ hb, textL_esc _ _ _ _ _ hb]
          rw [textL_esc _ _ _ _ _ hb] at h
          split
          · rename_i hd
            rw [if_pos hd] at h
            exact ih (n - 2) (by omega) x (by omega) _ _ h
          · rename_i hd
            rw [if_neg hd] at h
            split
            · rename_i hd2
              rw [if_pos hd2] at h
              exact ih (n - 2) (by omega) x (by omega) _ _ h
            · rename_i hd2
              rw [if_neg hd2] at h
              split
              · rename_i hd3
                rw [if_pos hd3] at h
                exact ih (n - 2) (by omega) x (by omega) _ _ h
              · rfl
      by_cases hc : c.toNat < 32 ∨ 126 < c.toNat
      · rw [textL_bad _ _ _ _ _ hb h34 h92 hc, textL_bad _ _ _ _ _ hb h34 h92 hc]
      · rw [textL_step _ _ _ _ _ hb h34 h92 hc] at h ⊢
        rw [textL_step _ _ _ _ _ hb h34 h92 hc]
        exact ih (n - 1) (by omega) x (by omega) _ _ h
theorem pairs_breaks : ∀ p ∈ pairs, p[1]! ≠ 32 ∧ p[1]! ≠ 9 ∧ p[1]! ≠ 10 ∧ p[1]! ≠ 13 ∧ p[1]! ≠ 35 := by decide
theorem head_append {x y : List UInt8} (hx : x ≠ []) (hy : Breaks y) (h : (∃ t tt, headT x = .tok t tt) ∨ y.head? = some 10) : headT (x ++ y) = headT x := by
  cases x with
  | nil => exact absurd rfl hx
  | cons b x =>
    obtain ⟨c, y', rfl, hc⟩ := hy
    have h2 := Breaks.cls hc
    rw [List.cons_append]
    rcases heads b with hb | hb | hb | ⟨hb, hb2⟩
    · rw [head_name hb, head_name hb, ← List.cons_append, spanL_append 2 h2, take_append_le (spanL_le _ _)]
    · rw [head_num hb, head_num hb, ← List.cons_append, spanL_append 2 h2, take_append_le (spanL_le _ _)]
    · subst hb
      rw [head_text] at h
      rw [head_text, head_text]
      exact textL_app 0 _ _ x (Nat.le_refl _) 1 [] h
    · rw [head_sign hb hb2, head_sign hb hb2]
      congr 1
      refine sgn_congr (by simp) _ fun p hp => ?_
      have hp2 := pairs_len p hp
      cases x with
      | cons d x => exact has_two hp2
      | nil =>
        rw [has_one hp2]
        have h3 := pairs_breaks p hp
        match p, hp2 with
        | [p0, p1], _ =>
          simp at h3
          have : p1 ≠ c := by rcases hc with rfl | rfl | rfl | rfl | rfl <;> simp_all
          simp [Lib.hasPrefix, List.isPrefixOf, this]
end Go.Proofs.YtjijdgkccfeeaaaGreatDoor
namespace Go.Proofs.YtjijdgkccfeeaaaGreatDoor
open Go Go.Proofs Go.RowKit
attribute [local go_sem] Oper.semAt_some
theorem numT_eq {s : ByteArray} {k : Nat} (hk : k < s.size) (hc : cls s[k] = 2) : numT s k = numOf k (k + spanL 2 (rest s k)) ⟨((rest s k).take (spanL 2 (rest s k))).toArray⟩ := by
  unfold numT
  rw [rest_head s k hk, if_neg (by simpa [cls] using hc)]
  unfold spanTo
  rw [extract_rest]
theorem rest_at {s : ByteArray} {k i : Nat} (h : k + i < s.size) (h2 : i < (rest s k).length) : (rest s k)[i] = s[k + i] := by
  have := rest_get s k i h
  rw [List.getElem?_eq_getElem h2] at this
  exact Option.some.inj this
theorem num_err {s : ByteArray} {k : Nat} (hk : k < s.size) (hc : cls s[k] = 2) (h : 15 < digL (rest s k) ∨ (1 < digL (rest s k) ∧ s[k] = 48) ∨ ∃ h : k + digL (rest s k) < s.size, cls s[k + digL (rest s k)] = 3) : numT s k = .err 27 := by
  rw [numT_eq hk hc]
  obtain ⟨a1, a2, a3⟩ := span_dig (rest s k)
  have hle := spanL_le 2 (rest s k)
  have hsz : (ByteArray.mk ((rest s k).take (spanL 2 (rest s k))).toArray).size = spanL 2 (rest s k) := by
    show ((rest s k).take (spanL 2 (rest s k))).length = _
    rw [List.length_take, Nat.min_eq_left hle]
  rcases h with h | ⟨h, h2⟩ | ⟨h, h2⟩
  · exact numOf_long (by rw [hsz]; omega)
  · refine numOf_zero (by rw [hsz]; omega) ?_
    obtain ⟨m, hm⟩ : ∃ m, spanL 2 (rest s k) = m + 1 := ⟨spanL 2 (rest s k) - 1, by omega⟩
    rw [hm, rest_cons s k hk, List.take_succ_cons, ← h2]
    rfl
  · have hd : digL (rest s k) < (rest s k).length := by rw [rest_len]; omega
    have h3 : cls (rest s k)[digL (rest s k)] = 3 := by rw [rest_at h hd]; exact h2
    have h4 := a3 hd h3
    have h5 : (rest s k)[digL (rest s k)] ∈ (rest s k).take (spanL 2 (rest s k)) := List.mem_take_iff_getElem.2 ⟨digL (rest s k), by omega, rfl⟩
    generalize (rest s k)[digL (rest s k)] = x at h3 h5
    obtain ⟨m, hm⟩ : ∃ m, spanL 2 (rest s k) = m + 1 := ⟨spanL 2 (rest s k) - 1, by omega⟩
    rw [hm, rest_cons s k hk, List.take_succ_cons] at h5 ⊢
    exact numOf_bad hc ⟨x, h5, by omega⟩
theorem num_ok {s : ByteArray} {k : Nat} (hk : k < s.size) (hc : cls s[k] = 2) (h1 : digL (rest s k) ≤ 15) (h2 : ¬ (1 < digL (rest s k) ∧ s[k] = 48)) (h3 : ∀ h : k + digL (rest s k) < s.size, cls s[k + digL (rest s k)] ≠ 3) :
    numT s k = .tok ⟨2, k, ⟨#[]⟩, valL 0 ((rest s k).take (digL (rest s k)))⟩ (k + digL (rest s k)) := by
  rw [numT_eq hk hc]
  obtain ⟨a1, a2, a3⟩ := span_dig (rest s k)
  have e : spanL 2 (rest s k) = digL (rest s k) := by
    rcases Nat.lt_or_ge (digL (rest s k)) (spanL 2 (rest s k)) with h | h
    · obtain ⟨h4, h5⟩ := a2 h
      have h6 : k + digL (rest s k) < s.size := by rw [rest_len] at h4; omega
      rw [rest_at h6 h4] at h5
      exact absurd h5 (h3 h6)
    · omega
  have hall := digL_all (rest s k)
  have hle := digL_le (rest s k)
  rw [e]
  have hpos : 0 < digL (rest s k) := by rw [rest_cons s k hk, digL_yes hc]; omega
  obtain ⟨m, hm⟩ : ∃ m, digL (rest s k) = m + 1 := ⟨digL (rest s k) - 1, by omega⟩
  rw [hm] at hall hle h1 h2 ⊢
  rw [rest_cons s k hk, List.take_succ_cons] at hall ⊢
  rw [rest_len] at hle
  have hlen : (List.take m (rest s (k + 1))).length = m := by rw [List.length_take, rest_len]; omega
  exact numOf_ok hall (by omega) (by rw [hlen]; exact h2)
end Go.Proofs.YtjijdgkccfeeaaaGreatDoor
namespace Go.Proofs.YtjijdgkccfeeaaaGreatDoor
open Go Go.Proofs
structure GoodT (t : Tok) : Prop where
  kind : t.kind ≠ 5
  zero : t.kind = 1 ∨ t.kind = 3 ∨ t.kind = 4 → t.n = 0
  none_ : t.kind = 2 → t.s = noB ∧ 0 ≤ t.n ∧ t.n ≤ 999999999999999
theorem good_zero {t : Tok} (h : t.kind = 1 ∨ t.kind = 3 ∨ t.kind = 4) (hn : t.n = 0) : GoodT t := ⟨by omega, fun _ => hn, fun h2 => by omega⟩
theorem text_good (k0 : Nat) (t : Tok) (tt : Nat) (l : List UInt8) (j : Nat) (b : List UInt8) (h : textL k0 l j b = .tok t tt) : GoodT t := by
  fun_induction textL k0 l j b <;> first | (cases h; exact good_zero (.inr (.inl rfl)) rfl) | simp_all
theorem sign_good (s : ByteArray) (k : Nat) (t : Tok) (tt : Nat) : ∀ l, signL s k l = .tok t tt → GoodT t
  | [], h => by
    unfold signL at h
    split at h
    · cases h; exact good_zero (.inr (.inr rfl)) rfl
    · cases h
  | p :: ps, h => by
    unfold signL at h
    split at h
    · cases h; exact good_zero (.inr (.inr rfl)) rfl
    · exact sign_good s k t tt ps h
theorem next_good {s : ByteArray} {k : Nat} {t : Tok} {tt : Nat} (hk : k < s.size) (h : nextT s k = .tok t tt) : GoodT t := by
  have hm := firstT_mem _ h
  simp only [List.mem_cons, List.not_mem_nil, or_false] at hm
  rcases hm with hm | hm | hm | hm
  · unfold nameT at hm
    split at hm
    · cases hm
    · split at hm
      · cases hm
      · cases hm; exact good_zero (.inl rfl) rfl
  · by_cases hc : cls s[k] = 2
    · by_cases h1 : digL (rest s k) ≤ 15
      · by_cases h2 : 1 < digL (rest s k) ∧ s[k] = 48
        · rw [num_err hk hc (.inr (.inl h2))] at hm; cases hm
        · by_cases h3 : ∀ h : k + digL (rest s k) < s.size, cls s[k + digL (rest s k)] ≠ 3
          · rw [num_ok hk hc h1 h2 h3] at hm
            cases hm
            refine ⟨by simp, fun h => by simp at h, fun _ => ⟨rfl, by simp, ?_⟩⟩
            have h4 := valL_lt ((rest s k).take (digL (rest s k))) 0 (digL_all (rest s k))
            have h5 := pow_bound h1
            rw [List.length_take, Nat.min_eq_left (digL_le (rest s k))] at h4
            simp only
            omega
          · have h3 : ∃ h : k + digL (rest s k) < s.size, cls s[k + digL (rest s k)] = 3 := by
              refine Classical.byContradiction fun hn => h3 fun h4 h5 => hn ⟨h4, h5⟩
            rw [num_err hk hc (.inr (.inr h3))] at hm; cases hm
      · rw [num_err hk hc (.inl (by omega))] at hm; cases hm
    · unfold numT at hm
      rw [rest_head s k hk, if_pos (by simpa [cls] using hc)] at hm
      cases hm
  · unfold textT at hm
    split at hm
    · cases hm
    · exact text_good _ _ _ _ _ _ hm.symm
  · exact sign_good s k t tt _ hm.symm
theorem lexF_good (s : ByteArray) : ∀ (f k : Nat) (ts out : List Tok), lexF s f k ts = .ok out → (∀ t ∈ ts, GoodT t) → ts.length ≤ k → k ≤ s.size → ∃ us, out = us ++ [endTok s] ∧ (∀ t ∈ us, GoodT t) ∧ us.length ≤ s.size
  | 0, k, ts, out, h, _, _, _ => by simp [lexF] at h
  | f + 1, k, ts, out, h, hg, hl, hk => by
    unfold lexF at h
    split at h
    · rename_i hlt
      cases hT : nextT s k with
      | none => rw [hT] at h; cases h
      | err d => rw [hT] at h; cases h
      | tok t tt =>
        rw [hT] at h
        obtain ⟨h1, h2⟩ := next_fits hlt hT
        have h3 := blankTo_ge s tt
        refine lexF_good s f _ _ out h (fun u hu => ?_) (by simp; omega) (blankTo_le s tt h2)
        rcases List.mem_append.1 hu with hu | hu
        · exact hg u hu
        · obtain rfl : u = t := by simpa using hu
          exact next_good hlt hT
    · cases h
      exact ⟨ts, rfl, hg, by omega⟩
theorem tokens_good {s : ByteArray} {ts : List Tok} (h : tokensP s = .ok ts) : TokOK ts ∧ 0 < ts.length ∧ ∃ us, ts = us ++ [endTok s] ∧ (∀ t ∈ us, GoodT t) ∧ us.length ≤ s.size := by
  unfold tokensP at h
  split at h
  · cases h
  · rename_i hs
    obtain ⟨us, rfl, hg, hl⟩ := lexF_good s _ _ _ _ h (by simp) (by simp) (blankTo_le s 0 (by omega))
    refine ⟨⟨fun k t ht h5 => ?_, fun k t ht hk => ?_, fun k t ht hk => ?_, by simp; omega⟩, by simp, us, rfl, hg, hl⟩
    · rcases Nat.lt_or_ge k us.length with h1 | h1
      · simp; omega
      · rw [List.getElem?_append_right h1] at ht
        have h2 := List.mem_of_getElem? ht
        simp at h2
        rw [h2] at h5
        exact absurd rfl h5
    · rcases Nat.lt_or_ge k us.length with h1 | h1
      · rw [List.getElem?_append_left h1] at ht
        exact (hg t (List.mem_of_getElem? ht)).zero hk
      · rw [List.getElem?_append_right h1] at ht
        have h2 := List.mem_of_getElem? ht
        simp at h2
        rw [h2]; rfl
    · rcases Nat.lt_or_ge k us.length with h1 | h1
      · rw [List.getElem?_append_left h1] at ht
        exact (hg t (List.mem_of_getElem? ht)).none_ hk
      · rw [List.getElem?_append_right h1] at ht
        have h2 := List.mem_of_getElem? ht
        simp at h2
        rw [h2] at hk
        simp [endTok] at hk
theorem lexF_err0 (s : ByteArray) : ∀ (f k : Nat) (ts : List Tok) (p : Nat) (c : Int), lexF s f k ts = .err p c → c ≠ 0
  | 0, k, ts, p, c, h => by simp only [lexF] at h; cases h; decide
  | f + 1, k, ts, p, c, h => by
    unfold lexF at h
    split at h
    · cases hT : nextT s k with
      | none => rw [hT] at h; cases h; decide
      | err d => rw [hT] at h; cases h; exact next_errs hT
      | tok t tt => rw [hT] at h; exact lexF_err0 s f _ _ p c h
    · cases h
theorem tokens_err0 {s : ByteArray} {p : Nat} {c : Int} (h : tokensP s = .err p c) : c ≠ 0 := by
  unfold tokensP at h
  split at h
  · cases h; decide
  · exact lexF_err0 _ _ _ _ _ _ h
end Go.Proofs.YtjijdgkccfeeaaaGreatDoor
namespace Go.Proofs.YtjijdgkccfeeaaaGreatDoor
open Go Go.Proofs Go.RowKit
attribute [local go_sem] Oper.semAt_some
theorem problem_size2 : (Tryz.prog.info? 26).map (·.size) = some 2 := by kernel_rfl
theorem results_pb {fn : Func} {i : Nat} (hf : fn.results = #[ResultVar.cell i 26]) (tmps : Array Value) (w : World) (N : Nat) (a b : Value) (hp : tmps.getD i undef = .pointer (some ⟨N, 0, none⟩)) (hg : w.heap[N]? = some (.cells #[a, b] 26 (0, 0))) :
    (results fn tmps).run Tryz.prog w = .ok (.agg #[a, b]) w := by
  have hp' : tmps[i]?.getD undef = .pointer (some ⟨N, 0, none⟩) := by simpa using hp
  simp [results, hf, hp', asAddr, run_loadVar_row w N 26 26 #[a, b] (0, 0) _ hg Tryz.underlying26 rfl problem_size2]
def runP (lr : LR) (r : List Tok → PR Unit) : Int × Int :=
  match lr with
  | .err k c => (k, c)
  | .ok ts => match r ts with
    | .err j c => (atT ts j, c)
    | .ok _ j => if (ts[j]?).map (·.kind) = some 5 then (0, 0) else (atT ts j, 5)
theorem turned_narrow {C D : Nat → Prop} {W W' : World} (h : Turned C W W') (hd : ∀ b, b < W.heap.size → C b → D b) : Turned D W W' := ⟨h.os, h.tape, h.output, h.size, fun b hb hn => h.block b hb fun hc => hn (hd b hb hc)⟩
set_option maxRecDepth 20000 in
set_option maxHeartbeats 8000000 in
theorem run_forms (s : ByteArray) (ob : Nat) (w : World) (hv : Vars w.heap.size w) (hob : ob < w.heap.size) (r : List Tok → PR Unit) (Q : Nat → World → Prop)
    (hok : ∀ ts, tokensP s = .ok ts → TokOK ts ∧ 0 < ts.length)
    (hQ : ∀ (lo : Nat) (W W' : World) (C : Nat → Prop), Q lo W → Turned C W W' → (∀ b, C b → b < lo ∧ b ≠ ob) → Q lo W')
    (hHow : ∀ ts, tokensP s = .ok ts → ∀ (B g cap : Nat) (W : World), ob ≠ B → g ≠ ob → PS B g cap ts W 0 0 → W.heap[ob]? = w.heap[ob]? → Calls Tryz.prog 28 #[.pointer (some ⟨B, 0, none⟩), .pointer (some ⟨ob, 0, none⟩)] W (HowR B ob g cap ts W (r ts) (Q W.heap.size))) :
    Calls Tryz.prog 27 #[.string s, .func (Fn.func 28) #[] #[.pointer (some ⟨ob, 0, none⟩)]] w fun e w' => e = .returned (.agg #[(.int .i64 ((runP (tokensP s) r).1)), (.int .i64 ((runP (tokensP s) r).2))]) ∧ Turned (fun b => b = ob) w w' ∧ (∀ ts j, tokensP s = .ok ts → r ts = .ok () j → ∃ lo, w.heap.size ≤ lo ∧ Q lo w') := by
  have hmf : ∀ (fn : Fn) (first cap : Array Value) (w : World), (Instr.makeFunc fn first cap).run Tryz.prog w = .ok (.func fn first cap) w := fun _ _ _ _ => rfl
  have hT : Turned (fun _ => False) w (w.alloc (.cells #[(.int .i64 0), (.int .i64 0)] 26)) := (Turned.refl _ _).alloc _
  have HT := Lib.hid (tokens_any s (w.alloc (.cells #[(.int .i64 0), (.int .i64 0)] 26)) ((hv.turned hT fun g hg => id).mono (by simp)))
  cases hL : tokensP s with
  | err k c =>
    rw [hL] at HT
    have hc0 : (c != 0) = true := by simpa using tokens_err0 hL
    go_enter_defers Tryz.func27, Tryz.ntmps27
    go_wp2_with fail
    refine HT.out.mono ?_
    rintro e W1 ⟨rfl, ht⟩
    have hcV : W1.heap[w.heap.size]? = some (.cells #[(.int .i64 0), (.int .i64 0)] 26 (0, 0)) := (ht.block _ (by simp) id).trans (heap_alloc_new _ _)
    obtain ⟨x0, x1, x2, x3⟩ := two_cells hcV
    have HcV := Lib.hid hcV
    have Ht := Lib.hid ht
    clear hcV ht
    go_wp2_with fail
    have b1 : ((((W1.setCell ⟨w.heap.size, 0, none⟩ (.int .i64 k)).setCell ⟨w.heap.size, 1, none⟩ (.int .i64 c)).setCell ⟨w.heap.size, 0, none⟩ (.int .i64 k)).setCell ⟨w.heap.size, 1, none⟩ (.int .i64 c)).heap[w.heap.size]? = some (.cells #[(.int .i64 k), (.int .i64 c)] 26 (0, 0)) := two_set' (two_set' HcV.out)
    refine ⟨_, results_pb rfl _ _ w.heap.size (.int .i64 k) (.int .i64 c) rfl b1, rfl, ?_, fun ts j h => by cases h⟩
    have tA : Turned (fun b => w.heap.size ≤ b) w ((((W1.setCell ⟨w.heap.size, 0, none⟩ (.int .i64 k)).setCell ⟨w.heap.size, 1, none⟩ (.int .i64 c)).setCell ⟨w.heap.size, 0, none⟩ (.int .i64 k)).setCell ⟨w.heap.size, 1, none⟩ (.int .i64 c)) := (((hT.mono fun _ h => h.elim).trans (Ht.out.mono fun _ h => h.elim)).trans ((two_turned' W1 w.heap.size (.int .i64 k) (.int .i64 c)).mono fun b hb => (by omega))).trans ((two_turned' _ w.heap.size (.int .i64 k) (.int .i64 c)).mono fun b hb => (by omega))
    exact turned_narrow tA fun b hb hc => by omega
  | ok ts =>
    rw [hL] at HT
    obtain ⟨hTok, hpos⟩ := hok ts hL
    go_enter_defers Tryz.func27, Tryz.ntmps27
    go_wp2_with fail
    refine HT.out.mono ?_
    rintro e W1 ⟨v, rfl, hown, ht⟩
    have hcV : W1.heap[w.heap.size]? = some (.cells #[(.int .i64 0), (.int .i64 0)] 26 (0, 0)) := (ht.block _ (by simp) id).trans (heap_alloc_new _ _)
    obtain ⟨x0, x1, x2, x3⟩ := two_cells hcV
    have HcV := Lib.hid hcV
    have Ht := Lib.hid ht
    rcases owns_cell (enc := tokV) (fun _ => rfl) hown with ⟨rfl, hnil⟩ | ⟨g, cap, rfl, h1, h2, h3, h4, h5⟩
    · rw [hnil] at hpos; simp at hpos
    have H5 := Lib.hid h5
    clear hcV ht hown h5
    go_wp2_with fail
    obtain ⟨W2, hW2⟩ : ∃ W2, W2 = ((W1.setCell ⟨w.heap.size, 0, none⟩ (.int .i64 0)).setCell ⟨w.heap.size, 1, none⟩ (.int .i64 0)) := ⟨_, rfl⟩
    have t2 := two_turned' W1 w.heap.size (.int .i64 0) (.int .i64 0)
    have b2 : W2.heap[w.heap.size]? = some (.cells #[(.int .i64 0), (.int .i64 0)] 26 (0, 0)) := by rw [hW2]; exact two_set' HcV.out
    rw [← hW2] at t2 ⊢
    have hs2 : W1.heap.size = W2.heap.size := by rw [hW2]; simp
    rw [hs2]
    obtain ⟨W3, hW3⟩ : ∃ W3, W3 = W2.alloc (.cells #[.slice (some ⟨g, 0, none⟩) ts.length cap, (.int .i64 0)] 71) := ⟨_, rfl⟩
    obtain ⟨B, hB⟩ : ∃ B, B = W2.heap.size := ⟨_, rfl⟩
    have t3 : Turned (fun _ => False) W2 W3 := by rw [hW3]; exact (Turned.refl _ _).alloc _
    have b3 : W3.heap[B]? = some (.cells #[.slice (some ⟨g, 0, none⟩) ts.length cap, (.int .i64 0)] 71 (0, 0)) := by rw [hW3, hB]; exact heap_alloc_new _ _
    rw [← hW3, ← hB]
    have hsz : w.heap.size + 1 ≤ g := by simpa using h3
    have hNB : w.heap.size < B := by have := getElem?_lt HcV.out; omega
    have hgB : g < B := by omega
    have hp : PS B g cap ts W3 0 0 := by
      refine ⟨by simpa using b3, ?_, by omega, hTok, hpos, h1, h2⟩
      intro i hi j u hu
      have hj : j < 4 := by
        have := (List.getElem?_eq_some_iff.1 hu).1
        simpa [tokRow, List.getElem?_eq_getElem hi, tokV] using this
      have h6 := H5.out i j hi hj
      simp only [tokRow, List.getElem?_eq_getElem hi] at hu
      rw [hu] at h6
      exact cell_turned t3 id (cell_turned t2 (by omega) h6)
    have tA : Turned (fun b => w.heap.size ≤ b) w W3 := (((hT.mono fun _ h => h.elim).trans (Ht.out.mono fun _ h => h.elim)).trans (t2.mono fun b hb => (by omega))).trans (t3.mono fun _ h => h.elim)
    have hobo : W3.heap[ob]? = w.heap[ob]? := tA.block ob hob (by omega)
    have b4 : W3.heap[w.heap.size]? = some (.cells #[(.int .i64 0), (.int .i64 0)] 26 (0, 0)) := (t3.block _ (getElem?_lt b2) id).trans b2
    have hlo : w.heap.size < W3.heap.size := getElem?_lt b4
    have hNW : w.heap.size < W3.heap.size := hlo
    clear hW2 hW3 t2 t3 b2 b3 x0 x1 x2 x3 Ht H5 HcV hs2 hB
    have HC := hHow ts hL B g cap W3 (by omega) (by omega) hp hobo
    cases hr : r ts with
    | err j c =>
      rw [hr] at HC
      have hE : Hid (runP (LR.ok ts) r = (atT ts j, c)) := by show _ = _; unfold runP; simp only [hr]
      refine HC.mono ?_
      rintro e W4 ⟨ht4, rfl⟩
      have b5 : W4.heap[w.heap.size]? = some (.cells #[(.int .i64 0), (.int .i64 0)] 26 (0, 0)) := (ht4.block _ hlo (by omega)).trans b4
      refine leaves_cons (f := 50) (args := #[.pointer (some ⟨w.heap.size, 0, none⟩)]) (by simp) (by simp [go_sem]) ?_
      refine (catch_stop w.heap.size (atT ts j) c 0 0 [] _ b5).mono ?_
      rintro e u' W5 ⟨rfl, rfl, b6, ht5⟩
      have tB := turned_narrow (C := fun b => w.heap.size ≤ b ∨ b = ob) (((tA.mono fun _ h => .inl h).trans (ht4.mono fun b hb => (by omega))).trans (ht5.mono fun b hb => (by omega))) (D := fun b => b = ob) fun b hb hc => by omega
      refine ⟨_, results_pb rfl _ _ w.heap.size (.int .i64 (atT ts j)) (.int .i64 c) rfl b6, ?_, tB, fun ts2 j2 h1 h2 => ?_⟩
      · rw [hE.out]
      · cases h1; rw [hr] at h2; cases h2
    | ok x j =>
      rw [hr] at HC
      refine HC.mono ?_
      rintro e W4 ⟨ht4, rfl, ⟨nf, hp4⟩, hq4⟩
      have b5 : W4.heap[w.heap.size]? = some (.cells #[(.int .i64 0), (.int .i64 0)] 26 (0, 0)) := (ht4.block _ hlo (by omega)).trans b4
      obtain ⟨u, hu⟩ := some_of_lt hp4.lt
      obtain ⟨c0, c1⟩ := hp4.cells
      obtain ⟨t0, t1, t2, t3⟩ := hp4.tok hu
      obtain ⟨l, hl2⟩ : ∃ l, ts.length - j = l + 1 := ⟨ts.length - j - 1, by have := hp4.lt; omega⟩
      rw [hl2] at c0
      clear hl2
      have Hp4 := Lib.hid hp4
      have Hb5 := Lib.hid b5
      obtain ⟨x0, x1, x2, x3⟩ := two_cells b5
      have tB0 := (tA.mono (C' := fun b => w.heap.size ≤ b ∨ b = ob) fun _ h => .inl h).trans (ht4.mono fun b hb => (by omega))
      by_cases h5k : u.kind = 5
      · have hE : Hid (runP (LR.ok ts) r = (0, 0)) := by show _ = _; unfold runP; simp only [hr, hu, Option.map_some, h5k, if_true]
        have bk : (u.kind != 5) = false := by simpa using h5k
        have bk2 : (u.kind == 5) = true := by simpa using h5k
        clear h5k hp4 b5
        go_wp2_with fail
        have t5 := two_turned' W4 w.heap.size (.int .i64 0) (.int .i64 0)
        have b6 : ((W4.setCell ⟨w.heap.size, 0, none⟩ (.int .i64 0)).setCell ⟨w.heap.size, 1, none⟩ (.int .i64 0)).heap[w.heap.size]? = some (.cells #[(.int .i64 0), (.int .i64 0)] 26 (0, 0)) := two_set' Hb5.out
        refine leaves_cons (f := 50) (args := #[.pointer (some ⟨w.heap.size, 0, none⟩)]) (by simp) (by simp [go_sem]) ?_
        refine (catch_idle w.heap.size _).mono ?_
        rintro e u' W5 ⟨rfl, rfl, rfl⟩
        have tB := turned_narrow (tB0.trans (t5.mono fun b hb => (by omega))) (D := fun b => b = ob) fun b hb hc => by omega
        refine ⟨_, results_pb rfl _ _ w.heap.size (.int .i64 0) (.int .i64 0) rfl b6, ?_, tB, fun ts2 j2 h1 h2 => ⟨W3.heap.size, by omega, hQ _ _ _ _ hq4 t5 fun b hb => by omega⟩⟩
        rw [hE.out]
      · have hE : Hid (runP (LR.ok ts) r = (atT ts j, 5)) := by show _ = _; unfold runP; simp [hr, hu, h5k]
        have bk : (u.kind != 5) = true := by simpa using h5k
        have bk2 : (u.kind == 5) = false := by simpa using h5k
        clear h5k hp4 b5
        go_wp2_with fail
        refine (fail_ps Hp4.out 5).mono ?_
        rintro e W5 ⟨rfl, rfl⟩
        refine leaves_cons (f := 50) (args := #[.pointer (some ⟨w.heap.size, 0, none⟩)]) (by simp) (by simp [go_sem]) ?_
        refine (catch_stop w.heap.size (atT ts j) 5 0 0 [] _ Hb5.out).mono ?_
        rintro e u' W5 ⟨rfl, rfl, b6, ht5⟩
        have tB := turned_narrow (tB0.trans (ht5.mono fun b hb => (by omega))) (D := fun b => b = ob) fun b hb hc => by omega
        refine ⟨_, results_pb rfl _ _ w.heap.size (.int .i64 (atT ts j)) (.int .i64 5) rfl b6, ?_, tB, fun ts2 j2 h1 h2 => ⟨W3.heap.size, by omega, hQ _ _ _ _ hq4 ht5 fun b hb => by omega⟩⟩
        rw [hE.out]
set_option maxRecDepth 20000 in
set_option maxHeartbeats 8000000 in
theorem run_expr (s : ByteArray) (ob : Nat) (w : World) (hv : Vars w.heap.size w) (hob : ob < w.heap.size) (r : List Tok → PR Unit) (Q : Nat → World → Prop)
    (hok : ∀ ts, tokensP s = .ok ts → TokOK ts ∧ 0 < ts.length)
    (hQ : ∀ (lo : Nat) (W W' : World) (C : Nat → Prop), Q lo W → Turned C W W' → (∀ b, C b → b < lo ∧ b ≠ ob) → Q lo W')
    (hHow : ∀ ts, tokensP s = .ok ts → ∀ (B g cap : Nat) (W : World), ob ≠ B → g ≠ ob → PS B g cap ts W 0 0 → W.heap[ob]? = w.heap[ob]? → Calls Tryz.prog 30 #[.pointer (some ⟨B, 0, none⟩), .pointer (some ⟨ob, 0, none⟩)] W (HowR B ob g cap ts W (r ts) (Q W.heap.size))) :
    Calls Tryz.prog 27 #[.string s, .func (Fn.func 30) #[] #[.pointer (some ⟨ob, 0, none⟩)]] w fun e w' => e = .returned (.agg #[(.int .i64 ((runP (tokensP s) r).1)), (.int .i64 ((runP (tokensP s) r).2))]) ∧ Turned (fun b => b = ob) w w' ∧ (∀ ts j, tokensP s = .ok ts → r ts = .ok () j → ∃ lo, w.heap.size ≤ lo ∧ Q lo w') := by
  have hmf : ∀ (fn : Fn) (first cap : Array Value) (w : World), (Instr.makeFunc fn first cap).run Tryz.prog w = .ok (.func fn first cap) w := fun _ _ _ _ => rfl
  have hT : Turned (fun _ => False) w (w.alloc (.cells #[(.int .i64 0), (.int .i64 0)] 26)) := (Turned.refl _ _).alloc _
  have HT := Lib.hid (tokens_any s (w.alloc (.cells #[(.int .i64 0), (.int .i64 0)] 26)) ((hv.turned hT fun g hg => id).mono (by simp)))
  cases hL : tokensP s with
  | err k c =>
    rw [hL] at HT
    have hc0 : (c != 0) = true := by simpa using tokens_err0 hL
    go_enter_defers Tryz.func27, Tryz.ntmps27
    go_wp2_with fail
    refine HT.out.mono ?_
    rintro e W1 ⟨rfl, ht⟩
    have hcV : W1.heap[w.heap.size]? = some (.cells #[(.int .i64 0), (.int .i64 0)] 26 (0, 0)) := (ht.block _ (by simp) id).trans (heap_alloc_new _ _)
    obtain ⟨x0, x1, x2, x3⟩ := two_cells hcV
    have HcV := Lib.hid hcV
    have Ht := Lib.hid ht
    clear hcV ht
    go_wp2_with fail
    have b1 : ((((W1.setCell ⟨w.heap.size, 0, none⟩ (.int .i64 k)).setCell ⟨w.heap.size, 1, none⟩ (.int .i64 c)).setCell ⟨w.heap.size, 0, none⟩ (.int .i64 k)).setCell ⟨w.heap.size, 1, none⟩ (.int .i64 c)).heap[w.heap.size]? = some (.cells #[(.int .i64 k), (.int .i64 c)] 26 (0, 0)) := two_set' (two_set' HcV.out)
    refine ⟨_, results_pb rfl _ _ w.heap.size (.int .i64 k) (.int .i64 c) rfl b1, rfl, ?_, fun ts j h => by cases h⟩
    have tA : Turned (fun b => w.heap.size ≤ b) w ((((W1.setCell ⟨w.heap.size, 0, none⟩ (.int .i64 k)).setCell ⟨w.heap.size, 1, none⟩ (.int .i64 c)).setCell ⟨w.heap.size, 0, none⟩ (.int .i64 k)).setCell ⟨w.heap.size, 1, none⟩ (.int .i64 c)) := (((hT.mono fun _ h => h.elim).trans (Ht.out.mono fun _ h => h.elim)).trans ((two_turned' W1 w.heap.size (.int .i64 k) (.int .i64 c)).mono fun b hb => (by omega))).trans ((two_turned' _ w.heap.size (.int .i64 k) (.int .i64 c)).mono fun b hb => (by omega))
    exact turned_narrow tA fun b hb hc => by omega
  | ok ts =>
    rw [hL] at HT
    obtain ⟨hTok, hpos⟩ := hok ts hL
    go_enter_defers Tryz.func27, Tryz.ntmps27
    go_wp2_with fail
    refine HT.out.mono ?_
    rintro e W1 ⟨v, rfl, hown, ht⟩
    have hcV : W1.heap[w.heap.size]? = some (.cells #[(.int .i64 0), (.int .i64 0)] 26 (0, 0)) := (ht.block _ (by simp) id).trans (heap_alloc_new _ _)
    obtain ⟨x0, x1, x2, x3⟩ := two_cells hcV
    have HcV := Lib.hid hcV
    have Ht := Lib.hid ht
    rcases owns_cell (enc := tokV) (fun _ => rfl) hown with ⟨rfl, hnil⟩ | ⟨g, cap, rfl, h1, h2, h3, h4, h5⟩
    · rw [hnil] at hpos; simp at hpos
    have H5 := Lib.hid h5
    clear hcV ht hown h5
    go_wp2_with fail
    obtain ⟨W2, hW2⟩ : ∃ W2, W2 = ((W1.setCell ⟨w.heap.size, 0, none⟩ (.int .i64 0)).setCell ⟨w.heap.size, 1, none⟩ (.int .i64 0)) := ⟨_, rfl⟩
    have t2 := two_turned' W1 w.heap.size (.int .i64 0) (.int .i64 0)
    have b2 : W2.heap[w.heap.size]? = some (.cells #[(.int .i64 0), (.int .i64 0)] 26 (0, 0)) := by rw [hW2]; exact two_set' HcV.out
    rw [← hW2] at t2 ⊢
    have hs2 : W1.heap.size = W2.heap.size := by rw [hW2]; simp
    rw [hs2]
    obtain ⟨W3, hW3⟩ : ∃ W3, W3 = W2.alloc (.cells #[.slice (some ⟨g, 0, none⟩) ts.length cap, (.int .i64 0)] 71) := ⟨_, rfl⟩
    obtain ⟨B, hB⟩ : ∃ B, B = W2.heap.size := ⟨_, rfl⟩
    have t3 : Turned (fun _ => False) W2 W3 := by rw [hW3]; exact (Turned.refl _ _).alloc _
    have b3 : W3.heap[B]? = some (.cells #[.slice (some ⟨g, 0, none⟩) ts.length cap, (.int .i64 0)] 71 (0, 0)) := by rw [hW3, hB]; exact heap_alloc_new _ _
    rw [← hW3, ← hB]
    have hsz : w.heap.size + 1 ≤ g := by simpa using h3
    have hNB : w.heap.size < B := by have := getElem?_lt HcV.out; omega
    have hgB : g < B := by omega
    have hp : PS B g cap ts W3 0 0 := by
      refine ⟨by simpa using b3, ?_, by omega, hTok, hpos, h1, h2⟩
      intro i hi j u hu
      have hj : j < 4 := by
        have := (List.getElem?_eq_some_iff.1 hu).1
        simpa [tokRow, List.getElem?_eq_getElem hi, tokV] using this
      have h6 := H5.out i j hi hj
      simp only [tokRow, List.getElem?_eq_getElem hi] at hu
      rw [hu] at h6
      exact cell_turned t3 id (cell_turned t2 (by omega) h6)
    have tA : Turned (fun b => w.heap.size ≤ b) w W3 := (((hT.mono fun _ h => h.elim).trans (Ht.out.mono fun _ h => h.elim)).trans (t2.mono fun b hb => (by omega))).trans (t3.mono fun _ h => h.elim)
    have hobo : W3.heap[ob]? = w.heap[ob]? := tA.block ob hob (by omega)
    have b4 : W3.heap[w.heap.size]? = some (.cells #[(.int .i64 0), (.int .i64 0)] 26 (0, 0)) := (t3.block _ (getElem?_lt b2) id).trans b2
    have hlo : w.heap.size < W3.heap.size := getElem?_lt b4
    have hNW : w.heap.size < W3.heap.size := hlo
    clear hW2 hW3 t2 t3 b2 b3 x0 x1 x2 x3 Ht H5 HcV hs2 hB
    have HC := hHow ts hL B g cap W3 (by omega) (by omega) hp hobo
    cases hr : r ts with
    | err j c =>
      rw [hr] at HC
      have hE : Hid (runP (LR.ok ts) r = (atT ts j, c)) := by show _ = _; unfold runP; simp only [hr]
      refine HC.mono ?_
      rintro e W4 ⟨ht4, rfl⟩
      have b5 : W4.heap[w.heap.size]? = some (.cells #[(.int .i64 0), (.int .i64 0)] 26 (0, 0)) := (ht4.block _ hlo (by omega)).trans b4
      refine leaves_cons (f := 50) (args := #[.pointer (some ⟨w.heap.size, 0, none⟩)]) (by simp) (by simp [go_sem]) ?_
      refine (catch_stop w.heap.size (atT ts j) c 0 0 [] _ b5).mono ?_
      rintro e u' W5 ⟨rfl, rfl, b6, ht5⟩
      have tB := turned_narrow (C := fun b => w.heap.size ≤ b ∨ b = ob) (((tA.mono fun _ h => .inl h).trans (ht4.mono fun b hb => (by omega))).trans (ht5.mono fun b hb => (by omega))) (D := fun b => b = ob) fun b hb hc => by omega
      refine ⟨_, results_pb rfl _ _ w.heap.size (.int .i64 (atT ts j)) (.int .i64 c) rfl b6, ?_, tB, fun ts2 j2 h1 h2 => ?_⟩
      · rw [hE.out]
      · cases h1; rw [hr] at h2; cases h2
    | ok x j =>
      rw [hr] at HC
      refine HC.mono ?_
      rintro e W4 ⟨ht4, rfl, ⟨nf, hp4⟩, hq4⟩
      have b5 : W4.heap[w.heap.size]? = some (.cells #[(.int .i64 0), (.int .i64 0)] 26 (0, 0)) := (ht4.block _ hlo (by omega)).trans b4
      obtain ⟨u, hu⟩ := some_of_lt hp4.lt
      obtain ⟨c0, c1⟩ := hp4.cells
      obtain ⟨t0, t1, t2, t3⟩ := hp4.tok hu
      obtain ⟨l, hl2⟩ : ∃ l, ts.length - j = l + 1 := ⟨ts.length - j - 1, by have := hp4.lt; omega⟩
      rw [hl2] at c0
      clear hl2
      have Hp4 := Lib.hid hp4
      have Hb5 := Lib.hid b5
      obtain ⟨x0, x1, x2, x3⟩ := two_cells b5
      have tB0 := (tA.mono (C' := fun b => w.heap.size ≤ b ∨ b = ob) fun _ h => .inl h).trans (ht4.mono fun b hb => (by omega))
      by_cases h5k : u.kind = 5
      · have hE : Hid (runP (LR.ok ts) r = (0, 0)) := by show _ = _; unfold runP; simp only [hr, hu, Option.map_some, h5k, if_true]
        have bk : (u.kind != 5) = false := by simpa using h5k
        have bk2 : (u.kind == 5) = true := by simpa using h5k
        clear h5k hp4 b5
        go_wp2_with fail
        have t5 := two_turned' W4 w.heap.size (.int .i64 0) (.int .i64 0)
        have b6 : ((W4.setCell ⟨w.heap.size, 0, none⟩ (.int .i64 0)).setCell ⟨w.heap.size, 1, none⟩ (.int .i64 0)).heap[w.heap.size]? = some (.cells #[(.int .i64 0), (.int .i64 0)] 26 (0, 0)) := two_set' Hb5.out
        refine leaves_cons (f := 50) (args := #[.pointer (some ⟨w.heap.size, 0, none⟩)]) (by simp) (by simp [go_sem]) ?_
        refine (catch_idle w.heap.size _).mono ?_
        rintro e u' W5 ⟨rfl, rfl, rfl⟩
        have tB := turned_narrow (tB0.trans (t5.mono fun b hb => (by omega))) (D := fun b => b = ob) fun b hb hc => by omega
        refine ⟨_, results_pb rfl _ _ w.heap.size (.int .i64 0) (.int .i64 0) rfl b6, ?_, tB, fun ts2 j2 h1 h2 => ⟨W3.heap.size, by omega, hQ _ _ _ _ hq4 t5 fun b hb => by omega⟩⟩
        rw [hE.out]
      · have hE : Hid (runP (LR.ok ts) r = (atT ts j, 5)) := by show _ = _; unfold runP; simp [hr, hu, h5k]
        have bk : (u.kind != 5) = true := by simpa using h5k
        have bk2 : (u.kind == 5) = false := by simpa using h5k
        clear h5k hp4 b5
        go_wp2_with fail
        refine (fail_ps Hp4.out 5).mono ?_
        rintro e W5 ⟨rfl, rfl⟩
        refine leaves_cons (f := 50) (args := #[.pointer (some ⟨w.heap.size, 0, none⟩)]) (by simp) (by simp [go_sem]) ?_
        refine (catch_stop w.heap.size (atT ts j) 5 0 0 [] _ Hb5.out).mono ?_
        rintro e u' W5 ⟨rfl, rfl, b6, ht5⟩
        have tB := turned_narrow (tB0.trans (ht5.mono fun b hb => (by omega))) (D := fun b => b = ob) fun b hb hc => by omega
        refine ⟨_, results_pb rfl _ _ w.heap.size (.int .i64 (atT ts j)) (.int .i64 5) rfl b6, ?_, tB, fun ts2 j2 h1 h2 => ⟨W3.heap.size, by omega, hQ _ _ _ _ hq4 ht5 fun b hb => by omega⟩⟩
        rw [hE.out]
end Go.Proofs.YtjijdgkccfeeaaaGreatDoor
