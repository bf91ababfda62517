/- Plain laws of numbers: what the specification reads is what strconv.Atoi reads. Conditions: each lemma's own. -/
import Derived.Test.YtdjjifljlkjafaaGreatDoorLexWalkH
namespace Go.Proofs.YtdjjifljlkjafaaGreatDoor
open Go Go.Proofs

def isDig (b : UInt8) : Bool := decide (cls b = 2)
/-- how many digits stand ahead -/
def digL (l : List UInt8) : Nat := (l.takeWhile isDig).length
theorem digL_yes {b : UInt8} {l : List UInt8} (h : cls b = 2) : digL (b :: l) = digL l + 1 := by
  unfold digL
  rw [List.takeWhile_cons_of_pos (by simpa [isDig] using h)]
  rfl
theorem digL_no {b : UInt8} {l : List UInt8} (h : cls b ≠ 2) : digL (b :: l) = 0 := by
  unfold digL
  rw [List.takeWhile_cons_of_neg (by simpa [isDig] using h)]
  rfl
theorem digL_nil : digL [] = 0 := rfl
theorem digL_le (l : List UInt8) : digL l ≤ l.length := (List.takeWhile_sublist _).length_le
theorem digL_all : ∀ (l : List UInt8), ∀ b ∈ l.take (digL l), cls b = 2
  | [], b, h => by simp at h
  | c :: l, b, h => by
    by_cases hc : cls c = 2
    · rw [digL_yes hc, List.take_succ_cons] at h
      rcases List.mem_cons.1 h with rfl | h
      · exact hc
      · exact digL_all l b h
    · rw [digL_no hc] at h
      simp at h
theorem digL_stop : ∀ (l : List UInt8) (h : digL l < l.length), cls l[digL l] ≠ 2
  | [], h => by simp at h
  | c :: l, h => by
    by_cases hc : cls c = 2
    · have h1 := digL_yes (l := l) hc
      have h2 : digL l < l.length := by rw [h1] at h; simpa using h
      have := digL_stop l h2
      simp only [h1, List.getElem_cons_succ]
      exact this
    · have h1 := digL_no (l := l) hc
      simp only [h1, List.getElem_cons_zero]
      exact hc
theorem dig_iff (b : UInt8) : cls b = 2 ↔ 48 ≤ b.toNat ∧ b.toNat ≤ 57 := by
  unfold cls clsI
  split
  · constructor
    · intro h; omega
    · intro h; omega
  · split
    · simp_all; omega
    · split <;> simp_all <;> omega
/-- the number that digits spell behind others -/
def valL : Nat → List UInt8 → Nat
  | acc, [] => acc
  | acc, c :: r => valL (acc * 10 + (c.toNat - 48)) r
theorem valL_snoc : ∀ (acc : Nat) (l : List UInt8) (c : UInt8), valL acc (l ++ [c]) = valL acc l * 10 + (c.toNat - 48)
  | _, [], _ => rfl
  | _, _ :: l, c => valL_snoc _ l c
theorem valL_lt : ∀ (l : List UInt8) (acc : Nat), (∀ b ∈ l, cls b = 2) → valL acc l < (acc + 1) * 10 ^ l.length
  | [], acc, _ => by show acc < (acc + 1) * 1; omega
  | c :: l, acc, h => by
    have hc := (dig_iff c).1 (h c (List.mem_cons_self ..))
    have h1 := valL_lt l (acc * 10 + (c.toNat - 48)) fun b hb => h b (List.mem_cons_of_mem _ hb)
    have h2 : (acc * 10 + (c.toNat - 48) + 1) ≤ (acc + 1) * 10 := by omega
    generalize hp : 10 ^ l.length = p at h1
    have h3 := Nat.mul_le_mul_right p h2
    have h4 : (acc + 1) * 10 * p = (acc + 1) * 10 ^ (c :: l).length := by
      rw [List.length_cons, Nat.pow_succ, hp, Nat.mul_assoc, Nat.mul_comm 10]
    rw [← h4]
    exact Nat.lt_of_lt_of_le h1 h3
theorem pow_bound {n : Nat} (h : n ≤ 15) : 10 ^ n ≤ 10 ^ 15 := Nat.pow_le_pow_right (by omega) h
theorem parse_digits : ∀ (l : List UInt8) (acc : Nat), (∀ b ∈ l, cls b = 2) → (acc + 1) * 10 ^ l.length ≤ 10 ^ 15 → Lib.parseUint10 acc l = .ok (valL acc l)
  | [], acc, _, _ => rfl
  | c :: l, acc, h, hb => by
    have hc := (dig_iff c).1 (h c (List.mem_cons_self ..))
    have h2 : (acc * 10 + (c.toNat - 48) + 1) ≤ (acc + 1) * 10 := by omega
    have h3 : (acc * 10 + (c.toNat - 48) + 1) * 10 ^ l.length ≤ 10 ^ 15 := by
      refine Nat.le_trans (Nat.mul_le_mul_right _ h2) ?_
      simp only [List.length_cons, Nat.pow_succ] at hb
      rw [Nat.mul_assoc, Nat.mul_comm 10]; exact hb
    have h4 : acc * 10 + (c.toNat - 48) + 1 ≤ 10 ^ 15 := Nat.le_trans (Nat.le_mul_of_pos_right _ (Nat.pow_pos (by omega))) h3
    unfold Lib.parseUint10
    rw [if_pos hc, if_neg (by omega), if_neg (by omega)]
    exact parse_digits l _ (fun b hb => h b (List.mem_cons_of_mem _ hb)) h3
theorem parse_bad : ∀ (l : List UInt8) (acc u : Nat), (∃ b ∈ l, cls b ≠ 2) → Lib.parseUint10 acc l ≠ .ok u
  | [], acc, u, h => by obtain ⟨b, hb, -⟩ := h; cases hb
  | c :: l, acc, u, h => by
    unfold Lib.parseUint10
    split
    · rename_i hc
      split
      · simp
      · split
        · simp
        · refine parse_bad l _ u ?_
          obtain ⟨b, hb, hb2⟩ := h
          rcases List.mem_cons.1 hb with rfl | hb
          · exact absurd ((dig_iff b).2 hc) hb2
          · exact ⟨b, hb, hb2⟩
    · simp
/-- what Atoi answers to something that begins with a digit -/
theorem atoi_mag {c : UInt8} {l : List UInt8} (hc : cls c = 2) : Lib.atoiAll (c :: l) = (match Lib.parseUint10 0 (c :: l) with | .ok u => if 9223372036854775808 ≤ u then .range else .ok (u : Int) | .range => .range | _ => Lib.atoiAll []) := by
  have h := (dig_iff c).1 hc
  have h1 : ¬ (c.toNat = 43 ∨ c.toNat = 45) := by omega
  have h2 : ¬ c.toNat = 45 := by omega
  simp only [Lib.atoiAll, Lib.parseMag]
  rw [if_neg h1, if_neg (by simp)]
  generalize Lib.parseUint10 0 (c :: l) = r
  cases r <;> simp [h2]
theorem numOf_bad {k tt : Nat} {c : UInt8} {l : List UInt8} (hc : cls c = 2) (h : ∃ b ∈ c :: l, cls b ≠ 2) : numOf k tt ⟨(c :: l).toArray⟩ = .err 27 := by
  have hp := fun u => parse_bad (c :: l) 0 u h
  have ha := atoi_mag (l := l) hc
  unfold numOf
  show (match Lib.atoiAll (c :: l) with | .ok n => _ | _ => _) = _
  rw [ha]
  cases hr : Lib.parseUint10 0 (c :: l) with
  | ok u => exact absurd hr (hp u)
  | range => rfl
  | _ => rfl
theorem numOf_long {k tt : Nat} {s : ByteArray} (h : 15 < s.size) : numOf k tt s = .err 27 := by
  unfold numOf
  split
  · rw [if_pos (.inl h)]
  · rfl
theorem numOf_zero {k tt : Nat} {s : ByteArray} (h : 1 < s.size) (h0 : s[0]! = 48) : numOf k tt s = .err 27 := by
  unfold numOf
  split
  · rw [if_pos (.inr ⟨h, h0⟩)]
  · rfl
theorem numOf_ok {k tt : Nat} {c : UInt8} {l : List UInt8} (hc : ∀ b ∈ c :: l, cls b = 2) (hl : l.length < 15) (h0 : ¬ (1 < l.length + 1 ∧ c = 48)) : numOf k tt ⟨(c :: l).toArray⟩ = .tok ⟨2, k, ⟨#[]⟩, valL 0 (c :: l)⟩ tt := by
  have hb : (0 + 1) * 10 ^ (c :: l).length ≤ 10 ^ 15 := by rw [Nat.zero_add, Nat.one_mul]; exact pow_bound (by simp; omega)
  have hp := parse_digits (c :: l) 0 hc hb
  have hv := Nat.lt_of_lt_of_le (valL_lt (c :: l) 0 hc) hb
  have ha := atoi_mag (l := l) (hc c (List.mem_cons_self ..))
  rw [hp] at ha
  simp only at ha
  rw [if_neg (by omega)] at ha
  unfold numOf
  show (match Lib.atoiAll (c :: l) with | .ok n => _ | _ => _) = _
  rw [ha]
  simp only
  rw [if_neg]
  rintro (h | ⟨h, h1⟩)
  · have : 15 < (c :: l).length := h
    simp at this; omega
  · have h2 : 1 < (c :: l).length := h
    exact h0 ⟨by simpa using h2, h1⟩
theorem span_dig : ∀ (l : List UInt8), digL l ≤ spanL 2 l ∧ (digL l < spanL 2 l → ∃ h : digL l < l.length, cls l[digL l] = 3) ∧ (∀ h : digL l < l.length, cls l[digL l] = 3 → digL l < spanL 2 l)
  | [] => ⟨by simp [digL], fun h => by simp [spanL] at h, fun h => by simp at h⟩
  | c :: l => by
    obtain ⟨i1, i2, i3⟩ := span_dig l
    have hb := cls_bd c.toNat
    by_cases hc : cls c = 2
    · have e1 := digL_yes (l := l) hc
      have e2 := spanL_cons_yes (least := 2) (b := c) (l := l) (by omega)
      refine ⟨by omega, fun h => ?_, fun h h3 => ?_⟩
      · obtain ⟨h4, h5⟩ := i2 (by omega)
        refine ⟨by simp; omega, ?_⟩
        simp only [e1, List.getElem_cons_succ]
        exact h5
      · simp only [e1, List.getElem_cons_succ] at h3
        have h4 : digL l < l.length := by rw [e1] at h; simpa using h
        have := i3 h4 h3
        omega
    · have e1 := digL_no (l := l) hc
      refine ⟨by omega, fun h => ?_, fun h h3 => ?_⟩
      · refine ⟨by simp; omega, ?_⟩
        simp only [e1, List.getElem_cons_zero]
        by_cases h2 : 2 ≤ cls c
        · unfold cls at hc h2 ⊢; omega
        · rw [spanL_cons_no (by omega)] at h; omega
      · simp only [e1, List.getElem_cons_zero] at h3
        rw [e1, spanL_cons_yes (by omega)]; omega
end Go.Proofs.YtdjjifljlkjafaaGreatDoor
