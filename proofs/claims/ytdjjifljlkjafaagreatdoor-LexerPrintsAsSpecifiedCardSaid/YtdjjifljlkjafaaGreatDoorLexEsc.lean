/- Plain laws of quoted texts, and what the replacer's table says of a byte. Conditions: each lemma's own. -/
import Derived.Test.YtdjjifljlkjafaaGreatDoorLexReplOnce
namespace Go.Proofs.YtdjjifljlkjafaaGreatDoor
open Go Go.Proofs

/-- a byte in quotation marks -/
def esc (b : UInt8) : List UInt8 := if b = 10 then [92, 110] else if b = 92 then [92, 92] else if b = 34 then [92, 34] else [b]
def escL (l : List UInt8) : List UInt8 := l.flatMap esc
/-- how many bytes are doubled -/
def escN (l : List UInt8) : Nat := l.count 10 + l.count 92 + l.count 34
theorem esc_one {b : UInt8} (h1 : b ≠ 10) (h2 : b ≠ 92) (h3 : b ≠ 34) : esc b = [b] := by
  unfold esc; rw [if_neg h1, if_neg h2, if_neg h3]
theorem escL_snoc (l : List UInt8) (b : UInt8) : escL (l ++ [b]) = escL l ++ esc b := by simp [escL]
theorem escN_snoc (l : List UInt8) (b : UInt8) : escN (l ++ [b]) = escN l + ((esc b).length - 1) := by
  unfold escN esc
  rw [List.count_append, List.count_append, List.count_append]
  by_cases h1 : b = 10
  · subst h1; simp; omega
  · by_cases h2 : b = 92
    · subst h2; simp; omega
    · by_cases h3 : b = 34
      · subst h3; simp; omega
      · rw [if_neg h1, if_neg h2, if_neg h3]
        simp [h1, h2, h3]
theorem escL_len : ∀ l : List UInt8, (escL l).length = l.length + escN l
  | [] => rfl
  | b :: l => by
    have ih := escL_len l
    have h : (escL (b :: l)).length = (esc b).length + (escL l).length := by simp [escL]
    rw [h, ih]
    unfold escN esc
    rw [List.count_cons, List.count_cons, List.count_cons]
    by_cases h1 : b = 10
    · subst h1; simp; omega
    · by_cases h2 : b = 92
      · subst h2; simp; omega
      · by_cases h3 : b = 34
        · subst h3; simp; omega
        · rw [if_neg h1, if_neg h2, if_neg h3]
          simp [h1, h2, h3]; omega
theorem escN_le (l : List UInt8) : escN l ≤ l.length := by
  have : ∀ l : List UInt8, escN l ≤ l.length := by
    intro l
    induction l with
    | nil => simp [escN]
    | cons b l ih =>
      unfold escN at ih ⊢
      rw [List.count_cons, List.count_cons, List.count_cons, List.length_cons]
      by_cases h1 : b = 10
      · subst h1; simp; omega
      · by_cases h2 : b = 92
        · subst h2; simp; omega
        · by_cases h3 : b = 34
          · subst h3; simp; omega
          · simp [h1, h2, h3]; omega
  exact this l
theorem escL_same (l : List UInt8) (h : escN l = 0) : escL l = l := by
  induction l with
  | nil => rfl
  | cons b l ih =>
    unfold escN at h
    rw [List.count_cons, List.count_cons, List.count_cons] at h
    have h1 : b ≠ 10 := fun e => by subst e; simp at h
    have h2 : b ≠ 92 := fun e => by subst e; simp at h
    have h3 : b ≠ 34 := fun e => by subst e; simp at h
    have h4 : escN l = 0 := by unfold escN; omega
    have : escL (b :: l) = esc b ++ escL l := by simp [escL]
    rw [this, esc_one h1 h2 h3, ih h4]
    rfl
theorem bytes_two {W : World} {q : Nat} {a b : UInt8} (h : BytesAt W q [a, b]) : W.cell? ⟨q, 0, none⟩ = some (encB a) ∧ W.cell? ⟨q, 1, none⟩ = some (encB b) := by
  obtain ⟨ar, fz, h1, h2⟩ := h
  rw [row_cell' h1, row_cell' h1]
  exact ⟨h2 0 a rfl, h2 1 b rfl⟩
/-- what the table says of a byte -/
theorem tab_at {base R : Nat} {W : World} {arr : Array Value} {v : Value} (h : BT base R rows W arr v) (b : UInt8) :
    (esc b = [b] ∧ (esc b).length = 1 ∧ W.cell? ⟨R, b.toNat, none⟩ = some (.slice none 0 0)) ∨ ∃ (x : UInt8) (q cap : Nat), esc b = [92, x] ∧ W.cell? ⟨R, b.toNat, none⟩ = some (.slice (some ⟨q, 0, none⟩) 2 cap) ∧ W.cell? ⟨q, 0, none⟩ = some (.int .u8 92) ∧ W.cell? ⟨q, 1, none⟩ = some (encB x) ∧ q < W.heap.size := by
  have key : ∀ p ∈ rows, b = p.1 → ∀ x, p.2 = [92, x] → esc b = [92, x] → ∃ (x : UInt8) (q cap : Nat), esc b = [92, x] ∧ W.cell? ⟨R, b.toNat, none⟩ = some (.slice (some ⟨q, 0, none⟩) 2 cap) ∧ W.cell? ⟨q, 0, none⟩ = some (.int .u8 92) ∧ W.cell? ⟨q, 1, none⟩ = some (encB x) ∧ q < W.heap.size := by
    intro p hp hb x hx he
    obtain ⟨q, cap, h1, h2⟩ := h.set p hp
    rw [hx] at h1 h2
    obtain ⟨c0, c1⟩ := bytes_two h2
    obtain ⟨ar, fz, h3, -⟩ := h2
    refine ⟨x, q, cap, he, ?_, c0, c1, getElem?_lt h3⟩
    rw [row_cell' h.row, hb]; exact h1
  by_cases h1 : b = 10
  · exact .inr (key (10, [92, 110]) (by simp [rows]) h1 110 rfl (by subst h1; rfl))
  · by_cases h2 : b = 92
    · exact .inr (key (92, [92, 92]) (by simp [rows]) h2 92 rfl (by subst h2; rfl))
    · by_cases h3 : b = 34
      · exact .inr (key (34, [92, 34]) (by simp [rows]) h3 34 rfl (by subst h3; rfl))
      · have he := esc_one h1 h2 h3
        refine .inl ⟨he, by rw [he]; rfl, ?_⟩
        rw [row_cell' h.row]
        refine h.nil _ b.toNat_lt fun p hp e => ?_
        simp only [rows, List.mem_cons, List.not_mem_nil, or_false] at hp
        rcases hp with rfl | rfl | rfl
        · exact h1 (UInt8.toNat_inj.1 e.symm)
        · exact h2 (UInt8.toNat_inj.1 e.symm)
        · exact h3 (UInt8.toNat_inj.1 e.symm)
/-- the list of what is replaced -/
theorem tab_list {base R : Nat} {W : World} {arr : Array Value} {v : Value} (h : BT base R rows W arr v) : ∃ T cap, W.cell? ⟨R, 256, none⟩ = some (.slice (some ⟨T, 0, none⟩) 3 cap) ∧ W.cell? ⟨T, 0, none⟩ = some (.string ⟨#[10]⟩) ∧ W.cell? ⟨T, 1, none⟩ = some (.string ⟨#[92]⟩) ∧ W.cell? ⟨T, 2, none⟩ = some (.string ⟨#[34]⟩) := by
  obtain ⟨hl, h2⟩ := h.own
  rcases h2 with ⟨rfl, h0⟩ | ⟨g, cap, cur, hv, hg, hh, hc, hm, hs, ht⟩
  · simp [rows] at h0
  · refine ⟨g, cap, by rw [row_cell' h.row, h.last, hv]; rfl, ?_, ?_, ?_⟩
    all_goals rw [row_cell' hh]
    · have : (cur.toList.take (rows.length * 1))[0]? = some (.string ⟨#[10]⟩) := by rw [ht]; rfl
      rw [List.getElem?_take_of_lt (by decide)] at this; simpa using this
    · have : (cur.toList.take (rows.length * 1))[1]? = some (.string ⟨#[92]⟩) := by rw [ht]; rfl
      rw [List.getElem?_take_of_lt (by decide)] at this; simpa using this
    · have : (cur.toList.take (rows.length * 1))[2]? = some (.string ⟨#[34]⟩) := by rw [ht]; rfl
      rw [List.getElem?_take_of_lt (by decide)] at this; simpa using this
end Go.Proofs.YtdjjifljlkjafaaGreatDoor
