/- Plain laws of the lexer: classes of bytes, blanks, spans. Conditions: none beyond each lemma's own. -/
import Derived.Lib.Hide
import Derived.Lib.Bytealg
namespace Go.Proofs.YtdjjifljlkjafaaGreatDoor

/-- the class of a byte -/
def clsI (c : Int) : Int := if c = 95 ∨ (97 ≤ c ∧ c ≤ 122) ∨ (65 ≤ c ∧ c ≤ 90) then 3 else if 48 ≤ c ∧ c ≤ 57 then 2 else if c = 32 ∨ c = 9 ∨ c = 10 ∨ c = 13 then 1 else 0
def cls (b : UInt8) : Int := clsI b.toNat
/-- how many bytes of the class 'least' or a greater one stand ahead -/
def spanL (least : Int) (l : List UInt8) : Nat := (l.takeWhile fun b => decide (least ≤ cls b)).length
theorem spanL_nil (least : Int) : spanL least [] = 0 := rfl
theorem spanL_cons_yes {least : Int} {b : UInt8} {l : List UInt8} (h : least ≤ cls b) : spanL least (b :: l) = spanL least l + 1 := by
  unfold spanL
  rw [List.takeWhile_cons_of_pos (by simpa using h)]
  rfl
theorem spanL_cons_no {least : Int} {b : UInt8} {l : List UInt8} (h : cls b < least) : spanL least (b :: l) = 0 := by
  unfold spanL
  rw [List.takeWhile_cons_of_neg (by simp; omega)]
  rfl
theorem spanL_le (least : Int) (l : List UInt8) : spanL least l ≤ l.length := (List.takeWhile_sublist _).length_le
theorem cls_bd (c : Int) : 0 ≤ clsI c ∧ clsI c ≤ 3 := by unfold clsI; split <;> (try split) <;> (try split) <;> omega

/-- how many bytes of blanks and comments stand ahead (true: inside a comment) -/
def blankL : Bool → List UInt8 → Nat
  | _, [] => 0
  | false, b :: l => if cls b = 1 then blankL false l + 1 else if b = 35 then blankL true l + 1 else 0
  | true, b :: l => if b = 10 then blankL false l + 1 else blankL true l + 1
theorem blankL_le : ∀ (m : Bool) (l : List UInt8), blankL m l ≤ l.length
  | _, [] => Nat.le_refl _
  | false, b :: l => by
    simp only [blankL]
    have h1 := blankL_le false l
    have h2 := blankL_le true l
    split
    · simp; omega
    · split
      · simp; omega
      · simp
  | true, b :: l => by
    simp only [blankL]
    have h1 := blankL_le false l
    have h2 := blankL_le true l
    split <;> simp <;> omega

/-- the rest of the source behind an offset -/
def rest (s : ByteArray) (k : Nat) : List UInt8 := s.data.toList.drop k
theorem rest_len (s : ByteArray) (k : Nat) : (rest s k).length = s.size - k := by simp [rest]
theorem rest_cons (s : ByteArray) (k : Nat) (h : k < s.size) : rest s k = s[k] :: rest s (k + 1) := by
  unfold rest
  rw [List.drop_eq_getElem_cons (by simpa using h)]
  rfl
theorem rest_nil (s : ByteArray) (k : Nat) (h : s.size ≤ k) : rest s k = [] := by
  unfold rest
  exact List.drop_eq_nil_of_le (by simpa using h)
/-- where the bytes of the class 'least' or a greater one end -/
def spanTo (s : ByteArray) (k : Nat) (least : Int) : Nat := k + spanL least (rest s k)
theorem spanTo_le (s : ByteArray) (k : Nat) (least : Int) (hk : k ≤ s.size) : spanTo s k least ≤ s.size := by
  have := spanL_le least (rest s k)
  rw [rest_len] at this
  unfold spanTo; omega
theorem spanTo_ge (s : ByteArray) (k : Nat) (least : Int) : k ≤ spanTo s k least := by unfold spanTo; omega

/-- where the blanks and comments behind an offset end -/
def blankTo (s : ByteArray) (k : Nat) : Nat := k + blankL false (rest s k)
theorem blankTo_le (s : ByteArray) (k : Nat) (hk : k ≤ s.size) : blankTo s k ≤ s.size := by
  have := blankL_le false (rest s k)
  rw [rest_len] at this
  unfold blankTo; omega
theorem blankTo_ge (s : ByteArray) (k : Nat) : k ≤ blankTo s k := by unfold blankTo; omega
theorem blankTo_end (s : ByteArray) (k : Nat) (hk : s.size ≤ k) : blankTo s k = k := by
  unfold blankTo; rw [rest_nil s k hk]; rfl
theorem blankTo_blank (s : ByteArray) (k : Nat) (hk : k < s.size) (h : cls s[k] = 1) : blankTo s k = blankTo s (k + 1) := by
  unfold blankTo; rw [rest_cons s k hk]; simp only [blankL]; rw [if_pos h]; omega
theorem blankTo_stop (s : ByteArray) (k : Nat) (hk : k < s.size) (h : cls s[k] ≠ 1) (h2 : s[k] ≠ 35) : blankTo s k = k := by
  unfold blankTo; rw [rest_cons s k hk]; simp only [blankL]; rw [if_neg h, if_neg h2]; rfl
/-- the same inside a comment -/
def inComment (s : ByteArray) (k : Nat) : Nat := k + blankL true (rest s k)
theorem blankTo_comment (s : ByteArray) (k : Nat) (hk : k < s.size) (h2 : s[k] = 35) : blankTo s k = inComment s (k + 1) := by
  unfold blankTo inComment
  rw [rest_cons s k hk]
  simp only [blankL]
  rw [if_neg (by rw [h2]; decide), if_pos h2]; omega
theorem inComment_end (s : ByteArray) (k : Nat) (hk : s.size ≤ k) : inComment s k = k := by
  unfold inComment; rw [rest_nil s k hk]; rfl
theorem inComment_line (s : ByteArray) (k : Nat) (hk : k < s.size) (h : s[k] = 10) : inComment s k = blankTo s k := by
  unfold inComment blankTo
  rw [rest_cons s k hk]
  simp only [blankL]
  rw [if_pos h, if_pos (by rw [h]; decide)]
theorem inComment_step (s : ByteArray) (k : Nat) (hk : k < s.size) (h : s[k] ≠ 10) : inComment s k = inComment s (k + 1) := by
  unfold inComment; rw [rest_cons s k hk]; simp only [blankL]; rw [if_neg h]; omega
theorem inComment_far (s : ByteArray) : ∀ (n k : Nat), k + n ≤ s.size → (∀ i (h : i < s.size), k ≤ i → i < k + n → s[i] ≠ 10) → inComment s k = inComment s (k + n)
  | 0, _, _, _ => rfl
  | n + 1, k, h, hn => by
    rw [inComment_step s k (by omega) (hn k (by omega) (Nat.le_refl _) (by omega)), inComment_far s n (k + 1) (by omega) (fun i hi h1 h2 => hn i hi (by omega) (by omega))]
    congr 1; omega

theorem indexByte_spec (c : UInt8) : ∀ (l : List UInt8), (Lib.indexByte l c = -1 ∧ ∀ b ∈ l, b ≠ c) ∨ ∃ n : Nat, Lib.indexByte l c = n ∧ l[n]? = some c ∧ ∀ i b, i < n → l[i]? = some b → b ≠ c
  | [] => .inl ⟨rfl, fun _ h => by cases h⟩
  | b :: l => by
    by_cases h : b = c
    · subst h
      exact .inr ⟨0, by simp [Lib.indexByte], rfl, fun _ _ h => by omega⟩
    · have hb : (b == c) = false := by simpa using h
      rcases indexByte_spec c l with ⟨h1, h2⟩ | ⟨n, h1, h2, h3⟩
      · refine .inl ⟨by simp [Lib.indexByte, hb, h1], fun x hx => ?_⟩
        rcases List.mem_cons.1 hx with rfl | hx
        · exact h
        · exact h2 x hx
      · refine .inr ⟨n + 1, ?_, by simpa using h2, fun i x hi hx => ?_⟩
        · simp only [Lib.indexByte, hb]
          rw [h1]
          have : ((n : Int) == -1) = false := by simp
          simp [this]
        · cases i with
          | zero => simp at hx; subst hx; exact h
          | succ i => exact h3 i x (by omega) (by simpa using hx)

theorem rest_get (s : ByteArray) (k i : Nat) (h : k + i < s.size) : (rest s k)[i]? = some s[k + i] := by
  unfold rest
  rw [List.getElem?_drop, List.getElem?_eq_getElem (by simpa using h)]
  rfl

/-- a comment, read by the place of the next line feed -/
theorem comment_skip (s : ByteArray) (j : Nat) (hj : j < s.size) (h : s[j] = 35) :
    (Lib.indexByte (rest s j) 10 = -1 ∧ blankTo s j = s.size) ∨ ∃ n : Nat, Lib.indexByte (rest s j) 10 = n ∧ 0 < n ∧ j + n < s.size ∧ blankTo s j = blankTo s (j + n) := by
  have e0 : blankTo s j = inComment s j := by
    rw [blankTo_comment s j hj h, ← inComment_step s j hj (by rw [h]; decide)]
  rcases indexByte_spec 10 (rest s j) with ⟨h1, h2⟩ | ⟨n, h1, h2, h3⟩
  · refine .inl ⟨h1, ?_⟩
    rw [e0, inComment_far s (s.size - j) j (by omega) (fun i hi h4 h5 => ?_), inComment_end s _ (by omega)]
    · omega
    · refine h2 _ (List.mem_of_getElem? (i := i - j) ?_)
      rw [rest_get s j (i - j) (by omega)]
      congr 2; omega
  · have hlt : n < (rest s j).length := (List.getElem?_eq_some_iff.1 h2).1
    rw [rest_len] at hlt
    refine .inr ⟨n, h1, ?_, by omega, ?_⟩
    · rcases Nat.eq_zero_or_pos n with h0 | h0
      · subst h0
        rw [rest_get s j 0 (by omega)] at h2
        simp [h] at h2
      · exact h0
    · rw [rest_get s j n (by omega)] at h2
      rw [e0, inComment_far s n j (by omega) (fun i hi h4 h5 => ?_), inComment_line s (j + n) (by omega) (by simpa using h2)]
      refine h3 (i - j) _ (by omega) ?_
      rw [rest_get s j (i - j) (by omega)]
      congr 2; omega
end Go.Proofs.YtdjjifljlkjafaaGreatDoor
