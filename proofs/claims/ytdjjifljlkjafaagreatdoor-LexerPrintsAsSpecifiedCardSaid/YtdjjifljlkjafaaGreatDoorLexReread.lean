/- Plain laws of the lexer: the text of tokens is read back. Conditions: each lemma's own. -/
import Derived.Test.YtdjjifljlkjafaaGreatDoorLexWord
namespace Go.Proofs.YtdjjifljlkjafaaGreatDoor
open Go Go.Proofs

/-- the word of what a token is but for its offset -/
def wordS (x : Int × ByteArray × Int) : List ByteArray := wordQ ⟨x.1, 0, x.2.1, x.2.2⟩
theorem wordQ_strip (t : Tok) : wordQ t = wordS t.strip := rfl
theorem wordsQ_strip (ts : List Tok) : wordsQ ts = (ts.map Tok.strip).flatMap wordS := by
  unfold wordsQ
  rw [List.flatMap_map]
  rfl
def endS : Int × ByteArray × Int := (5, ⟨#[]⟩, 0)
/-- each word is read as its token -/
def Worded (ps : List (List UInt8 × Tok)) : Prop := ∀ p ∈ ps, headT p.1 = .tok p.2 p.1.length
def sizes (ps : List (List UInt8 × Tok)) : Nat := (ps.map fun p => p.1.length + 1).sum
theorem lexA_words (l : List UInt8) : ∀ (k : Nat) (ts : List Tok), lexA l k = .ok ts → ∃ ps, Worded ps ∧ ts.map Tok.strip = ps.map (fun p => p.2.strip) ++ [endS] ∧ sizes ps ≤ 2 * l.length := by
  induction l using lex_ind with
  | nil => intro k ts h; rw [lexA_nil] at h; cases h; exact ⟨[], (fun p hp => absurd hp (by simp)), rfl, by simp [sizes]⟩
  | err l c hl h => intro k ts h2; rw [lexA_err hl h] at h2; cases h2
  | none l hl h => intro k ts h2; rw [lexA_none hl h] at h2; cases h2
  | tok l t tt h h0 h1 ih =>
    intro k ts h2
    rw [lexA_tok h] at h2
    obtain ⟨us, hus, rfl⟩ := cons_ok h2
    obtain ⟨ps, p1, p2, p3⟩ := ih _ us hus
    have hl : (l.take tt).length = tt := by rw [List.length_take, Nat.min_eq_left h1]
    refine ⟨(l.take tt, t) :: ps, fun p hp => ?_, by rw [List.map_cons, p2]; rfl, ?_⟩
    · rcases List.mem_cons.1 hp with rfl | hp
      · show headT (l.take tt) = .tok t (l.take tt).length
        rw [hl]; exact head_take h (Nat.le_refl _)
      · exact p1 p hp
    · simp only [List.length_drop] at p3
      simp only [sizes, List.map_cons, List.sum_cons, hl] at p3 ⊢
      omega
theorem head_fresh {l : List UInt8} {t : Tok} {tt : Nat} (h : headT l = .tok t tt) (y : List UInt8) : blankL false (l ++ y) = 0 := by
  cases l with
  | nil => rw [head_nil] at h; cases h
  | cons b l =>
    rw [List.cons_append]
    have nb : cls b ≠ 1 ∧ b ≠ 35 := by
      constructor
      · intro hb
        have hb2 : b ≠ 34 := fun e => by subst e; revert hb; decide
        have hlt : clsI b.toNat < 2 := by unfold cls at hb; omega
        have h32 : b = 32 ∨ b = 9 ∨ b = 10 ∨ b = 13 := by
          have := (cls1_iff (b.toNat : Int)).1 hb
          rcases this with e | e | e | e
          · exact .inl (UInt8.toNat_inj.1 (by simpa using Int.ofNat_inj.1 e))
          · exact .inr (.inl (UInt8.toNat_inj.1 (by simpa using Int.ofNat_inj.1 e)))
          · exact .inr (.inr (.inl (UInt8.toNat_inj.1 (by simpa using Int.ofNat_inj.1 e))))
          · exact .inr (.inr (.inr (UInt8.toNat_inj.1 (by simpa using Int.ofNat_inj.1 e))))
        rw [head_sign hlt hb2] at h
        have h := orChar_tok h
        rw [sgn_pairs _ pairs pairs_len] at h
        have n1 : (b :: l).take 2 ∉ pairs := fun hm => by
          have h3 : ∀ p ∈ pairs, p[0]! ≠ 32 ∧ p[0]! ≠ 9 ∧ p[0]! ≠ 10 ∧ p[0]! ≠ 13 ∧ p[0]! ≠ 35 := by decide
          have := h3 _ hm
          have e : ((b :: l).take 2)[0]! = b := rfl
          rw [e] at this
          rcases h32 with rfl | rfl | rfl | rfl <;> simp at this
        rw [if_neg n1] at h
        unfold sgnL at h
        rw [if_neg (by show ¬ 0 ≤ Lib.indexByte signText.data.toList b; rcases h32 with rfl | rfl | rfl | rfl <;> decide)] at h
        cases h
      · intro hb
        subst hb
        rw [head_sign (by decide) (by decide)] at h
        have h := orChar_tok h
        rw [sgn_pairs _ pairs pairs_len] at h
        have n1 : ((35 : UInt8) :: l).take 2 ∉ pairs := fun hm => by
          have h3 : ∀ p ∈ pairs, p[0]! ≠ 35 := by decide
          exact h3 _ hm rfl
        rw [if_neg n1] at h
        unfold sgnL at h
        rw [if_neg (by show ¬ 0 ≤ Lib.indexByte signText.data.toList 35; decide)] at h
        cases h
    simp only [blankL]
    rw [if_neg nb.1, if_neg nb.2]
theorem read_words : ∀ (ps : List (List UInt8 × Tok)), Worded ps → ∀ k, ∃ us, srcT (Lib.join (ps.map (·.1)) [32]) k = .ok us ∧ us.map Tok.strip = ps.map (fun p => p.2.strip) ++ [endS]
  | [], _, k => ⟨_, by show srcT [] k = _; unfold srcT; exact lexA_nil _, rfl⟩
  | [p], h, k => by
    have hp := h p (List.mem_cons_self ..)
    have hb := head_fresh hp []
    rw [List.append_nil] at hb
    refine ⟨[p.2.shift k, ⟨5, k + p.1.length, ⟨#[]⟩, 0⟩], ?_, rfl⟩
    rw [show Lib.join ([p].map (·.1)) [32] = p.1 from Lib.join_one _ _]
    unfold srcT
    rw [hb, List.drop_zero, Nat.add_zero, lexA_tok hp, List.drop_length]
    unfold srcT
    rw [show blankL false [] = 0 from rfl, List.drop_zero, Nat.add_zero, lexA_nil]
    simp [LR.cons]
  | p :: q :: ps, h, k => by
    have hp := h p (List.mem_cons_self ..)
    have hq := h q (by simp)
    obtain ⟨us, h1, h2⟩ := read_words (q :: ps) (fun r hr => h r (List.mem_cons_of_mem _ hr)) (k + p.1.length + 1)
    have hne : p.1 ≠ [] := fun e => by rw [e, head_nil] at hp; cases hp
    have ej : Lib.join ((p :: q :: ps).map (·.1)) [32] = p.1 ++ 32 :: Lib.join ((q :: ps).map (·.1)) [32] := by simp [Lib.join]
    have hh : headT (p.1 ++ 32 :: Lib.join ((q :: ps).map (·.1)) [32]) = .tok p.2 p.1.length := by
      rw [head_append hne ⟨32, _, rfl, by simp⟩ (.inl ⟨_, _, hp⟩), hp]
    refine ⟨p.2.shift k :: us, ?_, by rw [List.map_cons, h2]; rfl⟩
    rw [ej]
    unfold srcT
    rw [head_fresh hp, List.drop_zero, Nat.add_zero, lexA_tok hh, List.drop_left]
    have e2 : srcT (32 :: Lib.join ((q :: ps).map (·.1)) [32]) (k + p.1.length) = srcT (Lib.join ((q :: ps).map (·.1)) [32]) (k + p.1.length + 1) := by
      unfold srcT
      have : blankL false (32 :: Lib.join ((q :: ps).map (·.1)) [32]) = blankL false (Lib.join ((q :: ps).map (·.1)) [32]) + 1 := by
        simp only [blankL]; rw [if_pos (by decide)]
      rw [this, List.drop_succ_cons]
      congr 1
      omega
    rw [e2, h1]
    rfl
theorem worded_words : ∀ (ps : List (List UInt8 × Tok)), Worded ps → (ps.map fun p => p.2.strip).flatMap wordS = ps.map fun p => (⟨p.1.toArray⟩ : ByteArray)
  | [], _ => rfl
  | p :: ps, h => by
    have hp := h p (List.mem_cons_self ..)
    have h1 := (head_word hp).1
    rw [List.take_length] at h1
    rw [List.map_cons, List.flatMap_cons, ← wordQ_strip, h1, worded_words ps fun q hq => h q (List.mem_cons_of_mem _ hq)]
    rfl
theorem join_len : ∀ (ps : List (List UInt8 × Tok)), (Lib.join (ps.map (·.1)) [32]).length ≤ sizes ps
  | [] => by simp [Lib.join]
  | [p] => by simp [Lib.join, sizes]
  | p :: q :: ps => by
    have ih := join_len (q :: ps)
    have ej : Lib.join ((p :: q :: ps).map (·.1)) [32] = p.1 ++ 32 :: Lib.join ((q :: ps).map (·.1)) [32] := by simp [Lib.join]
    rw [ej]
    simp only [sizes, List.map_cons, List.sum_cons, List.length_append, List.length_cons] at ih ⊢
    omega
/-- the tokens of a source: their words, and what is read from their text -/
theorem reread {s : ByteArray} {ts : List Tok} (hs : s.size ≤ 2000) (h : tokensP s = .ok ts) : ∃ ps, Worded ps ∧ ts.map Tok.strip = ps.map (fun p => p.2.strip) ++ [endS] ∧ wordsQ ts = ps.map (fun p => (⟨p.1.toArray⟩ : ByteArray)) ∧ textQ ts = ⟨(Lib.join (ps.map (·.1)) [32]).toArray⟩ ∧ (Lib.join (ps.map (·.1)) [32]).length ≤ 4000 ∧ sizes ps ≤ 4000 ∧
    ∃ us, tokensP (textQ ts) = .ok us ∧ us.map Tok.strip = ts.map Tok.strip := by
  rw [tokensP_eq, if_neg (by omega)] at h
  have hl : s.data.toList.length = s.size := by simp
  obtain ⟨ps, p1, p2, p3⟩ := lexA_words _ _ ts h
  simp only [List.length_drop] at p3
  have hw : wordsQ ts = ps.map (fun p => (⟨p.1.toArray⟩ : ByteArray)) := by
    rw [wordsQ_strip, p2, List.flatMap_append, worded_words ps p1]
    simp [endS, wordS, wordQ]
  have ht : textQ ts = ⟨(Lib.join (ps.map (·.1)) [32]).toArray⟩ := by
    unfold textQ
    rw [hw, List.map_map]
    rfl
  have hj := join_len ps
  obtain ⟨us, q1, q2⟩ := read_words ps p1 0
  refine ⟨ps, p1, p2, hw, ht, by omega, by omega, us, ?_, by rw [q2, p2]⟩
  rw [tokensP_eq, ht]
  rw [if_neg (by show ¬ 65536 < (Lib.join (ps.map (·.1)) [32]).length; omega)]
  exact q1
end Go.Proofs.YtdjjifljlkjafaaGreatDoor
