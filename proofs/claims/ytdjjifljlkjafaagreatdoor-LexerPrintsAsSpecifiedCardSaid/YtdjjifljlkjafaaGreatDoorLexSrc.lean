/- Plain laws of the lexer: sources, joined sources, sources before a problem. Conditions: each lemma's own. -/
import Derived.Test.YtdjjifljlkjafaaGreatDoorLexList
namespace Go.Proofs.YtdjjifljlkjafaaGreatDoor
open Go Go.Proofs

/-- inside a comment behind these blanks -/
def modeA : Bool → List UInt8 → Bool
  | c, [] => c
  | false, b :: l => if cls b = 1 then modeA false l else modeA true l
  | true, b :: l => if b = 10 then modeA false l else modeA true l
theorem blank_all : ∀ (c : Bool) (x y : List UInt8), blankL c x = x.length → blankL c (x ++ y) = x.length + blankL (modeA c x) y
  | c, [], y, _ => by cases c <;> simp [modeA]
  | false, b :: x, y, h => by
    simp only [blankL, List.cons_append, modeA, List.length_cons] at h ⊢
    split
    · rename_i h1
      rw [if_pos h1] at h
      rw [blank_all false x y (by omega)]; omega
    · rename_i h1
      rw [if_neg h1] at h
      split
      · rename_i h2
        rw [if_pos h2] at h
        rw [blank_all true x y (by omega)]; omega
      · rename_i h2
        rw [if_neg h2] at h; omega
  | true, b :: x, y, h => by
    simp only [blankL, List.cons_append, modeA, List.length_cons] at h ⊢
    split
    · rename_i h1
      rw [if_pos h1] at h
      rw [blank_all false x y (by omega)]; omega
    · rename_i h1
      rw [if_neg h1] at h
      rw [blank_all true x y (by omega)]; omega
theorem blank_stop : ∀ (c : Bool) (x y : List UInt8), blankL c x < x.length → blankL c (x ++ y) = blankL c x
  | c, [], y, h => by simp at h
  | false, b :: x, y, h => by
    simp only [blankL, List.cons_append, List.length_cons] at h ⊢
    split
    · rename_i h1
      rw [if_pos h1] at h
      rw [blank_stop false x y (by omega)]
    · rename_i h1
      rw [if_neg h1] at h
      split
      · rename_i h2
        rw [if_pos h2] at h
        rw [blank_stop true x y (by omega)]
      · rfl
  | true, b :: x, y, h => by
    simp only [blankL, List.cons_append, List.length_cons] at h ⊢
    split
    · rename_i h1
      rw [if_pos h1] at h
      rw [blank_stop false x y (by omega)]
    · rename_i h1
      rw [if_neg h1] at h
      rw [blank_stop true x y (by omega)]
theorem blank_line (c : Bool) (y : List UInt8) : blankL c (10 :: y) = 1 + blankL false y := by
  cases c
  · simp only [blankL]; rw [if_pos (by decide)]; omega
  · simp only [blankL]; rw [if_pos trivial]; omega

def LR.cons (t : Tok) : LR → LR
  | .ok ts => .ok (t :: ts)
  | .err k c => .err k c
def LR.pre (us : List Tok) : LR → LR
  | .ok ts => .ok (us ++ ts)
  | .err k c => .err k c
def LR.shift (d : Nat) : LR → LR
  | .ok ts => .ok (ts.map (Tok.shift d))
  | .err k c => .err (k + d) c
/-- the tokens of a list whose first byte has the offset k -/
def lexA : List UInt8 → Nat → LR
  | [], k => .ok [⟨5, k, ⟨#[]⟩, 0⟩]
  | b :: l, k =>
    match headT (b :: l) with
    | .tok t tt => (lexA (l.drop (tt - 1 + blankL false ((b :: l).drop tt))) (k + tt + blankL false ((b :: l).drop tt))).cons (t.shift k)
    | .err c => .err k c
    | .none => .err k 26
termination_by l => l.length
decreasing_by simp; omega
/-- the tokens behind blanks -/
def srcT (l : List UInt8) (k : Nat) : LR := lexA (l.drop (blankL false l)) (k + blankL false l)
theorem lexA_nil (k : Nat) : lexA [] k = .ok [⟨5, k, ⟨#[]⟩, 0⟩] := by unfold lexA; rfl
theorem lexA_tok {l : List UInt8} {k : Nat} {t : Tok} {tt : Nat} (h : headT l = .tok t tt) : lexA l k = (srcT (l.drop tt) (k + tt)).cons (t.shift k) := by
  have hf := head_fits h
  cases l with
  | nil => rw [head_nil] at h; cases h
  | cons b l =>
    unfold lexA srcT
    rw [h]
    obtain ⟨u, rfl⟩ : ∃ u, tt = u + 1 := ⟨tt - 1, by omega⟩
    simp only [List.drop_succ_cons, List.drop_drop, Nat.add_sub_cancel]
theorem lexA_err {l : List UInt8} {k : Nat} {c : Int} (hl : l ≠ []) (h : headT l = .err c) : lexA l k = .err k c := by
  cases l with
  | nil => exact absurd rfl hl
  | cons b l => unfold lexA; rw [h]
theorem lexA_none {l : List UInt8} {k : Nat} (hl : l ≠ []) (h : headT l = .none) : lexA l k = .err k 26 := by
  cases l with
  | nil => exact absurd rfl hl
  | cons b l => unfold lexA; rw [h]
theorem srcT_len (l : List UInt8) : (l.drop (blankL false l)).length = l.length - blankL false l := by simp
/-- induction over the tokens of a list -/
theorem lex_ind {P : List UInt8 → Prop} (nil : P []) (err : ∀ l c, l ≠ [] → headT l = .err c → P l) (none : ∀ l, l ≠ [] → headT l = .none → P l)
    (tok : ∀ l t tt, headT l = .tok t tt → 0 < tt → tt ≤ l.length → P ((l.drop tt).drop (blankL false (l.drop tt))) → P l) : ∀ l, P l := by
  have : ∀ (n : Nat) (l : List UInt8), l.length ≤ n → P l := by
    intro n
    induction n with
    | zero =>
      intro l hl
      obtain rfl : l = [] := List.length_eq_zero_iff.1 (by omega)
      exact nil
    | succ n ih =>
      intro l hl
      by_cases h0 : l = []
      · subst h0; exact nil
      · cases h : headT l with
        | none => exact none l h0 h
        | err c => exact err l c h0 h
        | tok t tt =>
          have hf := head_fits h
          exact tok l t tt h hf.1 hf.2 (ih _ (by simp; omega))
  exact fun l => this l.length l (Nat.le_refl _)
theorem cons_pre (t : Tok) (us : List Tok) (r : LR) : (r.cons t).pre us = r.pre (us ++ [t]) := by
  cases r <;> simp [LR.cons, LR.pre]
theorem lexF_eq (s : ByteArray) : ∀ (f k : Nat) (ts : List Tok), k ≤ s.size → s.size < k + f → lexF s f k ts = (lexA (rest s k) k).pre ts
  | 0, k, ts, h, hf => by omega
  | f + 1, k, ts, h, hf => by
    by_cases hk : k < s.size
    · have hne : rest s k ≠ [] := by rw [rest_cons s k hk]; simp
      unfold lexF
      rw [if_pos hk, next_head s k hk]
      cases hT : headT (rest s k) with
      | none => rw [lexA_none hne hT]; rfl
      | err c => rw [lexA_err hne hT]; rfl
      | tok t tt =>
        have hft := head_fits hT
        rw [rest_len] at hft
        have hle := blankTo_le s (tt + k) (by omega)
        have hge := blankTo_ge s (tt + k)
        rw [lexA_tok hT, cons_pre]
        simp only [TR.shift]
        rw [lexF_eq s f _ _ hle (by omega)]
        congr 1
        unfold srcT blankTo
        rw [← rest_drop, ← rest_drop, Nat.add_comm tt k, Nat.add_assoc]
    · obtain rfl : k = s.size := by omega
      rw [lexF_ok (by omega) rfl, rest_nil s _ (Nat.le_refl _), lexA_nil]
      rfl
/-- Tokens, by the list of a source -/
theorem tokensP_eq (s : ByteArray) : tokensP s = if 65536 < s.size then .err 0 2 else srcT s.data.toList 0 := by
  unfold tokensP
  split
  · rfl
  · have h := blankTo_le s 0 (by omega)
    rw [lexF_eq s _ _ _ h (by omega)]
    unfold srcT blankTo
    have h2 : rest s 0 = s.data.toList := by simp [rest]
    rw [Nat.zero_add, ← Nat.zero_add (blankL false (rest s 0)), rest_drop, h2]
    cases lexA (List.drop (blankL false s.data.toList) s.data.toList) (0 + blankL false s.data.toList) <;> simp [LR.pre]
theorem cons_shift (t : Tok) (d k : Nat) (r : LR) : (r.shift d).cons (t.shift (k + d)) = (r.cons (t.shift k)).shift d := by
  cases r with
  | ok ts => simp [LR.cons, LR.shift, Tok.shift, Int.add_assoc]
  | err k c => rfl
theorem lexA_shift (d : Nat) (l : List UInt8) : ∀ k, lexA l (k + d) = (lexA l k).shift d := by
  induction l using lex_ind with
  | nil => intro k; rw [lexA_nil, lexA_nil]; simp [LR.shift, Tok.shift]
  | err l c hl h => intro k; rw [lexA_err hl h, lexA_err hl h]; rfl
  | none l hl h => intro k; rw [lexA_none hl h, lexA_none hl h]; rfl
  | tok l t tt h _ _ ih =>
    intro k
    rw [lexA_tok h, lexA_tok h]
    unfold srcT
    rw [show k + d + tt + blankL false (l.drop tt) = k + tt + blankL false (l.drop tt) + d by omega, ih, cons_shift]
theorem srcT_shift (d : Nat) (l : List UInt8) (k : Nat) : srcT l (k + d) = (srcT l k).shift d := by
  unfold srcT
  rw [Nat.add_right_comm, lexA_shift]
theorem cons_ok {t : Tok} {r : LR} {ts : List Tok} (h : r.cons t = .ok ts) : ∃ us, r = .ok us ∧ ts = t :: us := by
  cases r with
  | ok us => cases h; exact ⟨us, rfl, rfl⟩
  | err k c => cases h
theorem cons_err {t : Tok} {r : LR} {k : Nat} {c : Int} (h : r.cons t = .err k c) : r = .err k c := by
  cases r with
  | ok us => cases h
  | err k c => exact h
theorem lexA_ne {l : List UInt8} {k : Nat} {ts : List Tok} (h : lexA l k = .ok ts) : ts ≠ [] := by
  cases l with
  | nil => rw [lexA_nil] at h; cases h; simp
  | cons b l =>
    cases hT : headT (b :: l) with
    | none => rw [lexA_none (by simp) hT] at h; cases h
    | err c => rw [lexA_err (by simp) hT] at h; cases h
    | tok t tt =>
      rw [lexA_tok hT] at h
      obtain ⟨us, -, rfl⟩ := cons_ok h
      simp
theorem srcT_ne {l : List UInt8} {k : Nat} {ts : List Tok} (h : srcT l k = .ok ts) : ts ≠ [] := lexA_ne h

/-- a source before its first problem has tokens -/
theorem lexA_before (l : List UInt8) : ∀ (j k : Nat) (c : Int), lexA l j = .err k c → j ≤ k ∧ k < j + l.length ∧ ∃ ts, lexA (l.take (k - j)) j = .ok ts := by
  induction l using lex_ind with
  | nil => intro j k c h; rw [lexA_nil] at h; cases h
  | err l c hl h =>
    intro j k d h2
    rw [lexA_err hl h] at h2
    cases h2
    have : 0 < l.length := List.length_pos_iff.2 hl
    rw [Nat.sub_self, List.take_zero]
    exact ⟨Nat.le_refl _, by omega, _, lexA_nil _⟩
  | none l hl h =>
    intro j k d h2
    rw [lexA_none hl h] at h2
    cases h2
    have : 0 < l.length := List.length_pos_iff.2 hl
    rw [Nat.sub_self, List.take_zero]
    exact ⟨Nat.le_refl _, by omega, _, lexA_nil _⟩
  | tok l t tt h h0 h1 ih =>
    intro j k c h2
    rw [lexA_tok h] at h2
    obtain ⟨a1, a2, ts, a3⟩ := ih _ k c (cons_err h2)
    have hb := blankL_le false (l.drop tt)
    simp only [List.length_drop] at a2 hb
    refine ⟨by omega, by omega, t.shift j :: ts, ?_⟩
    have hd : (l.take (k - j)).drop tt = (l.drop tt).take (k - j - tt) := List.drop_take
    rw [lexA_tok (head_take h (by omega)), hd]
    unfold srcT
    rw [blankL_take _ _ _ (by omega), List.drop_take, show k - j - tt - blankL false (l.drop tt) = k - (j + tt + blankL false (l.drop tt)) by omega, a3]
    rfl
theorem srcT_before {l : List UInt8} {k : Nat} {c : Int} (h : srcT l 0 = .err k c) : k < l.length ∧ ∃ ts, srcT (l.take k) 0 = .ok ts := by
  obtain ⟨a1, a2, ts, a3⟩ := lexA_before _ _ _ _ h
  have hb := blankL_le false l
  simp only [List.length_drop] at a2
  refine ⟨by omega, ts, ?_⟩
  unfold srcT
  rw [blankL_take _ _ _ (by omega), List.drop_take, show k - blankL false l = k - (0 + blankL false l) by omega, a3]
theorem tokensP_before {s : ByteArray} {k : Nat} {c : Int} (hs : s.size ≤ 65536) (h : tokensP s = .err k c) : k < s.size ∧ ∃ ts, tokensP (s.extract 0 k) = .ok ts ∧ ts ≠ [] := by
  rw [tokensP_eq, if_neg (by omega)] at h
  obtain ⟨h1, ts, h2⟩ := srcT_before h
  have h3 : s.data.toList.length = s.size := by simp
  rw [h3] at h1
  refine ⟨h1, ts, ?_, srcT_ne h2⟩
  rw [tokensP_eq, if_neg (by simp; omega), pre_list, h2]

/-- joined sources -/
def joinR (r : LR) (k : Nat) (b : List UInt8) : LR :=
  match r with
  | .ok ts => (srcT b k).pre ts.dropLast
  | .err j c => .err j c
theorem joinR_cons (r : LR) (t : Tok) (k : Nat) (b : List UInt8) (hr : ∀ ts, r = .ok ts → ts ≠ []) : joinR (r.cons t) k b = (joinR r k b).cons t := by
  cases r with
  | err j c => rfl
  | ok ts =>
    have := hr ts rfl
    cases ts with
    | nil => exact absurd rfl this
    | cons u us =>
      simp only [LR.cons, joinR, List.dropLast_cons_cons]
      cases srcT b k <;> rfl
theorem srcT_of_lexA {x : List UInt8} (b : List UInt8) (k : Nat) (ih : ∀ k, x.drop (blankL false x) ≠ [] → lexA (x.drop (blankL false x) ++ 10 :: b) k = joinR (lexA (x.drop (blankL false x)) k) (k + (x.drop (blankL false x)).length + 1) b) :
    srcT (x ++ 10 :: b) k = joinR (srcT x k) (k + x.length + 1) b := by
  have hb := blankL_le false x
  by_cases h : blankL false x = x.length
  · have e1 : srcT x k = .ok [⟨5, k + x.length, ⟨#[]⟩, 0⟩] := by
      unfold srcT
      rw [h, List.drop_length, lexA_nil]
      simp
    rw [e1]
    show _ = (srcT b _).pre []
    have e2 : ∀ r : LR, r.pre [] = r := fun r => by cases r <;> rfl
    rw [e2]
    unfold srcT
    rw [blank_all _ _ _ h, blank_line]
    congr 1
    · rw [← List.drop_drop, List.drop_left, Nat.add_comm, List.drop_succ_cons]
    · omega
  · have hlt : blankL false x < x.length := by omega
    have hne : x.drop (blankL false x) ≠ [] := by
      intro h0
      have := List.drop_eq_nil_iff.1 h0
      omega
    have := ih (k + blankL false x) hne
    conv => lhs; unfold srcT
    rw [blank_stop _ _ _ hlt, List.drop_append_of_le_length hb, this]
    congr 1
    simp; omega
theorem lexA_join (b : List UInt8) (x : List UInt8) : ∀ k, x ≠ [] → lexA (x ++ 10 :: b) k = joinR (lexA x k) (k + x.length + 1) b := by
  induction x using lex_ind with
  | nil => intro k h; exact absurd rfl h
  | err l c hl h =>
    intro k _
    have h2 := head_append (y := 10 :: b) hl ⟨10, b, rfl, by simp⟩ (.inr rfl)
    rw [lexA_err hl h, lexA_err (by simp) (h2.trans h)]
    rfl
  | none l hl h =>
    intro k _
    have h2 := head_append (y := 10 :: b) hl ⟨10, b, rfl, by simp⟩ (.inr rfl)
    rw [lexA_none hl h, lexA_none (by simp) (h2.trans h)]
    rfl
  | tok l t tt h h0 h1 ih =>
    intro k hl
    have h2 := head_append (y := 10 :: b) hl ⟨10, b, rfl, by simp⟩ (.inr rfl)
    rw [lexA_tok h, lexA_tok (h2.trans h), List.drop_append_of_le_length h1, srcT_of_lexA b (k + tt) ih, joinR_cons _ _ _ _ (fun ts hts => srcT_ne hts)]
    congr 2
    simp; omega
theorem srcT_join (x b : List UInt8) (k : Nat) : srcT (x ++ 10 :: b) k = joinR (srcT x k) (k + x.length + 1) b := srcT_of_lexA b k fun k => lexA_join b _ k
end Go.Proofs.YtdjjifljlkjafaaGreatDoor
