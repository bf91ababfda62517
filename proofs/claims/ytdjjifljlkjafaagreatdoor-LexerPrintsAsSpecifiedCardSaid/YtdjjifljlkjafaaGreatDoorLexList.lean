/- Plain laws of the lexer: the lexer over lists of bytes. Conditions: each lemma's own. -/
import Derived.Test.YtdjjifljlkjafaaGreatDoorLexPre
namespace Go.Proofs.YtdjjifljlkjafaaGreatDoor
open Go Go.Proofs

def Tok.shift (d : Nat) (t : Tok) : Tok := ⟨t.kind, t.at_ + d, t.s, t.n⟩
def TR.shift (d : Nat) : TR → TR
  | .none => .none
  | .err c => .err c
  | .tok t tt => .tok (t.shift d) (tt + d)
def nameL (l : List UInt8) : TR := if clsI l[0]!.toNat ≠ 3 then .none else if 32 < spanL 2 l then .err 2 else .tok ⟨1, 0, ⟨(l.take (spanL 2 l)).toArray⟩, 0⟩ (spanL 2 l)
def numL (l : List UInt8) : TR := if clsI l[0]!.toNat ≠ 2 then .none else numOf 0 (spanL 2 l) ⟨(l.take (spanL 2 l)).toArray⟩
def txtL (l : List UInt8) : TR := if l[0]! ≠ 34 then .none else textL 0 l.tail 1 []
def sgnL (l : List UInt8) : List (List UInt8) → TR
  | [] => if 0 ≤ Lib.indexByte signText.data.toList l[0]! then .tok ⟨4, 0, ⟨#[l[0]!]⟩, 0⟩ 1 else .none
  | p :: ps => if Lib.hasPrefix l p then .tok ⟨4, 0, ⟨p.toArray⟩, 0⟩ 2 else sgnL l ps
/-- the token that stands ahead of a list -/
def headT (l : List UInt8) : TR := firstT [nameL l, numL l, txtL l, sgnL l pairs]

theorem rest_drop (s : ByteArray) (k d : Nat) : rest s (k + d) = (rest s k).drop d := by
  unfold rest; rw [List.drop_drop]
theorem extract_rest (s : ByteArray) (k n : Nat) : s.extract k (k + n) = ⟨((rest s k).take n).toArray⟩ := by
  apply ByteArray.ext
  apply Array.ext'
  simp [rest]
theorem name_shift (s : ByteArray) (k : Nat) : nameT s k = (nameL (rest s k)).shift k := by
  unfold nameT nameL spanTo
  rw [Nat.add_sub_cancel_left, extract_rest]
  split
  · rfl
  · split
    · rfl
    · simp [TR.shift, Tok.shift, Nat.add_comm]
theorem num_shift (s : ByteArray) (k : Nat) : numT s k = (numL (rest s k)).shift k := by
  unfold numT numL spanTo numOf
  rw [extract_rest]
  split
  · rfl
  · split
    · split
      · rfl
      · simp [TR.shift, Tok.shift, Nat.add_comm]
    · rfl
theorem textL_shiftN (d k0 : Nat) : ∀ (n : Nat) (x : List UInt8), x.length ≤ n → ∀ (j : Nat) (b : List UInt8), textL (k0 + d) x (j + d) b = (textL k0 x j b).shift d := by
  intro n
  induction n using Nat.strongRecOn with
  | _ n ih =>
    intro x hx j b
    by_cases hb : 200 < b.length
    · rw [textL_lim _ _ _ _ hb, textL_lim _ _ _ _ hb]; rfl
    cases x with
    | nil => rw [textL_nil _ _ _ hb, textL_nil _ _ _ hb]; rfl
    | cons c x =>
      simp only [List.length_cons] at hx
      by_cases h34 : c = 34
      · subst h34
        rw [textL_quote _ _ _ _ hb, textL_quote _ _ _ _ hb]
        simp [TR.shift, Tok.shift, Nat.add_right_comm]
      by_cases h92 : c = 92
      · subst h92
        cases x with
        | nil => rw [textL_esc0 _ _ _ hb, textL_esc0 _ _ _ hb]; rfl
        | cons e x =>
          simp only [List.length_cons] at hx
          rw [textL_esc _ _ _ _ _ hb, textL_esc _ _ _ _ _ hb, Nat.add_right_comm]
          split
          · exact ih (n - 2) (by omega) x (by omega) _ _
          · split
            · exact ih (n - 2) (by omega) x (by omega) _ _
            · split
              · exact ih (n - 2) (by omega) x (by omega) _ _
              · rfl
      by_cases hc : c.toNat < 32 ∨ 126 < c.toNat
      · rw [textL_bad _ _ _ _ _ hb h34 h92 hc, textL_bad _ _ _ _ _ hb h34 h92 hc]; rfl
      · rw [textL_step _ _ _ _ _ hb h34 h92 hc, textL_step _ _ _ _ _ hb h34 h92 hc, Nat.add_right_comm]
        exact ih (n - 1) (by omega) x (by omega) _ _
theorem textL_shift (d k0 : Nat) (x : List UInt8) (j : Nat) (b : List UInt8) : textL (k0 + d) x (j + d) b = (textL k0 x j b).shift d := textL_shiftN d k0 _ x (Nat.le_refl _) j b
theorem sgn_shift (s : ByteArray) (k : Nat) : ∀ ps, signL s k ps = (sgnL (rest s k) ps).shift k
  | [] => by
    unfold signL sgnL
    split <;> simp [TR.shift, Tok.shift, Nat.add_comm]
  | p :: ps => by
    unfold signL sgnL
    split
    · simp [TR.shift, Tok.shift, Nat.add_comm]
    · exact sgn_shift s k ps
theorem firstT_shift (d : Nat) : ∀ l, firstT (l.map (TR.shift d)) = (firstT l).shift d
  | [] => rfl
  | .none :: l => by
    show firstT (l.map (TR.shift d)) = _
    rw [firstT_shift d l]; rfl
  | .err _ :: _ => rfl
  | .tok _ _ :: _ => rfl
theorem next_head (s : ByteArray) (k : Nat) (hk : k < s.size) : nextT s k = (headT (rest s k)).shift k := by
  unfold nextT headT
  rw [← firstT_shift]
  simp only [List.map]
  rw [name_shift, num_shift, signT, sgn_shift]
  congr 4
  unfold textT txtL
  rw [rest_cons s k hk]
  simp only [List.tail_cons]
  split
  · rfl
  · have := textL_shift k 0 (rest s (k + 1)) 1 []
    simpa [Nat.add_comm] using this
theorem textL_some (k0 : Nat) (l : List UInt8) (j : Nat) (b : List UInt8) : textL k0 l j b ≠ .none := by
  fun_induction textL k0 l j b <;> simp_all
theorem numOf_some (k tt : Nat) (s : ByteArray) : numOf k tt s ≠ .none := by
  unfold numOf
  split
  · split <;> simp
  · simp
theorem head_name {b : UInt8} {l : List UInt8} (h : clsI b.toNat = 3) : headT (b :: l) = if 32 < spanL 2 (b :: l) then .err 2 else .tok ⟨1, 0, ⟨((b :: l).take (spanL 2 (b :: l))).toArray⟩, 0⟩ (spanL 2 (b :: l)) := by
  have h1 : nameL (b :: l) = if 32 < spanL 2 (b :: l) then .err 2 else .tok ⟨1, 0, ⟨((b :: l).take (spanL 2 (b :: l))).toArray⟩, 0⟩ (spanL 2 (b :: l)) := by
    unfold nameL
    rw [if_neg (by simpa using h)]
  unfold headT
  rw [h1]
  split <;> rfl
theorem head_num {b : UInt8} {l : List UInt8} (h : clsI b.toNat = 2) : headT (b :: l) = numOf 0 (spanL 2 (b :: l)) ⟨((b :: l).take (spanL 2 (b :: l))).toArray⟩ := by
  have h1 : nameL (b :: l) = .none := by
    unfold nameL
    rw [if_pos (by simp [h])]
  have h2 : numL (b :: l) = numOf 0 (spanL 2 (b :: l)) ⟨((b :: l).take (spanL 2 (b :: l))).toArray⟩ := by
    unfold numL
    rw [if_neg (by simpa using h)]
  unfold headT
  rw [h1, h2]
  have := numOf_some 0 (spanL 2 (b :: l)) ⟨((b :: l).take (spanL 2 (b :: l))).toArray⟩
  generalize numOf 0 (spanL 2 (b :: l)) ⟨((b :: l).take (spanL 2 (b :: l))).toArray⟩ = r at this ⊢
  cases r <;> simp_all [firstT]
theorem head_text (l : List UInt8) : headT (34 :: l) = textL 0 l 1 [] := by
  have h1 : nameL (34 :: l) = .none := by unfold nameL; rw [if_pos (by show clsI ((34 : UInt8).toNat : Int) ≠ 3; decide)]
  have h2 : numL (34 :: l) = .none := by unfold numL; rw [if_pos (by show clsI ((34 : UInt8).toNat : Int) ≠ 2; decide)]
  have h3 : txtL (34 :: l) = textL 0 l 1 [] := by unfold txtL; rw [if_neg (by simp)]; rfl
  unfold headT
  rw [h1, h2, h3]
  have := textL_some 0 l 1 []
  generalize textL 0 l 1 [] = r at this ⊢
  cases r <;> simp_all [firstT]
def orChar : TR → TR
  | .none => .err 26
  | r => r
theorem head_sign {b : UInt8} {l : List UInt8} (h : clsI b.toNat < 2) (h2 : b ≠ 34) : headT (b :: l) = orChar (sgnL (b :: l) pairs) := by
  have e1 : nameL (b :: l) = .none := by unfold nameL; rw [if_pos (by simp; omega)]
  have e2 : numL (b :: l) = .none := by unfold numL; rw [if_pos (by simp; omega)]
  have e3 : txtL (b :: l) = .none := by unfold txtL; rw [if_pos (by simpa using h2)]
  unfold headT
  rw [e1, e2, e3]
  generalize sgnL (b :: l) pairs = r
  cases r <;> rfl
theorem head_nil : headT [] = .err 26 := by
  have e1 : nameL [] = .none := by unfold nameL; rw [if_pos (by decide)]
  have e2 : numL [] = .none := by unfold numL; rw [if_pos (by decide)]
  have e3 : txtL [] = .none := by unfold txtL; rw [if_pos (by decide)]
  have e4 : sgnL [] pairs = .none := by kernel_rfl
  unfold headT
  rw [e1, e2, e3, e4]
  rfl
/-- the four ways in which a list begins -/
theorem heads (b : UInt8) : clsI b.toNat = 3 ∨ clsI b.toNat = 2 ∨ b = 34 ∨ (clsI b.toNat < 2 ∧ b ≠ 34) := by
  have := cls_bd b.toNat
  by_cases h : b = 34
  · exact .inr (.inr (.inl h))
  · have : clsI b.toNat = 3 ∨ clsI b.toNat = 2 ∨ clsI b.toNat < 2 := by omega
    rcases this with h1 | h1 | h1
    · exact .inl h1
    · exact .inr (.inl h1)
    · exact .inr (.inr (.inr ⟨h1, h⟩))
theorem span_pos {b : UInt8} {l : List UInt8} (h : 2 ≤ clsI b.toNat) : 0 < spanL 2 (b :: l) := by
  rw [spanL_cons_yes (by exact h)]; omega
theorem numOf_tok {k tt : Nat} {s : ByteArray} {t : Tok} {uu : Nat} (h : numOf k tt s = .tok t uu) : uu = tt := by
  unfold numOf at h
  split at h
  · split at h
    · cases h
    · cases h; rfl
  · cases h
theorem pairs_len : ∀ p ∈ pairs, p.length = 2 := by decide
theorem sgn_fits {l : List UInt8} {t : Tok} {tt : Nat} (hl : l ≠ []) : ∀ ps, (∀ p ∈ ps, p.length = 2) → sgnL l ps = .tok t tt → 0 < tt ∧ tt ≤ l.length ∧ (tt = 1 → ∀ p ∈ ps, Lib.hasPrefix l p = false)
  | [], _, h => by
    unfold sgnL at h
    split at h
    · cases h
      exact ⟨by omega, by cases l <;> simp_all, fun _ _ h => by cases h⟩
    · cases h
  | p :: ps, hp, h => by
    unfold sgnL at h
    split at h
    · rename_i h1
      cases h
      have := (List.isPrefixOf_iff_prefix.1 h1).length_le
      rw [hp p (List.mem_cons_self ..)] at this
      exact ⟨by omega, this, fun h => by omega⟩
    · rename_i h1
      obtain ⟨a1, a2, a3⟩ := sgn_fits hl ps (fun q hq => hp q (List.mem_cons_of_mem _ hq)) h
      refine ⟨a1, a2, fun h0 q hq => ?_⟩
      rcases List.mem_cons.1 hq with rfl | hq
      · simpa using h1
      · exact a3 h0 q hq
theorem orChar_tok {r : TR} {t : Tok} {tt : Nat} (h : orChar r = .tok t tt) : r = .tok t tt := by
  cases r <;> simp_all [orChar]
theorem head_fits {l : List UInt8} {t : Tok} {tt : Nat} (h : headT l = .tok t tt) : 0 < tt ∧ tt ≤ l.length := by
  cases l with
  | nil => rw [head_nil] at h; cases h
  | cons b l =>
    rcases heads b with hb | hb | hb | ⟨hb, hb2⟩
    · rw [head_name hb] at h
      split at h
      · cases h
      · cases h; exact ⟨span_pos (by omega), spanL_le _ _⟩
    · rw [head_num hb] at h
      obtain rfl := numOf_tok h
      exact ⟨span_pos (by omega), spanL_le _ _⟩
    · subst hb
      rw [head_text] at h
      have := textL_fits _ _ _ _ _ _ h
      simp; omega
    · rw [head_sign hb hb2] at h
      have := sgn_fits (by simp) pairs pairs_len (orChar_tok h)
      exact ⟨this.1, this.2.1⟩
theorem sgn_congr {l l' : List UInt8} (h0 : l[0]! = l'[0]!) : ∀ ps, (∀ p ∈ ps, Lib.hasPrefix l p = Lib.hasPrefix l' p) → sgnL l ps = sgnL l' ps
  | [], _ => by unfold sgnL; rw [h0]
  | p :: ps, h => by
    unfold sgnL
    rw [h p (List.mem_cons_self ..), sgn_congr h0 ps fun q hq => h q (List.mem_cons_of_mem _ hq)]
theorem has_two {b c : UInt8} {l l' : List UInt8} {p : List UInt8} (hp : p.length = 2) : Lib.hasPrefix (b :: c :: l) p = Lib.hasPrefix (b :: c :: l') p := by
  match p, hp with
  | [x, y], _ => simp [Lib.hasPrefix, List.isPrefixOf]
theorem has_one {b : UInt8} {p : List UInt8} (hp : p.length = 2) : Lib.hasPrefix [b] p = false := by
  match p, hp with
  | [x, y], _ => simp [Lib.hasPrefix, List.isPrefixOf]
/-- a token that stands ahead stands ahead of the beginning, too -/
theorem head_take {l : List UInt8} {t : Tok} {tt m : Nat} (h : headT l = .tok t tt) (hm : tt ≤ m) : headT (l.take m) = .tok t tt := by
  have hf := head_fits h
  cases l with
  | nil => rw [head_nil] at h; cases h
  | cons b l =>
    obtain ⟨m, rfl⟩ : ∃ m', m = m' + 1 := ⟨m - 1, by omega⟩
    rcases heads b with hb | hb | hb | ⟨hb, hb2⟩
    · rw [head_name hb] at h
      rw [List.take_succ_cons, head_name hb, ← List.take_succ_cons]
      split at h
      · cases h
      · cases h
        rename_i h3
        rw [spanL_take _ _ _ hm, if_neg h3, List.take_take, Nat.min_eq_left hm]
    · rw [head_num hb] at h
      obtain rfl := numOf_tok h
      rw [List.take_succ_cons, head_num hb, ← List.take_succ_cons, spanL_take _ _ _ hm, List.take_take, Nat.min_eq_left hm, h]
    · subst hb
      rw [head_text] at h
      rw [List.take_succ_cons, head_text]
      exact textL_take 0 t tt _ _ (Nat.le_refl _) 1 [] m h (by omega)
    · rw [head_sign hb hb2] at h
      have h4 := orChar_tok h
      obtain ⟨a1, a2, a3⟩ := sgn_fits (by simp) pairs pairs_len h4
      rw [List.take_succ_cons, head_sign hb hb2, ← h]
      congr 1
      refine sgn_congr (by simp) _ fun p hp => ?_
      have hp2 := pairs_len p hp
      cases l with
      | nil => simp
      | cons c l =>
        cases m with
        | zero =>
          rw [List.take_zero, has_one hp2, a3 (by omega) p hp]
        | succ m =>
          rw [List.take_succ_cons]
          exact has_two hp2
/-- what may stand behind a token: a blank, or a comment -/
def Breaks (y : List UInt8) : Prop := ∃ c y', y = c :: y' ∧ (c = 32 ∨ c = 9 ∨ c = 10 ∨ c = 13 ∨ c = 35)
theorem Breaks.cls {c : UInt8} (h : c = 32 ∨ c = 9 ∨ c = 10 ∨ c = 13 ∨ c = 35) : clsI c.toNat < 2 := by
  rcases h with rfl | rfl | rfl | rfl | rfl <;> decide
theorem spanL_append (least : Int) {c : UInt8} (hc : clsI c.toNat < least) (y : List UInt8) : ∀ x : List UInt8, spanL least (x ++ c :: y) = spanL least x
  | [] => by
    rw [List.nil_append, spanL_cons_no (by exact hc), spanL_nil]
  | b :: x => by
    rw [List.cons_append]
    by_cases h1 : least ≤ Go.Proofs.YtdjjifljlkjafaaGreatDoor.cls b
    · rw [spanL_cons_yes h1, spanL_cons_yes h1, spanL_append least hc y x]
    · rw [spanL_cons_no (by omega), spanL_cons_no (by omega)]
theorem take_append_le {x y : List UInt8} {n : Nat} (h : n ≤ x.length) : (x ++ y).take n = x.take n := by
  rw [List.take_append, show n - x.length = 0 by omega]; simp
theorem textL_app (k0 : Nat) (y : List UInt8) : ∀ (n : Nat) (x : List UInt8), x.length ≤ n → ∀ (j : Nat) (b : List UInt8), ((∃ t tt, textL k0 x j b = .tok t tt) ∨ y.head? = some 10) → textL k0 (x ++ y) j b = textL k0 x j b := by
  intro n
  induction n using Nat.strongRecOn with
  | _ n ih =>
    intro x hx j b h
    by_cases hb : 200 < b.length
    · rw [textL_lim _ _ _ _ hb, textL_lim _ _ _ _ hb]
    cases x with
    | nil =>
      rcases h with ⟨t, tt, h⟩ | h
      · rw [textL_nil _ _ _ hb] at h; cases h
      · cases y with
        | nil => simp at h
        | cons c y =>
          simp at h
          subst h
          rw [textL_nil _ _ _ hb, List.nil_append, textL_bad _ _ _ _ _ hb (by decide) (by decide) (by decide)]
    | cons c x =>
      rw [List.cons_append]
      simp only [List.length_cons] at hx
      by_cases h34 : c = 34
      · subst h34
        rw [textL_quote _ _ _ _ hb, textL_quote _ _ _ _ hb]
      by_cases h92 : c = 92
      · subst h92
        cases x with
        | nil =>
          rcases h with ⟨t, tt, h⟩ | h
          · rw [textL_esc0 _ _ _ hb] at h; cases h
          · cases y with
            | nil => simp at h
            | cons c y =>
              simp at h
              subst h
              rw [textL_esc0 _ _ _ hb, List.nil_append, textL_esc _ _ _ _ _ hb]
              simp
        | cons d x =>
          simp only [List.length_cons] at hx
          rw [List.cons_append, textL_esc _ _ _ _ _ hb, textL_esc _ _ _ _ _ hb]
          rw [textL_esc _ _ _ _ _ hb] at h
          split
          · rename_i hd
            rw [if_pos hd] at h
            exact ih (n - 2) (by omega) x (by omega) _ _ h
          · rename_i hd
            rw [if_neg hd] at h
            split
            · rename_i hd2
              rw [if_pos hd2] at h
              exact ih (n - 2) (by omega) x (by omega) _ _ h
            · rename_i hd2
              rw [if_neg hd2] at h
              split
              · rename_i hd3
                rw [if_pos hd3] at h
                exact ih (n - 2) (by omega) x (by omega) _ _ h
              · rfl
      by_cases hc : c.toNat < 32 ∨ 126 < c.toNat
      · rw [textL_bad _ _ _ _ _ hb h34 h92 hc, textL_bad _ _ _ _ _ hb h34 h92 hc]
      · rw [textL_step _ _ _ _ _ hb h34 h92 hc] at h ⊢
        rw [textL_step _ _ _ _ _ hb h34 h92 hc]
        exact ih (n - 1) (by omega) x (by omega) _ _ h
theorem pairs_breaks : ∀ p ∈ pairs, p[1]! ≠ 32 ∧ p[1]! ≠ 9 ∧ p[1]! ≠ 10 ∧ p[1]! ≠ 13 ∧ p[1]! ≠ 35 := by decide
theorem head_append {x y : List UInt8} (hx : x ≠ []) (hy : Breaks y) (h : (∃ t tt, headT x = .tok t tt) ∨ y.head? = some 10) : headT (x ++ y) = headT x := by
  cases x with
  | nil => exact absurd rfl hx
  | cons b x =>
    obtain ⟨c, y', rfl, hc⟩ := hy
    have h2 := Breaks.cls hc
    rw [List.cons_append]
    rcases heads b with hb | hb | hb | ⟨hb, hb2⟩
    · rw [head_name hb, head_name hb, ← List.cons_append, spanL_append 2 h2, take_append_le (spanL_le _ _)]
    · rw [head_num hb, head_num hb, ← List.cons_append, spanL_append 2 h2, take_append_le (spanL_le _ _)]
    · subst hb
      rw [head_text] at h
      rw [head_text, head_text]
      exact textL_app 0 _ _ x (Nat.le_refl _) 1 [] h
    · rw [head_sign hb hb2, head_sign hb hb2]
      congr 1
      refine sgn_congr (by simp) _ fun p hp => ?_
      have hp2 := pairs_len p hp
      cases x with
      | cons d x => exact has_two hp2
      | nil =>
        rw [has_one hp2]
        have h3 := pairs_breaks p hp
        match p, hp2 with
        | [p0, p1], _ =>
          simp at h3
          have : p1 ≠ c := by rcases hc with rfl | rfl | rfl | rfl | rfl <;> simp_all
          simp [Lib.hasPrefix, List.isPrefixOf, this]
end Go.Proofs.YtdjjifljlkjafaaGreatDoor
