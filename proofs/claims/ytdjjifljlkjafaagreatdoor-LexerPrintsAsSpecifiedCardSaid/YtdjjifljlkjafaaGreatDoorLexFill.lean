/- Plain laws of the lexer: blanks put in between two tokens. Conditions: each lemma's own. -/
import Derived.Test.YtdjjifljlkjafaaGreatDoorLexSrc
namespace Go.Proofs.YtdjjifljlkjafaaGreatDoor
open Go Go.Proofs

/-- what a token is, but for its offset -/
def Tok.strip (t : Tok) : Int × ByteArray × Int := (t.kind, t.s, t.n)
theorem strip_shift (d : Nat) (ts : List Tok) : (ts.map (Tok.shift d)).map Tok.strip = ts.map Tok.strip := by
  rw [List.map_map]; rfl
/-- blanks that may be put in ahead of y -/
def Zok (z y : List UInt8) : Prop := Breaks z ∧ ∀ c, (c = true → y = []) → blankL c z = z.length ∧ modeA c z = false
theorem blank_true {l : List UInt8} (h : blankL true l = 0) : l = [] := by
  cases l with
  | nil => rfl
  | cons b l => simp only [blankL] at h; split at h <;> omega
theorem Breaks.app {z : List UInt8} (h : Breaks z) (y : List UInt8) : Breaks (z ++ y) := by
  obtain ⟨c, z', rfl, hc⟩ := h
  exact ⟨c, z' ++ y, rfl, hc⟩
theorem skip_at0 {l z : List UInt8} {d : Nat} (h : blankL false l = d) (hz : Zok z (l.drop d)) (k : Nat) : srcT (l.take d ++ z ++ l.drop d) k = lexA (l.drop d) (k + d + z.length) := by
  have hd2 : d ≤ l.length := by have := blankL_le false l; omega
  have hl : (l.take d).length = d := by simp; omega
  have hx : blankL false (l.take d) = (l.take d).length := by rw [blankL_take _ _ _ (by omega), hl, h]
  have h1 := blank_all false (l.take d) (z ++ l.drop d) hx
  have h0 := blank_all false (l.take d) (l.drop d) hx
  rw [List.take_append_drop, h, hl] at h0
  rw [hl] at h1
  generalize modeA false (l.take d) = m at h0 h1
  have hm : m = true → l.drop d = [] := fun hm => by subst hm; exact blank_true (by omega)
  obtain ⟨z1, z2⟩ := hz.2 m hm
  have h2 := blank_all m z (l.drop d) z1
  rw [z2] at h2
  have h3 : blankL false (l.drop d) = 0 := by
    cases m with
    | false => omega
    | true => rw [hm rfl]; rfl
  unfold srcT
  rw [List.append_assoc, h1, h2, h3, Nat.add_zero]
  congr 1
  · rw [← List.drop_drop, List.drop_left' hl, List.drop_left]
  · omega
theorem skip_in {l z : List UInt8} {d : Nat} (h : blankL false l < d) (hd2 : d ≤ l.length) (k : Nat) :
    srcT (l.take d ++ z ++ l.drop d) k = lexA ((l.drop (blankL false l)).take (d - blankL false l) ++ z ++ (l.drop (blankL false l)).drop (d - blankL false l)) (k + blankL false l) := by
  have hl : (l.take d).length = d := by simp; omega
  have hx : blankL false (l.take d) = blankL false l := blankL_take _ _ _ (by omega)
  have h1 := blank_stop false (l.take d) (z ++ l.drop d) (by omega)
  unfold srcT
  rw [List.append_assoc, h1, hx]
  congr 1
  rw [List.drop_append_of_le_length (by omega), List.drop_take, List.append_assoc, List.drop_drop, show blankL false l + (d - blankL false l) = d by omega]
theorem textL_at (k0 : Nat) (t : Tok) (tt : Nat) (l : List UInt8) (j : Nat) (b : List UInt8) (h : textL k0 l j b = .tok t tt) : t.at_ = k0 := by
  fun_induction textL k0 l j b <;> simp_all
  all_goals (obtain ⟨rfl, -⟩ := h; rfl)
theorem sgn_at {l : List UInt8} {t : Tok} {tt : Nat} : ∀ ps, sgnL l ps = .tok t tt → t.at_ = 0
  | [], h => by
    unfold sgnL at h
    split at h
    · cases h; rfl
    · cases h
  | p :: ps, h => by
    unfold sgnL at h
    split at h
    · cases h; rfl
    · exact sgn_at ps h
theorem head_at {l : List UInt8} {t : Tok} {tt : Nat} (h : headT l = .tok t tt) : t.at_ = 0 := by
  cases l with
  | nil => rw [head_nil] at h; cases h
  | cons b l =>
    rcases heads b with hb | hb | hb | ⟨hb, hb2⟩
    · rw [head_name hb] at h
      split at h
      · cases h
      · cases h; rfl
    · rw [head_num hb] at h
      unfold numOf at h
      split at h
      · split at h
        · cases h
        · cases h; rfl
      · cases h
    · subst hb
      rw [head_text] at h
      exact textL_at _ _ _ _ _ _ h
    · rw [head_sign hb hb2] at h
      exact sgn_at _ (orChar_tok h)
theorem lexA_fill (l : List UInt8) : ∀ (k : Nat) (ts : List Tok) (j : Nat) (t : Tok), lexA l k = .ok ts → ts[j]? = some t → ∃ d : Nat, t.at_ = k + d ∧ d ≤ l.length ∧ (j = 0 → d = 0) ∧ (0 < j → 0 < d ∧ ∀ z, Zok z (l.drop d) → ∃ us, lexA (l.take d ++ z ++ l.drop d) k = .ok us ∧ us.map Tok.strip = ts.map Tok.strip) := by
  induction l using lex_ind with
  | nil =>
    intro k ts j t h ht
    rw [lexA_nil] at h
    cases h
    cases j with
    | zero => simp at ht; subst ht; exact ⟨0, by simp, by simp, fun _ => rfl, fun h => by omega⟩
    | succ j => simp at ht
  | err l c hl h => intro k ts j t h2; rw [lexA_err hl h] at h2; cases h2
  | none l hl h => intro k ts j t h2; rw [lexA_none hl h] at h2; cases h2
  | tok l t0 tt h h0 h1 ih =>
    intro k ts j t h2 ht
    rw [lexA_tok h] at h2
    obtain ⟨us, hus, rfl⟩ := cons_ok h2
    have hb := blankL_le false (l.drop tt)
    simp only [List.length_drop] at hb
    cases j with
    | zero =>
      simp at ht; subst ht
      exact ⟨0, by simp [Tok.shift, head_at h], by omega, fun _ => rfl, fun h => by omega⟩
    | succ j =>
      simp at ht
      obtain ⟨d2, a1, a2, a3, a4⟩ := ih _ us j t hus ht
      simp only [List.length_drop] at a2
      refine ⟨tt + blankL false (l.drop tt) + d2, by rw [a1]; omega, by omega, fun h => by omega, fun _ => ⟨by omega, fun z hz => ?_⟩⟩
      have e1 : l.drop (tt + blankL false (l.drop tt) + d2) = (l.drop tt).drop (blankL false (l.drop tt) + d2) := by rw [List.drop_drop]; congr 1; omega
      have e2 : (l.take (tt + blankL false (l.drop tt) + d2)).drop tt = (l.drop tt).take (blankL false (l.drop tt) + d2) := by rw [List.drop_take]; congr 1; omega
      have hl3 : (l.take (tt + blankL false (l.drop tt) + d2)).length = tt + blankL false (l.drop tt) + d2 := by simp; omega
      have hh : headT (l.take (tt + blankL false (l.drop tt) + d2) ++ z ++ l.drop (tt + blankL false (l.drop tt) + d2)) = .tok t0 tt := by
        have e3 := head_take h (m := tt + blankL false (l.drop tt) + d2) (by omega)
        rw [List.append_assoc, head_append ?_ (hz.1.app _) (.inl ⟨_, _, e3⟩), e3]
        intro h9
        rw [h9] at hl3
        simp at hl3; omega
      rw [lexA_tok hh, List.append_assoc, List.drop_append_of_le_length (by omega), e2, e1, ← List.append_assoc]
      rw [e1] at hz
      rcases Nat.eq_zero_or_pos j with hj | hj
      · obtain rfl := a3 hj
        rw [Nat.add_zero] at hz ⊢
        rw [skip_at0 rfl hz, lexA_shift]
        have : lexA ((l.drop tt).drop (blankL false (l.drop tt))) (k + tt + blankL false (l.drop tt)) = .ok us := hus
        rw [this]
        exact ⟨_, rfl, by simp only [List.map_cons]; rw [strip_shift]⟩
      · obtain ⟨b1, b2⟩ := a4 hj
        rw [skip_in (by omega) (by simp; omega), show blankL false (l.drop tt) + d2 - blankL false (l.drop tt) = d2 by omega]
        obtain ⟨vs, c1, c2⟩ := b2 z (by rw [List.drop_drop]; exact hz)
        rw [c1]
        exact ⟨_, rfl, by simp only [List.map_cons]; rw [c2]⟩
theorem srcT_fill {l : List UInt8} {ts : List Tok} {j : Nat} {t : Tok} (h : srcT l 0 = .ok ts) (ht : ts[j]? = some t) : ∃ d : Nat, t.at_ = d ∧ d ≤ l.length ∧ ∀ z, Zok z (l.drop d) → ∃ us, srcT (l.take d ++ z ++ l.drop d) 0 = .ok us ∧ us.map Tok.strip = ts.map Tok.strip := by
  have hb := blankL_le false l
  obtain ⟨d2, a1, a2, a3, a4⟩ := lexA_fill _ _ ts j t h ht
  simp only [List.length_drop] at a2
  refine ⟨blankL false l + d2, by rw [a1]; simp, by omega, fun z hz => ?_⟩
  rcases Nat.eq_zero_or_pos j with hj | hj
  · obtain rfl := a3 hj
    rw [Nat.add_zero] at hz ⊢
    rw [skip_at0 rfl hz, lexA_shift]
    have : lexA (l.drop (blankL false l)) (0 + blankL false l) = .ok ts := h
    rw [this]
    exact ⟨_, rfl, strip_shift _ _⟩
  · obtain ⟨b1, b2⟩ := a4 hj
    rw [skip_in (by omega) (by omega), show blankL false l + d2 - blankL false l = d2 by omega]
    exact b2 z (by rw [List.drop_drop]; exact hz)
theorem comment_ok : ∀ (put : List UInt8), (∀ b ∈ put, b ≠ 10) → blankL true (put ++ [10]) = put.length + 1 ∧ modeA true (put ++ [10]) = false
  | [], _ => by constructor <;> rfl
  | b :: put, h => by
    obtain ⟨h1, h2⟩ := comment_ok put fun x hx => h x (List.mem_cons_of_mem _ hx)
    have hb := h b (List.mem_cons_self ..)
    simp only [blankL, List.cons_append, modeA, List.length_cons]
    rw [if_neg hb, if_neg hb, h1, h2]
    exact ⟨rfl, rfl⟩
/-- the blanks of the law -/
theorem zok_put (put : List UInt8) (h : ∀ b ∈ put, b ≠ 10) {y : List UInt8} (hy : y ≠ []) : Zok (35 :: (put ++ [10])) y := by
  refine ⟨⟨35, _, rfl, by simp⟩, fun c hc => ?_⟩
  cases c with
  | true => exact absurd (hc rfl) hy
  | false =>
    obtain ⟨h1, h2⟩ := comment_ok put h
    simp only [blankL, modeA]
    rw [if_neg (by decide), if_pos trivial, if_neg (by decide), h1, h2]
    simp
theorem zok_one {z y : List UInt8} (hz : z = [32] ∨ z = [9, 13] ∨ z = [10]) (hy : y ≠ []) : Zok z y := by
  refine ⟨?_, fun c hc => ?_⟩
  · rcases hz with rfl | rfl | rfl
    · exact ⟨_, _, rfl, by simp⟩
    · exact ⟨_, _, rfl, by simp⟩
    · exact ⟨_, _, rfl, by simp⟩
  · cases c with
    | true => exact absurd (hc rfl) hy
    | false => rcases hz with rfl | rfl | rfl <;> exact ⟨by decide, by decide⟩
/-- behind a line feed anything that is blank may follow -/
theorem zok_line {z : List UInt8} (h : blankL false z = z.length ∧ modeA false z = false) : Zok (10 :: z) [] := by
  refine ⟨⟨10, z, rfl, by simp⟩, fun c _ => ?_⟩
  cases c with
  | true => simp only [blankL, modeA]; rw [if_pos trivial, if_pos trivial, h.1]; exact ⟨rfl, h.2⟩
  | false => simp only [blankL, modeA]; rw [if_pos (by decide), if_pos (by decide), h.1]; exact ⟨rfl, h.2⟩
theorem Zok.flat {z y : List UInt8} (h : Zok z y) : blankL false z = z.length ∧ modeA false z = false := h.2 false fun h => by cases h
end Go.Proofs.YtdjjifljlkjafaaGreatDoor
