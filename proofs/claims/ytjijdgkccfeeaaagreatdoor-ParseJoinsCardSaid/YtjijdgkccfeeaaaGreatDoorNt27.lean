/- Part 27 of the proofs about parse: LexJoinP, ParJoin. Conditions: those of each theorem. -/
import Derived.Test.YtjijdgkccfeeaaaGreatDoorNt01
import Derived.Test.YtjijdgkccfeeaaaGreatDoorNt24
import Derived.Test.YtjijdgkccfeeaaaGreatDoorNt26
namespace Go.Proofs.YtjijdgkccfeeaaaGreatDoor
open Go Go.Proofs
def joined (a b : ByteArray) : ByteArray := a ++ ⟨#[10]⟩ ++ b
theorem joined_list (a b : ByteArray) : (joined a b).data.toList = a.data.toList ++ 10 :: b.data.toList := by
  simp [joined]
theorem joined_size (a b : ByteArray) : (joined a b).size = a.size + 1 + b.size := by
  simp [joined, ByteArray.size_append]; rfl
theorem tokensP_joined (a b : ByteArray) (ha : a.size ≤ 2000) (hb : b.size ≤ 2000) : tokensP (joined a b) = joinR (tokensP a) (a.size + 1) b.data.toList := by
  rw [tokensP_eq, tokensP_eq, if_neg (by rw [joined_size]; omega), if_neg (by omega), joined_list, srcT_join]
  congr 1
  simp
theorem joined_err1 {a b : ByteArray} (ha : a.size ≤ 2000) (hb : b.size ≤ 2000) {k : Nat} {c : Int} (h : tokensP a = .err k c) : tokensP (joined a b) = .err k c := by
  rw [tokensP_joined a b ha hb, h]; rfl
theorem joined_err2 {a b : ByteArray} (ha : a.size ≤ 2000) (hb : b.size ≤ 2000) {l : List Tok} {k : Nat} {c : Int} (h : tokensP a = .ok l) (h2 : tokensP b = .err k c) : tokensP (joined a b) = .err (k + (a.size + 1)) c := by
  rw [tokensP_joined a b ha hb, h]
  rw [tokensP_eq, if_neg (by omega)] at h2
  show (srcT _ _).pre _ = _
  rw [show a.size + 1 = 0 + (a.size + 1) by omega, srcT_shift, h2]
  simp [LR.shift, LR.pre]
theorem joined_ok {a b : ByteArray} (ha : a.size ≤ 2000) (hb : b.size ≤ 2000) {l m : List Tok} (h : tokensP a = .ok l) (h2 : tokensP b = .ok m) : tokensP (joined a b) = .ok (l.dropLast ++ m.map (Tok.shift (a.size + 1))) := by
  rw [tokensP_joined a b ha hb, h]
  rw [tokensP_eq, if_neg (by omega)] at h2
  show (srcT _ _).pre _ = _
  rw [show a.size + 1 = 0 + (a.size + 1) by omega, srcT_shift, h2]
  simp [LR.shift, LR.pre]
theorem lexA_within (l : List UInt8) : ∀ (k : Nat) (ts : List Tok), lexA l k = .ok ts → ∀ t ∈ ts, (k : Int) ≤ t.at_ ∧ t.at_ ≤ (k + l.length : Nat) := by
  induction l using lex_ind with
  | nil => intro k ts h t ht; rw [lexA_nil] at h; cases h; simp at ht; subst ht; simp
  | err l c hl h => intro k ts h2; rw [lexA_err hl h] at h2; cases h2
  | none l hl h => intro k ts h2; rw [lexA_none hl h] at h2; cases h2
  | tok l t0 tt h h0 h1 ih =>
    intro k ts h2 t ht
    rw [lexA_tok h] at h2
    obtain ⟨us, hus, rfl⟩ := cons_ok h2
    have hb := blankL_le false (l.drop tt)
    simp only [List.length_drop] at hb
    rcases List.mem_cons.1 ht with rfl | ht
    · simp [Tok.shift, head_at h]
      omega
    · have := ih _ us hus t ht
      simp only [List.length_drop] at this
      omega
theorem tokensP_within {s : ByteArray} {ts : List Tok} (h : tokensP s = .ok ts) : ∀ t ∈ ts, 0 ≤ t.at_ ∧ t.at_ ≤ s.size := by
  rw [tokensP_eq] at h
  split at h
  · cases h
  · intro t ht
    have := lexA_within _ _ _ h t ht
    have hb := blankL_le false s.data.toList
    simp only [List.length_drop] at this
    have h3 : s.data.toList.length = s.size := by simp
    omega
end Go.Proofs.YtjijdgkccfeeaaaGreatDoor
namespace Go.Proofs.YtjijdgkccfeeaaaGreatDoor
open Go Go.Proofs
theorem endP_ok {α : Type} {ts : List Tok} {r : PR α} {x : α} (h : endP ts r = .ok x) : ∃ j t, r = .ok x j ∧ ts[j]? = some t ∧ t.kind = 5 := by
  unfold endP at h
  cases r with
  | err j c => cases h
  | ok y j =>
    dsimp only at h
    split at h
    · rename_i h5
      cases h
      cases ht : ts[j]? with
      | none => rw [ht] at h5; cases h5
      | some t => rw [ht] at h5; exact ⟨j, t, rfl, ht, by simpa using h5⟩
    · cases h
theorem endP_bad {α : Type} {ts : List Tok} {r : PR α} {a c : Int} {n : Nat} (hf : Fits ts.length n r) (h : endP ts r = .bad a c) : ∃ t ∈ ts, a = t.at_ := by
  have key : ∀ j, j < ts.length → ∃ t ∈ ts, atT ts j = t.at_ := fun j hj => by
    obtain ⟨t, ht⟩ := some_of_lt hj
    exact ⟨t, List.mem_of_getElem? ht, by rw [atT, ht]⟩
  unfold endP at h
  cases r with
  | err j e => cases h; exact key j hf.1
  | ok y j =>
    dsimp only at h
    split at h
    · cases h
    · cases h; exact key j hf.2
theorem forms_kind5 {ts : List Tok} : ∀ (f k n : Nat) (fs out : List Fm) (j : Nat), formsF ts f k n fs = some (.ok out j) → (ts[j]?).map (·.kind) = some 5 := by
  intro f
  induction f with
  | zero => intro k n fs out j h; simp [formsF] at h
  | succ f ih =>
    intro k n fs out j h
    cases ht : ts[k]? with
    | none => rw [formsF, ht] at h; cases h
    | some t =>
      rw [formsF, ht] at h
      dsimp only at h
      split at h
      · rename_i h5; cases h; rw [ht]; exact congrArg some h5
      · rcases PR.then_some h with ⟨_, _, _, h2⟩ | ⟨x, i, h1, h2⟩
        · cases h2
        exact ih _ _ _ _ _ h2
theorem formsP_cases (s : ByteArray) : (∃ k c, tokensP s = .err k c ∧ formsP s = .bad k c) ∨ ∃ ts us, tokensP s = .ok ts ∧ TokOK ts ∧ ts = us ++ [endTok s] ∧ (∀ t ∈ us, GoodT t) ∧ us.length ≤ s.size ∧
    ((∃ fs, readF ts = .ok fs us.length ∧ formsP s = .ok fs) ∨ ∃ j c, readF ts = .err j c ∧ j < ts.length ∧ formsP s = .bad (atT ts j) c) := by
  cases hT : tokensP s with
  | err k c => exact .inl ⟨k, c, rfl, by unfold formsP; rw [hT]⟩
  | ok ts =>
    obtain ⟨ok, hpos, us, hus, hg, hl⟩ := tokens_good hT
    refine .inr ⟨ts, us, rfl, ok, hus, hg, hl, ?_⟩
    have hr := readF_some ok hpos
    have hf := forms_fits ok _ _ _ _ _ hr
    cases h : readF ts with
    | err j c => exact .inr ⟨j, c, rfl, by rw [h] at hf; exact hf.1, by unfold formsP; rw [hT]; dsimp only; rw [h]; rfl⟩
    | ok fs j =>
      rw [h] at hr
      have h5 := forms_kind5 _ _ _ _ _ _ hr
      have hj : j = us.length := by
        cases htj : ts[j]? with
        | none => rw [htj] at h5; cases h5
        | some t =>
          rw [htj] at h5
          have hk : t.kind = 5 := by simpa using h5
          have hlt := lt_of_some htj
          rw [hus, List.length_append, List.length_singleton] at hlt
          rcases Nat.lt_or_ge j us.length with h1 | h1
          · rw [hus, List.getElem?_append_left h1] at htj
            exact absurd hk (hg t (List.mem_of_getElem? htj)).kind
          · omega
      subst hj
      exact .inl ⟨fs, rfl, formsP_of hT h h5⟩
theorem atT_joined {ua tb : List Tok} {c j : Nat} (hj : j < tb.length) : atT (ua ++ tb.map (Tok.shift c)) (ua.length + j) = atT tb j + c := by
  obtain ⟨t, ht⟩ := some_of_lt hj
  unfold atT
  rw [List.getElem?_append_right (by omega), Nat.add_sub_cancel_left, List.getElem?_map, ht]
  rfl
def joinF (l : List Fm) (c : Nat) : PE (List Fm) → PE (List Fm)
  | .ok m => .ok (l ++ m.map (shF c))
  | .bad q e => .bad (q + c) e
theorem forms_joined {a b : ByteArray} (ha : a.size ≤ 300) (hb : b.size ≤ 300) {l : List Fm} (hl : formsP a = .ok l) : formsP (joined a b) = joinF l (a.size + 1) (formsP b) := by
  rcases formsP_cases a with ⟨k, c, h1, h2⟩ | ⟨ta, ua, hTa, oka, hua, hga, hla, h⟩
  · rw [hl] at h2; cases h2
  rcases h with ⟨fs, hra, h2⟩ | ⟨j, c, -, -, h2⟩
  rotate_left
  · rw [hl] at h2; cases h2
  rw [hl] at h2
  cases h2
  rcases formsP_cases b with ⟨k, c, h1, h2⟩ | ⟨tb, ub, hTb, okb, hub, hgb, hlb, h⟩
  · rw [h2]
    unfold formsP
    rw [joined_err2 (by omega) (by omega) hTa h1]
    simp [joinF]
  · have hT := joined_ok (by omega) (by omega) hTa hTb
    rw [hua, List.dropLast_concat] at hT
    obtain ⟨ok, hpos, -⟩ := tokens_good hT
    have hr := readF_some ok hpos
    have hra' := readF_some oka (by rw [hua]; simp)
    have hrb := readF_some okb (by rw [hub]; simp)
    rw [hra] at hra'
    have hlta : ta.length ≤ 2000 := by rw [hua]; simp; omega
    have hltb : tb.length = ub.length + 1 := by rw [hub]; simp
    have hlu : (ua ++ tb.map (Tok.shift (a.size + 1))).length ≤ 2000 := by simp; omega
    obtain ⟨n', hn', hon⟩ := run_on (us := ua ++ tb.map (Tok.shift (a.size + 1))) oka ok hlta hlu (fun i hi => by rw [List.getElem?_append_left hi, hua, List.getElem?_append_left hi]) _ 0 0 [] l (Nat.le_refl 0) hra'
    have S : Sim tb (ua ++ tb.map (Tok.shift (a.size + 1))) ua.length (a.size + 1) ub.length true := ⟨fun i _ => by rw [List.getElem?_append_right (by omega), Nat.add_sub_cancel_left, List.getElem?_map],
      fun t ht => ⟨t.shift (a.size + 1), by rw [List.getElem?_append_right (by omega), Nat.add_sub_cancel_left, List.getElem?_map, ht]; rfl, .inl rfl⟩, fun _ => by omega⟩
    obtain ⟨r', h3, h4⟩ := sim_forms (n0 := n') okb S (by omega) l (tb.length * 32 + 17) (ta.length * 32 + 17 + (tb.length * 32 + 17)) 0 0 [] _ (by omega) (Nat.le_refl 0) hrb
    rw [Nat.add_zero, Nat.zero_add, List.map_nil, List.append_nil] at h3
    obtain ⟨g', h5⟩ := hon _ _ (by omega) h3
    have h6 := forms_det ok hlu (Nat.le_refl 0) hr h5
    rcases h with ⟨m, hm, h7⟩ | ⟨j, c, hm, hj, h7⟩
    · rw [hm] at h4
      rcases h4 with rfl | ⟨h8, -⟩
      · rw [h7]
        refine formsP_of hT h6 ?_
        rw [List.getElem?_append_right (by omega), Nat.add_sub_cancel_left, List.getElem?_map, hub, List.getElem?_append_right (Nat.le_refl _), Nat.sub_self]
        rfl
      · exact h8.elim
    · rw [hm] at h4
      have h8 : r' = .err (ua.length + j) c := h4
      subst h8
      rw [h7]
      unfold formsP
      rw [hT]
      dsimp only
      rw [h6]
      show PE.bad (atT _ _) c = PE.bad _ c
      rw [atT_joined hj]
theorem forms_bad_at {a : ByteArray} (ha : a.size ≤ 300) {p c : Int} (h : formsP a = .bad p c) : 0 ≤ p ∧ p ≤ a.size := by
  rcases formsP_cases a with ⟨k, e, h1, h2⟩ | ⟨ta, ua, hTa, oka, hua, hga, hla, h2⟩
  · rw [h] at h2
    cases h2
    have := (tokensP_before (by omega) h1).1
    omega
  · rcases h2 with ⟨fs, -, h2⟩ | ⟨j, e, -, hj, h2⟩
    · rw [h] at h2; cases h2
    · rw [h] at h2
      cases h2
      obtain ⟨t, ht⟩ := some_of_lt hj
      rw [atT, ht]
      exact tokensP_within hTa t (List.mem_of_getElem? ht)
end Go.Proofs.YtjijdgkccfeeaaaGreatDoor
