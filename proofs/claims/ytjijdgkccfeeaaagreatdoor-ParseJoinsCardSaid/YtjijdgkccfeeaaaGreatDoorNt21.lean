/- Part 21 of the proofs about parse: ParVals, LexSrc, ParSim. Conditions: those of each theorem. -/
import Derived.Test.YtjijdgkccfeeaaaGreatDoorNt01
import Derived.Test.YtjijdgkccfeeaaaGreatDoorNt05
import Derived.Test.YtjijdgkccfeeaaaGreatDoorNt15
import Derived.Test.YtjijdgkccfeeaaaGreatDoorNt20
namespace Go.Proofs.YtjijdgkccfeeaaaGreatDoor
open Go Go.Proofs Go.RowKit
attribute [local go_sem] Oper.semAt_some
def formsV (s : ByteArray) : List Fm × Int × Int := match formsP s with | .bad a c => ([], a, c) | .ok fs => (fs, 0, 0)
def exprV (s : ByteArray) : Ex × Int × Int := match exprP s with | .bad a c => (noEx, a, c) | .ok x => (x, 0, 0)
theorem forms_v (s : ByteArray) (w : World) (hv : PV w.heap.size w) : Calls Tryz.prog 9 #[.string s] w fun e w' => ∃ p c, e = .returned (.tuple #[.slice p (formsV s).1.length c, .agg #[(.int .i64 ((formsV s).2.1)), (.int .i64 ((formsV s).2.2))]]) ∧ FormsAt w' (fun _ => True) (formsV s).1 (.slice p (formsV s).1.length c) ∧ Below w.heap.size w w' := by
  cases hr : formsP s with
  | bad a c =>
    have e1 : formsV s = ([], a, c) := by rw [formsV, hr]
    rw [e1]
    refine (forms_bad s a c hr w hv).mono ?_
    rintro e w' ⟨hb, rfl⟩
    exact ⟨none, 0, rfl, .nil _ _, hb⟩
  | ok fs =>
    have e1 : formsV s = (fs, 0, 0) := by rw [formsV, hr]
    rw [e1]
    refine (forms_ok s fs hr w hv).mono ?_
    rintro e w' ⟨hb, p, c, rfl, hf⟩
    exact ⟨p, c, rfl, hf, hb⟩
theorem expr_v (s : ByteArray) (w : World) (hv : PV w.heap.size w) : Calls Tryz.prog 10 #[.string s] w fun e w' => ∃ p c, e = .returned (.tuple #[.agg #[(.int .i64 ((exprV s).1.op)), (.int .i64 ((exprV s).1.n)), .string (exprV s).1.s, .slice p (exprV s).1.kids.length c, (.int .i64 ((exprV s).1.at_))], .agg #[(.int .i64 ((exprV s).2.1)), (.int .i64 ((exprV s).2.2))]]) ∧ KidsAt w' (fun _ => True) (exprV s).1.kids (.slice p (exprV s).1.kids.length c) ∧ Below w.heap.size w w' := by
  cases hr : exprP s with
  | bad a c =>
    have e1 : exprV s = (noEx, a, c) := by rw [exprV, hr]
    rw [e1]
    refine (expr_bad s a c hr w hv).mono ?_
    rintro e w' ⟨hb, rfl⟩
    exact ⟨none, 0, rfl, .nil _ _, hb⟩
  | ok x =>
    have e1 : exprV s = (x, 0, 0) := by rw [exprV, hr]
    rw [e1]
    refine (expr_ok s x hr w hv).mono ?_
    rintro e w' ⟨hb, p, c, rfl, hf⟩
    exact ⟨p, c, rfl, hf, hb⟩
theorem exprV_ok {s : ByteArray} {x : Ex} (h : exprP s = .ok x) : exprV s = (x, 0, 0) := by rw [exprV, h]
theorem exprV_bad {s : ByteArray} {a c : Int} (h : exprP s = .bad a c) : exprV s = (noEx, a, c) := by rw [exprV, h]
theorem formsV_ok {s : ByteArray} {fs : List Fm} (h : formsP s = .ok fs) : formsV s = (fs, 0, 0) := by rw [formsV, h]
theorem formsV_bad {s : ByteArray} {a c : Int} (h : formsP s = .bad a c) : formsV s = ([], a, c) := by rw [formsV, h]
theorem same_off (x y : Ex) (h : sameX false x y = true) (a b : Value) (W : World) (h1 : KidsAt W (fun _ => True) x.kids a) (h2 : KidsAt W (fun _ => True) y.kids b) : Calls Tryz.prog 16 #[exA x a, exA y b] W fun e w' => e = .returned (.bool true) ∧ Turned (fun _ => False) W w' := by
  have := sameExpr_any _ x (Nat.le_refl _) y a b W h1 h2
  rw [h] at this
  exact this
theorem St.cells8 {T : World → Prop} {w W : World} {L : List (Nat × Obj)} (h : Hid (St T w W L)) (i : Nat) {N t : Nat} {a b c d e f g k : Value} (hi : L[i]? = some (N, .cells #[a, b, c, d, e, f, g, k] t (0, 0))) : W.cell? ⟨N, 0, none⟩ = some a ∧ W.cell? ⟨N, 1, none⟩ = some b ∧ W.cell? ⟨N, 2, none⟩ = some c ∧ W.cell? ⟨N, 3, none⟩ = some d ∧ W.cell? ⟨N, 4, none⟩ = some e ∧ W.cell? ⟨N, 5, none⟩ = some f ∧ W.cell? ⟨N, 6, none⟩ = some g ∧ W.cell? ⟨N, 7, none⟩ = some k := by
  simp [World.cell?, h.out.lays.get i hi]
end Go.Proofs.YtjijdgkccfeeaaaGreatDoor
namespace Go.Proofs.YtjijdgkccfeeaaaGreatDoor
open Go Go.Proofs
def modeA : Bool → List UInt8 → Bool
  | c, [] => c
  | false, b :: l => if cls b = 1 then modeA false l else modeA true l
  | true, b :: l => if b = 10 then modeA false l else modeA true l
theorem blank_all : ∀ (c : Bool) (x y : List UInt8), blankL c x = x.length → blankL c (x ++ y) = x.length + blankL (modeA c x) y
  | c, [], y, _ => by cases c <;> simp [modeA]
  | false, b :: x, y, h => by
    simp only [blankL, List.cons_append, modeA, List.length_cons] at h ⊢
    split
    · rename_i h1
      rw [if_pos h1] at h
      rw [blank_all false x y (by omega)]; omega
    · rename_i h1
      rw [if_neg h1] at h
      split
      · rename_i h2
        rw [if_pos h2] at h
        rw [blank_all true x y (by omega)]; omega
      · rename_i h2
        rw [if_neg h2] at h; omega
  | true, b :: x, y, h => by
    simp only [blankL, List.cons_append, modeA, List.length_cons] at h ⊢
    split
    · rename_i h1
      rw [if_pos h1] at h
      rw [blank_all false x y (by omega)]; omega
    · rename_i h1
      rw [if_neg h1] at h
      rw [blank_all true x y (by omega)]; omega
theorem blank_stop : ∀ (c : Bool) (x y : List UInt8), blankL c x < x.length → blankL c (x ++ y) = blankL c x
  | c, [], y, h => by simp at h
  | false, b :: x, y, h => by
    simp only [blankL, List.cons_append, List.length_cons] at h ⊢
    split
    · rename_i h1
      rw [if_pos h1] at h
      rw [blank_stop false x y (by omega)]
    · rename_i h1
      rw [if_neg h1] at h
      split
      · rename_i h2
        rw [if_pos h2] at h
        rw [blank_stop true x y (by omega)]
      · rfl
  | true, b :: x, y, h => by
    simp only [blankL, List.cons_append, List.length_cons] at h ⊢
    split
    · rename_i h1
      rw [if_pos h1] at h
      rw [blank_stop false x y (by omega)]
    · rename_i h1
      rw [if_neg h1] at h
      rw [blank_stop true x y (by omega)]
theorem blank_line (c : Bool) (y : List UInt8) : blankL c (10 :: y) = 1 + blankL false y := by
  cases c
  · simp only [blankL]; rw [if_pos (by decide)]; omega
  · simp only [blankL]; rw [if_pos trivial]; omega
def LR.cons (t : Tok) : LR → LR
  | .ok ts => .ok (t :: ts)
  | .err k c => .err k c
def LR.pre (us : List Tok) : LR → LR
  | .ok ts => .ok (us ++ ts)
  | .err k c => .err k c
def LR.shift (d : Nat) : LR → LR
  | .ok ts => .ok (ts.map (Tok.shift d))
  | .err k c => .err (k + d) c
def lexA : List UInt8 → Nat → LR
  | [], k => .ok [⟨5, k, ⟨#[]⟩, 0⟩]
  | b :: l, k =>
    match headT (b :: l) with
    | .tok t tt => (lexA (l.drop (tt - 1 + blankL false ((b :: l).drop tt))) (k + tt + blankL false ((b :: l).drop tt))).cons (t.shift k)
    | .err c => .err k c
    | .none => .err k 26
  termination_by l => l.length
  decreasing_by simp; omega
def srcT (l : List UInt8) (k : Nat) : LR := lexA (l.drop (blankL false l)) (k + blankL false l)
theorem lexA_nil (k : Nat) : lexA [] k = .ok [⟨5, k, ⟨#[]⟩, 0⟩] := by unfold lexA; rfl
theorem lexA_tok {l : List UInt8} {k : Nat} {t : Tok} {tt : Nat} (h : headT l = .tok t tt) : lexA l k = (srcT (l.drop tt) (k + tt)).cons (t.shift k) := by
  have hf := head_fits h
  cases l with
  | nil => rw [head_nil] at h; cases h
  | cons b l =>
    unfold lexA srcT
    rw [h]
    obtain ⟨u, rfl⟩ : ∃ u, tt = u + 1 := ⟨tt - 1, by omega⟩
    simp only [List.drop_succ_cons, List.drop_drop, Nat.add_sub_cancel]
theorem lexA_err {l : List UInt8} {k : Nat} {c : Int} (hl : l ≠ []) (h : headT l = .err c) : lexA l k = .err k c := by
  cases l with
  | nil => exact absurd rfl hl
  | cons b l => unfold lexA; rw [h]
theorem lexA_none {l : List UInt8} {k : Nat} (hl : l ≠ []) (h : headT l = .none) : lexA l k = .err k 26 := by
  cases l with
  | nil => exact absurd rfl hl
  | cons b l => unfold lexA; rw [h]
theorem srcT_len (l : List UInt8) : (l.drop (blankL false l)).length = l.length - blankL false l := by simp
theorem lex_ind {P : List UInt8 → Prop} (nil : P []) (err : ∀ l c, l ≠ [] → headT l = .err c → P l) (none : ∀ l, l ≠ [] → headT l = .none → P l)
    (tok : ∀ l t tt, headT l = .tok t tt → 0 < tt → tt ≤ l.length → P ((l.drop tt).drop (blankL false (l.drop tt))) → P l) : ∀ l, P l := by
  have : ∀ (n : Nat) (l : List UInt8), l.length ≤ n → P l := by
    intro n
    induction n with
    | zero =>
      intro l hl
      obtain rfl : l = [] := List.length_eq_zero_iff.1 (by omega)
      exact nil
    | succ n ih =>
      intro l hl
      by_cases h0 : l = []
      · subst h0; exact nil
      · cases h : headT l with
        | none => exact none l h0 h
        | err c => exact err l c h0 h
        | tok t tt =>
          have hf := head_fits h
          exact tok l t tt h hf.1 hf.2 (ih _ (by simp; omega))
  exact fun l => this l.length l (Nat.le_refl _)
theorem cons_pre (t : Tok) (us : List Tok) (r : LR) : (r.cons t).pre us = r.pre (us ++ [t]) := by
  cases r <;> simp [LR.cons, LR.pre]
theorem lexF_eq (s : ByteArray) : ∀ (f k : Nat) (ts : List Tok), k ≤ s.size → s.size < k + f → lexF s f k ts = (lexA (rest s k) k).pre ts
  | 0, k, ts, h, hf => by omega
  | f + 1, k, ts, h, hf => by
    by_cases hk : k < s.size
    · have hne : rest s k ≠ [] := by rw [rest_cons s k hk]; simp
      unfold lexF
      rw [if_pos hk, next_head s k hk]
      cases hT : headT (rest s k) with
      | none => rw [lexA_none hne hT]; rfl
      | err c => rw [lexA_err hne hT]; rfl
      | tok t tt =>
        have hft := head_fits hT
        rw [rest_len] at hft
        have hle := blankTo_le s (tt + k) (by omega)
        have hge := blankTo_ge s (tt + k)
        rw [lexA_tok hT, cons_pre]
        simp only [TR.shift]
        rw [lexF_eq s f _ _ hle (by omega)]
        congr 1
        unfold srcT blankTo
        rw [← rest_drop, ← rest_drop, Nat.add_comm tt k, Nat.add_assoc]
    · obtain rfl : k = s.size := by omega
      rw [lexF_ok (by omega) rfl, rest_nil s _ (Nat.le_refl _), lexA_nil]
      rfl
theorem tokensP_eq (s : ByteArray) : tokensP s = if 65536 < s.size then .err 0 2 else srcT s.data.toList 0 := by
  unfold tokensP
  split
  · rfl
  · have h := blankTo_le s 0 (by omega)
    rw [lexF_eq s _ _ _ h (by omega)]
    unfold srcT blankTo
    have h2 : rest s 0 = s.data.toList := by simp [rest]
    rw [Nat.zero_add, ← Nat.zero_add (blankL false (rest s 0)), rest_drop, h2]
    cases lexA (List.drop (blankL false s.data.toList) s.data.toList) (0 + blankL false s.data.toList) <;> simp [LR.pre]
theorem cons_shift (t : Tok) (d k : Nat) (r : LR) : (r.shift d).cons (t.shift (k + d)) = (r.cons (t.shift k)).shift d := by
  cases r with
  | ok ts => simp [LR.cons, LR.shift, Tok.shift, Int.add_assoc]
  | err k c => rfl
theorem lexA_shift (d : Nat) (l : List UInt8) : ∀ k, lexA l (k + d) = (lexA l k).shift d := by
  induction l using lex_ind with
  | nil => intro k; rw [lexA_nil, lexA_nil]; simp [LR.shift, Tok.shift]
  | err l c hl h => intro k; rw [lexA_err hl h, lexA_err hl h]; rfl
  | none l hl h => intro k; rw [lexA_none hl h, lexA_none hl h]; rfl
  | tok l t tt h _ _ ih =>
    intro k
    rw [lexA_tok h, lexA_tok h]
    unfold srcT
    rw [show k + d + tt + blankL false (l.drop tt) = k + tt + blankL false (l.drop tt) + d by omega, ih, cons_shift]
theorem srcT_shift (d : Nat) (l : List UInt8) (k : Nat) : srcT l (k + d) = (srcT l k).shift d := by
  unfold srcT
  rw [Nat.add_right_comm, lexA_shift]
theorem cons_ok {t : Tok} {r : LR} {ts : List Tok} (h : r.cons t = .ok ts) : ∃ us, r = .ok us ∧ ts = t :: us := by
  cases r with
  | ok us => cases h; exact ⟨us, rfl, rfl⟩
  | err k c => cases h
theorem cons_err {t : Tok} {r : LR} {k : Nat} {c : Int} (h : r.cons t = .err k c) : r = .err k c := by
  cases r with
  | ok us => cases h
  | err k c => exact h
theorem lexA_ne {l : List UInt8} {k : Nat} {ts : List Tok} (h : lexA l k = .ok ts) : ts ≠ [] := by
  cases l with
  | nil => rw [lexA_nil] at h; cases h; simp
  | cons b l =>
    cases hT : headT (b :: l) with
    | none => rw [lexA_none (by simp) hT] at h; cases h
    | err c => rw [lexA_err (by simp) hT] at h; cases h
    | tok t tt =>
      rw [lexA_tok hT] at h
      obtain ⟨us, -, rfl⟩ := cons_ok h
      simp
theorem srcT_ne {l : List UInt8} {k : Nat} {ts : List Tok} (h : srcT l k = .ok ts) : ts ≠ [] := lexA_ne h
theorem lexA_before (l : List UInt8) : ∀ (j k : Nat) (c : Int), lexA l j = .err k c → j ≤ k ∧ k < j + l.length ∧ ∃ ts, lexA (l.take (k - j)) j = .ok ts := by
  induction l using lex_ind with
  | nil => intro j k c h; rw [lexA_nil] at h; cases h
  | err l c hl h =>
    intro j k d h2
    rw [lexA_err hl h] at h2
    cases h2
    have : 0 < l.length := List.length_pos_iff.2 hl
    rw [Nat.sub_self, List.take_zero]
    exact ⟨Nat.le_refl _, by omega, _, lexA_nil _⟩
  | none l hl h =>
    intro j k d h2
    rw [lexA_none hl h] at h2
    cases h2
    have : 0 < l.length := List.length_pos_iff.2 hl
    rw [Nat.sub_self, List.take_zero]
    exact ⟨Nat.le_refl _, by omega, _, lexA_nil _⟩
  | tok l t tt h h0 h1 ih =>
    intro j k c h2
    rw [lexA_tok h] at h2
    obtain ⟨a1, a2, ts, a3⟩ := ih _ k c (cons_err h2)
    have hb := blankL_le false (l.drop tt)
    simp only [List.length_drop] at a2 hb
    refine ⟨by omega, by omega, t.shift j :: ts, ?_⟩
    have hd : (l.take (k - j)).drop tt = (l.drop tt).take (k - j - tt) := List.drop_take
    rw [lexA_tok (head_take h (by omega)), hd]
    unfold srcT
    rw [blankL_take _ _ _ (by omega), List.drop_take, show k - j - tt - blankL false (l.drop tt) = k - (j + tt + blankL false (l.drop tt)) by omega, a3]
    rfl
theorem srcT_before {l : List UInt8} {k : Nat} {c : Int} (h : srcT l 0 = .err k c) : k < l.length ∧ ∃ ts, srcT (l.take k) 0 = .ok ts := by
  obtain ⟨a1, a2, ts, a3⟩ := lexA_before _ _ _ _ h
  have hb := blankL_le false l
  simp only [List.length_drop] at a2
  refine ⟨by omega, ts, ?_⟩
  unfold srcT
  rw [blankL_take _ _ _ (by omega), List.drop_take, show k - blankL false l = k - (0 + blankL false l) by omega, a3]
theorem tokensP_before {s : ByteArray} {k : Nat} {c : Int} (hs : s.size ≤ 65536) (h : tokensP s = .err k c) : k < s.size ∧ ∃ ts, tokensP (s.extract 0 k) = .ok ts ∧ ts ≠ [] := by
  rw [tokensP_eq, if_neg (by omega)] at h
  obtain ⟨h1, ts, h2⟩ := srcT_before h
  have h3 : s.data.toList.length = s.size := by simp
  rw [h3] at h1
  refine ⟨h1, ts, ?_, srcT_ne h2⟩
  rw [tokensP_eq, if_neg (by simp; omega), pre_list, h2]
def joinR (r : LR) (k : Nat) (b : List UInt8) : LR :=
  match r with
  | .ok ts => (srcT b k).pre ts.dropLast
  | .err j c => .err j c
theorem joinR_cons (r : LR) (t : Tok) (k : Nat) (b : List UInt8) (hr : ∀ ts, r = .ok ts → ts ≠ []) : joinR (r.cons t) k b = (joinR r k b).cons t := by
  cases r with
  | err j c => rfl
  | ok ts =>
    have := hr ts rfl
    cases ts with
    | nil => exact absurd rfl this
    | cons u us =>
      simp only [LR.cons, joinR, List.dropLast_cons_cons]
      cases srcT b k <;> rfl
theorem srcT_of_lexA {x : List UInt8} (b : List UInt8) (k : Nat) (ih : ∀ k, x.drop (blankL false x) ≠ [] → lexA (x.drop (blankL false x) ++ 10 :: b) k = joinR (lexA (x.drop (blankL false x)) k) (k + (x.drop (blankL false x)).length + 1) b) :
    srcT (x ++ 10 :: b) k = joinR (srcT x k) (k + x.length + 1) b := by
  have hb := blankL_le false x
  by_cases h : blankL false x = x.length
  · have e1 : srcT x k = .ok [⟨5, k + x.length, ⟨#[]⟩, 0⟩] := by
      unfold srcT
      rw [h, List.drop_length, lexA_nil]
      simp
    rw [e1]
    show _ = (srcT b _).pre []
    have e2 : ∀ r : LR, r.pre [] = r := fun r => by cases r <;> rfl
    rw [e2]
    unfold srcT
    rw [blank_all _ _ _ h, blank_line]
    congr 1
    · rw [← List.drop_drop, List.drop_left, Nat.add_comm, List.drop_succ_cons]
    · omega
  · have hlt : blankL false x < x.length := by omega
    have hne : x.drop (blankL false x) ≠ [] := by
      intro h0
      have := List.drop_eq_nil_iff.1 h0
      omega
    have := ih (k + blankL false x) hne
    conv => lhs; unfold srcT
    rw [blank_stop _ _ _ hlt, List.drop_append_of_le_length hb, this]
    congr 1
    simp; omega
theorem lexA_join (b : List UInt8) (x : List UInt8) : ∀ k, x ≠ [] → lexA (x ++ 10 :: b) k = joinR (lexA x k) (k + x.length + 1) b := by
  induction x using lex_ind with
  | nil => intro k h; exact absurd rfl h
  | err l c hl h =>
    intro k _
    have h2 := head_append (y := 10 :: b) hl ⟨10, b, rfl, by simp⟩ (.inr rfl)
    rw [lexA_err hl h, lexA_err (by simp) (h2.trans h)]
    rfl
  | none l hl h =>
    intro k _
    have h2 := head_append (y := 10 :: b) hl ⟨10, b, rfl, by simp⟩ (.inr rfl)
    rw [lexA_none hl h, lexA_none (by simp) (h2.trans h)]
    rfl
  | tok l t tt h h0 h1 ih =>
    intro k hl
    have h2 := head_append (y := 10 :: b) hl ⟨10, b, rfl, by simp⟩ (.inr rfl)
    rw [lexA_tok h, lexA_tok (h2.trans h), List.drop_append_of_le_length h1, srcT_of_lexA b (k + tt) ih, joinR_cons _ _ _ _ (fun ts hts => srcT_ne hts)]
    congr 2
    simp; omega
theorem srcT_join (x b : List UInt8) (k : Nat) : srcT (x ++ 10 :: b) k = joinR (srcT x k) (k + x.length + 1) b := srcT_of_lexA b k fun k => lexA_join b _ k
end Go.Proofs.YtjijdgkccfeeaaaGreatDoor
namespace Go.Proofs.YtjijdgkccfeeaaaGreatDoor
open Go Go.Proofs
mutual
def shX (c : Nat) : Ex → Ex
  | .mk p n s ks a => if p = 0 then .mk p n s ks a else .mk p n s (shXs c ks) (a + c)
def shXs (c : Nat) : List Ex → List Ex
  | [] => []
  | x :: xs => shX c x :: shXs c xs
end
theorem shXs_map (c : Nat) : ∀ l : List Ex, shXs c l = l.map (shX c)
  | [] => rfl
  | x :: l => by rw [shXs, shXs_map c l]; rfl
theorem shX_mk {c : Nat} {p n : Int} {s : ByteArray} {ks : List Ex} {a : Int} (h : p ≠ 0) : shX c (.mk p n s ks a) = .mk p n s (ks.map (shX c)) (a + c) := by rw [shX, if_neg h, shXs_map]
theorem shX_at {c : Nat} {x : Ex} (h : x.op ≠ 0) : (shX c x).at_ = x.at_ + c := by
  obtain ⟨p, n, s, ks, a⟩ := x
  rw [shX_mk (by exact h)]; rfl
theorem shX_op (c : Nat) (x : Ex) : (shX c x).op = x.op := by
  obtain ⟨p, n, s, ks, a⟩ := x
  by_cases h : p = 0
  · rw [shX, if_pos h]
  · rw [shX_mk h]; rfl
def shQ (c : Nat) : Qn → Qn
  | .expr => .expr
  | .level n => .level n
  | .loop n x => .loop n (shX c x)
  | .neg => .neg
  | .atom => .atom
  | .args t ks => .args (t.shift c) (ks.map (shX c))
def QNZ : Qn → Prop
  | .loop _ x => x.op ≠ 0
  | _ => True
structure Stops (u : Tok) : Prop where
  q : isS u ⟨#[63]⟩ = false
  p : isS u ⟨#[40]⟩ = false
  b : isS u ⟨#[33]⟩ = false
  m : isS u ⟨#[45]⟩ = false
  o : ∀ n, opAt n u = none
structure Sim (ts us : List Tok) (p c m : Nat) (full : Bool) : Prop where
  eq : ∀ i, i < m → us[p + i]? = (ts[i]?).map (Tok.shift c)
  last : ∀ t, ts[m]? = some t → ∃ u, us[p + m]? = some u ∧ (u = t.shift c ∨ (full = false ∧ t.kind = 5 ∧ Stops u))
  all : full = true → ts.length ≤ m + 1
def Good {α : Type} (full : Bool) (m : Nat) : PR α → Prop
  | .ok _ j => j ≤ m
  | .err _ _ => full = true
def Rel {α β : Type} (sh : α → β) (p : Nat) (lim : Prop) : PR α → PR β → Prop
  | .ok x j, r => r = .ok (sh x) (p + j) ∨ (lim ∧ ∃ i, r = .err i 2)
  | .err j e, r => r = .err (p + j) e
section
variable {ts us : List Tok} {p c m : Nat} {full : Bool}
theorem Sim.get (S : Sim ts us p c m full) {k : Nat} {t : Tok} (ht : ts[k]? = some t) (hk : k ≤ m) : ∃ u, us[p + k]? = some u ∧ (u = t.shift c ∨ (full = false ∧ t.kind = 5 ∧ Stops u)) := by
  rcases Nat.lt_or_ge k m with h | h
  · exact ⟨_, by rw [S.eq k h, ht]; rfl, .inl rfl⟩
  · obtain rfl : k = m := by omega
    exact S.last t ht
theorem Sim.get' (S : Sim ts us p c m full) {k : Nat} {t : Tok} (ht : ts[k]? = some t) (hk : k ≤ m) (h5 : full = true ∨ t.kind ≠ 5) : us[p + k]? = some (t.shift c) := by
  obtain ⟨u, hu, rfl | ⟨h1, h2, -⟩⟩ := S.get ht hk
  · exact hu
  · rcases h5 with h5 | h5
    · rw [h5] at h1; cases h1
    · exact absurd h2 h5
theorem Sim.le (S : Sim ts us p c m full) {α : Type} {r : PR α} {j : Nat} (hj : j < ts.length) (hg : Good full m r) (h : ∀ x i, r = .ok x i → j ≤ i) : j ≤ m := by
  cases r with
  | ok x i => exact Nat.le_trans (h x i rfl) hg
  | err i e => have := S.all hg; omega
theorem then_sim {α β γ δ : Type} {sh1 : α → γ} {sh2 : β → δ} {lim : Prop} (hl : lim → full = false) {r1 : Option (PR α)} {s1 : Option (PR γ)} {g : α → Nat → Option (PR β)} {g' : γ → Nat → Option (PR δ)} {r : PR β} (h : PR.then_ r1 g = some r) (hg : Good full m r)
    (Hk : ∀ x j, r1 = some (.ok x j) → g x j = some r → j ≤ m)
    (H1 : ∀ z, r1 = some z → Good full m z → ∃ z', s1 = some z' ∧ Rel sh1 p lim z z')
    (H2 : ∀ x j, r1 = some (.ok x j) → j ≤ m → g x j = some r → ∃ r', g' (sh1 x) (p + j) = some r' ∧ Rel sh2 p lim r r') :
    ∃ r', PR.then_ s1 g' = some r' ∧ Rel sh2 p lim r r' := by
  rcases PR.then_some h with ⟨j, e, h1, rfl⟩ | ⟨x, j, h1, h2⟩
  · obtain ⟨z', h3, h4⟩ := H1 _ h1 hg
    have h4' : z' = .err (p + j) e := h4
    subst h4'
    exact ⟨.err (p + j) e, by rw [h3]; rfl, rfl⟩
  · have hj := Hk x j h1 h2
    obtain ⟨z', h3, h4⟩ := H1 _ h1 hj
    rcases h4 with rfl | ⟨hlim, i, rfl⟩
    · obtain ⟨r', h5, h6⟩ := H2 x j h1 hj h2
      exact ⟨r', by rw [h3]; exact h5, h6⟩
    · cases r with
      | ok y i2 => exact ⟨.err i 2, by rw [h3]; rfl, .inr ⟨hlim, i, rfl⟩⟩
      | err i2 e => have h7 : full = true := hg; rw [hl hlim] at h7; cases h7
end
section
variable {ts : List Tok} {f k n : Nat} {d : Int} {t : Tok} {x : Ex} {ks : List Ex} {t0 : Tok}
theorem runF_tok {q : Qn} {r : PR Ex} (h : runF ts (f + 1) q k d = some r) : ∃ t, ts[k]? = some t := by
  unfold runF at h
  split at h
  · cases h
  · exact ⟨_, by assumption⟩
theorem runF_expr (ht : ts[k]? = some t) : runF ts (f + 1) .expr k d = match firstP t d true with
        | some c => some (.err k c)
        | none => PR.then_ (runF ts f (.level 1) k d) fun x j =>
          match ts[j]? with
          | none => none
          | some u => if !isS u ⟨#[63]⟩ then some (.ok x j) else
            PR.then_ (runF ts f .expr (j + 1) (d + 1)) fun a j2 =>
              match ts[j2]? with
              | none => none
              | some v => if !isS v ⟨#[58]⟩ then some (.err j2 5) else
                PR.then_ (runF ts f .expr (j2 + 1) (d + 1)) fun b j3 => some (.ok (.mk 20 0 noB [x, a, b] x.at_) j3) := by
  rw [runF, ht]; rfl
theorem runF_level (ht : ts[k]? = some t) : runF ts (f + 1) (.level n) k d = if n = 3 then
          if isS t ⟨#[33]⟩ then
            match ts[k + 1]? with
            | none => none
            | some u =>
              match firstP u (d + 1) true with
              | some c => some (.err (k + 1) c)
              | none => PR.then_ (runF ts f (.level 3) (k + 1) (d + 1)) fun x j => some (.ok (.mk 5 0 noB [x] t.at_) j)
          else runF ts f (.level 4) k d
        else if n = 7 then runF ts f .neg k d
        else PR.then_ (runF ts f (.level (n + 1)) k d) fun x j => runF ts f (.loop n x) j d := by
  rw [runF, ht]; rfl
theorem runF_loop (ht : ts[k]? = some t) : runF ts (f + 1) (.loop n x) k d = match opAt n t with
        | none => some (.ok x k)
        | some op => PR.then_ (runF ts f (.level (n + 1)) (k + 1) d) fun y j =>
          if n = 4 then some (.ok (.mk op 0 noB [x, y] x.at_) j) else runF ts f (.loop n (.mk op 0 noB [x, y] x.at_)) j d := by
  rw [runF, ht]; rfl
theorem runF_neg (ht : ts[k]? = some t) : runF ts (f + 1) .neg k d = if isS t ⟨#[45]⟩ then
          match ts[k + 1]? with
          | none => none
          | some u =>
            match firstP u (d + 1) false with
            | some c => some (.err (k + 1) c)
            | none => PR.then_ (runF ts f .neg (k + 1) (d + 1)) fun x j => some (.ok (.mk 6 0 noB [x] t.at_) j)
        else runF ts f .atom k d := by
  rw [runF, ht]; rfl
theorem runF_atom (ht : ts[k]? = some t) : runF ts (f + 1) .atom k d = if isS t ⟨#[40]⟩ then PR.then_ (runF ts f .expr (k + 1) (d + 1)) fun x j =>
          match ts[j]? with
          | none => none
          | some u => if isS u ⟨#[41]⟩ then some (.ok x (j + 1)) else some (.err j 5)
        else if t.kind = 2 then some (.ok (.mk 1 t.n noB [] t.at_) (k + 1))
        else if t.kind = 3 then some (.ok (.mk 2 0 t.s [] t.at_) (k + 1))
        else if t.kind = 1 then
          match ts[k + 1]? with
          | none => none
          | some u => if !isS u ⟨#[40]⟩ then some (.ok (.mk 3 0 t.s [] t.at_) (k + 1)) else
            match ts[k + 2]? with
            | none => none
            | some v => if isS v ⟨#[41]⟩ then some (.ok (.mk 4 0 t.s [] t.at_) (k + 3)) else runF ts f (.args t []) (k + 2) d
        else some (.err k 5) := by
  rw [runF, ht]; rfl
theorem runF_args (ht : ts[k]? = some t) : runF ts (f + 1) (.args t0 ks) k d = if ks.length = 40 then some (.err k ((firstP t 0 true).getD 2))
        else PR.then_ (runF ts f .expr k (d + 1)) fun x j =>
          match ts[j]? with
          | none => none
          | some u => if isS u ⟨#[41]⟩ then some (.ok (.mk 4 0 t0.s (ks ++ [x]) t0.at_) (j + 1))
            else if isS u ⟨#[44]⟩ then runF ts f (.args t0 (ks ++ [x])) (j + 1) d
            else some (.err j 5) := by
  rw [runF, ht]; rfl
end
theorem opAt_ne {n : Nat} {t : Tok} {op : Int} (h : opAt n t = some op) : op ≠ 0 := by
  unfold opAt at h
  simp only [Option.map_eq_some_iff] at h
  obtain ⟨r, h1, rfl⟩ := h
  have h2 := List.mem_of_find?_eq_some h1
  simp only [opRows, List.mem_cons, List.not_mem_nil, or_false] at h2
  rcases h2 with rfl | rfl | rfl | rfl | rfl | rfl | rfl | rfl | rfl | rfl | rfl | rfl | rfl <;> decide
theorem run_nz {ts : List Tok} : ∀ (f : Nat) (q : Qn) (k : Nat) (d : Int) (x : Ex) (j : Nat), runF ts f q k d = some (.ok x j) → QNZ q → x.op ≠ 0 := by
  intro f
  induction f with
  | zero => intro q k d x j h; cases q <;> simp [runF] at h
  | succ f ih =>
    intro q k d x j h hq
    obtain ⟨t, ht⟩ := runF_tok h
    cases q with
    | expr =>
      rw [runF_expr ht] at h
      split at h
      · cases h
      · rcases PR.then_some h with ⟨_, _, _, h2⟩ | ⟨x1, j1, h1, h2⟩
        · cases h2
        split at h2
        · cases h2
        split at h2
        · cases h2; exact ih _ _ _ _ _ h1 trivial
        · rcases PR.then_some h2 with ⟨_, _, _, h3⟩ | ⟨x2, j2, h3, h4⟩
          · cases h3
          split at h4
          · cases h4
          split at h4
          · cases h4
          · rcases PR.then_some h4 with ⟨_, _, _, h5⟩ | ⟨x3, j3, h5, h6⟩
            · cases h5
            cases h6; simp [Ex.op]
    | level n =>
      rw [runF_level ht] at h
      split at h
      · split at h
        · split at h
          · cases h
          split at h
          · cases h
          · rcases PR.then_some h with ⟨_, _, _, h2⟩ | ⟨x1, j1, h1, h2⟩
            · cases h2
            cases h2; simp [Ex.op]
        · exact ih _ _ _ _ _ h trivial
      · split at h
        · exact ih _ _ _ _ _ h trivial
        · rcases PR.then_some h with ⟨_, _, _, h2⟩ | ⟨x1, j1, h1, h2⟩
          · cases h2
          exact ih _ _ _ _ _ h2 (ih _ _ _ _ _ h1 trivial)
    | loop n y =>
      rw [runF_loop ht] at h
      split at h
      · cases h; exact hq
      · rename_i op ho
        rcases PR.then_some h with ⟨_, _, _, h2⟩ | ⟨x1, j1, h1, h2⟩
        · cases h2
        split at h2
        · cases h2; exact opAt_ne ho
        · exact ih _ _ _ _ _ h2 (by exact opAt_ne ho)
    | neg =>
      rw [runF_neg ht] at h
      split at h
      · split at h
        · cases h
        split at h
        · cases h
        · rcases PR.then_some h with ⟨_, _, _, h2⟩ | ⟨x1, j1, h1, h2⟩
          · cases h2
          cases h2; simp [Ex.op]
      · exact ih _ _ _ _ _ h trivial
    | atom =>
      rw [runF_atom ht] at h
      split at h
      · rcases PR.then_some h with ⟨_, _, _, h2⟩ | ⟨x1, j1, h1, h2⟩
        · cases h2
        split at h2
        · cases h2
        split at h2
        · cases h2; exact ih _ _ _ _ _ h1 trivial
        · cases h2
      · split at h
        · cases h; simp [Ex.op]
        · split at h
          · cases h; simp [Ex.op]
          · split at h
            · split at h
              · cases h
              split at h
              · cases h; simp [Ex.op]
              · split at h
                · cases h
                split at h
                · cases h; simp [Ex.op]
                · exact ih _ _ _ _ _ h trivial
            · cases h
    | args t0 ks =>
      rw [runF_args ht] at h
      split at h
      · cases h
      · rcases PR.then_some h with ⟨_, _, _, h2⟩ | ⟨x1, j1, h1, h2⟩
        · cases h2
        split at h2
        · cases h2
        split at h2
        · cases h2; simp [Ex.op]
        · split at h2
          · exact ih _ _ _ _ _ h2 trivial
          · cases h2
theorem isS_shift (t : Tok) (c : Nat) (s : ByteArray) : isS (t.shift c) s = isS t s := rfl
theorem firstP_shift (t : Tok) (c : Nat) (d : Int) (no : Bool) : firstP (t.shift c) d no = firstP t d no := rfl
theorem opAt_shift (n : Nat) (t : Tok) (c : Nat) : opAt n (t.shift c) = opAt n t := rfl
theorem firstP_deep {t : Tok} {d d' : Int} {no : Bool} (h : firstP t d no = none) : firstP t d' no = none ∨ (d < d' ∧ firstP t d' no = some 2) := by
  unfold firstP at h ⊢
  split at h
  · cases h
  · rename_i h1
    rw [if_neg h1]
    split at h
    · cases h
    · split
      · exact .inr ⟨by omega, rfl⟩
      · exact .inl rfl
theorem firstP_kind5 {t : Tok} (h : t.kind = 5) (d : Int) (no : Bool) : firstP t d no = some 5 := by
  unfold firstP
  rw [if_pos]
  simp [beginsT, isS, h]
theorem opAt_kind5 {t : Tok} (h : t.kind = 5) (n : Nat) : opAt n t = none := by
  unfold opAt
  rw [List.find?_eq_none.2 (fun r _ => by simp [isS, h])]
  rfl
theorem isS_kind5 {t : Tok} (h : t.kind = 5) (s : ByteArray) : isS t s = false := by simp [isS, h]
theorem shs_append (c : Nat) (ks : List Ex) (x : Ex) : (ks ++ [x]).map (shX c) = ks.map (shX c) ++ [shX c x] := by simp
set_option maxHeartbeats 1000000 in
theorem sim_run {ts us : List Tok} {p c m : Nat} {full : Bool} (ok : TokOK ts) (S : Sim ts us p c m full) :
    ∀ (f f' : Nat) (q : Qn) (k : Nat) (d d' : Int) (r : PR Ex), f ≤ f' → (full = true → d' = d) → QNZ q → runF ts f q k d = some r → Good full m r →
      ∃ r', runF us f' (shQ c q) (p + k) d' = some r' ∧ Rel (shX c) p (d < d') r r' := by
  intro f
  induction f with
  | zero => intro f' q k d d' r _ _ _ h; cases q <;> simp [runF] at h
  | succ f ih =>
    intro f' q k d d' r hf hd hq h hg
    obtain ⟨f', rfl⟩ : ∃ g, f' = g + 1 := ⟨f' - 1, by omega⟩
    have hf2 : f ≤ f' := by omega
    have hl : d < d' → full = false := fun h1 => by
      cases hfl : full with
      | false => rfl
      | true => have := hd hfl; omega
    have hd1 : full = true → d' + 1 = d + 1 := fun h1 => by rw [hd h1]
    have hlt : d + 1 < d' + 1 ↔ d < d' := by omega
    have RL : ∀ {r r' : PR Ex}, Rel (shX c) p (d + 1 < d' + 1) r r' → Rel (shX c) p (d < d') r r' := fun {r r'} h1 => by
      rw [show (d + 1 < d' + 1) = (d < d') from propext hlt] at h1; exact h1
    obtain ⟨t, ht⟩ := runF_tok h
    have hfit := run_fits ok _ _ _ _ _ h
    have hkm : k ≤ m := S.le (lt_of_some ht) hg fun x i he => by subst he; exact hfit.1
    obtain ⟨u, hu, hsh⟩ := S.get ht hkm
    cases q with
    | expr =>
      rw [runF_expr ht] at h
      show ∃ r', runF us (f' + 1) .expr (p + k) d' = some r' ∧ _
      rw [runF_expr hu]
      rcases hsh with rfl | ⟨h1, h5, -⟩
      rotate_left
      · rw [firstP_kind5 h5] at h
        cases h
        rw [show full = true from hg] at h1; cases h1
      rw [firstP_shift]
      split at h
      · rename_i e he
        cases h
        rw [hd hg, he]
        exact ⟨_, rfl, rfl⟩
      · rename_i he
        have hr := h
        rcases firstP_deep (d' := d') he with h0 | ⟨hlim, h0⟩
        rotate_left
        · rw [h0]
          refine ⟨_, rfl, ?_⟩
          cases r with
          | ok x j => exact .inr ⟨hlim, _, rfl⟩
          | err j e => have := hl hlim; rw [show full = true from hg] at this; cases this
        rw [h0]
        dsimp only
        refine then_sim hl h hg (fun x j hx h2 => ?_) (fun z hz hgz => ih f' (.level 1) k d d' z hf2 hd trivial hz hgz) (fun x j hx hjm h2 => ?_)
        · have hj := run_fits ok _ _ _ _ _ hx
          refine S.le hj.2 hg fun y i he => ?_
          subst he
          split at h2
          · cases h2
          split at h2
          · cases h2; exact Nat.le_refl _
          · rcases PR.then_some h2 with ⟨_, _, _, h3⟩ | ⟨x2, j2, h3, h4⟩
            · cases h3
            have hj2 := (run_fits ok _ _ _ _ _ h3).1
            split at h4
            · cases h4
            split at h4
            · cases h4
            · rcases PR.then_some h4 with ⟨_, _, _, h5⟩ | ⟨x3, j3, h5, h6⟩
              · cases h5
              have hj3 := (run_fits ok _ _ _ _ _ h5).1
              cases h6; omega
        · split at h2
          · cases h2
          rename_i v hv
          obtain ⟨v', hv', hsv⟩ := S.get hv hjm
          rw [hv']
          dsimp only
          split at h2
          · rename_i hq2
            cases h2
            have hq3 : isS v' ⟨#[63]⟩ = false := by
              rcases hsv with rfl | ⟨-, -, hst⟩
              · rw [isS_shift]; simpa using hq2
              · exact hst.q
            rw [if_pos (by simp [hq3])]
            exact ⟨_, rfl, .inl rfl⟩
          · rename_i hq2
            rcases hsv with rfl | ⟨-, h5, -⟩
            rotate_left
            · exact absurd (by simp [isS_kind5 h5]) hq2
            rw [isS_shift, if_neg hq2]
            refine then_sim hl h2 hg (fun a j2 ha h3 => ?_) (fun z hz hgz => (ih f' .expr (j + 1) (d + 1) (d' + 1) z hf2 hd1 trivial hz hgz).imp fun z' h9 => ⟨h9.1, RL h9.2⟩) (fun a j2 ha hj2m h3 => ?_)
            · have hj := run_fits ok _ _ _ _ _ ha
              refine S.le hj.2 hg fun y i he => ?_
              subst he
              split at h3
              · cases h3
              split at h3
              · cases h3
              · rcases PR.then_some h3 with ⟨_, _, _, h5⟩ | ⟨x3, j3, h5, h6⟩
                · cases h5
                have hj3 := (run_fits ok _ _ _ _ _ h5).1
                cases h6; omega
            · split at h3
              · cases h3
              rename_i w hw
              split at h3
              · rename_i hc
                cases h3
                rw [S.get' hw hj2m (.inl hg)]
                dsimp only
                rw [isS_shift, if_pos hc]
                exact ⟨_, rfl, rfl⟩
              · rename_i hc
                rw [S.get' hw hj2m (.inr (fun h5 => hc (by simp [isS_kind5 h5])))]
                dsimp only
                rw [isS_shift, if_neg hc]
                refine then_sim hl h3 hg (fun b j3 hb h4 => ?_) (fun z hz hgz => (ih f' .expr (j2 + 1) (d + 1) (d' + 1) z hf2 hd1 trivial hz hgz).imp fun z' h9 => ⟨h9.1, RL h9.2⟩) (fun b j3 hb hj3m h4 => ?_)
                · cases h4; exact hg
                · cases h4
                  refine ⟨_, rfl, .inl ?_⟩
                  have hxn := run_nz _ _ _ _ _ _ hx trivial
                  rw [shX_mk (by decide), shX_at hxn]
                  rfl
    | level n =>
      rw [runF_level ht] at h
      show ∃ r', runF us (f' + 1) (.level n) (p + k) d' = some r' ∧ _
      rw [runF_level hu]
      split at h
      · rename_i hn
        rw [if_pos hn]
        split at h
        · rename_i hb
          rcases hsh with rfl | ⟨-, h5, -⟩
          rotate_left
          · rw [isS_kind5 h5] at hb; cases hb
          rw [isS_shift, if_pos hb]
          split at h
          · cases h
          rename_i v hv
          have hvm : k + 1 ≤ m := by
            refine S.le (lt_of_some hv) hg fun y i he => ?_
            subst he
            split at h
            · cases h
            · rcases PR.then_some h with ⟨_, _, _, h3⟩ | ⟨x2, j2, h3, h4⟩
              · cases h3
              have hj2 := (run_fits ok _ _ _ _ _ h3).1
              cases h4; omega
          split at h
          · rename_i e he
            cases h
            rw [show p + k + 1 = p + (k + 1) from rfl, S.get' hv hvm (.inl hg)]
            dsimp only
            rw [firstP_shift, hd hg, he]
            exact ⟨_, rfl, rfl⟩
          · rename_i he
            rw [show p + k + 1 = p + (k + 1) from rfl, S.get' hv hvm (.inr (fun h5 => by rw [firstP_kind5 h5] at he; cases he))]
            dsimp only
            rw [firstP_shift]
            rcases firstP_deep (d' := d' + 1) he with h0 | ⟨hlim, h0⟩
            rotate_left
            · rw [h0]
              refine ⟨_, rfl, ?_⟩
              cases r with
              | ok x j => exact .inr ⟨by omega, _, rfl⟩
              | err j e => have := hl (by omega); rw [show full = true from hg] at this; cases this
            rw [h0]
            dsimp only
            refine then_sim hl h hg (fun b j3 hb h4 => ?_) (fun z hz hgz => (ih f' (.level 3) (k + 1) (d + 1) (d' + 1) z hf2 hd1 trivial hz hgz).imp fun z' h9 => ⟨h9.1, RL h9.2⟩) (fun b j3 hb hj3m h4 => ?_)
            · cases h4; exact hg
            · cases h4
              refine ⟨_, rfl, .inl ?_⟩
              rw [shX_mk (by decide)]
              rfl
        · rename_i hb
          have hb2 : isS u ⟨#[33]⟩ = false := by
            rcases hsh with rfl | ⟨-, -, hst⟩
            · rw [isS_shift]; simpa using hb
            · exact hst.b
          rw [hb2, if_neg (by decide)]
          exact ih f' (.level 4) k d d' r hf2 hd trivial h hg
      · rename_i hn
        rw [if_neg hn]
        split at h
        · rename_i h7
          rw [if_pos h7]
          exact ih f' .neg k d d' r hf2 hd trivial h hg
        · rename_i h7
          rw [if_neg h7]
          refine then_sim hl h hg (fun x j hx h2 => ?_) (fun z hz hgz => ih f' (.level (n + 1)) k d d' z hf2 hd trivial hz hgz) (fun x j hx hjm h2 => ?_)
          · have hj := run_fits ok _ _ _ _ _ hx
            have hj2 := run_fits ok _ _ _ _ _ h2
            exact S.le hj.2 hg fun y i he => by subst he; exact hj2.1
          · exact ih f' (.loop n x) j d d' r hf2 hd (by exact run_nz _ _ _ _ _ _ hx trivial) h2 hg
    | loop n x =>
      rw [runF_loop ht] at h
      show ∃ r', runF us (f' + 1) (.loop n (shX c x)) (p + k) d' = some r' ∧ _
      rw [runF_loop hu]
      split at h
      · rename_i ho
        cases h
        have ho2 : opAt n u = none := by
          rcases hsh with rfl | ⟨-, -, hst⟩
          · exact ho
          · exact hst.o n
        rw [ho2]
        exact ⟨_, rfl, .inl rfl⟩
      · rename_i op ho
        rcases hsh with rfl | ⟨-, h5, -⟩
        rotate_left
        · rw [opAt_kind5 h5] at ho; cases ho
        rw [opAt_shift, ho]
        dsimp only
        refine then_sim hl h hg (fun y j hy h2 => ?_) (fun z hz hgz => ih f' (.level (n + 1)) (k + 1) d d' z hf2 hd trivial hz hgz) (fun y j hy hjm h2 => ?_)
        · have hj := run_fits ok _ _ _ _ _ hy
          refine S.le hj.2 hg fun z i he => ?_
          subst he
          split at h2
          · cases h2; exact Nat.le_refl _
          · exact (run_fits ok _ _ _ _ _ h2).1
        · have hmk : shX c (.mk op 0 noB [x, y] x.at_) = .mk op 0 noB [shX c x, shX c y] (shX c x).at_ := by
            rw [shX_mk (opAt_ne ho), shX_at (by exact hq)]; rfl
          split at h2
          · rename_i h4
            cases h2
            rw [if_pos h4]
            exact ⟨_, rfl, .inl (by rw [hmk])⟩
          · rename_i h4
            rw [if_neg h4, ← hmk]
            exact ih f' (.loop n (.mk op 0 noB [x, y] x.at_)) j d d' r hf2 hd (by exact opAt_ne ho) h2 hg
    | neg =>
      rw [runF_neg ht] at h
      show ∃ r', runF us (f' + 1) .neg (p + k) d' = some r' ∧ _
      rw [runF_neg hu]
      split at h
      · rename_i hb
        rcases hsh with rfl | ⟨-, h5, -⟩
        rotate_left
        · rw [isS_kind5 h5] at hb; cases hb
        rw [isS_shift, if_pos hb]
        split at h
        · cases h
        rename_i v hv
        have hvm : k + 1 ≤ m := by
          refine S.le (lt_of_some hv) hg fun y i he => ?_
          subst he
          split at h
          · cases h
          · rcases PR.then_some h with ⟨_, _, _, h3⟩ | ⟨x2, j2, h3, h4⟩
            · cases h3
            have hj2 := (run_fits ok _ _ _ _ _ h3).1
            cases h4; omega
        split at h
        · rename_i e he
          cases h
          rw [show p + k + 1 = p + (k + 1) from rfl, S.get' hv hvm (.inl hg)]
          dsimp only
          rw [firstP_shift, hd hg, he]
          exact ⟨_, rfl, rfl⟩
        · rename_i he
          rw [show p + k + 1 = p + (k + 1) from rfl, S.get' hv hvm (.inr (fun h5 => by rw [firstP_kind5 h5] at he; cases he))]
          dsimp only
          rw [firstP_shift]
          rcases firstP_deep (d' := d' + 1) he with h0 | ⟨hlim, h0⟩
          rotate_left
          · rw [h0]
            refine ⟨_, rfl, ?_⟩
            cases r with
            | ok x j => exact .inr ⟨by omega, _, rfl⟩
            | err j e => have := hl (by omega); rw [show full = true from hg] at this; cases this
          rw [h0]
          dsimp only
          refine then_sim hl h hg (fun b j3 hb h4 => ?_) (fun z hz hgz => (ih f' .neg (k + 1) (d + 1) (d' + 1) z hf2 hd1 trivial hz hgz).imp fun z' h9 => ⟨h9.1, RL h9.2⟩) (fun b j3 hb hj3m h4 => ?_)
          · cases h4; exact hg
          · cases h4
            refine ⟨_, rfl, .inl ?_⟩
            rw [shX_mk (by decide)]
            rfl
      · rename_i hb
        have hb2 : isS u ⟨#[45]⟩ = false := by
          rcases hsh with rfl | ⟨-, -, hst⟩
          · rw [isS_shift]; simpa using hb
          · exact hst.m
        rw [hb2, if_neg (by decide)]
        exact ih f' .atom k d d' r hf2 hd trivial h hg
    | atom =>
      rw [runF_atom ht] at h
      show ∃ r', runF us (f' + 1) .atom (p + k) d' = some r' ∧ _
      rcases hsh with rfl | ⟨h1, h5, -⟩
      rotate_left
      · rw [isS_kind5 h5, if_neg (by decide), h5, if_neg (by decide), if_neg (by decide), if_neg (by decide)] at h
        cases h
        rw [show full = true from hg] at h1; cases h1
      rw [runF_atom hu, isS_shift]
      split at h
      · rename_i hb
        rw [if_pos hb]
        refine then_sim hl h hg (fun x j hx h2 => ?_) (fun z hz hgz => (ih f' .expr (k + 1) (d + 1) (d' + 1) z hf2 hd1 trivial hz hgz).imp fun z' h9 => ⟨h9.1, RL h9.2⟩) (fun x j hx hjm h2 => ?_)
        · have hj := run_fits ok _ _ _ _ _ hx
          refine S.le hj.2 hg fun z i he => ?_
          subst he
          split at h2
          · cases h2
          split at h2
          · cases h2; omega
          · cases h2
        · split at h2
          · cases h2
          rename_i v hv
          split at h2
          · rename_i hc
            cases h2
            rw [S.get' hv hjm (.inr (fun h5 => by rw [isS_kind5 h5] at hc; cases hc))]
            dsimp only
            rw [isS_shift, if_pos hc]
            exact ⟨_, rfl, .inl rfl⟩
          · rename_i hc
            cases h2
            rw [S.get' hv hjm (.inl hg)]
            dsimp only
            rw [isS_shift, if_neg hc]
            exact ⟨_, rfl, rfl⟩
      · rename_i hb
        rw [if_neg hb, show (t.shift c).kind = t.kind from rfl]
        split at h
        · rename_i h2
          cases h
          rw [if_pos h2]
          exact ⟨_, rfl, .inl (by rw [shX_mk (by decide)]; rfl)⟩
        · rename_i h2
          rw [if_neg h2]
          split at h
          · rename_i h3
            cases h
            rw [if_pos h3]
            exact ⟨_, rfl, .inl (by rw [shX_mk (by decide)]; rfl)⟩
          · rename_i h3
            rw [if_neg h3]
            split at h
            · rename_i h4
              rw [if_pos h4]
              split at h
              · cases h
              rename_i v hv
              have hvm : k + 1 ≤ m := by
                refine S.le (lt_of_some hv) hg fun y i he => ?_
                subst he
                split at h
                · cases h; exact Nat.le_refl _
                · split at h
                  · cases h
                  split at h
                  · cases h; omega
                  · have := (run_fits ok _ _ _ _ _ h).1; omega
              obtain ⟨v', hv', hsv⟩ := S.get hv hvm
              rw [show p + k + 1 = p + (k + 1) from rfl, hv']
              dsimp only
              split at h
              · rename_i hq2
                cases h
                have hq3 : isS v' ⟨#[40]⟩ = false := by
                  rcases hsv with rfl | ⟨-, -, hst⟩
                  · rw [isS_shift]; simpa using hq2
                  · exact hst.p
                rw [if_pos (by simp [hq3])]
                exact ⟨_, rfl, .inl (by rw [shX_mk (by decide)]; rfl)⟩
              · rename_i hq2
                rcases hsv with rfl | ⟨-, h5, -⟩
                rotate_left
                · exact absurd (by simp [isS_kind5 h5]) hq2
                rw [isS_shift, if_neg hq2]
                split at h
                · cases h
                rename_i z hz
                have hzm : k + 2 ≤ m := by
                  refine S.le (lt_of_some hz) hg fun y i he => ?_
                  subst he
                  split at h
                  · cases h; omega
                  · exact (run_fits ok _ _ _ _ _ h).1
                split at h
                · rename_i hc
                  cases h
                  rw [show p + k + 2 = p + (k + 2) from rfl, S.get' hz hzm (.inr (fun h5 => by rw [isS_kind5 h5] at hc; cases hc))]
                  dsimp only
                  rw [isS_shift, if_pos hc]
                  exact ⟨_, rfl, .inl (by rw [shX_mk (by decide)]; rfl)⟩
                · rename_i hc
                  by_cases h5 : full = true ∨ z.kind ≠ 5
                  · rw [show p + k + 2 = p + (k + 2) from rfl, S.get' hz hzm h5]
                    dsimp only
                    rw [isS_shift, if_neg hc]
                    exact ih f' (.args t []) (k + 2) d d' r hf2 hd trivial h hg
                  · obtain ⟨r', hr', hR⟩ := ih f' (.args t []) (k + 2) d d' r hf2 hd trivial h hg
                    obtain ⟨f, rfl⟩ : ∃ g, f = g + 1 := by
                      cases f with
                      | zero => simp [runF] at h
                      | succ f => exact ⟨f, rfl⟩
                    rw [runF_args hz, if_neg (by simp)] at h
                    have h5' : z.kind = 5 := by
                      rcases Decidable.em (z.kind = 5) with h6 | h6
                      · exact h6
                      · exact absurd (.inr h6) h5
                    exfalso
                    cases f with
                    | zero => simp [runF, PR.then_] at h
                    | succ f =>
                      rw [runF_expr hz, firstP_kind5 h5'] at h
                      cases h
                      exact h5 (.inl hg)
            · rename_i h4
              cases h
              rw [if_neg h4]
              exact ⟨_, rfl, rfl⟩
    | args t0 ks =>
      rw [runF_args ht] at h
      show ∃ r', runF us (f' + 1) (.args (t0.shift c) (ks.map (shX c))) (p + k) d' = some r' ∧ _
      rw [runF_args hu, List.length_map]
      split at h
      · rename_i h4
        cases h
        rcases hsh with rfl | ⟨h1, -, -⟩
        rotate_left
        · rw [show full = true from hg] at h1; cases h1
        rw [if_pos h4]
        exact ⟨_, rfl, rfl⟩
      · rename_i h4
        rw [if_neg h4]
        refine then_sim hl h hg (fun x j hx h2 => ?_) (fun z hz hgz => (ih f' .expr k (d + 1) (d' + 1) z hf2 hd1 trivial hz hgz).imp fun z' h9 => ⟨h9.1, RL h9.2⟩) (fun x j hx hjm h2 => ?_)
        · have hj := run_fits ok _ _ _ _ _ hx
          refine S.le hj.2 hg fun z i he => ?_
          subst he
          split at h2
          · cases h2
          split at h2
          · cases h2; omega
          · split at h2
            · have := (run_fits ok _ _ _ _ _ h2).1; omega
            · cases h2
        · split at h2
          · cases h2
          rename_i v hv
          split at h2
          · rename_i hc
            cases h2
            rw [S.get' hv hjm (.inr (fun h5 => by rw [isS_kind5 h5] at hc; cases hc))]
            dsimp only
            rw [isS_shift, if_pos hc]
            exact ⟨_, rfl, .inl (by rw [shX_mk (by decide), shs_append]; rfl)⟩
          · rename_i hc
            split at h2
            · rename_i hm2
              rw [S.get' hv hjm (.inr (fun h5 => by rw [isS_kind5 h5] at hm2; cases hm2))]
              dsimp only
              rw [isS_shift, if_neg hc, isS_shift, if_pos hm2]
              have h9 := ih f' (.args t0 (ks ++ [x])) (j + 1) d d' r hf2 hd trivial h2 hg
              rw [show shQ c (.args t0 (ks ++ [x])) = .args (t0.shift c) (ks.map (shX c) ++ [shX c x]) by simp [shQ]] at h9
              exact h9
            · rename_i hm2
              cases h2
              rw [S.get' hv hjm (.inl hg)]
              dsimp only
              rw [isS_shift, if_neg hc, isS_shift, if_neg hm2]
              exact ⟨_, rfl, rfl⟩
end Go.Proofs.YtjijdgkccfeeaaaGreatDoor
