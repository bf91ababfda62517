/- Walk of the lexer: next. Conditions: those of each theorem. -/
import Derived.Test.YtdjjifljlkjafaaGreatDoorLexWalkE
import Derived.Test.YtdjjifljlkjafaaGreatDoorLexWalkF
namespace Go.Proofs.YtdjjifljlkjafaaGreatDoor
open Go Go.Proofs Go.RowKit
attribute [local go_sem] Oper.semAt_some

/-- the first reader that finds something -/
def firstT : List TR → TR
  | [] => .err 26
  | .none :: l => firstT l
  | r :: _ => r
/-- what 'next' finds -/
def nextT (s : ByteArray) (k : Nat) : TR := firstT [nameT s k, numT s k, textT s k, signT s k]

theorem textL_fits (k0 : Nat) (t : Tok) (tt : Nat) (l : List UInt8) (j : Nat) (b : List UInt8) (h : textL k0 l j b = .tok t tt) : j < tt ∧ tt ≤ j + l.length := by
  fun_induction textL k0 l j b <;> simp_all <;> omega
theorem firstT_mem {t : Tok} {tt : Nat} : ∀ (l : List TR), firstT l = .tok t tt → .tok t tt ∈ l
  | [], h => by simp [firstT] at h
  | .none :: l, h => List.mem_cons_of_mem _ (firstT_mem l h)
  | .err c :: l, h => by simp [firstT] at h
  | .tok _ _ :: l, h => by simp [firstT] at h; simp [h]
theorem next_fits {s : ByteArray} {k tt : Nat} {t : Tok} (hk : k < s.size) (h : nextT s k = .tok t tt) : k < tt ∧ tt ≤ s.size := by
  have hto := spanTo_le s k 2 (by omega)
  have hg := spanTo_gt s k hk 2
  rw [← rest_head s k hk] at hg
  have n1 : ∀ t tt, nameT s k = .tok t tt → k < tt ∧ tt ≤ s.size := by
    intro t tt h
    unfold nameT at h
    split at h
    · cases h
    · split at h
      · cases h
      · cases h; exact ⟨hg (by simp at *; omega), hto⟩
  have n2 : ∀ t tt, numT s k = .tok t tt → k < tt ∧ tt ≤ s.size := by
    intro t tt h
    unfold numT numOf at h
    split at h
    · cases h
    · split at h
      · split at h
        · cases h
        · cases h; exact ⟨hg (by simp at *; omega), hto⟩
      · cases h
  have n3 : ∀ t tt, textT s k = .tok t tt → k < tt ∧ tt ≤ s.size := by
    intro t tt h
    unfold textT at h
    split at h
    · cases h
    · have := textL_fits _ _ _ _ _ _ h
      rw [rest_len] at this
      omega
  have n4 : ∀ t tt, signT s k = .tok t tt → k < tt ∧ tt ≤ s.size := by
    intro t tt h
    have gen : ∀ (n : Nat) (j : Nat), n + j = 9 → signL s k (pairs.drop j) = .tok t tt → k < tt ∧ tt ≤ s.size := by
      intro n
      induction n with
      | zero =>
        intro j hj h
        obtain rfl : j = 9 := by omega
        simp only [show pairs.drop 9 = [] from rfl, signL] at h
        split at h
        · cases h; omega
        · cases h
      | succ n ih =>
        intro j hj h
        rw [pairs_drop j (by omega)] at h
        simp only [signL] at h
        split at h
        · rename_i hp
          have := pair_fits (by omega) hp
          cases h; omega
        · exact ih (j + 1) (by omega) h
    exact gen 9 0 rfl h
  have hm := firstT_mem _ h
  simp only [List.mem_cons, List.not_mem_nil, or_false] at hm
  rcases hm with hm | hm | hm | hm
  · exact n1 _ _ hm.symm
  · exact n2 _ _ hm.symm
  · exact n3 _ _ hm.symm
  · exact n4 _ _ hm.symm

theorem Took.of_none {w w' : World} {B base : Nat} {s : ByteArray} {v : Value} {k : Nat} {ts : List Tok} {r : TR} {e : Ending} (h : Took w B base s v k ts r e w') (hr : r = .none) : e = .returned (.tuple #[.bool false, (.int .i64 0)]) ∧ Hid (At w' B base s k v ts ∧ Moved B base w w') := by
  subst hr; exact h
theorem Took.of_err {w w' : World} {B base : Nat} {s : ByteArray} {v : Value} {k : Nat} {ts : List Tok} {r : TR} {e : Ending} {c : Int} (h : Took w B base s v k ts r e w') (hr : r = .err c) : e = .returned (.tuple #[.bool true, (.int .i64 c)]) ∧ Hid (At w' B base s k v ts ∧ Moved B base w w') := by
  subst hr; exact h
theorem Took.of_tok {w w' : World} {B base : Nat} {s : ByteArray} {v : Value} {k : Nat} {ts : List Tok} {r : TR} {e : Ending} {t : Tok} {tt : Nat} (h : Took w B base s v k ts r e w') (hr : r = .tok t tt) : e = .returned (.tuple #[.bool true, (.int .i64 0)]) ∧ Hid (∃ v', At w' B base s tt v' (ts ++ [t]) ∧ Moved B base w w') := by
  subst hr; exact h
/-- 'next' has ended so -/
def NextR (w : World) (B base : Nat) (s : ByteArray) (v : Value) (k : Nat) (ts : List Tok) (r : TR) (e : Ending) (w' : World) : Prop :=
  match r with
  | .none => False
  | .err c => e = .returned (.int .i64 c) ∧ At w' B base s k v ts ∧ Moved B base w w'
  | .tok t tt => e = .returned (.int .i64 0) ∧ ∃ v', At w' B base s tt v' (ts ++ [t]) ∧ Moved B base w w'
def readers : Array Value := #[.func (.func 32) #[] #[], .func (.func 33) #[] #[], .func (.func 34) #[] #[], .func (.func 35) #[] #[]]
theorem reader_at0 (w : World) : (Instr.index 67 (.agg readers) (.int .i64 0)).run Tryz.prog w = .ok (.func (.func 32) #[] #[]) w := by kernel_rfl
theorem reader_at1 (w : World) : (Instr.index 67 (.agg readers) (.int .i64 1)).run Tryz.prog w = .ok (.func (.func 33) #[] #[]) w := by kernel_rfl
theorem reader_at2 (w : World) : (Instr.index 67 (.agg readers) (.int .i64 2)).run Tryz.prog w = .ok (.func (.func 34) #[] #[]) w := by kernel_rfl
theorem reader_at3 (w : World) : (Instr.index 67 (.agg readers) (.int .i64 3)).run Tryz.prog w = .ok (.func (.func 35) #[] #[]) w := by kernel_rfl
/-- the walk's step at an element of an array's value -/
theorem wpList_index {P : Program} {ops : Array Oper} {rest : List Oper} {o : Oper} {a : Act} {Q : Exit → Act → World → Prop} {w : World} (hg : o.guard = none) (t : TypeId) (x ix : Operand) (hop : o.op = .index t x ix) (xs iv v : Value) (hx : a.eval x = xs) (hi : a.eval ix = iv) (hrun : (Instr.index t xs iv).run P w = .ok v w) (hK : wpList P ops Q rest (a.put o.dst v) w) : wpList P ops Q (o :: rest) a w := by
  refine wpList_plain hg fun K hK' => ?_
  unfold Oper.wp
  simp [execOp, hop, hx, hi, hrun, Result.andThen]
  exact hK' _ _ hK
/-- in the loop of 'next' -/
def NS (w : World) (B base : Nat) (s : ByteArray) (v : Value) (k : Nat) (ts : List Tok) (l : List TR) (wr : World) : Prop := At wr B base s k v ts ∧ Moved B base w wr ∧ firstT l = nextT s k
theorem NS.step {w wr w' : World} {B base : Nat} {s : ByteArray} {v : Value} {k : Nat} {ts : List Tok} {l : List TR} {r : TR} (h : NS w B base s v k ts (r :: l) wr) (hr : r = .none) (h2 : Hid (At w' B base s k v ts ∧ Moved B base wr w')) : NS w B base s v k ts l w' := by
  subst hr; exact ⟨h2.out.1, h.2.1.trans h2.out.2, h.2.2⟩
set_option maxRecDepth 20000 in
set_option maxHeartbeats 2000000 in
theorem next_any (B base : Nat) (s : ByteArray) (k : Nat) (v : Value) (ts : List Tok) (w : World) (h : At w B base s k v ts) (hs : s.size ≤ 65536) (hk : k < s.size) :
    Calls Tryz.prog 21 #[.pointer (some ⟨B, 0, none⟩)] w (NextR w B base s v k ts (nextT s k)) := by
  have H0 : Hid (NS w B base s v k ts [nameT s k, numT s k, textT s k, signT s k] w) := ⟨h, Turned.refl _ _, rfl⟩
  clear h
  go_enter Tryz.func21, Tryz.ntmps21
  go_wp2_with fail
  go_loopw [8] (fun i wr => i = (.int .i64 0) ∧ Hid (NS w B base s v k ts [nameT s k, numT s k, textT s k, signT s k] wr) ∨ i = (.int .i64 1) ∧ Hid (NS w B base s v k ts [numT s k, textT s k, signT s k] wr)
    ∨ i = (.int .i64 2) ∧ Hid (NS w B base s v k ts [textT s k, signT s k] wr) ∨ i = (.int .i64 3) ∧ Hid (NS w B base s v k ts [signT s k] wr) ∨ i = (.int .i64 4) ∧ Hid (NS w B base s v k ts [] wr)) (fun i _ => 4 - (intOf i).toNat)
  case atStart => exact .inl ⟨rfl, H0⟩
  case round =>
    clear H0
    rcases hrel with ⟨rfl, HS⟩ | ⟨rfl, HS⟩ | ⟨rfl, HS⟩ | ⟨rfl, HS⟩ | ⟨rfl, HS⟩
    · have HC := Lib.hid (name_any B base s k v ts wr HS.out.1 hs hk)
      cases hT : nameT s k with
      | none =>
        go_wp2_with (first | refine wpList_index rfl 67 (.tmp 7) (.tmp 8) rfl (.agg readers) (.int .i64 0) _ rfl rfl (reader_at0 _) ?_ | (go_at_call 32; refine HC.out.mono ?_; intro e w7 hr; obtain ⟨rfl, HA⟩ := hr.of_none hT; clear hr))
        go_roundw
        case rel => exact .inr (.inl ⟨by first | rfl | go_num, NS.step HS.out hT HA⟩)
        case measure => simp [intOf]
      | err c =>
        have HE : Hid (nextT s k = .err c) := by show _ = _; rw [← HS.out.2.2, hT]; rfl
        go_wp2_with (first | refine wpList_index rfl 67 (.tmp 7) (.tmp 8) rfl (.agg readers) (.int .i64 0) _ rfl rfl (reader_at0 _) ?_ | (go_at_call 32; refine HC.out.mono ?_; intro e w7 hr; obtain ⟨rfl, HA⟩ := hr.of_err hT; clear hr))
        go_ret
        rw [HE.out]
        exact ⟨rfl, HA.out.1, HS.out.2.1.trans HA.out.2⟩
      | tok t tt =>
        have HE : Hid (nextT s k = .tok t tt) := by show _ = _; rw [← HS.out.2.2, hT]; rfl
        go_wp2_with (first | refine wpList_index rfl 67 (.tmp 7) (.tmp 8) rfl (.agg readers) (.int .i64 0) _ rfl rfl (reader_at0 _) ?_ | (go_at_call 32; refine HC.out.mono ?_; intro e w7 hr; obtain ⟨rfl, HA⟩ := hr.of_tok hT; clear hr))
        go_ret
        rw [HE.out]
        obtain ⟨v', q1, q2⟩ := HA.out
        exact ⟨rfl, v', q1, HS.out.2.1.trans q2⟩
    · have HC := Lib.hid (number_any B base s k v ts wr HS.out.1 hs hk)
      cases hT : numT s k with
      | none =>
        go_wp2_with (first | refine wpList_index rfl 67 (.tmp 7) (.tmp 8) rfl (.agg readers) (.int .i64 1) _ rfl rfl (reader_at1 _) ?_ | (go_at_call 33; refine HC.out.mono ?_; intro e w7 hr; obtain ⟨rfl, HA⟩ := hr.of_none hT; clear hr))
        go_roundw
        case rel => exact .inr (.inr (.inl ⟨by first | rfl | go_num, NS.step HS.out hT HA⟩))
        case measure => simp [intOf]
      | err c =>
        have HE : Hid (nextT s k = .err c) := by show _ = _; rw [← HS.out.2.2, hT]; rfl
        go_wp2_with (first | refine wpList_index rfl 67 (.tmp 7) (.tmp 8) rfl (.agg readers) (.int .i64 1) _ rfl rfl (reader_at1 _) ?_ | (go_at_call 33; refine HC.out.mono ?_; intro e w7 hr; obtain ⟨rfl, HA⟩ := hr.of_err hT; clear hr))
        go_ret
        rw [HE.out]
        exact ⟨rfl, HA.out.1, HS.out.2.1.trans HA.out.2⟩
      | tok t tt =>
        have HE : Hid (nextT s k = .tok t tt) := by show _ = _; rw [← HS.out.2.2, hT]; rfl
        go_wp2_with (first | refine wpList_index rfl 67 (.tmp 7) (.tmp 8) rfl (.agg readers) (.int .i64 1) _ rfl rfl (reader_at1 _) ?_ | (go_at_call 33; refine HC.out.mono ?_; intro e w7 hr; obtain ⟨rfl, HA⟩ := hr.of_tok hT; clear hr))
        go_ret
        rw [HE.out]
        obtain ⟨v', q1, q2⟩ := HA.out
        exact ⟨rfl, v', q1, HS.out.2.1.trans q2⟩
    · have HC := Lib.hid (text_any B base s k v ts wr HS.out.1 hs hk)
      cases hT : textT s k with
      | none =>
        go_wp2_with (first | refine wpList_index rfl 67 (.tmp 7) (.tmp 8) rfl (.agg readers) (.int .i64 2) _ rfl rfl (reader_at2 _) ?_ | (go_at_call 34; refine HC.out.mono ?_; intro e w7 hr; obtain ⟨rfl, HA⟩ := hr.of_none hT; clear hr))
        go_roundw
        case rel => exact .inr (.inr (.inr (.inl ⟨by first | rfl | go_num, NS.step HS.out hT HA⟩)))
        case measure => simp [intOf]
      | err c =>
        have HE : Hid (nextT s k = .err c) := by show _ = _; rw [← HS.out.2.2, hT]; rfl
        go_wp2_with (first | refine wpList_index rfl 67 (.tmp 7) (.tmp 8) rfl (.agg readers) (.int .i64 2) _ rfl rfl (reader_at2 _) ?_ | (go_at_call 34; refine HC.out.mono ?_; intro e w7 hr; obtain ⟨rfl, HA⟩ := hr.of_err hT; clear hr))
        go_ret
        rw [HE.out]
        exact ⟨rfl, HA.out.1, HS.out.2.1.trans HA.out.2⟩
      | tok t tt =>
        have HE : Hid (nextT s k = .tok t tt) := by show _ = _; rw [← HS.out.2.2, hT]; rfl
        go_wp2_with (first | refine wpList_index rfl 67 (.tmp 7) (.tmp 8) rfl (.agg readers) (.int .i64 2) _ rfl rfl (reader_at2 _) ?_ | (go_at_call 34; refine HC.out.mono ?_; intro e w7 hr; obtain ⟨rfl, HA⟩ := hr.of_tok hT; clear hr))
        go_ret
        rw [HE.out]
        obtain ⟨v', q1, q2⟩ := HA.out
        exact ⟨rfl, v', q1, HS.out.2.1.trans q2⟩
    · have HC := Lib.hid (sign_any B base s k v ts wr HS.out.1 hs hk)
      cases hT : signT s k with
      | none =>
        go_wp2_with (first | refine wpList_index rfl 67 (.tmp 7) (.tmp 8) rfl (.agg readers) (.int .i64 3) _ rfl rfl (reader_at3 _) ?_ | (go_at_call 35; refine HC.out.mono ?_; intro e w7 hr; obtain ⟨rfl, HA⟩ := hr.of_none hT; clear hr))
        go_roundw
        case rel => exact .inr (.inr (.inr (.inr (⟨by first | rfl | go_num, NS.step HS.out hT HA⟩))))
        case measure => simp [intOf]
      | err c =>
        have HE : Hid (nextT s k = .err c) := by show _ = _; rw [← HS.out.2.2, hT]; rfl
        go_wp2_with (first | refine wpList_index rfl 67 (.tmp 7) (.tmp 8) rfl (.agg readers) (.int .i64 3) _ rfl rfl (reader_at3 _) ?_ | (go_at_call 35; refine HC.out.mono ?_; intro e w7 hr; obtain ⟨rfl, HA⟩ := hr.of_err hT; clear hr))
        go_ret
        rw [HE.out]
        exact ⟨rfl, HA.out.1, HS.out.2.1.trans HA.out.2⟩
      | tok t tt =>
        have HE : Hid (nextT s k = .tok t tt) := by show _ = _; rw [← HS.out.2.2, hT]; rfl
        go_wp2_with (first | refine wpList_index rfl 67 (.tmp 7) (.tmp 8) rfl (.agg readers) (.int .i64 3) _ rfl rfl (reader_at3 _) ?_ | (go_at_call 35; refine HC.out.mono ?_; intro e w7 hr; obtain ⟨rfl, HA⟩ := hr.of_tok hT; clear hr))
        go_ret
        rw [HE.out]
        obtain ⟨v', q1, q2⟩ := HA.out
        exact ⟨rfl, v', q1, HS.out.2.1.trans q2⟩
    · have HE : Hid (nextT s k = .err 26) := by show _ = _; rw [← HS.out.2.2]; rfl
      go_wp2_with fail
      go_ret
      rw [HE.out]
      exact ⟨rfl, HS.out.1, HS.out.2.1⟩
end Go.Proofs.YtdjjifljlkjafaaGreatDoor
