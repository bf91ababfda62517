/- Part 16 of the proof of lawMatches.card: LexWalkG, LexWalkH, LexRefB, LexNum, LexPre, LexList. Conditions: those of each theorem. -/
import Derived.Test.YtjijdgkccfeeaaaGreatDoorMt01
import Derived.Test.YtjijdgkccfeeaaaGreatDoorMt15
namespace Go.Proofs.YtjijdgkccfeeaaaGreatDoor
open Go Go.Proofs Go.RowKit
attribute [local go_sem] Oper.semAt_some
def firstT : List TR → TR
  | [] => .err 26
  | .none :: l => firstT l
  | r :: _ => r
def nextT (s : ByteArray) (k : Nat) : TR := firstT [nameT s k, numT s k, textT s k, signT s k]
theorem textL_fits (k0 : Nat) (t : Tok) (tt : Nat) (l : List UInt8) (j : Nat) (b : List UInt8) (h : textL k0 l j b = .tok t tt) : j < tt ∧ tt ≤ j + l.length := by
  fun_induction textL k0 l j b <;> simp_all <;> omega
theorem firstT_mem {t : Tok} {tt : Nat} : ∀ (l : List TR), firstT l = .tok t tt → .tok t tt ∈ l
  | [], h => by simp [firstT] at h
  | .none :: l, h => List.mem_cons_of_mem _ (firstT_mem l h)
  | .err c :: l, h => by simp [firstT] at h
  | .tok _ _ :: l, h => by simp [firstT] at h; simp [h]
theorem next_fits {s : ByteArray} {k tt : Nat} {t : Tok} (hk : k < s.size) (h : nextT s k = .tok t tt) : k < tt ∧ tt ≤ s.size := by
  have hto := spanTo_le s k 2 (by omega)
  have hg := spanTo_gt s k hk 2
  rw [← rest_head s k hk] at hg
  have n1 : ∀ t tt, nameT s k = .tok t tt → k < tt ∧ tt ≤ s.size := by
    intro t tt h
    unfold nameT at h
    split at h
    · cases h
    · split at h
      · cases h
      · cases h; exact ⟨hg (by simp at *; omega), hto⟩
  have n2 : ∀ t tt, numT s k = .tok t tt → k < tt ∧ tt ≤ s.size := by
    intro t tt h
    unfold numT numOf at h
    split at h
    · cases h
    · split at h
      · split at h
        · cases h
        · cases h; exact ⟨hg (by simp at *; omega), hto⟩
      · cases h
  have n3 : ∀ t tt, textT s k = .tok t tt → k < tt ∧ tt ≤ s.size := by
    intro t tt h
    unfold textT at h
    split at h
    · cases h
    · have := textL_fits _ _ _ _ _ _ h
      rw [rest_len] at this
      omega
  have n4 : ∀ t tt, signT s k = .tok t tt → k < tt ∧ tt ≤ s.size := by
    intro t tt h
    have gen : ∀ (n : Nat) (j : Nat), n + j = 9 → signL s k (pairs.drop j) = .tok t tt → k < tt ∧ tt ≤ s.size := by
      intro n
      induction n with
      | zero =>
        intro j hj h
        obtain rfl : j = 9 := by omega
        simp only [show pairs.drop 9 = [] from rfl, signL] at h
        split at h
        · cases h; omega
        · cases h
      | succ n ih =>
        intro j hj h
        rw [pairs_drop j (by omega)] at h
        simp only [signL] at h
        split at h
        · rename_i hp
          have := pair_fits (by omega) hp
          cases h; omega
        · exact ih (j + 1) (by omega) h
    exact gen 9 0 rfl h
  have hm := firstT_mem _ h
  simp only [List.mem_cons, List.not_mem_nil, or_false] at hm
  rcases hm with hm | hm | hm | hm
  · exact n1 _ _ hm.symm
  · exact n2 _ _ hm.symm
  · exact n3 _ _ hm.symm
  · exact n4 _ _ hm.symm
theorem Took.of_none {w w' : World} {B base : Nat} {s : ByteArray} {v : Value} {k : Nat} {ts : List Tok} {r : TR} {e : Ending} (h : Took w B base s v k ts r e w') (hr : r = .none) : e = .returned (.tuple #[.bool false, (.int .i64 0)]) ∧ Hid (At w' B base s k v ts ∧ Moved B base w w') := by
  subst hr; exact h
theorem Took.of_err {w w' : World} {B base : Nat} {s : ByteArray} {v : Value} {k : Nat} {ts : List Tok} {r : TR} {e : Ending} {c : Int} (h : Took w B base s v k ts r e w') (hr : r = .err c) : e = .returned (.tuple #[.bool true, (.int .i64 c)]) ∧ Hid (At w' B base s k v ts ∧ Moved B base w w') := by
  subst hr; exact h
theorem Took.of_tok {w w' : World} {B base : Nat} {s : ByteArray} {v : Value} {k : Nat} {ts : List Tok} {r : TR} {e : Ending} {t : Tok} {tt : Nat} (h : Took w B base s v k ts r e w') (hr : r = .tok t tt) : e = .returned (.tuple #[.bool true, (.int .i64 0)]) ∧ Hid (∃ v', At w' B base s tt v' (ts ++ [t]) ∧ Moved B base w w') := by
  subst hr; exact h
def NextR (w : World) (B base : Nat) (s : ByteArray) (v : Value) (k : Nat) (ts : List Tok) (r : TR) (e : Ending) (w' : World) : Prop :=
  match r with
  | .none => False
  | .err c => e = .returned (.int .i64 c) ∧ At w' B base s k v ts ∧ Moved B base w w'
  | .tok t tt => e = .returned (.int .i64 0) ∧ ∃ v', At w' B base s tt v' (ts ++ [t]) ∧ Moved B base w w'
def readers : Array Value := #[.func (.func 110) #[] #[], .func (.func 111) #[] #[], .func (.func 112) #[] #[], .func (.func 113) #[] #[]]
theorem reader_at0 (w : World) : (Instr.index 186 (.agg readers) (.int .i64 0)).run Tryz.prog w = .ok (.func (.func 110) #[] #[]) w := by kernel_rfl
theorem reader_at1 (w : World) : (Instr.index 186 (.agg readers) (.int .i64 1)).run Tryz.prog w = .ok (.func (.func 111) #[] #[]) w := by kernel_rfl
theorem reader_at2 (w : World) : (Instr.index 186 (.agg readers) (.int .i64 2)).run Tryz.prog w = .ok (.func (.func 112) #[] #[]) w := by kernel_rfl
theorem reader_at3 (w : World) : (Instr.index 186 (.agg readers) (.int .i64 3)).run Tryz.prog w = .ok (.func (.func 113) #[] #[]) w := by kernel_rfl
theorem wpList_index {P : Program} {ops : Array Oper} {rest : List Oper} {o : Oper} {a : Act} {Q : Exit → Act → World → Prop} {w : World} (hg : o.guard = none) (t : TypeId) (x ix : Operand) (hop : o.op = .index t x ix) (xs iv v : Value) (hx : a.eval x = xs) (hi : a.eval ix = iv) (hrun : (Instr.index t xs iv).run P w = .ok v w) (hK : wpList P ops Q rest (a.put o.dst v) w) : wpList P ops Q (o :: rest) a w := by
  refine wpList_plain hg fun K hK' => ?_
  unfold Oper.wp
  simp [execOp, hop, hx, hi, hrun, Result.andThen]
  exact hK' _ _ hK
def NS (w : World) (B base : Nat) (s : ByteArray) (v : Value) (k : Nat) (ts : List Tok) (l : List TR) (wr : World) : Prop := At wr B base s k v ts ∧ Moved B base w wr ∧ firstT l = nextT s k
theorem NS.step {w wr w' : World} {B base : Nat} {s : ByteArray} {v : Value} {k : Nat} {ts : List Tok} {l : List TR} {r : TR} (h : NS w B base s v k ts (r :: l) wr) (hr : r = .none) (h2 : Hid (At w' B base s k v ts ∧ Moved B base wr w')) : NS w B base s v k ts l w' := by
  subst hr; exact ⟨h2.out.1, h.2.1.trans h2.out.2, h.2.2⟩
set_option maxRecDepth 20000 in
set_option maxHeartbeats 2000000 in
theorem next_any (B base : Nat) (s : ByteArray) (k : Nat) (v : Value) (ts : List Tok) (w : World) (h : At w B base s k v ts) (hs : s.size ≤ 65536) (hk : k < s.size) :
    Calls Tryz.prog 85 #[.pointer (some ⟨B, 0, none⟩)] w (NextR w B base s v k ts (nextT s k)) := by
  have H0 : Hid (NS w B base s v k ts [nameT s k, numT s k, textT s k, signT s k] w) := ⟨h, Turned.refl _ _, rfl⟩
  clear h
  go_enter Tryz.func85, Tryz.ntmps85
  go_wp2_with fail
  go_loopw [8] (fun i wr => i = (.int .i64 0) ∧ Hid (NS w B base s v k ts [nameT s k, numT s k, textT s k, signT s k] wr) ∨ i = (.int .i64 1) ∧ Hid (NS w B base s v k ts [numT s k, textT s k, signT s k] wr)
    ∨ i = (.int .i64 2) ∧ Hid (NS w B base s v k ts [textT s k, signT s k] wr) ∨ i = (.int .i64 3) ∧ Hid (NS w B base s v k ts [signT s k] wr) ∨ i = (.int .i64 4) ∧ Hid (NS w B base s v k ts [] wr)) (fun i _ => 4 - (intOf i).toNat)
  case atStart => exact .inl ⟨rfl, H0⟩
  case round =>
    clear H0
    rcases hrel with ⟨rfl, HS⟩ | ⟨rfl, HS⟩ | ⟨rfl, HS⟩ | ⟨rfl, HS⟩ | ⟨rfl, HS⟩
    · have HC := Lib.hid (name_any B base s k v ts wr HS.out.1 hs hk)
      cases hT : nameT s k with
      | none =>
        go_wp2_with (first | refine wpList_index rfl 186 (.tmp 7) (.tmp 8) rfl (.agg readers) (.int .i64 0) _ rfl rfl (reader_at0 _) ?_ | (go_at_call 110; refine HC.out.mono ?_; intro e w7 hr; obtain ⟨rfl, HA⟩ := hr.of_none hT; clear hr))
        go_roundw
        case rel => exact .inr (.inl ⟨by first | rfl | go_num, NS.step HS.out hT HA⟩)
        case measure => simp [intOf]
      | err c =>
        have HE : Hid (nextT s k = .err c) := by show _ = _; rw [← HS.out.2.2, hT]; rfl
        go_wp2_with (first | refine wpList_index rfl 186 (.tmp 7) (.tmp 8) rfl (.agg readers) (.int .i64 0) _ rfl rfl (reader_at0 _) ?_ | (go_at_call 110; refine HC.out.mono ?_; intro e w7 hr; obtain ⟨rfl, HA⟩ := hr.of_err hT; clear hr))
        go_ret
        rw [HE.out]
        exact ⟨rfl, HA.out.1, HS.out.2.1.trans HA.out.2⟩
      | tok t tt =>
        have HE : Hid (nextT s k = .tok t tt) := by show _ = _; rw [← HS.out.2.2, hT]; rfl
        go_wp2_with (first | refine wpList_index rfl 186 (.tmp 7) (.tmp 8) rfl (.agg readers) (.int .i64 0) _ rfl rfl (reader_at0 _) ?_ | (go_at_call 110; refine HC.out.mono ?_; intro e w7 hr; obtain ⟨rfl, HA⟩ := hr.of_tok hT; clear hr))
        go_ret
        rw [HE.out]
        obtain ⟨v', q1, q2⟩ := HA.out
        exact ⟨rfl, v', q1, HS.out.2.1.trans q2⟩
    · have HC := Lib.hid (number_any B base s k v ts wr HS.out.1 hs hk)
      cases hT : numT s k with
      | none =>
        go_wp2_with (first | refine wpList_index rfl 186 (.tmp 7) (.tmp 8) rfl (.agg readers) (.int .i64 1) _ rfl rfl (reader_at1 _) ?_ | (go_at_call 111; refine HC.out.mono ?_; intro e w7 hr; obtain ⟨rfl, HA⟩ := hr.of_none hT; clear hr))
        go_roundw
        case rel => exact .inr (.inr (.inl ⟨by first | rfl | go_num, NS.step HS.out hT HA⟩))
        case measure => simp [intOf]
      | err c =>
        have HE : Hid (nextT s k = .err c) := by show _ = _; rw [← HS.out.2.2, hT]; rfl
        go_wp2_with (first | refine wpList_index rfl 186 (.tmp 7) (.tmp 8) rfl (.agg readers) (.int .i64 1) _ rfl rfl (reader_at1 _) ?_ | (go_at_call 111; refine HC.out.mono ?_; intro e w7 hr; obtain ⟨rfl, HA⟩ := hr.of_err hT; clear hr))
        go_ret
        rw [HE.out]
        exact ⟨rfl, HA.out.1, HS.out.2.1.trans HA.out.2⟩
      | tok t tt =>
        have HE : Hid (nextT s k = .tok t tt) := by show _ = _; rw [← HS.out.2.2, hT]; rfl
        go_wp2_with (first | refine wpList_index rfl 186 (.tmp 7) (.tmp 8) rfl (.agg readers) (.int .i64 1) _ rfl rfl (reader_at1 _) ?_ | (go_at_call 111; refine HC.out.mono ?_; intro e w7 hr; obtain ⟨rfl, HA⟩ := hr.of_tok hT; clear hr))
        go_ret
        rw [HE.out]
        obtain ⟨v', q1, q2⟩ := HA.out
        exact ⟨rfl, v', q1, HS.out.2.1.trans q2⟩
    · have HC := Lib.hid (text_any B base s k v ts wr HS.out.1 hs hk)
      cases hT : textT s k with
      | none =>
        go_wp2_with (first | refine wpList_index rfl 186 (.tmp 7) (.tmp 8) rfl (.agg readers) (.int .i64 2) _ rfl rfl (reader_at2 _) ?_ | (go_at_call 112; refine HC.out.mono ?_; intro e w7 hr; obtain ⟨rfl, HA⟩ := hr.of_none hT; clear hr))
        go_roundw
        case rel => exact .inr (.inr (.inr (.inl ⟨by first | rfl | go_num, NS.step HS.out hT HA⟩)))
        case measure => simp [intOf]
      | err c =>
        have HE : Hid (nextT s k = .err c) := by show _ = _; rw [← HS.out.2.2, hT]; rfl
        go_wp2_with (first | refine wpList_index rfl 186 (.tmp 7) (.tmp 8) rfl (.agg readers) (.int .i64 2) _ rfl rfl (reader_at2 _) ?_ | (go_at_call 112; refine HC.out.mono ?_; intro e w7 hr; obtain ⟨rfl, HA⟩ := hr.of_err hT; clear hr))
        go_ret
        rw [HE.out]
        exact ⟨rfl, HA.out.1, HS.out.2.1.trans HA.out.2⟩
      | tok t tt =>
        have HE : Hid (nextT s k = .tok t tt) := by show _ = _; rw [← HS.out.2.2, hT]; rfl
        go_wp2_with (first | refine wpList_index rfl 186 (.tmp 7) (.tmp 8) rfl (.agg readers) (.int .i64 2) _ rfl rfl (reader_at2 _) ?_ | (go_at_call 112; refine HC.out.mono ?_; intro e w7 hr; obtain ⟨rfl, HA⟩ := hr.of_tok hT; clear hr))
        go_ret
        rw [HE.out]
        obtain ⟨v', q1, q2⟩ := HA.out
        exact ⟨rfl, v', q1, HS.out.2.1.trans q2⟩
    · have HC := Lib.hid (sign_any B base s k v ts wr HS.out.1 hs hk)
      cases hT : signT s k with
      | none =>
        go_wp2_with (first | refine wpList_index rfl 186 (.tmp 7) (.tmp 8) rfl (.agg readers) (.int .i64 3) _ rfl rfl (reader_at3 _) ?_ | (go_at_call 113; refine HC.out.mono ?_; intro e w7 hr; obtain ⟨rfl, HA⟩ := hr.of_none hT; clear hr))
        go_roundw
        case rel => exact .inr (.inr (.inr (.inr (⟨by first | rfl | go_num, NS.step HS.out hT HA⟩))))
        case measure => simp [intOf]
      | err c =>
        have HE : Hid (nextT s k = .err c) := by show _ = _; rw [← HS.out.2.2, hT]; rfl
        go_wp2_with (first | refine wpList_index rfl 186 (.tmp 7) (.tmp 8) rfl (.agg readers) (.int .i64 3) _ rfl rfl (reader_at3 _) ?_ | (go_at_call 113; refine HC.out.mono ?_; intro e w7 hr; obtain ⟨rfl, HA⟩ := hr.of_err hT; clear hr))
        go_ret
        rw [HE.out]
        exact ⟨rfl, HA.out.1, HS.out.2.1.trans HA.out.2⟩
      | tok t tt =>
        have HE : Hid (nextT s k = .tok t tt) := by show _ = _; rw [← HS.out.2.2, hT]; rfl
        go_wp2_with (first | refine wpList_index rfl 186 (.tmp 7) (.tmp 8) rfl (.agg readers) (.int .i64 3) _ rfl rfl (reader_at3 _) ?_ | (go_at_call 113; refine HC.out.mono ?_; intro e w7 hr; obtain ⟨rfl, HA⟩ := hr.of_tok hT; clear hr))
        go_ret
        rw [HE.out]
        obtain ⟨v', q1, q2⟩ := HA.out
        exact ⟨rfl, v', q1, HS.out.2.1.trans q2⟩
    · have HE : Hid (nextT s k = .err 26) := by show _ = _; rw [← HS.out.2.2]; rfl
      go_wp2_with fail
      go_ret
      rw [HE.out]
      exact ⟨rfl, HS.out.1, HS.out.2.1⟩
end Go.Proofs.YtjijdgkccfeeaaaGreatDoor
namespace Go.Proofs.YtjijdgkccfeeaaaGreatDoor
open Go Go.Proofs Go.RowKit
attribute [local go_sem] Oper.semAt_some
inductive LR where
  | ok (ts : List Tok)
  | err (at_ : Nat) (c : Int)
def endTok (s : ByteArray) : Tok := ⟨5, s.size, ⟨#[]⟩, 0⟩
def lexF (s : ByteArray) : Nat → Nat → List Tok → LR
  | 0, k, _ => .err k 26
  | n + 1, k, ts =>
    if k < s.size then
      match nextT s k with
      | .tok t tt => lexF s n (blankTo s tt) (ts ++ [t])
      | .err c => .err k c
      | .none => .err k 26
    else .ok (ts ++ [endTok s])
def tokensP (s : ByteArray) : LR := if 65536 < s.size then .err 0 2 else lexF s (s.size + 1) (blankTo s 0) []
def TokensR (w : World) (_s : ByteArray) (r : LR) (e : Ending) (w' : World) : Prop :=
  match r with
  | .err k c => e = .returned (.tuple #[.slice none 0 0, .agg #[(.int .i64 k), (.int .i64 c)]]) ∧ Turned (fun _ => False) w w'
  | .ok ts => ∃ v, e = .returned (.tuple #[v, .agg #[(.int .i64 0), (.int .i64 0)]]) ∧ w'.ownsRow w.heap.size 68 4 v ts.length (ts.flatMap tokV) ∧ Turned (fun _ => False) w w'
structure TL (w : World) (s : ByteArray) (k : Nat) (v : Value) (ts : List Tok) (f : Nat) (wr : World) : Prop where
  at_ : At wr (w.heap.size + 1) (w.heap.size + 2) s k v ts
  le : k ≤ s.size
  fuel : s.size < k + f
  eq : lexF s f k ts = tokensP s
  cell : wr.heap[w.heap.size]? = some (.cells #[(.int .i64 0), (.int .i64 0)] 26 (0, 0))
  tur : Turned (fun j => w.heap.size ≤ j) w wr
theorem skip_at {w wr : World} {s : ByteArray} {k : Nat} {v : Value} {ts : List Tok} {f : Nat} (hs : s.size ≤ 65536) (hA : At wr (w.heap.size + 1) (w.heap.size + 2) s k v ts) (hk : k ≤ s.size) (hf : s.size < blankTo s k + f) (he : lexF s f (blankTo s k) ts = tokensP s)
    (hc : wr.heap[w.heap.size]? = some (.cells #[(.int .i64 0), (.int .i64 0)] 26 (0, 0))) (ht : Turned (fun j => w.heap.size ≤ j) w wr) :
    Calls Tryz.prog 84 #[.pointer (some ⟨w.heap.size + 1, 0, none⟩)] wr fun e w' => e = .returned (.tuple #[]) ∧ Hid (TL w s (blankTo s k) v ts f w') := by
  refine (skip_any _ s k v wr hA.rd (by omega) hk).mono ?_
  rintro e w' ⟨rfl, h1, h2⟩
  have hlt := getElem?_lt hA.rd
  refine ⟨rfl, ⟨⟨h1, ownsRow_turned' h2 (fun g hg he => ?_) hA.own, hA.lt, Nat.le_trans hA.le h2.size, Nat.le_trans hA.len (blankTo_ge s k), hA.vars.turned h2 fun g hg he => by omega⟩, blankTo_le s k hk, hf, he, ?_, ht.trans (h2.mono fun j hj => by omega)⟩⟩
  · have := (ownsRow_block hA.own g hg).1
    omega
  · rw [h2.block _ (by omega) (by omega)]; exact hc
theorem TL.next {w wr : World} {s : ByteArray} {k : Nat} {v : Value} {ts : List Tok} {f : Nat} (hs : s.size ≤ 65536) (h : TL w s k v ts f wr) (hk : k < s.size) {t : Tok} {tt : Nat} {v' : Value} {w' : World} (hn : nextT s k = .tok t tt) (hA : At w' (w.heap.size + 1) (w.heap.size + 2) s tt v' (ts ++ [t])) (hM : Moved (w.heap.size + 1) (w.heap.size + 2) wr w') :
    Hid (∃ f', Calls Tryz.prog 84 #[.pointer (some ⟨w.heap.size + 1, 0, none⟩)] w' fun e w2 => e = .returned (.tuple #[]) ∧ Hid (TL w s (blankTo s tt) v' (ts ++ [t]) f' w2)) := by
  obtain ⟨hg, hle⟩ := next_fits hk hn
  have hfu := h.fuel
  have hge := blankTo_ge s tt
  have hlt := getElem?_lt h.cell
  obtain ⟨f', rfl⟩ : ∃ f', f = f' + 1 := ⟨f - 1, by have := h.le; omega⟩
  refine ⟨f', skip_at hs hA hle (by omega) ?_ ?_ (h.tur.trans (hM.mono fun j hj => by omega))⟩
  · rw [← h.eq]
    conv => rhs; unfold lexF
    rw [if_pos hk, hn]
  · rw [hM.block _ hlt (by omega)]; exact h.cell
theorem problem_size : (Tryz.prog.info? 26).map (·.size) = some 2 := by kernel_rfl
theorem results_tokens (tmps : Array Value) (w : World) (g : Nat) (x y v : Value) (h2 : tmps.getD 2 undef = v) (hp : tmps.getD 3 undef = .pointer (some ⟨g, 0, none⟩)) (hg : w.heap[g]? = some (.cells #[x, y] 26 (0, 0))) :
    (results Tryz.f49 tmps).run Tryz.prog w = .ok (.tuple #[v, .agg #[x, y]]) w := by
  have hp' : tmps[3]?.getD undef = .pointer (some ⟨g, 0, none⟩) := by simpa using hp
  have h2' : tmps[2]?.getD undef = v := by simpa using h2
  simp [results, hp', h2', asAddr, run_loadVar_row w g 26 26 #[x, y] (0, 0) _ hg Tryz.underlying26 rfl problem_size]
theorem two_cells {V : World} {N : Nat} {a b : Value} {t : TypeId} (h : V.heap[N]? = some (.cells #[a, b] t (0, 0))) : V.cell? ⟨N, 0, none⟩ = some a ∧ V.cell? ⟨N, 1, none⟩ = some b ∧ V.frozen? ⟨N, 0, none⟩ = false ∧ V.frozen? ⟨N, 1, none⟩ = false := by
  simp [World.cell?, World.frozen?, h]
theorem two_set {V : World} {N : Nat} {a b x y : Value} {t : TypeId} (h : V.heap[N]? = some (.cells #[a, b] t (0, 0))) : ((V.setCell ⟨N, 0, none⟩ x).setCell ⟨N, 1, none⟩ y).heap[N]? = some (.cells #[x, y] t (0, 0)) := by
  simp [World.setCell, Array.getElem?_modify, h]
theorem two_turned {C : Nat → Prop} {W V : World} {N : Nat} {x y : Value} (h : Turned C W V) (hN : C N) : Turned C W ((V.setCell ⟨N, 0, none⟩ x).setCell ⟨N, 1, none⟩ y) := (h.setCell (p := ⟨N, 0, none⟩) hN x).setCell (p := ⟨N, 1, none⟩) hN y
theorem Vars.mono {n m : Nat} {w : World} (h : Vars n w) (hm : n ≤ m) : Vars m w := by
  obtain ⟨⟨a, b, h1⟩, ⟨c, d, h2⟩, h3⟩ := h
  exact ⟨⟨a, b, h1.1, fun g hg => Nat.lt_of_lt_of_le (h1.2 g hg) hm⟩, ⟨c, d, h2.1, fun g hg => Nat.lt_of_lt_of_le (h2.2 g hg) hm⟩, h3.1, fun g hg => Nat.lt_of_lt_of_le (h3.2 g hg) hm⟩
theorem textL_errs (k0 : Nat) (c : Int) (l : List UInt8) (j : Nat) (b : List UInt8) (h : textL k0 l j b = .err c) : c ≠ 0 := by
  fun_induction textL k0 l j b <;> simp_all <;> omega
theorem next_errs {s : ByteArray} {k : Nat} {c : Int} (h : nextT s k = .err c) : c ≠ 0 := by
  have gen : ∀ l : List TR, firstT l = .err c → (∀ d, TR.err d ∈ l → d ≠ 0) → c ≠ 0 := by
    intro l
    induction l with
    | nil => intro h _; simp [firstT] at h; omega
    | cons r l ih =>
      intro h hl
      cases r with
      | none => exact ih h fun d hd => hl d (List.mem_cons_of_mem _ hd)
      | err d => simp [firstT] at h; subst h; exact hl d (List.mem_cons_self ..)
      | tok t tt => simp [firstT] at h
  refine gen _ h fun d hm => ?_
  simp only [List.mem_cons, List.not_mem_nil, or_false] at hm
  rcases hm with hm | hm | hm | hm
  · unfold nameT at hm
    split at hm
    · cases hm
    · split at hm
      · cases hm; decide
      · cases hm
  · unfold numT numOf at hm
    split at hm
    · cases hm
    · split at hm
      · split at hm
        · cases hm; decide
        · cases hm
      · cases hm; decide
  · unfold textT at hm
    split at hm
    · cases hm
    · exact textL_errs _ _ _ _ _ hm.symm
  · have gs : ∀ l, signL s k l ≠ .err d := by
      intro l
      induction l with
      | nil => unfold signL; split <;> simp
      | cons p l ih => unfold signL; split <;> simp [ih]
    exact absurd hm.symm (gs _)
theorem TL.meas {w wr : World} {s : ByteArray} {k : Nat} {v : Value} {ts : List Tok} {f : Nat} (h : TL w s k v ts f wr) : intOf ((wr.cell? ⟨w.heap.size + 1, 1, none⟩).getD undef) = k := by
  rw [h.at_.rd.cells.2.1]; rfl
theorem lexF_ok {s : ByteArray} {k f : Nat} {ts : List Tok} (h : s.size < k + f) (hk : k = s.size) : lexF s f k ts = .ok (ts ++ [endTok s]) := by
  obtain ⟨f', rfl⟩ : ∃ f', f = f' + 1 := ⟨f - 1, by omega⟩
  unfold lexF; rw [if_neg (by omega)]
theorem lexF_err {s : ByteArray} {k f : Nat} {ts : List Tok} {c : Int} (h : s.size < k + f) (hk : k < s.size) (hn : nextT s k = .err c) : lexF s f k ts = .err k c := by
  obtain ⟨f', rfl⟩ : ∃ f', f = f' + 1 := ⟨f - 1, by omega⟩
  unfold lexF; rw [if_pos hk, hn]
set_option maxRecDepth 20000 in
set_option maxHeartbeats 2000000 in
theorem tokens_any (s : ByteArray) (w : World) (hv : Vars w.heap.size w) : Calls Tryz.prog 49 #[.string s] w (TokensR w s (tokensP s)) := by
  go_enter Tryz.func49, Tryz.ntmps49
  by_cases hbig : 65536 < s.size
  · have HF : Hid (tokensP s = .err 0 2) := by show _ = _; unfold tokensP; rw [if_pos hbig]
    go_wp2_with fail
    refine bodyPost_ret (results_tokens _ _ w.heap.size (.int .i64 0) (.int .i64 2) _ rfl rfl (heap_alloc_new _ _)) rfl ?_
    rw [HF.out]
    exact ⟨rfl, (Turned.refl _ _).alloc _⟩
  · have hs : s.size ≤ 65536 := by omega
    have HE : Hid (lexF s (s.size + 1) (blankTo s 0) [] = tokensP s) := by show _ = _; unfold tokensP; rw [if_neg hbig]
    have HK : Hid (Calls Tryz.prog 84 #[.pointer (some ⟨w.heap.size + 1, 0, none⟩)] ((w.alloc (.cells #[(.int .i64 0), (.int .i64 0)] 26)).alloc (.cells #[.string s, (.int .i64 0), .slice none 0 0] 146)) fun e w' => e = .returned (.tuple #[]) ∧ Hid (TL w s (blankTo s 0) (.slice none 0 0) [] (s.size + 1) w')) := by
      have ht : Turned (fun j => w.heap.size ≤ j) w ((w.alloc (.cells #[(.int .i64 0), (.int .i64 0)] 26)).alloc (.cells #[.string s, (.int .i64 0), .slice none 0 0] 146)) := ((Turned.refl _ _).alloc _).alloc _
      refine skip_at hs ⟨?_, ⟨rfl, .inl ⟨rfl, rfl⟩⟩, by omega, by simp, by simp, (hv.turned ht fun g hg => by omega).mono (by omega)⟩ (by omega) (by have := blankTo_ge s 0; omega) HE.out ?_ ht
      · have := heap_alloc_new (w.alloc (.cells #[(.int .i64 0), (.int .i64 0)] 26)) (.cells #[.string s, (.int .i64 0), .slice none 0 0] 146)
        rw [show (w.alloc (.cells #[(.int .i64 0), (.int .i64 0)] 26)).heap.size = w.heap.size + 1 by simp] at this
        exact this
      · rw [hao _ _ (by simp)]
        exact heap_alloc_new _ _
    clear HE
    go_wp2_with (go_at_call 84; refine HK.out.mono ?_; rintro e w1 ⟨rfl, HL⟩)
    clear HK
    go_loopw [5] (fun _ wr => ∃ (k : Nat) (v : Value) (ts : List Tok) (f : Nat), Hid (TL w s k v ts f wr)) (fun _ wr => s.size - (intOf ((wr.cell? ⟨w.heap.size + 1, 1, none⟩).getD undef)).toNat)
    case atStart => exact ⟨_, _, _, _, HL⟩
    case round =>
      clear HL w1
      obtain ⟨k, v, ts, f, HL⟩ := hrel
      obtain ⟨c0, c1, c2⟩ := HL.out.at_.rd.cells
      have hle := HL.out.le
      have HM : Hid (intOf ((wr.cell? ⟨w.heap.size + 1, 1, none⟩).getD undef) = k) := HL.out.meas
      by_cases hk : k < s.size
      · have HC := Lib.hid (next_any _ _ s k v ts wr HL.out.at_ hs hk)
        cases hT : nextT s k with
        | none =>
          go_wp2_with (go_at_call 85; refine HC.out.mono ?_; intro e w7 hr; rw [hT] at hr; exact hr.elim)
        | err c =>
          have hc0 : (c != 0) = true := by simpa using next_errs hT
          have HF : Hid (tokensP s = .err k c) := by show _ = _; rw [← HL.out.eq, lexF_err HL.out.fuel hk hT]
          go_wp2_with (go_at_call 85; refine HC.out.mono ?_; intro e w7 hr; rw [hT] at hr; obtain ⟨rfl, hA, hM⟩ := hr; have HA := Lib.hid hA; have HMo := Lib.hid hM; clear hA hM)
          refine region_tail (w := w7) (Turned.refl _ _) 7 (by kernel_rfl) (by kernel_rfl) (fun V hT => ?_)
          obtain ⟨d0, d1, d2⟩ := (HA.out.same hT).rd.cells
          have HT2 := Lib.hid hT
          have hcV : V.heap[w.heap.size]? = some (.cells #[(.int .i64 0), (.int .i64 0)] 26 (0, 0)) := by
            have h7 := HMo.out.block w.heap.size (getElem?_lt HL.out.cell) (by omega)
            rw [hT.block _ (by have := HMo.out.size; have := getElem?_lt HL.out.cell; omega) id, h7]
            exact HL.out.cell
          obtain ⟨x0, x1, x2, x3⟩ := two_cells hcV
          have HcV := Lib.hid hcV
          clear hT c0 c1 c2 hcV
          simp only [List.take_succ_cons, List.take_zero, List.drop_succ_cons, List.drop_zero]
          repeat still_step
          refine wpStill_nil ?_
          go_wp2_with fail
          refine bodyPost_ret (results_tokens _ _ w.heap.size (.int .i64 k) (.int .i64 c) _ rfl rfl (two_set HcV.out)) rfl ?_
          rw [HF.out]
          exact ⟨rfl, (two_turned (HL.out.tur.trans ((HMo.out.mono fun j hj => (by omega)).trans (HT2.out.mono fun _ h => h.elim))) (Nat.le_refl _)).strip⟩
        | tok t tt =>
          have HN := Lib.hid (fun (v' : Value) (w' : World) (hA : At w' (w.heap.size + 1) (w.heap.size + 2) s tt v' (ts ++ [t])) hM => TL.next hs HL.out hk hT hA hM)
          have hft := next_fits hk hT
          go_wp2_with (first | (go_at_call 85; refine HC.out.mono ?_; intro e w7 hr; rw [hT] at hr; obtain ⟨rfl, v', hA, hM⟩ := hr; obtain ⟨f', HSk⟩ := (HN.out v' w7 hA hM).out; clear hA hM) | (go_at_call 84; refine HSk.mono ?_; rintro e w2 ⟨rfl, HL2⟩))
          refine ⟨?_, ?measure⟩
          case measure => rw [HL2.out.meas, HM.out]; have := blankTo_ge s tt; have := HL2.out.le; omega
          repeat apply Exists.intro
          exact HL2
      · obtain rfl : k = s.size := by omega
        have HF : Hid (tokensP s = .ok (ts ++ [endTok s])) := by show _ = _; rw [← HL.out.eq, lexF_ok HL.out.fuel rfl]
        have HP := Lib.hid (put_any (w.heap.size + 1) (w.heap.size + 2) s s.size 5 s.size 0 ⟨#[]⟩ v ts wr HL.out.at_.rd HL.out.at_.own HL.out.at_.lt HL.out.at_.le (by have := HL.out.at_.len; omega))
        go_wp2_with (go_at_call 86; refine HP.out.mono ?_; rintro e w6 ⟨rfl, v', hR', hO', hT'⟩; obtain ⟨d0, d1, d2⟩ := hR'.cells; have HO' := Lib.hid hO'; have HT' := Lib.hid hT'; have hcV : w6.heap[w.heap.size]? = some (.cells #[(.int .i64 0), (.int .i64 0)] 26 (0, 0)) := (hT'.block _ (getElem?_lt HL.out.cell) (by omega)).trans HL.out.cell; obtain ⟨x0, x1, x2, x3⟩ := two_cells hcV; have HcV := Lib.hid hcV; clear hR' hO' hT' c0 c1 c2 hcV)
        refine bodyPost_ret (results_tokens _ _ w.heap.size (.int .i64 0) (.int .i64 0) _ rfl rfl (two_set HcV.out)) rfl ?_
        rw [HF.out]
        refine ⟨v', rfl, ?_, (two_turned (HL.out.tur.trans (HT'.out.mono fun j hj => (by omega))) (Nat.le_refl _)).strip⟩
        have h1 := ownsRow_turned' (C := fun j => j = w.heap.size) (two_turned (x := (.int .i64 0)) (y := (.int .i64 0)) (Turned.refl _ w6) rfl) (fun g hg he => by have := (ownsRow_block HO'.out g hg).1; omega) HO'.out
        exact ownsRow_lower h1 fun g hg => by have := (ownsRow_block HO'.out g hg).1; omega
end Go.Proofs.YtjijdgkccfeeaaaGreatDoor
namespace Go.Proofs.YtjijdgkccfeeaaaGreatDoor
open Go Go.Proofs Go.RowKit
attribute [local go_sem] Oper.semAt_some
def oneV : TR → Value
  | .tok t tt => .agg #[(.int .i64 (t.kind)), (.int .i64 (t.at_)), .string t.s, (.int .i64 (t.n)), (.int .i64 tt), (.int .i64 0)]
  | .err c => .agg #[(.int .i64 0), (.int .i64 0), .string ⟨#[]⟩, (.int .i64 0), (.int .i64 0), (.int .i64 c)]
  | .none => undef
set_option maxHeartbeats 2000000 in
theorem rname_any (s : ByteArray) (k : Nat) (w : World) (hs : s.size ≤ 70000) (hk : k < s.size) (hc : clsI s[k].toNat = 3) : Calls Tryz.prog 91 #[.string s, (.int .i64 k)] w fun e w' => e = .returned (oneV (nameT s k)) ∧ Turned (fun _ => False) w w' := by
  have HN : Hid (nameT s k = if 32 < spanTo s k 2 - k then .err 2 else .tok ⟨1, k, s.extract k (spanTo s k 2), 0⟩ (spanTo s k 2)) := by
    show _ = _
    unfold nameT; rw [rest_head s k hk, if_neg (by simpa using hc)]
  clear hc
  have hto := spanTo_le s k 2 (by omega)
  have hge := spanTo_ge s k 2
  go_enter Tryz.func91, Tryz.ntmps91
  go_wp2
  go_loop [5] (fun u => ∃ j : Nat, k ≤ j ∧ j ≤ s.size ∧ u = (.int .i64 j) ∧ Hid (j + spanL 2 (rest s j) = spanTo s k 2)) (fun u => s.size - (intOf u).toNat)
  case atStart => exact ⟨k, Nat.le_refl _, by omega, rfl, rfl⟩
  case round =>
    obtain ⟨j, hj1, hj2, rfl, HJ⟩ := hrel
    by_cases hlt : j < s.size
    · have hb : (s[j].toNat : Int) ≤ 255 := by have := s[j].toNat_lt; omega
      have hr := rest_cons s j hlt
      have HY : Hid (2 ≤ cls s[j] → j + 1 + spanL 2 (rest s (j + 1)) = spanTo s k 2) := fun h => by
        rw [← HJ.out, hr, spanL_cons_yes h]; omega
      have HZ : Hid (cls s[j] < 2 → j = spanTo s k 2) := fun h => by
        rw [← HJ.out, hr, spanL_cons_no h]; rfl
      clear hr
      have HC := Lib.hid (fun W => rletter_any (s[j].toNat : Int) W (by omega) hb)
      have HD := Lib.hid (fun W => rdigit_any (s[j].toNat : Int) W (by omega) hb)
      have hcd := cls_bd (s[j].toNat : Int)
      by_cases h3 : clsI (s[j].toNat : Int) = 3
      · have HK := Lib.hid (HY.out (by unfold cls; omega))
        go_wp2_with (first | (go_at_call 90; refine (HC.out _).mono ?_; rintro e w' ⟨rfl, rfl⟩) | (go_at_call 92; refine (HD.out _).mono ?_; rintro e w' ⟨rfl, rfl⟩))
        go_round
        case rel => exact ⟨j + 1, by omega, by omega, by go_num, HK⟩
        case measure => simp [intOf]; omega
      · by_cases h2 : clsI (s[j].toNat : Int) = 2
        · have HK := Lib.hid (HY.out (by unfold cls; omega))
          go_wp2_with (first | (go_at_call 90; refine (HC.out _).mono ?_; rintro e w' ⟨rfl, rfl⟩) | (go_at_call 92; refine (HD.out _).mono ?_; rintro e w' ⟨rfl, rfl⟩))
          go_round
          case rel => exact ⟨j + 1, by omega, by omega, by go_num, HK⟩
          case measure => simp [intOf]; omega
        · have HK := Lib.hid (HZ.out (by unfold cls; omega))
          have hw : IntKind.i64.wrap ((j : Int) - k) = (j : Int) - k := IntWalk.i64_in _ (by omega)
          by_cases hl : 32 < j - k
          · have hl2 : (32 : Int) < (j : Int) - k := by omega
            go_wp2_with (first | (go_at_call 90; refine (HC.out _).mono ?_; rintro e w' ⟨rfl, rfl⟩) | (go_at_call 92; refine (HD.out _).mono ?_; rintro e w' ⟨rfl, rfl⟩))
            exact bodyPost_ret (v := oneV (.err 2)) (by simp [results, Tryz.results91, go_sem, oneV]) rfl ⟨by rw [HN.out, ← HK.out, if_pos hl], (Turned.refl _ _).alloc _⟩
          · have hl2 : (j : Int) - k ≤ 32 := by omega
            go_wp2_with (first | (go_at_call 90; refine (HC.out _).mono ?_; rintro e w' ⟨rfl, rfl⟩) | (go_at_call 92; refine (HD.out _).mono ?_; rintro e w' ⟨rfl, rfl⟩))
            exact bodyPost_ret (v := oneV (.tok ⟨1, k, s.extract k j, 0⟩ j)) (by simp [results, Tryz.results91, go_sem, oneV]) rfl ⟨by rw [HN.out, ← HK.out, if_neg hl], (Turned.refl _ _).alloc _⟩
    · obtain rfl : j = s.size := by omega
      have HK : Hid (s.size = spanTo s k 2) := by show _ = _; rw [← HJ.out, rest_nil s _ (Nat.le_refl _)]; rfl
      have hw : IntKind.i64.wrap ((s.size : Int) - k) = (s.size : Int) - k := IntWalk.i64_in _ (by omega)
      by_cases hl : 32 < s.size - k
      · have hl2 : (32 : Int) < (s.size : Int) - k := by omega
        go_wp2
        exact bodyPost_ret (v := oneV (.err 2)) (by simp [results, Tryz.results91, go_sem, oneV]) rfl ⟨by rw [HN.out, ← HK.out, if_pos hl], (Turned.refl _ _).alloc _⟩
      · have hl2 : (s.size : Int) - k ≤ 32 := by omega
        go_wp2
        exact bodyPost_ret (v := oneV (.tok ⟨1, k, s.extract k s.size, 0⟩ s.size)) (by simp [results, Tryz.results91, go_sem, oneV]) rfl ⟨by rw [HN.out, ← HK.out, if_neg hl], (Turned.refl _ _).alloc _⟩
end Go.Proofs.YtjijdgkccfeeaaaGreatDoor
namespace Go.Proofs.YtjijdgkccfeeaaaGreatDoor
open Go Go.Proofs
def isDig (b : UInt8) : Bool := decide (cls b = 2)
def digL (l : List UInt8) : Nat := (l.takeWhile isDig).length
theorem digL_yes {b : UInt8} {l : List UInt8} (h : cls b = 2) : digL (b :: l) = digL l + 1 := by
  unfold digL
  rw [List.takeWhile_cons_of_pos (by simpa [isDig] using h)]
  rfl
theorem digL_no {b : UInt8} {l : List UInt8} (h : cls b ≠ 2) : digL (b :: l) = 0 := by
  unfold digL
  rw [List.takeWhile_cons_of_neg (by simpa [isDig] using h)]
  rfl
theorem digL_le (l : List UInt8) : digL l ≤ l.length := (List.takeWhile_sublist _).length_le
theorem digL_all : ∀ (l : List UInt8), ∀ b ∈ l.take (digL l), cls b = 2
  | [], b, h => by simp at h
  | c :: l, b, h => by
    by_cases hc : cls c = 2
    · rw [digL_yes hc, List.take_succ_cons] at h
      rcases List.mem_cons.1 h with rfl | h
      · exact hc
      · exact digL_all l b h
    · rw [digL_no hc] at h
      simp at h
theorem dig_iff (b : UInt8) : cls b = 2 ↔ 48 ≤ b.toNat ∧ b.toNat ≤ 57 := by
  unfold cls clsI
  split
  · constructor
    · intro h; omega
    · intro h; omega
  · split
    · simp_all; omega
    · split <;> simp_all <;> omega
def valL : Nat → List UInt8 → Nat
  | acc, [] => acc
  | acc, c :: r => valL (acc * 10 + (c.toNat - 48)) r
theorem valL_snoc : ∀ (acc : Nat) (l : List UInt8) (c : UInt8), valL acc (l ++ [c]) = valL acc l * 10 + (c.toNat - 48)
  | _, [], _ => rfl
  | _, _ :: l, c => valL_snoc _ l c
theorem valL_lt : ∀ (l : List UInt8) (acc : Nat), (∀ b ∈ l, cls b = 2) → valL acc l < (acc + 1) * 10 ^ l.length
  | [], acc, _ => by show acc < (acc + 1) * 1; omega
  | c :: l, acc, h => by
    have hc := (dig_iff c).1 (h c (List.mem_cons_self ..))
    have h1 := valL_lt l (acc * 10 + (c.toNat - 48)) fun b hb => h b (List.mem_cons_of_mem _ hb)
    have h2 : (acc * 10 + (c.toNat - 48) + 1) ≤ (acc + 1) * 10 := by omega
    generalize hp : 10 ^ l.length = p at h1
    have h3 := Nat.mul_le_mul_right p h2
    have h4 : (acc + 1) * 10 * p = (acc + 1) * 10 ^ (c :: l).length := by
      rw [List.length_cons, Nat.pow_succ, hp, Nat.mul_assoc, Nat.mul_comm 10]
    rw [← h4]
    exact Nat.lt_of_lt_of_le h1 h3
theorem pow_bound {n : Nat} (h : n ≤ 15) : 10 ^ n ≤ 10 ^ 15 := Nat.pow_le_pow_right (by omega) h
theorem parse_digits : ∀ (l : List UInt8) (acc : Nat), (∀ b ∈ l, cls b = 2) → (acc + 1) * 10 ^ l.length ≤ 10 ^ 15 → Lib.parseUint10 acc l = .ok (valL acc l)
  | [], acc, _, _ => rfl
  | c :: l, acc, h, hb => by
    have hc := (dig_iff c).1 (h c (List.mem_cons_self ..))
    have h2 : (acc * 10 + (c.toNat - 48) + 1) ≤ (acc + 1) * 10 := by omega
    have h3 : (acc * 10 + (c.toNat - 48) + 1) * 10 ^ l.length ≤ 10 ^ 15 := by
      refine Nat.le_trans (Nat.mul_le_mul_right _ h2) ?_
      simp only [List.length_cons, Nat.pow_succ] at hb
      rw [Nat.mul_assoc, Nat.mul_comm 10]; exact hb
    have h4 : acc * 10 + (c.toNat - 48) + 1 ≤ 10 ^ 15 := Nat.le_trans (Nat.le_mul_of_pos_right _ (Nat.pow_pos (by omega))) h3
    unfold Lib.parseUint10
    rw [if_pos hc, if_neg (by omega), if_neg (by omega)]
    exact parse_digits l _ (fun b hb => h b (List.mem_cons_of_mem _ hb)) h3
theorem parse_bad : ∀ (l : List UInt8) (acc u : Nat), (∃ b ∈ l, cls b ≠ 2) → Lib.parseUint10 acc l ≠ .ok u
  | [], acc, u, h => by obtain ⟨b, hb, -⟩ := h; cases hb
  | c :: l, acc, u, h => by
    unfold Lib.parseUint10
    split
    · rename_i hc
      split
      · simp
      · split
        · simp
        · refine parse_bad l _ u ?_
          obtain ⟨b, hb, hb2⟩ := h
          rcases List.mem_cons.1 hb with rfl | hb
          · exact absurd ((dig_iff b).2 hc) hb2
          · exact ⟨b, hb, hb2⟩
    · simp
theorem atoi_mag {c : UInt8} {l : List UInt8} (hc : cls c = 2) : Lib.atoiAll (c :: l) = (match Lib.parseUint10 0 (c :: l) with | .ok u => if 9223372036854775808 ≤ u then .range else .ok (u : Int) | .range => .range | _ => Lib.atoiAll []) := by
  have h := (dig_iff c).1 hc
  have h1 : ¬ (c.toNat = 43 ∨ c.toNat = 45) := by omega
  have h2 : ¬ c.toNat = 45 := by omega
  simp only [Lib.atoiAll, Lib.parseMag]
  rw [if_neg h1, if_neg (by simp)]
  generalize Lib.parseUint10 0 (c :: l) = r
  cases r <;> simp [h2]
theorem numOf_bad {k tt : Nat} {c : UInt8} {l : List UInt8} (hc : cls c = 2) (h : ∃ b ∈ c :: l, cls b ≠ 2) : numOf k tt ⟨(c :: l).toArray⟩ = .err 27 := by
  have hp := fun u => parse_bad (c :: l) 0 u h
  have ha := atoi_mag (l := l) hc
  unfold numOf
  show (match Lib.atoiAll (c :: l) with | .ok n => _ | _ => _) = _
  rw [ha]
  cases hr : Lib.parseUint10 0 (c :: l) with
  | ok u => exact absurd hr (hp u)
  | range => rfl
  | _ => rfl
theorem numOf_long {k tt : Nat} {s : ByteArray} (h : 15 < s.size) : numOf k tt s = .err 27 := by
  unfold numOf
  split
  · rw [if_pos (.inl h)]
  · rfl
theorem numOf_zero {k tt : Nat} {s : ByteArray} (h : 1 < s.size) (h0 : s[0]! = 48) : numOf k tt s = .err 27 := by
  unfold numOf
  split
  · rw [if_pos (.inr ⟨h, h0⟩)]
  · rfl
theorem numOf_ok {k tt : Nat} {c : UInt8} {l : List UInt8} (hc : ∀ b ∈ c :: l, cls b = 2) (hl : l.length < 15) (h0 : ¬ (1 < l.length + 1 ∧ c = 48)) : numOf k tt ⟨(c :: l).toArray⟩ = .tok ⟨2, k, ⟨#[]⟩, valL 0 (c :: l)⟩ tt := by
  have hb : (0 + 1) * 10 ^ (c :: l).length ≤ 10 ^ 15 := by rw [Nat.zero_add, Nat.one_mul]; exact pow_bound (by simp; omega)
  have hp := parse_digits (c :: l) 0 hc hb
  have hv := Nat.lt_of_lt_of_le (valL_lt (c :: l) 0 hc) hb
  have ha := atoi_mag (l := l) (hc c (List.mem_cons_self ..))
  rw [hp] at ha
  simp only at ha
  rw [if_neg (by omega)] at ha
  unfold numOf
  show (match Lib.atoiAll (c :: l) with | .ok n => _ | _ => _) = _
  rw [ha]
  simp only
  rw [if_neg]
  rintro (h | ⟨h, h1⟩)
  · have : 15 < (c :: l).length := h
    simp at this; omega
  · have h2 : 1 < (c :: l).length := h
    exact h0 ⟨by simpa using h2, h1⟩
theorem span_dig : ∀ (l : List UInt8), digL l ≤ spanL 2 l ∧ (digL l < spanL 2 l → ∃ h : digL l < l.length, cls l[digL l] = 3) ∧ (∀ h : digL l < l.length, cls l[digL l] = 3 → digL l < spanL 2 l)
  | [] => ⟨by simp [digL], fun h => by simp [spanL] at h, fun h => by simp at h⟩
  | c :: l => by
    obtain ⟨i1, i2, i3⟩ := span_dig l
    have hb := cls_bd c.toNat
    by_cases hc : cls c = 2
    · have e1 := digL_yes (l := l) hc
      have e2 := spanL_cons_yes (least := 2) (b := c) (l := l) (by omega)
      refine ⟨by omega, fun h => ?_, fun h h3 => ?_⟩
      · obtain ⟨h4, h5⟩ := i2 (by omega)
        refine ⟨by simp; omega, ?_⟩
        simp only [e1, List.getElem_cons_succ]
        exact h5
      · simp only [e1, List.getElem_cons_succ] at h3
        have h4 : digL l < l.length := by rw [e1] at h; simpa using h
        have := i3 h4 h3
        omega
    · have e1 := digL_no (l := l) hc
      refine ⟨by omega, fun h => ?_, fun h h3 => ?_⟩
      · refine ⟨by simp; omega, ?_⟩
        simp only [e1, List.getElem_cons_zero]
        by_cases h2 : 2 ≤ cls c
        · unfold cls at hc h2 ⊢; omega
        · rw [spanL_cons_no (by omega)] at h; omega
      · simp only [e1, List.getElem_cons_zero] at h3
        rw [e1, spanL_cons_yes (by omega)]; omega
end Go.Proofs.YtjijdgkccfeeaaaGreatDoor
namespace Go.Proofs.YtjijdgkccfeeaaaGreatDoor
open Go Go.Proofs
theorem pre_list (s : ByteArray) (k : Nat) : (s.extract 0 k).data.toList = s.data.toList.take k := by
  simp
end Go.Proofs.YtjijdgkccfeeaaaGreatDoor
namespace Go.Proofs.YtjijdgkccfeeaaaGreatDoor
open Go Go.Proofs
def Tok.shift (d : Nat) (t : Tok) : Tok := ⟨t.kind, t.at_ + d, t.s, t.n⟩
def TR.shift (d : Nat) : TR → TR
  | .none => .none
  | .err c => .err c
  | .tok t tt => .tok (t.shift d) (tt + d)
def nameL (l : List UInt8) : TR := if clsI l[0]!.toNat ≠ 3 then .none else if 32 < spanL 2 l then .err 2 else .tok ⟨1, 0, ⟨(l.take (spanL 2 l)).toArray⟩, 0⟩ (spanL 2 l)
def numL (l : List UInt8) : TR := if clsI l[0]!.toNat ≠ 2 then .none else numOf 0 (spanL 2 l) ⟨(l.take (spanL 2 l)).toArray⟩
def txtL (l : List UInt8) : TR := if l[0]! ≠ 34 then .none else textL 0 l.tail 1 []
def sgnL (l : List UInt8) : List (List UInt8) → TR
  | [] => if 0 ≤ Lib.indexByte signText.data.toList l[0]! then .tok ⟨4, 0, ⟨#[l[0]!]⟩, 0⟩ 1 else .none
  | p :: ps => if Lib.hasPrefix l p then .tok ⟨4, 0, ⟨p.toArray⟩, 0⟩ 2 else sgnL l ps
def headT (l : List UInt8) : TR := firstT [nameL l, numL l, txtL l, sgnL l pairs]
theorem extract_rest (s : ByteArray) (k n : Nat) : s.extract k (k + n) = ⟨((rest s k).take n).toArray⟩ := by
  apply ByteArray.ext
  apply Array.ext'
  simp [rest]
theorem name_shift (s : ByteArray) (k : Nat) : nameT s k = (nameL (rest s k)).shift k := by
  unfold nameT nameL spanTo
  rw [Nat.add_sub_cancel_left, extract_rest]
  split
  · rfl
  · split
    · rfl
    · simp [TR.shift, Tok.shift, Nat.add_comm]
theorem num_shift (s : ByteArray) (k : Nat) : numT s k = (numL (rest s k)).shift k := by
  unfold numT numL spanTo numOf
  rw [extract_rest]
  split
  · rfl
  · split
    · split
      · rfl
      · simp [TR.shift, Tok.shift, Nat.add_comm]
    · rfl
theorem textL_shiftN (d k0 : Nat) : ∀ (n : Nat) (x : List UInt8), x.length ≤ n → ∀ (j : Nat) (b : List UInt8), textL (k0 + d) x (j + d) b = (textL k0 x j b).shift d := by
  intro n
  induction n using Nat.strongRecOn with
  | _ n ih =>
    intro x hx j b
    by_cases hb : 200 < b.length
    · rw [textL_lim _ _ _ _ hb, textL_lim _ _ _ _ hb]; rfl
    cases x with
    | nil => rw [textL_nil _ _ _ hb, textL_nil _ _ _ hb]; rfl
    | cons c x =>
      simp only [List.length_cons] at hx
      by_cases h34 : c = 34
      · subst h34
        rw [textL_quote _ _ _ _ hb, textL_quote _ _ _ _ hb]
        simp [TR.shift, Tok.shift, Nat.add_right_comm]
      by_cases h92 : c = 92
      · subst h92
        cases x with
        | nil => rw [textL_esc0 _ _ _ hb, textL_esc0 _ _ _ hb]; rfl
        | cons e x =>
          simp only [List.length_cons] at hx
          rw [textL_esc _ _ _ _ _ hb, textL_esc _ _ _ _ _ hb, Nat.add_right_comm]
          split
          · exact ih (n - 2) (by omega) x (by omega) _ _
          · split
            · exact ih (n - 2) (by omega) x (by omega) _ _
            · split
              · exact ih (n - 2) (by omega) x (by omega) _ _
              · rfl
      by_cases hc : c.toNat < 32 ∨ 126 < c.toNat
      · rw [textL_bad _ _ _ _ _ hb h34 h92 hc, textL_bad _ _ _ _ _ hb h34 h92 hc]; rfl
      · rw [textL_step _ _ _ _ _ hb h34 h92 hc, textL_step _ _ _ _ _ hb h34 h92 hc, Nat.add_right_comm]
        exact ih (n - 1) (by omega) x (by omega) _ _
theorem textL_shift (d k0 : Nat) (x : List UInt8) (j : Nat) (b : List UInt8) : textL (k0 + d) x (j + d) b = (textL k0 x j b).shift d := textL_shiftN d k0 _ x (Nat.le_refl _) j b
theorem sgn_shift (s : ByteArray) (k : Nat) : ∀ ps, signL s k ps = (sgnL (rest s k) ps).shift k
  | [] => by
    unfold signL sgnL
    split <;> simp [TR.shift, Tok.shift, Nat.add_comm]
  | p :: ps => by
    unfold signL sgnL
    split
    · simp [TR.shift, Tok.shift, Nat.add_comm]
    · exact sgn_shift s k ps
theorem firstT_shift (d : Nat) : ∀ l, firstT (l.map (TR.shift d)) = (firstT l).shift d
  | [] => rfl
  | .none :: l => by
    show firstT (l.map (TR.shift d)) = _
    rw [firstT_shift d l]; rfl
  | .err _ :: _ => rfl
  | .tok _ _ :: _ => rfl
theorem next_head (s : ByteArray) (k : Nat) (hk : k < s.size) : nextT s k = (headT (rest s k)).shift k := by
  unfold nextT headT
  rw [← firstT_shift]
  simp only [List.map]
  rw [name_shift, num_shift, signT, sgn_shift]
  congr 4
  unfold textT txtL
  rw [rest_cons s k hk]
  simp only [List.tail_cons]
  split
  · rfl
  · have := textL_shift k 0 (rest s (k + 1)) 1 []
    simpa [Nat.add_comm] using this
theorem textL_some (k0 : Nat) (l : List UInt8) (j : Nat) (b : List UInt8) : textL k0 l j b ≠ .none := by
  fun_induction textL k0 l j b <;> simp_all
theorem numOf_some (k tt : Nat) (s : ByteArray) : numOf k tt s ≠ .none := by
  unfold numOf
  split
  · split <;> simp
  · simp
def orChar : TR → TR
  | .none => .err 26
  | r => r
theorem head_sign {b : UInt8} {l : List UInt8} (h : clsI b.toNat < 2) (h2 : b ≠ 34) : headT (b :: l) = orChar (sgnL (b :: l) pairs) := by
  have e1 : nameL (b :: l) = .none := by unfold nameL; rw [if_pos (by simp; omega)]
  have e2 : numL (b :: l) = .none := by unfold numL; rw [if_pos (by simp; omega)]
  have e3 : txtL (b :: l) = .none := by unfold txtL; rw [if_pos (by simpa using h2)]
  unfold headT
  rw [e1, e2, e3]
  generalize sgnL (b :: l) pairs = r
  cases r <;> rfl
theorem pairs_len : ∀ p ∈ pairs, p.length = 2 := by decide
def Breaks (y : List UInt8) : Prop := ∃ c y', y = c :: y' ∧ (c = 32 ∨ c = 9 ∨ c = 10 ∨ c = 13 ∨ c = 35)
theorem Breaks.cls {c : UInt8} (h : c = 32 ∨ c = 9 ∨ c = 10 ∨ c = 13 ∨ c = 35) : clsI c.toNat < 2 := by
  rcases h with rfl | rfl | rfl | rfl | rfl <;> decide
end Go.Proofs.YtjijdgkccfeeaaaGreatDoor
