/- Part 15 of the proof of card: ParWalkL, LexOnce, LexWalkJ, LexRepl, LexBuild. Conditions: those of each theorem. -/
import Derived.Test.YtjijdgkccfeeaaaGreatDoorProg
import Derived.Conc.MuLone
import Derived.Conc.MuData
import Derived.RegionCalls
import Derived.RegionTactic
import Derived.ChangeAlike
import Derived.WalkKit
import Derived.Lib.AppendIntMem
import Derived.Laws.NewBlocks
import Derived.Deep.WholeRow
import Derived.Lib.ConvBytes
import Derived.Test.YtjijdgkccfeeaaaGreatDoorRt01
import Derived.Test.YtjijdgkccfeeaaaGreatDoorRt02
import Derived.Test.YtjijdgkccfeeaaaGreatDoorRt13
import Derived.Test.YtjijdgkccfeeaaaGreatDoorRt14
namespace Go.Proofs.YtjijdgkccfeeaaaGreatDoor
open Go Go.Proofs Go.RowKit
attribute [local go_sem] Oper.semAt_some
inductive PE (α : Type) where
  | ok (x : α)
  | bad (a c : Int)
def readE (ts : List Tok) : PR Ex := (runF ts (ts.length * 16 + 13) .expr 0 1).getD (.err 0 5)
def readF (ts : List Tok) : PR (List Fm) := (formsF ts (ts.length * 32 + 17) 0 0 []).getD (.err 0 5)
def endP {α : Type} (ts : List Tok) : PR α → PE α
  | .err j c => .bad (atT ts j) c
  | .ok x j => if (ts[j]?).map (·.kind) = some 5 then .ok x else .bad (atT ts j) 5
def exprP (s : ByteArray) : PE Ex := match tokensP s with
  | .err k c => .bad k c
  | .ok ts => endP ts (readE ts)
def formsP (s : ByteArray) : PE (List Fm) := match tokensP s with
  | .err k c => .bad k c
  | .ok ts => endP ts (readF ts)
theorem readE_some {ts : List Tok} (ok : TokOK ts) (h : 0 < ts.length) : runF ts (ts.length * 16 + 13) .expr 0 1 = some (readE ts) := by
  obtain ⟨r, hr⟩ := run_total ok (ts.length * 16 + 13) .expr 0 1 trivial h (by simp [measQ, rankQ])
  unfold readE
  rw [hr]; rfl
theorem readF_some {ts : List Tok} (ok : TokOK ts) (h : 0 < ts.length) : formsF ts (ts.length * 32 + 17) 0 0 [] = some (readF ts) := by
  obtain ⟨r, hr⟩ := forms_total ok (ts.length * 32 + 17) 0 0 [] h (by omega)
  unfold readF
  rw [hr]; rfl
theorem endP_err {α : Type} {ts : List Tok} {k : Nat} {r : PR α} {a c : Int} (hf : Fits ts.length k r) (h : endP ts r = .bad a c) : c ≠ 0 := by
  cases r with
  | err j d => cases h; rcases hf.2 with h | h <;> omega
  | ok x j =>
    simp only [endP] at h
    split at h
    · cases h
    · cases h; decide
theorem exprP_err {s : ByteArray} {a c : Int} (h : exprP s = .bad a c) : c ≠ 0 := by
  unfold exprP at h
  split at h
  · rename_i hT; cases h; exact tokens_err0 hT
  · rename_i ts hT
    obtain ⟨h1, h2, -⟩ := tokens_good hT
    exact endP_err (run_fits h1 _ _ _ _ _ (readE_some h1 h2)) h
theorem formsP_err {s : ByteArray} {a c : Int} (h : formsP s = .bad a c) : c ≠ 0 := by
  unfold formsP at h
  split at h
  · rename_i hT; cases h; exact tokens_err0 hT
  · rename_i ts hT
    obtain ⟨h1, h2, -⟩ := tokens_good hT
    exact endP_err (forms_fits h1 _ _ _ _ _ (readF_some h1 h2)) h
theorem runP_bad {α : Type} {s : ByteArray} {rd : List Tok → PR α} {a c : Int} (h : (match tokensP s with | .err k c => PE.bad k c | .ok ts => endP ts (rd ts)) = PE.bad a c) : runP (tokensP s) (fun ts => (rd ts).unit) = (a, c) := by
  cases hT : tokensP s with
  | err k d => rw [hT] at h; cases h; rfl
  | ok ts =>
    rw [hT] at h
    simp only [runP] at h ⊢
    cases hr : rd ts with
    | err j d => rw [hr] at h; cases h; rfl
    | ok x j =>
      rw [hr] at h
      simp only [PR.unit, endP] at h ⊢
      split
      · rename_i h5; rw [if_pos h5] at h; cases h
      · rename_i h5; rw [if_neg h5] at h; cases h; rfl
theorem runP_ok {α : Type} {s : ByteArray} {rd : List Tok → PR α} {x : α} (h : (match tokensP s with | .err k c => PE.bad k c | .ok ts => endP ts (rd ts)) = PE.ok x) : runP (tokensP s) (fun ts => (rd ts).unit) = (0, 0) ∧ ∃ ts j, tokensP s = .ok ts ∧ rd ts = .ok x j := by
  cases hT : tokensP s with
  | err k d => rw [hT] at h; cases h
  | ok ts =>
    rw [hT] at h
    simp only [runP] at h ⊢
    cases hr : rd ts with
    | err j d => rw [hr] at h; cases h
    | ok y j =>
      rw [hr] at h
      simp only [PR.unit, endP] at h ⊢
      split
      · rename_i h5; rw [if_pos h5] at h; cases h; exact ⟨rfl, ts, j, rfl, hr⟩
      · rename_i h5; rw [if_neg h5] at h; cases h
theorem exBox_moves (ob lo : Nat) (r : PR Ex) (W W' : World) (C : Nat → Prop) (h : ExQ ob lo r W) (ht : Turned C W W') (hC : ∀ b, C b → b < lo ∧ b ≠ ob) : ExQ ob lo r W' := by
  cases r with
  | err => trivial
  | ok x j =>
    obtain ⟨p, c, h1, h2⟩ := h
    exact ⟨p, c, (ht.block ob (getElem?_lt h1) (fun hc => (hC _ hc).2 rfl)).trans h1, h2.move ht (fun b hb hc => by have := (hC b hc).1; omega) (fun _ hb _ => hb)⟩
theorem fmBox_moves (ob lo : Nat) (r : PR (List Fm)) (W W' : World) (C : Nat → Prop) (h : FmQ ob lo r W) (ht : Turned C W W') (hC : ∀ b, C b → b < lo ∧ b ≠ ob) : FmQ ob lo r W' := by
  cases r with
  | err => trivial
  | ok x j =>
    obtain ⟨p, c, h1, h2⟩ := h
    exact ⟨p, c, (ht.block ob (getElem?_lt h1) (fun hc => (hC _ hc).2 rfl)).trans h1, h2.move ht (fun b hb hc => by have := (hC b hc).1; omega) (fun _ hb _ => hb)⟩
theorem run_expr_at (s : ByteArray) (ob : Nat) (w : World) (hv : Vars w.heap.size w) (a b c d e : Value) (hbox : w.heap[ob]? = some (.cells #[a, b, c, d, e] 31 (0, 0))) :
    Calls Tryz.prog 27 #[.string s, .func (Fn.func 30) #[] #[.pointer (some ⟨ob, 0, none⟩)]] w fun e w' => Turned (fun b => b = ob) w w' ∧ match exprP s with
      | .bad a c => e = .returned (.agg #[(.int .i64 a), (.int .i64 c)])
      | .ok x => e = .returned (.agg #[(.int .i64 0), (.int .i64 0)]) ∧ ExBox ob w.heap.size x w' := by
  refine (run_expr s ob w hv (getElem?_lt hbox) (fun ts => (readE ts).unit) (fun lo W => ∀ ts, tokensP s = .ok ts → ExQ ob lo (readE ts) W) (fun ts h => ⟨(tokens_good h).1, (tokens_good h).2.1⟩) (fun lo W W' C h ht hC ts hts => exBox_moves ob lo _ W W' C (h ts hts) ht hC) ?_).mono ?_
  · intro ts hts B g cap W h1 h2 hp hb
    obtain ⟨g1, g2, -⟩ := tokens_good hts
    refine (exprE_any (ts.length * 16 + 13) 0 _ W 0 (readE_some g1 g2) hp ob h1 h2 a b c d e (hb.trans hbox)).mono ?_
    rintro e w' ⟨ht, hr⟩
    refine ⟨ht, ?_⟩
    cases hrd : readE ts with
    | err j c => rw [hrd] at hr; exact hr
    | ok x j =>
      rw [hrd] at hr
      obtain ⟨q1, q2, q3⟩ := hr
      exact ⟨q1, q2, fun ts2 h2 => by rw [hts] at h2; cases h2; rw [hrd]; exact q3⟩
  · rintro e w' ⟨rfl, ht, hq⟩
    refine ⟨ht, ?_⟩
    cases hE : exprP s with
    | bad a c => simp only; rw [runP_bad (rd := readE) hE]
    | ok x =>
      obtain ⟨h1, ts, j, h2, h3⟩ := runP_ok (rd := readE) hE
      simp only
      refine ⟨by rw [h1], ?_⟩
      obtain ⟨lo, hlo, hq2⟩ := hq ts j h2 (by simp only [h3]; rfl)
      have := hq2 ts h2
      rw [h3] at this
      obtain ⟨p, c, q1, q2⟩ := this
      exact ⟨p, c, q1, q2.move (Turned.refl (fun _ => False) _) (fun _ _ => id) (fun b hb _ => by omega)⟩
theorem run_forms_at (s : ByteArray) (ob : Nat) (w : World) (hv : Vars w.heap.size w) (hbox : w.heap[ob]? = some (.cells #[.slice none 0 0] 23 (0, 0))) :
    Calls Tryz.prog 27 #[.string s, .func (Fn.func 28) #[] #[.pointer (some ⟨ob, 0, none⟩)]] w fun e w' => Turned (fun b => b = ob) w w' ∧ match formsP s with
      | .bad a c => e = .returned (.agg #[(.int .i64 a), (.int .i64 c)])
      | .ok x => e = .returned (.agg #[(.int .i64 0), (.int .i64 0)]) ∧ FmBox ob w.heap.size x w' := by
  refine (run_forms s ob w hv (getElem?_lt hbox) (fun ts => (readF ts).unit) (fun lo W => ∀ ts, tokensP s = .ok ts → FmQ ob lo (readF ts) W) (fun ts h => ⟨(tokens_good h).1, (tokens_good h).2.1⟩) (fun lo W W' C h ht hC ts hts => fmBox_moves ob lo _ W W' C (h ts hts) ht hC) ?_).mono ?_
  · intro ts hts B g cap W h1 h2 hp hb
    obtain ⟨g1, g2, -⟩ := tokens_good hts
    refine (formsE_any (ts.length * 32 + 17) 0 _ W (readF_some g1 g2) hp ob h1 h2 (hb.trans hbox)).mono ?_
    rintro e w' ⟨ht, hr⟩
    refine ⟨ht, ?_⟩
    cases hrd : readF ts with
    | err j c => rw [hrd] at hr; exact hr
    | ok x j =>
      rw [hrd] at hr
      obtain ⟨q1, q2, q3⟩ := hr
      exact ⟨q1, q2, fun ts2 h2 => by rw [hts] at h2; cases h2; rw [hrd]; exact q3⟩
  · rintro e w' ⟨rfl, ht, hq⟩
    refine ⟨ht, ?_⟩
    cases hE : formsP s with
    | bad a c => simp only; rw [runP_bad (rd := readF) hE]
    | ok x =>
      obtain ⟨h1, ts, j, h2, h3⟩ := runP_ok (rd := readF) hE
      simp only
      refine ⟨by rw [h1], ?_⟩
      obtain ⟨lo, hlo, hq2⟩ := hq ts j h2 (by simp only [h3]; rfl)
      have := hq2 ts h2
      rw [h3] at this
      obtain ⟨p, c, q1, q2⟩ := this
      exact ⟨p, c, q1, q2.move (Turned.refl (fun _ => False) _) (fun _ _ => id) (fun b hb _ => by omega)⟩
theorem drew_heap (w : World) : w.drew.heap = w.heap := rfl
theorem results_xp (tmps : Array Value) (w : World) (N M : Nat) (x y z u v a b : Value) (hN : tmps.getD 2 undef = .pointer (some ⟨N, 0, none⟩)) (hM : tmps.getD 3 undef = .pointer (some ⟨M, 0, none⟩)) (h1 : w.heap[N]? = some (.cells #[x, y, z, u, v] 31 (0, 0))) (h2 : w.heap[M]? = some (.cells #[a, b] 26 (0, 0))) :
    (results Tryz.f10 tmps).run Tryz.prog w = .ok (.tuple #[.agg #[x, y, z, u, v], .agg #[a, b]]) w := by
  have hN' : tmps[2]?.getD undef = .pointer (some ⟨N, 0, none⟩) := by simpa using hN
  have hM' : tmps[3]?.getD undef = .pointer (some ⟨M, 0, none⟩) := by simpa using hM
  simp [results, hN', hM', asAddr, run_loadVar_row w N 31 31 #[x, y, z, u, v] (0, 0) _ h1 Tryz.underlying31 rfl expr_size, run_loadVar_row w M 26 26 #[a, b] (0, 0) _ h2 Tryz.underlying26 rfl problem_size2]
def ExprR (s : ByteArray) (w : World) (e : Ending) (w' : World) : Prop :=
  Turned (fun _ => False) w w' ∧ match exprP s with
    | .bad a c => e = .returned (.tuple #[.agg #[(.int .i64 0), (.int .i64 0), .string ⟨#[]⟩, .slice none 0 0, (.int .i64 0)], .agg #[(.int .i64 a), (.int .i64 c)]])
    | .ok x => ∃ p c, e = .returned (.tuple #[.agg #[(.int .i64 (x.op)), (.int .i64 (x.n)), .string x.s, .slice p x.kids.length c, (.int .i64 (x.at_))], .agg #[(.int .i64 0), (.int .i64 0)]]) ∧ KidsAt w' (fun b => w.heap.size ≤ b) x.kids (.slice p x.kids.length c)
set_option maxRecDepth 20000 in
set_option maxHeartbeats 8000000 in
theorem expr_any (s : ByteArray) (w : World) (hv : Vars w.heap.size w) : Calls Tryz.prog 10 #[.string s] w (ExprR s w) := by
  have hmf : ∀ (fn : Fn) (first cap : Array Value) (w : World), (Instr.makeFunc fn first cap).run Tryz.prog w = .ok (.func fn first cap) w := fun _ _ _ _ => rfl
  obtain ⟨W1, hW1⟩ : ∃ W1, W1 = w.alloc (.cells #[(.int .i64 0), (.int .i64 0), .string ⟨#[]⟩, .slice none 0 0, (.int .i64 0)] 31) := ⟨_, rfl⟩
  obtain ⟨W2, hW2⟩ : ∃ W2, W2 = W1.alloc (.cells #[(.int .i64 0), (.int .i64 0)] 26) := ⟨_, rfl⟩
  obtain ⟨W3, hW3⟩ : ∃ W3, W3 = W2.alloc (.cells #[(.int .i64 0), (.int .i64 0), .string ⟨#[]⟩, .slice none 0 0, (.int .i64 0)] 31) := ⟨_, rfl⟩
  have s1 : W1.heap.size = w.heap.size + 1 := by rw [hW1]; simp
  have s2 : W2.heap.size = w.heap.size + 1 + 1 := by rw [hW2]; simp [s1]
  have t3 : Turned (fun _ => False) w W3 := by rw [hW3, hW2, hW1]; exact (((Turned.refl _ w).alloc _).alloc _).alloc _
  have b1 : W3.heap[w.heap.size]? = some (.cells #[(.int .i64 0), (.int .i64 0), .string ⟨#[]⟩, .slice none 0 0, (.int .i64 0)] 31 (0, 0)) := by
    rw [hW3, hao _ _ (by omega), hW2, hao _ _ (by omega), hW1]; exact heap_alloc_new _ _
  have b2 : W3.heap[w.heap.size + 1]? = some (.cells #[(.int .i64 0), (.int .i64 0)] 26 (0, 0)) := by
    rw [hW3, hao _ _ (by omega), hW2, ← s1]; exact heap_alloc_new _ _
  have b3 : W3.heap[w.heap.size + 1 + 1]? = some (.cells #[(.int .i64 0), (.int .i64 0), .string ⟨#[]⟩, .slice none 0 0, (.int .i64 0)] 31 (0, 0)) := by
    rw [hW3, ← s2]; exact heap_alloc_new _ _
  have HR := run_expr_at s (w.heap.size + 1 + 1) W3 ((hv.turned t3 fun g hg => id).mono t3.size) _ _ _ _ _ b3
  have s33 : w.heap.size + 1 + 1 < W3.heap.size := getElem?_lt b3
  go_enter Tryz.func10, Tryz.ntmps10
  go_wp2_with fail
  rw [← hW1, ← hW2, ← hW3]
  clear hW1 hW2 hW3 b3
  unfold ExprR
  cases hE : exprP s with
  | bad a c =>
    rw [hE] at HR
    have hc : (c != 0) = true := by simpa using exprP_err hE
    refine HR.mono ?_
    rintro e W4 ⟨ht, rfl⟩
    go_wp2_with fail
    obtain ⟨W5, hW5⟩ : ∃ W5, W5 = W4.alloc (.cells #[(.int .i64 a), (.int .i64 c)] 26) := ⟨_, rfl⟩
    obtain ⟨D, hD⟩ : ∃ D, D = W4.heap.size := ⟨_, rfl⟩
    have t5 : Turned (fun _ => False) W4 W5 := by rw [hW5]; exact (Turned.refl _ _).alloc _
    have d5 : W5.heap[D]? = some (.cells #[(.int .i64 a), (.int .i64 c)] 26 (0, 0)) := by rw [hW5, hD]; exact heap_alloc_new _ _
    rw [← hW5, ← hD]
    have s3 := ht.size
    have l1 := getElem?_lt b1
    have l2 := getElem?_lt b2
    have e1 : W5.heap[w.heap.size]? = some (.cells #[(.int .i64 0), (.int .i64 0), .string ⟨#[]⟩, .slice none 0 0, (.int .i64 0)] 31 (0, 0)) := (t5.block _ (by omega) id).trans ((ht.block _ l1 (by omega)).trans b1)
    have e2 : W5.heap[w.heap.size + 1]? = some (.cells #[(.int .i64 0), (.int .i64 0)] 26 (0, 0)) := (t5.block _ (by omega) id).trans ((ht.block _ l2 (by omega)).trans b2)
    have tA : Turned (fun b => w.heap.size ≤ b) w W5 := ((t3.mono fun _ h => h.elim).trans (ht.mono fun b hb => (by omega))).trans (t5.mono fun _ h => h.elim)
    obtain ⟨rb, hrb⟩ : ∃ rb, rb = w.heap.size := ⟨_, rfl⟩
    have hDl : rb + 1 < D := by omega
    rw [← hrb] at e1 e2 tA ⊢
    have n1 : rb ≠ D := by omega
    have n2 : rb + 1 ≠ D := by omega
    have n3 : D ≠ rb := by omega
    have n4 : D ≠ rb + 1 := by omega
    obtain ⟨d0, d1, d2, d3⟩ := two_cells d5
    obtain ⟨r0, r1, r2, r3, r4⟩ := cellsFive e1
    have fr := free_of_box e1
    obtain ⟨q0, q1, q2, q3⟩ := two_cells e2
    have drew5 : True := trivial
    have T := Lib.hid tA
    have E1 := Lib.hid e1
    have E2 := Lib.hid e2
    have hrw := Lib.hid hrb
    clear hW5 hD ht t5 d5 s1 s2 b1 b2 t3 tA e1 e2 hrb s3 l1 l2 hv
    refine region_R (R := fun j V => j < 3 → (fun V : World => V.cell? ⟨D, 0, none⟩ = some (.int .i64 a) ∧ V.cell? ⟨D, 1, none⟩ = some (.int .i64 c)) V) (by kernel_rfl) ?_
    refine wpAnyR_take (S := (fun V : World => V.cell? ⟨D, 0, none⟩ = some (.int .i64 a) ∧ V.cell? ⟨D, 1, none⟩ = some (.int .i64 c))) (early := fun j => decide (j < 3)) (i := 0) (v := .agg #[(.int .i64 0), (.int .i64 0), .string ⟨#[]⟩, .slice none 0 0, (.int .i64 0)]) rfl (by kernel_rfl) (by kernel_rfl) (by kernel_rfl) (by kernel_rfl) (fun _ _ he h => h (of_decide_eq_true he)) (fun _ h _ => h) (fun _ _ _ h => h) (Or.inl ⟨by rfl, ?_⟩) ⟨d0, d1⟩ ?_
    · rintro V ⟨v0, v1⟩
      go_simp
    simp only [List.getElem_toArray, List.getElem_cons_zero, Act.put, List.setIfInBounds_toArray, List.set_cons_zero, List.set_cons_succ]
    refine wpAnyR_take (S := (fun V : World => V.cell? ⟨D, 0, none⟩ = some (.int .i64 a) ∧ V.cell? ⟨D, 1, none⟩ = some (.int .i64 c))) (early := fun j => decide (j < 3)) (i := 1) (v := (.agg #[(.int .i64 a), (.int .i64 c)])) rfl (by kernel_rfl) (by kernel_rfl) (by kernel_rfl) (by kernel_rfl) (fun _ _ he h => h (of_decide_eq_true he)) (fun _ h _ => h) (fun _ _ _ h => h) (Or.inl ⟨by rfl, ?_⟩) ⟨d0, d1⟩ ?_
    · rintro V ⟨v0, v1⟩
      go_simp
    simp only [List.getElem_toArray, List.getElem_cons_zero, List.getElem_cons_succ, Act.put, List.setIfInBounds_toArray, List.set_cons_zero, List.set_cons_succ]
    refine wpAnyR_all (rs := [2]) (by kernel_rfl) (by simp) (fun i2 hi2 => ?_)
    obtain rfl : i2 = 2 := by simpa using hi2
    clear hi2
    refine wpOp_plain rfl rfl ?_
    simp only [List.getElem_toArray, List.getElem_cons_zero, List.getElem_cons_succ]
    go_simp
    refine wpAnyR_all (rs := [3]) (by kernel_rfl) (by simp) (fun i2 hi2 => ?_)
    obtain rfl : i2 = 3 := by simpa using hi2
    clear hi2
    refine wpOp_plain rfl rfl ?_
    simp only [List.getElem_toArray, List.getElem_cons_zero, List.getElem_cons_succ]
    go_simp
    refine wpAnyR_done (by kernel_rfl) ?_ _
    go_wp2_with fail
    have t6 := five_turned W5 rb (.int .i64 0) (.int .i64 0) (.string ⟨#[]⟩) (.slice none 0 0) (.int .i64 0)
    have g6 := five_set (x := (.int .i64 0)) (y := (.int .i64 0)) (z := (.string ⟨#[]⟩)) (u := (.slice none 0 0)) (v := (.int .i64 0)) E1.out
    have t7 := two_turned'  (((((W5.setCell ⟨rb, 0, none⟩ (.int .i64 0)).setCell ⟨rb, 1, none⟩ (.int .i64 0)).setCell ⟨rb, 2, none⟩ (.string ⟨#[]⟩)).setCell ⟨rb, 3, none⟩ (.slice none 0 0)).setCell ⟨rb, 4, none⟩ (.int .i64 0)) (rb + 1) (.int .i64 a) (.int .i64 c)
    have g7 := two_set' (x := (.int .i64 a)) (y := (.int .i64 c)) ((t6.block _ (getElem?_lt E2.out) (by omega)).trans E2.out)
    have h7 := (t7.block rb (getElem?_lt g6) (by omega)).trans g6
    obtain ⟨Wz, hWz⟩ : ∃ Wz, Wz = (((((((W5.setCell ⟨rb, 0, none⟩ (.int .i64 0)).setCell ⟨rb, 1, none⟩ (.int .i64 0)).setCell ⟨rb, 2, none⟩ (.string ⟨#[]⟩)).setCell ⟨rb, 3, none⟩ (.slice none 0 0)).setCell ⟨rb, 4, none⟩ (.int .i64 0)).setCell ⟨rb + 1, 0, none⟩ (.int .i64 a)).setCell ⟨rb + 1, 1, none⟩ (.int .i64 c)).drew := ⟨_, rfl⟩
    have g8 : Wz.heap[rb + 1]? = some (.cells #[(.int .i64 a), (.int .i64 c)] 26 (0, 0)) := by rw [hWz, drew_heap]; exact g7
    have h8 : Wz.heap[rb]? = some (.cells #[(.int .i64 0), (.int .i64 0), .string ⟨#[]⟩, .slice none 0 0, (.int .i64 0)] 31 (0, 0)) := by rw [hWz, drew_heap]; exact h7
    have t8 : Turned (fun b => w.heap.size ≤ b) w Wz := by rw [hWz, ← hrw.out]; exact ((T.out.trans (t6.mono fun b hb => (by omega))).trans (t7.mono fun b hb => (by omega))).drew
    rw [← hWz]
    clear hWz t6 t7 g6 g7 h7
    refine bodyPost_ret (results_xp _ Wz rb (rb + 1) (.int .i64 0) (.int .i64 0) (.string ⟨#[]⟩) (.slice none 0 0) (.int .i64 0) (.int .i64 a) (.int .i64 c) rfl rfl h8 g8) rfl ?_
    exact ⟨turned_narrow t8 fun b hb hc => absurd hb (by omega), by rw [hE]⟩
  | ok x =>
    rw [hE] at HR
    refine HR.mono ?_
    rintro e W4 ⟨ht, rfl, p, c, hb, hk⟩
    go_wp2_with fail
    obtain ⟨W5, hW5⟩ : ∃ W5, W5 = W4.alloc (.cells #[(.int .i64 0), (.int .i64 0)] 26) := ⟨_, rfl⟩
    obtain ⟨D, hD⟩ : ∃ D, D = W4.heap.size := ⟨_, rfl⟩
    have t5 : Turned (fun _ => False) W4 W5 := by rw [hW5]; exact (Turned.refl _ _).alloc _
    have d5 : W5.heap[D]? = some (.cells #[(.int .i64 0), (.int .i64 0)] 26 (0, 0)) := by rw [hW5, hD]; exact heap_alloc_new _ _
    rw [← hW5, ← hD]
    have s3 := ht.size
    have l1 := getElem?_lt b1
    have l2 := getElem?_lt b2
    have e1 : W5.heap[w.heap.size]? = some (.cells #[(.int .i64 0), (.int .i64 0), .string ⟨#[]⟩, .slice none 0 0, (.int .i64 0)] 31 (0, 0)) := (t5.block _ (by omega) id).trans ((ht.block _ l1 (by omega)).trans b1)
    have e2 : W5.heap[w.heap.size + 1]? = some (.cells #[(.int .i64 0), (.int .i64 0)] 26 (0, 0)) := (t5.block _ (by omega) id).trans ((ht.block _ l2 (by omega)).trans b2)
    have tA : Turned (fun b => w.heap.size ≤ b) w W5 := ((t3.mono fun _ h => h.elim).trans (ht.mono fun b hb => (by omega))).trans (t5.mono fun _ h => h.elim)
    have e3 := (t5.block _ (getElem?_lt hb) id).trans hb
    have hk5 := hk.move t5 (fun _ _ => id) (M := fun b => w.heap.size + 1 + 1 < b) (fun b hb _ => by omega)
    obtain ⟨rb, hrb⟩ : ∃ rb, rb = w.heap.size := ⟨_, rfl⟩
    have hDl : rb + 1 < D := by omega
    rw [← hrb] at e1 e2 tA ⊢
    rw [← hrb] at e3 hk5
    obtain ⟨o0, o1, o2, o3, o4⟩ := cellsFive e3
    have HK := Lib.hid hk5
    have n1 : rb ≠ D := by omega
    have n2 : rb + 1 ≠ D := by omega
    have n3 : D ≠ rb := by omega
    have n4 : D ≠ rb + 1 := by omega
    obtain ⟨d0, d1, d2, d3⟩ := two_cells d5
    obtain ⟨r0, r1, r2, r3, r4⟩ := cellsFive e1
    have fr := free_of_box e1
    obtain ⟨q0, q1, q2, q3⟩ := two_cells e2
    have drew5 : True := trivial
    have T := Lib.hid tA
    have E1 := Lib.hid e1
    have E2 := Lib.hid e2
    have hrw := Lib.hid hrb
    clear hk5 hk hb e3 hW5 hD ht t5 d5 s1 s2 b1 b2 t3 tA e1 e2 hrb s3 l1 l2 hv
    refine region_R (R := fun j V => j < 3 → (fun V : World => V.cell? ⟨(rb + 1 + 1), 0, none⟩ = some (.int .i64 (x.op)) ∧ V.cell? ⟨(rb + 1 + 1), 1, none⟩ = some (.int .i64 (x.n)) ∧ V.cell? ⟨(rb + 1 + 1), 2, none⟩ = some (.string x.s) ∧ V.cell? ⟨(rb + 1 + 1), 3, none⟩ = some (.slice p x.kids.length c) ∧ V.cell? ⟨(rb + 1 + 1), 4, none⟩ = some (.int .i64 (x.at_)) ∧ V.cell? ⟨D, 0, none⟩ = some (.int .i64 0) ∧ V.cell? ⟨D, 1, none⟩ = some (.int .i64 0)) V) (by kernel_rfl) ?_
    refine wpAnyR_take (S := (fun V : World => V.cell? ⟨(rb + 1 + 1), 0, none⟩ = some (.int .i64 (x.op)) ∧ V.cell? ⟨(rb + 1 + 1), 1, none⟩ = some (.int .i64 (x.n)) ∧ V.cell? ⟨(rb + 1 + 1), 2, none⟩ = some (.string x.s) ∧ V.cell? ⟨(rb + 1 + 1), 3, none⟩ = some (.slice p x.kids.length c) ∧ V.cell? ⟨(rb + 1 + 1), 4, none⟩ = some (.int .i64 (x.at_)) ∧ V.cell? ⟨D, 0, none⟩ = some (.int .i64 0) ∧ V.cell? ⟨D, 1, none⟩ = some (.int .i64 0))) (early := fun j => decide (j < 3)) (i := 0) (v := (.agg #[(.int .i64 (x.op)), (.int .i64 (x.n)), .string x.s, .slice p x.kids.length c, (.int .i64 (x.at_))])) rfl (by kernel_rfl) (by kernel_rfl) (by kernel_rfl) (by kernel_rfl) (fun _ _ he h => h (of_decide_eq_true he)) (fun _ h _ => h) (fun _ _ _ h => h) (Or.inl ⟨by rfl, ?_⟩) ⟨o0, o1, o2, o3, o4, d0, d1⟩ ?_
    · rintro V ⟨v0, v1, v2, v3, v4, v5, v6⟩
      go_simp
    simp only [List.getElem_toArray, List.getElem_cons_zero, Act.put, List.setIfInBounds_toArray, List.set_cons_zero, List.set_cons_succ]
    refine wpAnyR_take (S := (fun V : World => V.cell? ⟨(rb + 1 + 1), 0, none⟩ = some (.int .i64 (x.op)) ∧ V.cell? ⟨(rb + 1 + 1), 1, none⟩ = some (.int .i64 (x.n)) ∧ V.cell? ⟨(rb + 1 + 1), 2, none⟩ = some (.string x.s) ∧ V.cell? ⟨(rb + 1 + 1), 3, none⟩ = some (.slice p x.kids.length c) ∧ V.cell? ⟨(rb + 1 + 1), 4, none⟩ = some (.int .i64 (x.at_)) ∧ V.cell? ⟨D, 0, none⟩ = some (.int .i64 0) ∧ V.cell? ⟨D, 1, none⟩ = some (.int .i64 0))) (early := fun j => decide (j < 3)) (i := 1) (v := (.agg #[(.int .i64 0), (.int .i64 0)])) rfl (by kernel_rfl) (by kernel_rfl) (by kernel_rfl) (by kernel_rfl) (fun _ _ he h => h (of_decide_eq_true he)) (fun _ h _ => h) (fun _ _ _ h => h) (Or.inl ⟨by rfl, ?_⟩) ⟨o0, o1, o2, o3, o4, d0, d1⟩ ?_
    · rintro V ⟨v0, v1, v2, v3, v4, v5, v6⟩
      go_simp
    simp only [List.getElem_toArray, List.getElem_cons_zero, List.getElem_cons_succ, Act.put, List.setIfInBounds_toArray, List.set_cons_zero, List.set_cons_succ]
    refine wpAnyR_all (rs := [2]) (by kernel_rfl) (by simp) (fun i2 hi2 => ?_)
    obtain rfl : i2 = 2 := by simpa using hi2
    clear hi2
    refine wpOp_plain rfl rfl ?_
    simp only [List.getElem_toArray, List.getElem_cons_zero, List.getElem_cons_succ]
    go_simp
    refine wpAnyR_all (rs := [3]) (by kernel_rfl) (by simp) (fun i2 hi2 => ?_)
    obtain rfl : i2 = 3 := by simpa using hi2
    clear hi2
    refine wpOp_plain rfl rfl ?_
    simp only [List.getElem_toArray, List.getElem_cons_zero, List.getElem_cons_succ]
    go_simp
    refine wpAnyR_done (by kernel_rfl) ?_ _
    go_wp2_with fail
    have t6 := five_turned W5 rb (.int .i64 (x.op)) (.int .i64 (x.n)) (.string x.s) (.slice p x.kids.length c) (.int .i64 (x.at_))
    have g6 := five_set (x := (.int .i64 (x.op))) (y := (.int .i64 (x.n))) (z := (.string x.s)) (u := (.slice p x.kids.length c)) (v := (.int .i64 (x.at_))) E1.out
    have t7 := two_turned'  (((((W5.setCell ⟨rb, 0, none⟩ (.int .i64 (x.op))).setCell ⟨rb, 1, none⟩ (.int .i64 (x.n))).setCell ⟨rb, 2, none⟩ (.string x.s)).setCell ⟨rb, 3, none⟩ (.slice p x.kids.length c)).setCell ⟨rb, 4, none⟩ (.int .i64 (x.at_))) (rb + 1) (.int .i64 0) (.int .i64 0)
    have g7 := two_set' (x := (.int .i64 0)) (y := (.int .i64 0)) ((t6.block _ (getElem?_lt E2.out) (by omega)).trans E2.out)
    have h7 := (t7.block rb (getElem?_lt g6) (by omega)).trans g6
    obtain ⟨Wz, hWz⟩ : ∃ Wz, Wz = (((((((W5.setCell ⟨rb, 0, none⟩ (.int .i64 (x.op))).setCell ⟨rb, 1, none⟩ (.int .i64 (x.n))).setCell ⟨rb, 2, none⟩ (.string x.s)).setCell ⟨rb, 3, none⟩ (.slice p x.kids.length c)).setCell ⟨rb, 4, none⟩ (.int .i64 (x.at_))).setCell ⟨rb + 1, 0, none⟩ (.int .i64 0)).setCell ⟨rb + 1, 1, none⟩ (.int .i64 0)).drew := ⟨_, rfl⟩
    have g8 : Wz.heap[rb + 1]? = some (.cells #[(.int .i64 0), (.int .i64 0)] 26 (0, 0)) := by rw [hWz, drew_heap]; exact g7
    have h8 : Wz.heap[rb]? = some (.cells #[(.int .i64 (x.op)), (.int .i64 (x.n)), .string x.s, .slice p x.kids.length c, (.int .i64 (x.at_))] 31 (0, 0)) := by rw [hWz, drew_heap]; exact h7
    have t8 : Turned (fun b => w.heap.size ≤ b) w Wz := by rw [hWz, ← hrw.out]; exact ((T.out.trans (t6.mono fun b hb => (by omega))).trans (t7.mono fun b hb => (by omega))).drew
    have hk8 : KidsAt Wz (fun b => w.heap.size ≤ b) x.kids (.slice p x.kids.length c) := by
      rw [hWz]
      exact HK.out.move ((t6.mono (C' := fun b => b = rb ∨ b = rb + 1) fun _ h => .inl h).trans (t7.mono fun _ h => .inr h)).drew (fun b hb hc => by omega) (fun b hb _ => by have := hrw.out; omega)
    rw [← hWz]
    clear hWz t6 t7 g6 g7 h7
    refine bodyPost_ret (results_xp _ Wz rb (rb + 1) (.int .i64 (x.op)) (.int .i64 (x.n)) (.string x.s) (.slice p x.kids.length c) (.int .i64 (x.at_)) (.int .i64 0) (.int .i64 0) rfl rfl h8 g8) rfl ?_
    refine ⟨turned_narrow t8 fun b hb hc => absurd hb (by omega), ?_⟩
    rw [hE]
    exact ⟨p, c, rfl, hk8⟩
theorem results_fp (tmps : Array Value) (w : World) (M : Nat) (v a b : Value) (hN : tmps.getD 2 undef = v) (hM : tmps.getD 3 undef = .pointer (some ⟨M, 0, none⟩)) (h2 : w.heap[M]? = some (.cells #[a, b] 26 (0, 0))) :
    (results Tryz.f9 tmps).run Tryz.prog w = .ok (.tuple #[v, .agg #[a, b]]) w := by
  have hN' : tmps[2]?.getD undef = v := by simpa using hN
  have hM' : tmps[3]?.getD undef = .pointer (some ⟨M, 0, none⟩) := by simpa using hM
  simp [results, hN', hM', asAddr, run_loadVar_row w M 26 26 #[a, b] (0, 0) _ h2 Tryz.underlying26 rfl problem_size2]
def FormsR (s : ByteArray) (w : World) (e : Ending) (w' : World) : Prop :=
  Turned (fun _ => False) w w' ∧ match formsP s with
    | .bad a c => e = .returned (.tuple #[.slice none 0 0, .agg #[(.int .i64 a), (.int .i64 c)]])
    | .ok fs => ∃ p c, e = .returned (.tuple #[.slice p fs.length c, .agg #[(.int .i64 0), (.int .i64 0)]]) ∧ FormsAt w' (fun b => w.heap.size ≤ b) fs (.slice p fs.length c)
set_option maxRecDepth 20000 in
set_option maxHeartbeats 8000000 in
theorem forms_any (s : ByteArray) (w : World) (hv : Vars w.heap.size w) : Calls Tryz.prog 9 #[.string s] w (FormsR s w) := by
  have hmf : ∀ (fn : Fn) (first cap : Array Value) (w : World), (Instr.makeFunc fn first cap).run Tryz.prog w = .ok (.func fn first cap) w := fun _ _ _ _ => rfl
  obtain ⟨W1, hW1⟩ : ∃ W1, W1 = w.alloc (.cells #[(.int .i64 0), (.int .i64 0)] 26) := ⟨_, rfl⟩
  obtain ⟨W2, hW2⟩ : ∃ W2, W2 = W1.alloc (.cells #[.slice none 0 0] 23) := ⟨_, rfl⟩
  have s1 : W1.heap.size = w.heap.size + 1 := by rw [hW1]; simp
  have t2 : Turned (fun _ => False) w W2 := by rw [hW2, hW1]; exact ((Turned.refl _ w).alloc _).alloc _
  have b1 : W2.heap[w.heap.size]? = some (.cells #[(.int .i64 0), (.int .i64 0)] 26 (0, 0)) := by
    rw [hW2, hao _ _ (by omega), hW1]; exact heap_alloc_new _ _
  have b2 : W2.heap[w.heap.size + 1]? = some (.cells #[.slice none 0 0] 23 (0, 0)) := by
    rw [hW2, ← s1]; exact heap_alloc_new _ _
  have HR := run_forms_at s (w.heap.size + 1) W2 ((hv.turned t2 fun g hg => id).mono t2.size) b2
  have s33 : w.heap.size + 1 < W2.heap.size := getElem?_lt b2
  go_enter Tryz.func9, Tryz.ntmps9
  go_wp2_with fail
  rw [← hW1, ← hW2]
  clear hW1 hW2 b2
  unfold FormsR
  cases hE : formsP s with
  | bad a c =>
    rw [hE] at HR
    have hc : (c != 0) = true := by simpa using formsP_err hE
    refine HR.mono ?_
    rintro e W4 ⟨ht, rfl⟩
    go_wp2_with fail
    obtain ⟨W5, hW5⟩ : ∃ W5, W5 = W4.alloc (.cells #[(.int .i64 a), (.int .i64 c)] 26) := ⟨_, rfl⟩
    obtain ⟨D, hD⟩ : ∃ D, D = W4.heap.size := ⟨_, rfl⟩
    have t5 : Turned (fun _ => False) W4 W5 := by rw [hW5]; exact (Turned.refl _ _).alloc _
    have d5 : W5.heap[D]? = some (.cells #[(.int .i64 a), (.int .i64 c)] 26 (0, 0)) := by rw [hW5, hD]; exact heap_alloc_new _ _
    rw [← hW5, ← hD]
    have s3 := ht.size
    have l1 := getElem?_lt b1
    have e1 : W5.heap[w.heap.size]? = some (.cells #[(.int .i64 0), (.int .i64 0)] 26 (0, 0)) := (t5.block _ (by omega) id).trans ((ht.block _ l1 (by omega)).trans b1)
    have tA : Turned (fun b => w.heap.size ≤ b) w W5 := ((t2.mono fun _ h => h.elim).trans (ht.mono fun b hb => (by omega))).trans (t5.mono fun _ h => h.elim)
    obtain ⟨rb, hrb⟩ : ∃ rb, rb = w.heap.size := ⟨_, rfl⟩
    have hDl : rb < D := by omega
    rw [← hrb] at e1 tA ⊢
    have n1 : rb ≠ D := by omega
    have n3 : D ≠ rb := by omega
    obtain ⟨d0, d1, d2, d3⟩ := two_cells d5
    obtain ⟨q0, q1, q2, q3⟩ := two_cells e1
    have T := Lib.hid tA
    have E1 := Lib.hid e1
    have hrw := Lib.hid hrb
    clear hW5 hD ht t5 d5 s1 b1 t2 tA e1 hrb s3 l1 hv
    refine region_R (R := fun j V => j < 2 → (fun V : World => V.cell? ⟨D, 0, none⟩ = some (.int .i64 a) ∧ V.cell? ⟨D, 1, none⟩ = some (.int .i64 c)) V) (by kernel_rfl) ?_
    refine wpAnyR_take (S := (fun V : World => V.cell? ⟨D, 0, none⟩ = some (.int .i64 a) ∧ V.cell? ⟨D, 1, none⟩ = some (.int .i64 c))) (early := fun j => decide (j < 2)) (i := 0) (v := (.agg #[(.int .i64 a), (.int .i64 c)])) rfl (by kernel_rfl) (by kernel_rfl) (by kernel_rfl) (by kernel_rfl) (fun _ _ he h => h (of_decide_eq_true he)) (fun _ h _ => h) (fun _ _ _ h => h) (Or.inl ⟨by rfl, ?_⟩) ⟨d0, d1⟩ ?_
    · rintro V ⟨v0, v1⟩
      go_simp
    simp only [List.getElem_toArray, List.getElem_cons_zero, Act.put, List.setIfInBounds_toArray, List.set_cons_zero, List.set_cons_succ]
    refine wpAnyR_take (S := (fun V : World => V.cell? ⟨D, 0, none⟩ = some (.int .i64 a) ∧ V.cell? ⟨D, 1, none⟩ = some (.int .i64 c))) (early := fun j => decide (j < 2)) (i := 1) (v := .slice none 0 0) rfl (by kernel_rfl) (by kernel_rfl) (by kernel_rfl) (by kernel_rfl) (fun _ _ he h => h (of_decide_eq_true he)) (fun _ h _ => h) (fun _ _ _ h => h) (Or.inl ⟨by rfl, ?_⟩) ⟨d0, d1⟩ ?_
    · rintro V ⟨v0, v1⟩
      go_simp
    simp only [List.getElem_toArray, List.getElem_cons_zero, List.getElem_cons_succ, Act.put, List.setIfInBounds_toArray, List.set_cons_zero, List.set_cons_succ]
    refine wpAnyR_all (rs := [2]) (by kernel_rfl) (by simp) (fun i2 hi2 => ?_)
    obtain rfl : i2 = 2 := by simpa using hi2
    clear hi2
    refine wpOp_plain rfl rfl ?_
    simp only [List.getElem_toArray, List.getElem_cons_zero, List.getElem_cons_succ]
    go_simp
    refine wpAnyR_done (by kernel_rfl) ?_ _
    go_wp2_with fail
    have t7 := two_turned' W5 rb (.int .i64 a) (.int .i64 c)
    have g7 := two_set' (x := (.int .i64 a)) (y := (.int .i64 c)) E1.out
    obtain ⟨Wz, hWz⟩ : ∃ Wz, Wz = ((W5.setCell ⟨rb, 0, none⟩ (.int .i64 a)).setCell ⟨rb, 1, none⟩ (.int .i64 c)).drew := ⟨_, rfl⟩
    have g8 : Wz.heap[rb]? = some (.cells #[(.int .i64 a), (.int .i64 c)] 26 (0, 0)) := by rw [hWz, drew_heap]; exact g7
    have t8 : Turned (fun b => w.heap.size ≤ b) w Wz := by rw [hWz, ← hrw.out]; exact (T.out.trans (t7.mono fun b hb => (by omega))).drew
    rw [← hWz]
    clear hWz t7 g7
    refine bodyPost_ret (results_fp _ Wz rb (.slice none 0 0) (.int .i64 a) (.int .i64 c) rfl rfl g8) rfl ?_
    exact ⟨turned_narrow t8 fun b hb hc => absurd hb (by omega), by rw [hE]⟩
  | ok x =>
    rw [hE] at HR
    refine HR.mono ?_
    rintro e W4 ⟨ht, rfl, p, c, hb, hk⟩
    go_wp2_with fail
    obtain ⟨W5, hW5⟩ : ∃ W5, W5 = W4.alloc (.cells #[(.int .i64 0), (.int .i64 0)] 26) := ⟨_, rfl⟩
    obtain ⟨D, hD⟩ : ∃ D, D = W4.heap.size := ⟨_, rfl⟩
    have t5 : Turned (fun _ => False) W4 W5 := by rw [hW5]; exact (Turned.refl _ _).alloc _
    have d5 : W5.heap[D]? = some (.cells #[(.int .i64 0), (.int .i64 0)] 26 (0, 0)) := by rw [hW5, hD]; exact heap_alloc_new _ _
    rw [← hW5, ← hD]
    have s3 := ht.size
    have l1 := getElem?_lt b1
    have e1 : W5.heap[w.heap.size]? = some (.cells #[(.int .i64 0), (.int .i64 0)] 26 (0, 0)) := (t5.block _ (by omega) id).trans ((ht.block _ l1 (by omega)).trans b1)
    have tA : Turned (fun b => w.heap.size ≤ b) w W5 := ((t2.mono fun _ h => h.elim).trans (ht.mono fun b hb => (by omega))).trans (t5.mono fun _ h => h.elim)
    have e3 := (t5.block _ (getElem?_lt hb) id).trans hb
    have hk5 := hk.move t5 (fun _ _ => id) (M := fun b => w.heap.size + 1 < b) (fun b hb _ => by omega)
    obtain ⟨rb, hrb⟩ : ∃ rb, rb = w.heap.size := ⟨_, rfl⟩
    have hDl : rb < D := by omega
    rw [← hrb] at e1 tA ⊢
    rw [← hrb] at e3 hk5
    have o0 := cell_of_box e3
    have HK := Lib.hid hk5
    have n1 : rb ≠ D := by omega
    have n3 : D ≠ rb := by omega
    obtain ⟨d0, d1, d2, d3⟩ := two_cells d5
    obtain ⟨q0, q1, q2, q3⟩ := two_cells e1
    have T := Lib.hid tA
    have E1 := Lib.hid e1
    have hrw := Lib.hid hrb
    clear hk5 hk hb e3 hW5 hD ht t5 d5 s1 b1 t2 tA e1 hrb s3 l1 hv
    refine region_R (R := fun j V => j < 3 → (fun V : World => V.cell? ⟨(rb + 1), 0, none⟩ = some (.slice p x.length c) ∧ V.cell? ⟨D, 0, none⟩ = some (.int .i64 0) ∧ V.cell? ⟨D, 1, none⟩ = some (.int .i64 0)) V) (by kernel_rfl) ?_
    refine wpAnyR_take (S := (fun V : World => V.cell? ⟨(rb + 1), 0, none⟩ = some (.slice p x.length c) ∧ V.cell? ⟨D, 0, none⟩ = some (.int .i64 0) ∧ V.cell? ⟨D, 1, none⟩ = some (.int .i64 0))) (early := fun j => decide (j < 3)) (i := 0) (v := (.slice p x.length c)) rfl (by kernel_rfl) (by kernel_rfl) (by kernel_rfl) (by kernel_rfl) (fun _ _ he h => h (of_decide_eq_true he)) (fun _ h _ => h) (fun _ _ _ h => h) (Or.inl ⟨by rfl, ?_⟩) ⟨o0, d0, d1⟩ ?_
    · rintro V ⟨v0, v1, v2⟩
      go_simp
    simp only [List.getElem_toArray, List.getElem_cons_zero, Act.put, List.setIfInBounds_toArray, List.set_cons_zero, List.set_cons_succ]
    refine wpAnyR_take (S := (fun V : World => V.cell? ⟨(rb + 1), 0, none⟩ = some (.slice p x.length c) ∧ V.cell? ⟨D, 0, none⟩ = some (.int .i64 0) ∧ V.cell? ⟨D, 1, none⟩ = some (.int .i64 0))) (early := fun j => decide (j < 3)) (i := 1) (v := (.agg #[(.int .i64 0), (.int .i64 0)])) rfl (by kernel_rfl) (by kernel_rfl) (by kernel_rfl) (by kernel_rfl) (fun _ _ he h => h (of_decide_eq_true he)) (fun _ h _ => h) (fun _ _ _ h => h) (Or.inl ⟨by rfl, ?_⟩) ⟨o0, d0, d1⟩ ?_
    · rintro V ⟨v0, v1, v2⟩
      go_simp
    simp only [List.getElem_toArray, List.getElem_cons_zero, List.getElem_cons_succ, Act.put, List.setIfInBounds_toArray, List.set_cons_zero, List.set_cons_succ]
    refine wpAnyR_take (S := (fun V : World => V.cell? ⟨(rb + 1), 0, none⟩ = some (.slice p x.length c) ∧ V.cell? ⟨D, 0, none⟩ = some (.int .i64 0) ∧ V.cell? ⟨D, 1, none⟩ = some (.int .i64 0))) (early := fun j => decide (j < 3)) (i := 2) (v := (.slice p x.length c)) rfl (by kernel_rfl) (by kernel_rfl) (by kernel_rfl) (by kernel_rfl) (fun _ _ he h => h (of_decide_eq_true he)) (fun _ h _ => h) (fun _ _ _ h => h) (Or.inl ⟨by rfl, ?_⟩) ⟨o0, d0, d1⟩ ?_
    · rintro V ⟨v0, v1, v2⟩
      go_simp
    simp only [List.getElem_toArray, List.getElem_cons_zero, List.getElem_cons_succ, Act.put, List.setIfInBounds_toArray, List.set_cons_zero, List.set_cons_succ]
    refine wpAnyR_all (rs := [3]) (by kernel_rfl) (by simp) (fun i2 hi2 => ?_)
    obtain rfl : i2 = 3 := by simpa using hi2
    clear hi2
    refine wpOp_plain rfl rfl ?_
    simp only [List.getElem_toArray, List.getElem_cons_zero, List.getElem_cons_succ]
    go_simp
    refine wpAnyR_done (by kernel_rfl) ?_ _
    go_wp2_with fail
    have t7 := two_turned' W5 rb (.int .i64 0) (.int .i64 0)
    have g7 := two_set' (x := (.int .i64 0)) (y := (.int .i64 0)) E1.out
    obtain ⟨Wz, hWz⟩ : ∃ Wz, Wz = ((W5.setCell ⟨rb, 0, none⟩ (.int .i64 0)).setCell ⟨rb, 1, none⟩ (.int .i64 0)).drew := ⟨_, rfl⟩
    have g8 : Wz.heap[rb]? = some (.cells #[(.int .i64 0), (.int .i64 0)] 26 (0, 0)) := by rw [hWz, drew_heap]; exact g7
    have t8 : Turned (fun b => w.heap.size ≤ b) w Wz := by rw [hWz, ← hrw.out]; exact (T.out.trans (t7.mono fun b hb => (by omega))).drew
    have hk8 : FormsAt Wz (fun b => w.heap.size ≤ b) x (.slice p x.length c) := by
      rw [hWz]
      exact HK.out.move t7.drew (fun b hb hc => by omega) (fun b hb _ => by have := hrw.out; omega)
    rw [← hWz]
    clear hWz t7 g7
    refine bodyPost_ret (results_fp _ Wz rb (.slice p x.length c) (.int .i64 0) (.int .i64 0) rfl rfl g8) rfl ?_
    refine ⟨turned_narrow t8 fun b hb hc => absurd hb (by omega), ?_⟩
    rw [hE]
    exact ⟨p, c, rfl, hk8⟩
end Go.Proofs.YtjijdgkccfeeaaaGreatDoor
namespace Go.Proofs.YtjijdgkccfeeaaaGreatDoor
open Go Go.Proofs Go.RowKit
attribute [local go_sem] Oper.semAt_some
abbrev muLink : Go.Conc.Locks.MuLink := { lock := 138, unlock := 139, ilock := 157, iunlock := 158, lockSlow := 176, unlockSlow := 179, disable := 172, enable := 174, acquire := 175, relMerge := 177, cas32 := 173, add32 := 178, tMutex := 163, tIMutex := 161, tPMutex := 229, tPIMutex := 255, tPI32 := 257, tUP := 216, tNoCopy := 155, tU32 := 157 }
theorem muLib : Go.Conc.Locks.MuLib Tryz.prog muLink :=
  ⟨Tryz.func138, Tryz.func139, Tryz.func157, Tryz.func158, Tryz.func172, Tryz.func174, Tryz.func175, Tryz.func177, Tryz.func173, Tryz.func178, Tryz.underlying161, Tryz.runUnderlying161, Tryz.sizeOf161, Tryz.isAgg161, Tryz.zeroValue161, Tryz.underlying163, Tryz.runUnderlying163, Tryz.sizeOf163, Tryz.isAgg163, Tryz.zeroValue163, Tryz.underlying229, Tryz.runUnderlying229, Tryz.sizeOf229, Tryz.isAgg229, Tryz.zeroValue229, Tryz.underlying255, Tryz.runUnderlying255, Tryz.sizeOf255, Tryz.isAgg255, Tryz.zeroValue255, Tryz.underlying257, Tryz.runUnderlying257, Tryz.sizeOf257, Tryz.isAgg257, Tryz.zeroValue257, Tryz.underlying216, Tryz.runUnderlying216, Tryz.sizeOf216, Tryz.isAgg216, Tryz.zeroValue216, Tryz.underlying155, Tryz.runUnderlying155, Tryz.sizeOf155, Tryz.isAgg155, Tryz.zeroValue155, Tryz.underlying21, Tryz.runUnderlying21, Tryz.sizeOf21, Tryz.isAgg21, Tryz.zeroValue21, (by kernel_rfl)⟩
theorem store_deferred (a : Addr) (x : Value) (u : FrameMode) (w : World) (hc : w.cell? a = some x) (hz : w.frozen? a = false) :
    CallsD Tryz.prog 140 #[.pointer (some a), .bool true] u w fun e u' w' => u' = u ∧ (e = .returned (.tuple #[]) ∧ w' = w.drew.setCell a (.int .u32 1)) := by
  have hc' : w.drew.cell? a = some x := by go_simp
  have hz' : w.drew.frozen? a = false := by go_simp
  have hst := run_call_store (P := Tryz.prog) Tryz.func159 (by kernel_rfl) (by kernel_rfl) (by kernel_rfl) (by kernel_rfl) (k := .u32) (y := 1) hc' hz'
  go_enter_d Tryz.func140, Tryz.ntmps140
  go_wp2
  go_region_calls
  all_goals (go_end0; exact ⟨rfl, rfl⟩)
set_option maxRecDepth 100000 in
set_option maxHeartbeats 1600000 in
theorem slow_any (b : Nat) (p : Value) (w : World) (R : World → Prop)
    (h0 : w.cell? ⟨b, 0, none⟩ = some (.int .u32 0)) (h1 : w.cell? ⟨b, 1, none⟩ = some (.int .i32 0))
    (f1 : w.frozen? ⟨b, 1, none⟩ = false)
    (hf : Calls Tryz.prog 102 #[p] (w.setCell ⟨b, 1, none⟩ (.int .i32 1)) fun e w' => e = .returned (.tuple #[]) ∧ w'.cell? ⟨b, 0, none⟩ = some (.int .u32 0) ∧ w'.cell? ⟨b, 1, none⟩ = some (.int .i32 1) ∧ w'.frozen? ⟨b, 0, none⟩ = false ∧ w'.frozen? ⟨b, 1, none⟩ = false ∧ R w') :
    Calls Tryz.prog 120 #[.pointer (some ⟨b, 0, none⟩), .func (.func 102) #[p] #[]] w fun e w' => e = .returned (.tuple #[]) ∧ ∃ w1, R w1 ∧ w' = (w1.drew.setCell ⟨b, 0, none⟩ (.int .u32 1)).setCell ⟨b, 1, none⟩ (.int .i32 0) := by
  have hl := run_call_load (P := Tryz.prog) Tryz.func137 (by kernel_rfl) (by kernel_rfl) (by kernel_rfl) .u32 (by kernel_rfl) (w := w.setCell ⟨b, 1, none⟩ (.int .i32 1)) (a := ⟨b, 0, none⟩) (x := 0) ((World.cell?_setCell_other _ ⟨b, 1, none⟩ ⟨b, 0, none⟩ _ (by simp)).trans h0)
  have hnot : ∀ (x : Bool) (w : World), (Op.unary .not (.bool x)).run Tryz.prog w = .ok (.bool (!x)) w := fun _ _ => rfl
  go_enter_defers Tryz.func120, Tryz.ntmps120
  have HF := Lib.hid hf
  clear hf
  go_wp2_with (first | (go_at_call 138; refine (Go.MuLone.lock_free muLib ⟨b, 1, none⟩ _ (by go_simp) (by go_simp)).mono ?_; rintro e w' ⟨rfl, rfl⟩) | (go_at_call 119; go_in))
  refine HF.out.mono ?_
  rintro e w1 ⟨rfl, g0, g1, z0, z1, hR⟩
  have HR := Lib.hid hR
  clear hR
  go_wp2
  refine leaves_cons (f := 140) (args := #[.pointer (some ⟨b, 0, none⟩), .bool true]) (by simp) (by simp [go_sem]) ?_
  refine (store_deferred ⟨b, 0, none⟩ (.int .u32 0) .returning _ g0 z0).mono ?_
  rintro e u' w'' ⟨rfl, rfl, rfl⟩
  refine leaves_cons (f := 139) (args := #[.pointer (some ⟨b, 1, none⟩)]) (by simp [settle]) (by simp [go_sem]) ?_
  refine (Go.MuLone.unlock_deferred muLib ⟨b, 1, none⟩ _ _ ?_ (by simp [z1])).mono ?_
  · refine (World.cell?_setCell_other _ ⟨b, 0, none⟩ ⟨b, 1, none⟩ _ (by simp)).trans ?_
    rw [World.cell?_drew]
    exact g1
  rintro e u' w'' ⟨rfl, rfl, rfl⟩
  simp [Leaves, settle, results, Tryz.results120]
  exact ⟨w1, HR.out, rfl⟩
set_option maxHeartbeats 800000 in
theorem do_first (b : Nat) (p : Value) (w : World) (R : World → Prop)
    (h0 : w.cell? ⟨b, 0, none⟩ = some (.int .u32 0)) (h1 : w.cell? ⟨b, 1, none⟩ = some (.int .i32 0))
    (f1 : w.frozen? ⟨b, 1, none⟩ = false)
    (hf : Calls Tryz.prog 102 #[p] (w.setCell ⟨b, 1, none⟩ (.int .i32 1)) fun e w' => e = .returned (.tuple #[]) ∧ w'.cell? ⟨b, 0, none⟩ = some (.int .u32 0) ∧ w'.cell? ⟨b, 1, none⟩ = some (.int .i32 1) ∧ w'.frozen? ⟨b, 0, none⟩ = false ∧ w'.frozen? ⟨b, 1, none⟩ = false ∧ R w') :
    Calls Tryz.prog 101 #[.pointer (some ⟨b, 0, none⟩), .func (.func 102) #[p] #[]] w fun e w' => e = .returned (.tuple #[]) ∧ ∃ w1, R w1 ∧ w' = (w1.drew.setCell ⟨b, 0, none⟩ (.int .u32 1)).setCell ⟨b, 1, none⟩ (.int .i32 0) := by
  have hl := run_call_load (P := Tryz.prog) Tryz.func137 (by kernel_rfl) (by kernel_rfl) (by kernel_rfl) .u32 (by kernel_rfl) h0
  have hnot : ∀ (x : Bool) (w : World), (Op.unary .not (.bool x)).run Tryz.prog w = .ok (.bool (!x)) w := fun _ _ => rfl
  have HS := Lib.hid (slow_any b p w R h0 h1 f1 hf)
  clear hf
  go_enter Tryz.func101, Tryz.ntmps101
  go_wp2_with (first | (go_at_call 120; refine HS.out.mono ?_; rintro e w' ⟨rfl, w1, hR, rfl⟩; have HR := Lib.hid hR; clear hR) | (go_at_call 119; go_in))
  go_end0
  exact ⟨rfl, w1, HR.out, rfl⟩
end Go.Proofs.YtjijdgkccfeeaaaGreatDoor
namespace Go.Proofs.YtjijdgkccfeeaaaGreatDoor
open Go Go.Proofs Go.RowKit
attribute [local go_sem] Oper.semAt_some
def ToksAt (W : World) (b o : Nat) (ts : List Tok) : Prop := b < W.heap.size ∧ ∀ (j : Nat) (t : Tok), ts[j]? = some t →
  W.cell? ⟨b, o + j * 4, none⟩ = some (.int .i64 (t.kind)) ∧ W.cell? ⟨b, o + j * 4 + 1, none⟩ = some (.int .i64 (t.at_)) ∧ W.cell? ⟨b, o + j * 4 + 2, none⟩ = some (.string t.s) ∧ W.cell? ⟨b, o + j * 4 + 3, none⟩ = some (.int .i64 (t.n))
theorem ToksAt.turned {W W' : World} {b o : Nat} {ts : List Tok} (h : ToksAt W b o ts) (ht : Turned (fun _ => False) W W') : ToksAt W' b o ts := by
  refine ⟨Nat.lt_of_lt_of_le h.1 ht.size, fun j t hj => ?_⟩
  have hc := fun i => ht.cell (p := ⟨b, i, none⟩) h.1 id
  rw [hc, hc, hc, hc]
  exact h.2 j t hj
theorem itoa_any (n : Int) (h0 : -9223372036854775808 ≤ n) (h1 : n ≤ 9223372036854775807) (w : World) (htab : Lib.TabIs Tryz.prog w "internal/strconv.uint64pow10" .u64 Lib.pow10Tab) : Calls Tryz.prog 70 #[(.int .i64 n)] w fun e w' => e = .returned (.string ⟨(Lib.itoa n).toArray⟩) ∧ Turned (fun _ => False) w w' := by
  refine (Tryz.strconv_Itoa n h0 h1 w htab).mono ?_
  rintro e w' ⟨rfl, k, os, rfl⟩
  refine ⟨rfl, Turned.of_new ?_⟩
  exact Lib.below_grow _ _ (Nat.le_refl _) _ _
theorem infoStr : (Tryz.prog.info? 9).map (fun i => (i.zero, i.size, i.bytes)) = some (some (.string ⟨#[]⟩), 1, 16) := by kernel_rfl
structure XS (w : World) (ws : List ByteArray) (v : Value) (wr : World) : Prop where
  own : wr.ownsRow w.heap.size 9 1 v ws.length (ws.map Value.string)
  tur : Turned (fun i => w.heap.size ≤ i) w wr
theorem XS.ownT {w wr wr' : World} {v : Value} {ws : List ByteArray} (h : XS w ws v wr) (ht : Turned (fun _ => False) wr wr') : wr'.ownsRow w.heap.size 9 1 v ws.length (ws.map Value.string) := ownsRow_turned' ht (fun _ _ => id) h.own
theorem XS.push {w wr wa w4 : World} {v v' : Value} {ws : List ByteArray} (h : XS w ws v wr) (ha : Turned (fun _ => False) wr wa) (x : ByteArray) (hown' : w4.ownsRow w.heap.size 9 1 v' (ws.length + 1) (ws.map Value.string ++ [.string x])) (hgrow : wa.grownBy w4 v.ownBlock) : XS w (ws ++ [x]) v' w4 := by
  refine ⟨by simpa using hown', ?_⟩
  have hb := ownsRow_block h.own
  exact (h.tur.trans (ha.mono fun _ h => h.elim)).trans (Turned.of_grown hgrow fun g hgr => (hb g hgr).1)
theorem XS.stay {w wr wa : World} {v : Value} {ws : List ByteArray} (h : XS w ws v wr) (ha : Turned (fun _ => False) wr wa) : XS w ws v wa := ⟨h.ownT ha, h.tur.trans (ha.mono fun _ h => h.elim)⟩
theorem cell_one_at {w : World} {x : Value} {t : TypeId} {n : Nat} (hn : w.heap.size = n) : ∀ j u, [x][j]? = some u → (w.alloc (.cells #[x] t)).cell? ((⟨n, 0, none⟩ : Addr).add j) = some u := by
  subst hn; exact cell_one_new w x t
theorem join_any (w wr : World) (ws : List ByteArray) (v : Value) (h : XS w ws v wr) (hl : ws.length ≤ 100000) (hlen : (Lib.join (ws.map (·.data.toList)) [32]).length ≤ 140737488355328) :
    Calls Tryz.prog 73 #[v, .string ⟨#[32]⟩] wr fun e w' => e = .returned (.string ⟨(Lib.join (ws.map (·.data.toList)) [32]).toArray⟩) ∧ Turned (fun _ => False) w w' := by
  obtain ⟨hl0, h2⟩ := h.own
  rcases h2 with ⟨rfl, h0⟩ | ⟨g, cap, cur, rfl, hg, hh, hc, hm, hs, ht⟩
  · have : ws = [] := List.length_eq_zero_iff.1 h0
    subst this
    refine (Tryz.strings_Join_none none 0 ⟨#[32]⟩ wr).mono ?_
    rintro e w' ⟨rfl, rfl⟩
    exact ⟨rfl, h.tur.strip⟩
  · refine (Tryz.strings_Join g 0 cap ws ⟨#[32]⟩ wr (fun j x hx => ?_) (getElem?_lt hh) (by omega) (by omega) hlen).mono ?_
    · have hj : j < ws.length := (List.getElem?_eq_some_iff.1 hx).1
      have h1 : (ws.map Value.string)[j]? = some (.string x) := by simp [hx]
      rw [← ht, List.getElem?_take_of_lt (by omega)] at h1
      simpa [World.cell?, hh] using h1
    · rintro e w' ⟨rfl, hb⟩
      exact ⟨rfl, h.tur.strip.trans (Turned.of_new hb)⟩
end Go.Proofs.YtjijdgkccfeeaaaGreatDoor
namespace Go.Proofs.YtjijdgkccfeeaaaGreatDoor
open Go Go.Proofs Go.RowKit
attribute [local go_sem] Oper.semAt_some
def six : List (List UInt8) := [[34], [92, 34], [92], [92, 92], [10], [92, 110]]
def sixV : List Value := six.map fun l => Value.string ⟨l.toArray⟩
def SixAt (W : World) (g : Nat) : Prop := ∀ (j : Nat) (y : Value), sixV[j]? = some y → W.cell? ⟨g, j, none⟩ = some y
def Fresh (W : World) (B : Nat) : Prop := ∃ g cap, W.heap[B]? = some (.cells #[.int .u32 0, .int .i32 0, .int .u32 0, .nilIface, .slice (some ⟨g, 0, none⟩) 6 cap] 169 (0, 0)) ∧ g < W.heap.size ∧ g ≠ B ∧ SixAt W g
theorem six_own {W : World} {base : Nat} {v : Value} (h : W.ownsRow base 9 1 v 6 sixV) : ∃ g cap, v = .slice (some ⟨g, 0, none⟩) 6 cap ∧ base ≤ g ∧ g < W.heap.size ∧ SixAt W g := by
  obtain ⟨hl, h2⟩ := h
  rcases h2 with ⟨rfl, h0⟩ | ⟨g, cap, cur, rfl, hg, hh, hc, hm, hs, ht⟩
  · cases h0
  · refine ⟨g, cap, rfl, hg, getElem?_lt hh, fun j y hj => ?_⟩
    have hlt : j < sixV.length := (List.getElem?_eq_some_iff.1 hj).1
    rw [← ht, List.getElem?_take_of_lt (by have : sixV.length = 6 := rfl; omega)] at hj
    simpa [World.cell?, hh] using hj
set_option maxRecDepth 20000 in
set_option maxHeartbeats 1000000 in
theorem new_any (G : Nat) (w : World) (h6 : SixAt w G) : Calls Tryz.prog 71 #[.slice (some ⟨G, 0, none⟩) 6 6] w fun e w' => ∃ B, e = .returned (.pointer (some ⟨B, 0, none⟩)) ∧ Hid (Fresh w' B ∧ w.heap.size ≤ B ∧ Turned (fun _ => False) w w') := by
  obtain ⟨i0, hif, hz0, hz1, hz2⟩ := info_parts infoStr
  have HOwn : Hid (w.ownsRow w.heap.size 9 1 (.slice none 0 0) 0 []) := ⟨rfl, .inl ⟨rfl, rfl⟩⟩
  have H6 := Lib.hid h6
  clear h6
  go_enter Tryz.func71, Tryz.ntmps71
  have hadd : ∀ (j : Nat), (⟨G, 0, none⟩ : Addr).add j = ⟨G, j, none⟩ := fun j => by cases j <;> simp [Addr.add]
  have HC : Hid (∀ (j : Nat) (u : Value), sixV[j]? = some u → w.cell? ((⟨G, 0, none⟩ : Addr).add j) = some u) := fun j u hj => by rw [hadd]; exact H6.out j u hj
  clear hadd
  go_wp2_with (at_builtin; refine wpList_append_own _ rfl _ _ 42 rfl w.heap.size 9 i0 (.string ⟨#[]⟩) 1 16 Tryz.underlying42 hif hz0 hz1 hz2 rfl (by decide) _ _ _ rfl HOwn.out ⟨G, 0, none⟩ 6 6 sixV rfl rfl HC.out (by decide) (by unfold maxLen; omega) (by omega) (by omega) ?_; intro v' w4 hown' hgrow hnil; have HG := Lib.hid hgrow; obtain ⟨g, cap, hv, hg, hgl, hS⟩ := six_own hown'; subst hv; have HS := Lib.hid hS; clear hown' hgrow hnil hS)
  go_ret
  refine ⟨_, rfl, Lib.hid ⟨⟨g, cap, heap_alloc_new _ _, by simp; omega, by omega, ?_⟩, ?_, ?_⟩⟩
  · intro j y hj
    rw [World.cell?_alloc_past _ _ _ hgl]
    exact HS.out j y hj
  · exact HG.out.size
  · exact (Turned.of_grown (C := fun _ => False) HG.out fun g hg => by cases hg).alloc _
end Go.Proofs.YtjijdgkccfeeaaaGreatDoor
namespace Go.Proofs.YtjijdgkccfeeaaaGreatDoor
open Go Go.Proofs Go.RowKit
attribute [local go_sem] Oper.semAt_some
theorem six_cells6 {W : World} {g : Nat} (h : SixAt W g) : W.cell? ⟨g, 0, none⟩ = some (.string ⟨#[34]⟩) ∧ W.cell? ⟨g, 1, none⟩ = some (.string ⟨#[92, 34]⟩) ∧ W.cell? ⟨g, 2, none⟩ = some (.string ⟨#[92]⟩) ∧ W.cell? ⟨g, 3, none⟩ = some (.string ⟨#[92, 92]⟩) ∧ W.cell? ⟨g, 4, none⟩ = some (.string ⟨#[10]⟩) ∧ W.cell? ⟨g, 5, none⟩ = some (.string ⟨#[92, 110]⟩) :=
  ⟨h 0 _ rfl, h 1 _ rfl, h 2 _ rfl, h 3 _ rfl, h 4 _ rfl, h 5 _ rfl⟩
def rows : List (UInt8 × List UInt8) := [(10, [92, 110]), (92, [92, 92]), (34, [92, 34])]
def BytesAt (W : World) (q : Nat) (l : List UInt8) : Prop := ∃ arr fz, W.heap[q]? = some (.cells arr 5 fz) ∧ ∀ (j : Nat) (c : UInt8), l[j]? = some c → arr[j]? = some (encB c)
structure BT (base R : Nat) (D : List (UInt8 × List UInt8)) (W : World) (arr : Array Value) (v : Value) : Prop where
  row : W.heap[R]? = some (.cells arr 214 (0, 0))
  size : arr.size = 257
  nil : ∀ b, b < 256 → (∀ p ∈ D, p.1.toNat ≠ b) → arr[b]? = some (.slice none 0 0)
  set : ∀ p ∈ D, ∃ q cap, arr[p.1.toNat]? = some (.slice (some ⟨q, 0, none⟩) p.2.length cap) ∧ BytesAt W q p.2
  last : arr[256]? = some v
  own : W.ownsRow base 9 1 v D.length (D.map fun p => .string ⟨#[p.1]⟩)
theorem set_block {W : World} {R : Nat} {arr : Array Value} {t : TypeId} {fz : Nat × Nat} (h : W.heap[R]? = some (.cells arr t fz)) (i : Nat) (x : Value) : (W.setCell ⟨R, i, none⟩ x).heap[R]? = some (.cells (arr.setIfInBounds i x) t fz) := by
  simp [World.setCell, Array.getElem?_modify, h]
theorem row_cell' {W : World} {g : Nat} {arr : Array Value} {t : TypeId} {fz : Nat × Nat} (h : W.heap[g]? = some (.cells arr t fz)) (j : Nat) : W.cell? ⟨g, j, none⟩ = arr[j]? := by
  simp [World.cell?, h]
theorem own_type {W : World} {base e size n : Nat} {v : Value} {xs : List Value} (h : W.ownsRow base e size v n xs) : ∀ g, v.ownBlock = some g → ∃ cur, W.heap[g]? = some (.cells cur e (0, 0)) := by
  intro g hg
  obtain ⟨-, h2⟩ := h
  rcases h2 with ⟨rfl, -⟩ | ⟨g', cap, cur, rfl, hb, hh, -⟩
  · cases hg
  · cases hg; exact ⟨cur, hh⟩
theorem own_not {W : World} {base e size n R : Nat} {v : Value} {xs : List Value} {arr : Array Value} {t : TypeId} {fz : Nat × Nat} (h : W.ownsRow base e size v n xs) (hR : W.heap[R]? = some (.cells arr t fz)) (hte : t ≠ e) : v.ownBlock ≠ some R := fun hg => by
  obtain ⟨cur, h1⟩ := own_type h R hg
  rw [h1] at hR
  simp at hR
  exact hte hR.2.1.symm
theorem BT.after {base R : Nat} {D : List (UInt8 × List UInt8)} {W wa w4 : World} {arr : Array Value} {v : Value} (h : BT base R D W arr v) (ha : Turned (fun _ => False) W wa) (hg : wa.grownBy w4 v.ownBlock) : w4.heap[R]? = some (.cells arr 214 (0, 0)) ∧ ∀ q l, BytesAt W q l → BytesAt w4 q l := by
  refine ⟨?_, fun q l hq => ?_⟩
  · have hlt := getElem?_lt h.row
    rw [hg.block R (Nat.lt_of_lt_of_le hlt ha.size) (fun e => own_not h.own h.row (by decide) e.symm), ha.block R hlt id]
    exact h.row
  · obtain ⟨ar, fz, h1, h2⟩ := hq
    have hlt := getElem?_lt h1
    refine ⟨ar, fz, ?_, h2⟩
    rw [hg.block q (Nat.lt_of_lt_of_le hlt ha.size) (fun e => own_not h.own h1 (by decide) e.symm), ha.block q hlt id]
    exact h1
theorem BytesAt.set {W : World} {q R i : Nat} {l : List UInt8} {x : Value} (h : BytesAt W q l) (hne : R ≠ q) : BytesAt (W.setCell ⟨R, i, none⟩ x) q l := by
  obtain ⟨ar, fz, h1, h2⟩ := h
  exact ⟨ar, fz, by rw [show (W.setCell ⟨R, i, none⟩ x).heap[q]? = W.heap[q]? by simp [World.setCell, Array.getElem?_modify, hne]]; exact h1, h2⟩
theorem BytesAt.bytes {W : World} {q : Nat} {l : List UInt8} {s : ByteArray} (h : BytesAt W q l) : BytesAt (Lib.bytesWorld W 5 s) q l := by
  obtain ⟨ar, fz, h1, h2⟩ := h
  exact ⟨ar, fz, by rw [Lib.bytesWorld_at_old _ _ _ _ (getElem?_lt h1)]; exact h1, h2⟩
theorem BytesAt.ne {W : World} {q R : Nat} {l : List UInt8} {arr : Array Value} (h : BytesAt W q l) (hR : W.heap[R]? = some (.cells arr 214 (0, 0))) : R ≠ q := fun e => by
  subst e
  obtain ⟨ar, fz, h1, -⟩ := h
  rw [hR] at h1
  simp at h1
theorem bytes_new (W : World) (l : List UInt8) : BytesAt (Lib.bytesWorld W 5 ⟨l.toArray⟩) W.heap.size l := by
  refine ⟨_, _, Lib.bytesWorld_at_new _ _ _, fun j c hj => ?_⟩
  have hlt : j < l.length := (List.getElem?_eq_some_iff.1 hj).1
  unfold Lib.bytesCells
  rw [Array.getElem?_append_left (by simp; exact hlt)]
  simp [hj, encB]
theorem bytesWorld_turned (W : World) (s : ByteArray) : Turned (fun _ => False) W (Lib.bytesWorld W 5 s) := by
  refine ⟨rfl, rfl, rfl, by rw [Lib.bytesWorld_size]; omega, fun k hk _ => Lib.bytesWorld_at_old _ _ _ _ hk⟩
theorem ownsRow_bytes {W : World} {base e size n : Nat} {v : Value} {xs : List Value} {s : ByteArray} (h : W.ownsRow base e size v n xs) : (Lib.bytesWorld W 5 s).ownsRow base e size v n xs := ownsRow_turned' (bytesWorld_turned W s) (fun _ _ => id) h
theorem BT.step {base R : Nat} {D : List (UInt8 × List UInt8)} {W wa w4 : World} {arr : Array Value} {v v' : Value} (h : BT base R D W arr v) (ha : Turned (fun _ => False) W wa) (hg : wa.grownBy w4 v.ownBlock) (o : UInt8) (l : List UInt8) (ho : ∀ p ∈ D, p.1 ≠ o)
    (hown : w4.ownsRow base 9 1 v' (D.length + 1) (D.map (fun p => .string ⟨#[p.1]⟩) ++ [.string ⟨#[o]⟩])) (c : Nat) :
    BT base R (D ++ [(o, l)]) ((Lib.bytesWorld (w4.setCell ⟨R, 256, none⟩ v') 5 ⟨l.toArray⟩).setCell ⟨R, o.toNat, none⟩ (.slice (some ⟨w4.heap.size, 0, none⟩) l.length c)) ((arr.setIfInBounds 256 v').setIfInBounds o.toNat (.slice (some ⟨w4.heap.size, 0, none⟩) l.length c)) v' := by
  obtain ⟨g1, g2⟩ := h.after ha hg
  have hsz := h.size
  have ho256 := o.toNat_lt
  have hR4 := getElem?_lt g1
  have e5 := set_block g1 256 v'
  have hs5 : (w4.setCell ⟨R, 256, none⟩ v').heap.size = w4.heap.size := by simp [World.setCell]
  have e6 : (Lib.bytesWorld (w4.setCell ⟨R, 256, none⟩ v') 5 ⟨l.toArray⟩).heap[R]? = some (.cells (arr.setIfInBounds 256 v') 214 (0, 0)) := by
    rw [Lib.bytesWorld_at_old _ _ _ _ (by rw [hs5]; exact hR4)]; exact e5
  have e7 := set_block e6 o.toNat (.slice (some ⟨w4.heap.size, 0, none⟩) l.length c)
  have hR5 : v'.ownBlock ≠ some R := own_not hown g1 (by decide)
  have hown5 : (w4.setCell ⟨R, 256, none⟩ v').ownsRow base 9 1 v' (D.length + 1) (D.map (fun p => .string ⟨#[p.1]⟩) ++ [.string ⟨#[o]⟩]) :=
    ownsRow_turned' (C := fun j => j = R) ((Turned.refl (fun j => j = R) _).setCell (p := ⟨R, 256, none⟩) rfl v') (fun g hg e => hR5 (by rw [hg, e])) hown
  refine ⟨e7, by simp [hsz], fun b hb hp => ?_, fun p hp => ?_, ?_, ?_⟩
  · have hob : o.toNat ≠ b := hp (o, l) (List.mem_append_right _ (List.mem_singleton.2 rfl))
    rw [Array.getElem?_setIfInBounds_ne hob, Array.getElem?_setIfInBounds_ne (by omega)]
    exact h.nil b hb fun p hp2 => hp p (List.mem_append_left _ hp2)
  · rcases List.mem_append.1 hp with hp | hp
    · obtain ⟨q, cap, h1, h2⟩ := h.set p hp
      have hpo : o.toNat ≠ p.1.toNat := fun e => ho p hp (UInt8.toNat_inj.1 e.symm)
      have hp256 := p.1.toNat_lt
      refine ⟨q, cap, ?_, ?_⟩
      · rw [Array.getElem?_setIfInBounds_ne hpo, Array.getElem?_setIfInBounds_ne (by omega)]
        exact h1
      · have h3 := g2 q _ h2
        have h4 := h3.ne g1
        exact ((h3.set h4).bytes).set h4
    · obtain rfl := List.mem_singleton.1 hp
      refine ⟨w4.heap.size, c, ?_, ?_⟩
      · rw [Array.getElem?_setIfInBounds_self_of_lt (by simp [hsz]; omega)]
      · have h3 := bytes_new (w4.setCell ⟨R, 256, none⟩ v') l
        rw [hs5] at h3
        exact h3.set (by omega)
  · rw [Array.getElem?_setIfInBounds_ne (by omega), Array.getElem?_setIfInBounds_self_of_lt (by omega)]
  · have h9 : (D ++ [(o, l)]).map (fun p : UInt8 × List UInt8 => Value.string ⟨#[p.1]⟩) = D.map (fun p => .string ⟨#[p.1]⟩) ++ [.string ⟨#[o]⟩] := by simp
    rw [h9]
    have h10 := ownsRow_bytes (s := ⟨l.toArray⟩) hown5
    have h11 := ownsRow_turned' (C := fun j => j = R) ((Turned.refl (fun j => j = R) (Lib.bytesWorld (w4.setCell ⟨R, 256, none⟩ v') 5 ⟨l.toArray⟩)).setCell (p := ⟨R, o.toNat, none⟩) rfl (.slice (some ⟨w4.heap.size, 0, none⟩) l.length c)) (fun g hg e => hR5 (by rw [hg, e])) h10
    simpa using h11
theorem bsr_size : (Tryz.prog.info? 214).map (·.size) = some 257 := by kernel_rfl
theorem zero_size : Tryz.zeroCells214.size = 257 := by kernel_rfl
theorem zero_take : Tryz.zeroCells214.toList.take 256 = List.replicate 256 (.slice none 0 0) := by kernel_rfl
theorem zero_one : Tryz.zeroCells214.toList.all (·.oneCell') = true := by kernel_rfl
theorem set_row (zs : Array Value) (v : Value) (h1 : zs.size = 257) (h2 : zs.toList.take 256 = List.replicate 256 (.slice none 0 0)) (h3 : zs.toList.all (·.oneCell') = true) (hv : v.oneCell' = true) :
    ∃ arr : Array Value, arr.toList = zs.toList.set 256 v ∧ arr.size = 257 ∧ (∀ b, b < 256 → arr[b]? = some (.slice none 0 0)) ∧ arr[256]? = some v ∧ arr.all (·.oneCell') = true := by
  refine ⟨(zs.toList.set 256 v).toArray, rfl, by simp [h1], fun b hb => ?_, ?_, ?_⟩
  · have h4 : (zs.toList.set 256 v).toArray[b]? = (zs.toList.set 256 v)[b]? := by simp
    rw [h4, List.getElem?_set_ne (by omega), ← List.getElem?_take_of_lt hb, h2, List.getElem?_replicate]
    simp [hb]
  · have h4 : (zs.toList.set 256 v).toArray[256]? = (zs.toList.set 256 v)[256]? := by simp
    rw [h4, List.getElem?_set_self (by simp [h1])]
  · rw [List.all_toArray, List.all_eq_true]
    intro x hx
    rcases List.mem_or_eq_of_mem_set hx with h | rfl
    · exact List.all_eq_true.1 h3 x h
    · exact hv
theorem store_fresh (w : World) (v : Value) (hv : v.oneCell' = true) : ∃ arr : Array Value, arr.size = 257 ∧ (∀ b, b < 256 → arr[b]? = some (.slice none 0 0)) ∧ arr[256]? = some v ∧
    (storeCells ⟨w.heap.size, 0, none⟩ (Tryz.zeroCells214.toList.set 256 v)).run Tryz.prog (w.alloc (.cells Tryz.zeroCells214 214)) = .ok () (w.alloc (.cells arr 214)) := by
  obtain ⟨arr, e1, e2, e3, e4, e5⟩ := set_row _ v zero_size zero_take zero_one hv
  have h := run_storeCells_new (P := Tryz.prog) w 214 Tryz.zeroCells214 arr (by rw [bsr_size, e2]) (by rw [zero_size, e2]) e5
  rw [e1] at h
  exact ⟨arr, e2, e3, e4, h⟩
end Go.Proofs.YtjijdgkccfeeaaaGreatDoor
