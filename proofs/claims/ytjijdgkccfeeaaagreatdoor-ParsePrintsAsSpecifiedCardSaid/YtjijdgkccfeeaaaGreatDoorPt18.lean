/- Part 18 of the proof of card: ParWalkL, ParPrF, ParSane. Conditions: those of each theorem. -/
import Derived.KernelRfl
import Derived.Test.YtjijdgkccfeeaaaGreatDoorPt01
import Derived.Test.YtjijdgkccfeeaaaGreatDoorPt05
import Derived.Test.YtjijdgkccfeeaaaGreatDoorPt11
import Derived.Test.YtjijdgkccfeeaaaGreatDoorPt17
set_option maxRecDepth 20000
set_option maxHeartbeats 8000000
namespace Go.Proofs.YtjijdgkccfeeaaaGreatDoor
open Go Go.Proofs Go.RowKit
attribute [local go_sem] Oper.semAt_some
inductive PE (α : Type) where
 | ok (x : α)
 | bad (a c : Int)
def readE (ts : List Tok) : PR Ex := (runF ts (ts.length * 16 + 13) .expr 0 1).getD (.err 0 5)
def readF (ts : List Tok) : PR (List Fm) := (formsF ts (ts.length * 32 + 17) 0 0 []).getD (.err 0 5)
def endP {α : Type} (ts : List Tok) : PR α -> PE α
 | .err j c => .bad (atT ts j) c
 | .ok x j => if (ts[j]?).map (·.kind) = some 5 then .ok x else .bad (atT ts j) 5
def exprP (s : ByteArray) : PE Ex := match tokensP s with
 | .err k c => .bad k c
 | .ok ts => endP ts (readE ts)
def formsP (s : ByteArray) : PE (List Fm) := match tokensP s with
 | .err k c => .bad k c
 | .ok ts => endP ts (readF ts)
theorem readE_some {ts : List Tok} (ok : TokOK ts) (h : 0 < ts.length) : runF ts (ts.length * 16 + 13) .expr 0 1 = some (readE ts) := by
 obtain ⟨r, hr⟩ := run_total ok (ts.length * 16 + 13) .expr 0 1 trivial h (by simp [measQ, rankQ])
 unfold readE
 rw [hr]; rfl
theorem readF_some {ts : List Tok} (ok : TokOK ts) (h : 0 < ts.length) : formsF ts (ts.length * 32 + 17) 0 0 [] = some (readF ts) := by
 obtain ⟨r, hr⟩ := forms_total ok (ts.length * 32 + 17) 0 0 [] h (by omega)
 unfold readF
 rw [hr]; rfl
theorem endP_err {α : Type} {ts : List Tok} {k : Nat} {r : PR α} {a c : Int} (hf : Fits ts.length k r) (h : endP ts r = .bad a c) : c ≠ 0 := by
 cases r with
 | err j d => cases h; rcases hf.2 with h | h <;> omega
 | ok x j =>
  simp only [endP] at h
  split at h
  ·cases h
  ·cases h; decide
theorem exprP_err {s : ByteArray} {a c : Int} (h : exprP s = .bad a c) : c ≠ 0 := by
 unfold exprP at h
 split at h
 ·rename_i hT; cases h; exact tokens_err0 hT
 ·rename_i ts hT
  obtain ⟨h1, h2, -⟩ := tokens_good hT
  exact endP_err (run_fits h1 _ _ _ _ _ (readE_some h1 h2)) h
theorem formsP_err {s : ByteArray} {a c : Int} (h : formsP s = .bad a c) : c ≠ 0 := by
 unfold formsP at h
 split at h
 ·rename_i hT; cases h; exact tokens_err0 hT
 ·rename_i ts hT
  obtain ⟨h1, h2, -⟩ := tokens_good hT
  exact endP_err (forms_fits h1 _ _ _ _ _ (readF_some h1 h2)) h
theorem runP_bad {α : Type} {s : ByteArray} {rd : List Tok -> PR α} {a c : Int} (h : (match tokensP s with | .err k c => PE.bad k c | .ok ts => endP ts (rd ts)) = PE.bad a c) : runP (tokensP s) (fun ts => (rd ts).unit) = (a, c) := by
 cases hT : tokensP s with
 | err k d => rw [hT] at h; cases h; rfl
 | ok ts =>
  rw [hT] at h
  simp only [runP] at h ⊢
  cases hr : rd ts with
  | err j d => rw [hr] at h; cases h; rfl
  | ok x j =>
   rw [hr] at h
   simp only [PR.unit, endP] at h ⊢
   split
   ·rename_i h5; rw [if_pos h5] at h; cases h
   ·rename_i h5; rw [if_neg h5] at h; cases h; rfl
theorem runP_ok {α : Type} {s : ByteArray} {rd : List Tok -> PR α} {x : α} (h : (match tokensP s with | .err k c => PE.bad k c | .ok ts => endP ts (rd ts)) = PE.ok x) : runP (tokensP s) (fun ts => (rd ts).unit) = (0, 0) /\ ∃ ts j, tokensP s = .ok ts /\ rd ts = .ok x j := by
 cases hT : tokensP s with
 | err k d => rw [hT] at h; cases h
 | ok ts =>
  rw [hT] at h
  simp only [runP] at h ⊢
  cases hr : rd ts with
  | err j d => rw [hr] at h; cases h
  | ok y j =>
   rw [hr] at h
   simp only [PR.unit, endP] at h ⊢
   split
   ·rename_i h5; rw [if_pos h5] at h; cases h; exact ⟨rfl, ts, j, rfl, hr⟩
   ·rename_i h5; rw [if_neg h5] at h; cases h
theorem exBox_moves (ob lo : Nat) (r : PR Ex) (W W' : World) (C : Nat -> Prop) (h : ExQ ob lo r W) (ht : Turned C W W') (hC : ∀ b, C b -> b < lo /\ b ≠ ob) : ExQ ob lo r W' := by
 cases r with
 | err => trivial
 | ok x j =>
  obtain ⟨p, c, h1, h2⟩ := h
  exact ⟨p, c, (ht.block ob (getElem?_lt h1) (fun hc => (hC _ hc).2 rfl)).trans h1, h2.move ht (fun b hb hc => by have := (hC b hc).1; omega) (fun _ hb _ => hb)⟩
theorem fmBox_moves (ob lo : Nat) (r : PR (List Fm)) (W W' : World) (C : Nat -> Prop) (h : FmQ ob lo r W) (ht : Turned C W W') (hC : ∀ b, C b -> b < lo /\ b ≠ ob) : FmQ ob lo r W' := by
 cases r with
 | err => trivial
 | ok x j =>
  obtain ⟨p, c, h1, h2⟩ := h
  exact ⟨p, c, (ht.block ob (getElem?_lt h1) (fun hc => (hC _ hc).2 rfl)).trans h1, h2.move ht (fun b hb hc => by have := (hC b hc).1; omega) (fun _ hb _ => hb)⟩
theorem run_expr_at (s : ByteArray) (ob : Nat) (w : World) (hv : Vars w.heap.size w) (a b c d e : Value) (hbox : w.heap[ob]? = some (.cells #[a, b, c, d, e] 31 (0, 0))) :
  Calls Tryz.prog 27 #[.string s, .func (Fn.func 30) #[] #[.pointer (some ⟨ob, 0, none⟩)]] w fun e w' => Turned (fun b => b = ob) w w' /\ match exprP s with
   | .bad a c => e = .returned (.agg #[.int .i64 a, .int .i64 c])
   | .ok x => e = .returned (.agg #[.int .i64 0, .int .i64 0]) /\ ExBox ob w.heap.size x w' := by
 refine (run_expr s ob w hv (getElem?_lt hbox) (fun ts => (readE ts).unit) (fun lo W => ∀ ts, tokensP s = .ok ts -> ExQ ob lo (readE ts) W) (fun ts h => ⟨(tokens_good h).1, (tokens_good h).2.1⟩) (fun lo W W' C h ht hC ts hts => exBox_moves ob lo _ W W' C (h ts hts) ht hC) ?_).mono ?_
 ·intro ts hts B g cap W h1 h2 hp hb
  obtain ⟨g1, g2, -⟩ := tokens_good hts
  refine (exprE_any (ts.length * 16 + 13) 0 _ W 0 (readE_some g1 g2) hp ob h1 h2 a b c d e (hb.trans hbox)).mono ?_
  rintro e w' ⟨ht, hr⟩
  refine ⟨ht, ?_⟩
  cases hrd : readE ts with
  | err j c => rw [hrd] at hr; exact hr
  | ok x j =>
   rw [hrd] at hr
   obtain ⟨q1, q2, q3⟩ := hr
   exact ⟨q1, q2, fun ts2 h2 => by rw [hts] at h2; cases h2; rw [hrd]; exact q3⟩
 ·rintro e w' ⟨rfl, ht, hq⟩
  refine ⟨ht, ?_⟩
  cases hE : exprP s with
  | bad a c => simp only; rw [runP_bad (rd := readE) hE]
  | ok x =>
   obtain ⟨h1, ts, j, h2, h3⟩ := runP_ok (rd := readE) hE
   simp only
   refine ⟨by rw [h1], ?_⟩
   obtain ⟨lo, hlo, hq2⟩ := hq ts j h2 (by simp only [h3]; rfl)
   have := hq2 ts h2
   rw [h3] at this
   obtain ⟨p, c, q1, q2⟩ := this
   exact ⟨p, c, q1, q2.move (Turned.refl (fun _ => False) _) (fun _ _ => id) (fun b hb _ => by omega)⟩
theorem run_forms_at (s : ByteArray) (ob : Nat) (w : World) (hv : Vars w.heap.size w) (hbox : w.heap[ob]? = some (.cells #[.slice none 0 0] 23 (0, 0))) :
  Calls Tryz.prog 27 #[.string s, .func (Fn.func 28) #[] #[.pointer (some ⟨ob, 0, none⟩)]] w fun e w' => Turned (fun b => b = ob) w w' /\ match formsP s with
   | .bad a c => e = .returned (.agg #[.int .i64 a, .int .i64 c])
   | .ok x => e = .returned (.agg #[.int .i64 0, .int .i64 0]) /\ FmBox ob w.heap.size x w' := by
 refine (run_forms s ob w hv (getElem?_lt hbox) (fun ts => (readF ts).unit) (fun lo W => ∀ ts, tokensP s = .ok ts -> FmQ ob lo (readF ts) W) (fun ts h => ⟨(tokens_good h).1, (tokens_good h).2.1⟩) (fun lo W W' C h ht hC ts hts => fmBox_moves ob lo _ W W' C (h ts hts) ht hC) ?_).mono ?_
 ·intro ts hts B g cap W h1 h2 hp hb
  obtain ⟨g1, g2, -⟩ := tokens_good hts
  refine (formsE_any (ts.length * 32 + 17) 0 _ W (readF_some g1 g2) hp ob h1 h2 (hb.trans hbox)).mono ?_
  rintro e w' ⟨ht, hr⟩
  refine ⟨ht, ?_⟩
  cases hrd : readF ts with
  | err j c => rw [hrd] at hr; exact hr
  | ok x j =>
   rw [hrd] at hr
   obtain ⟨q1, q2, q3⟩ := hr
   exact ⟨q1, q2, fun ts2 h2 => by rw [hts] at h2; cases h2; rw [hrd]; exact q3⟩
 ·rintro e w' ⟨rfl, ht, hq⟩
  refine ⟨ht, ?_⟩
  cases hE : formsP s with
  | bad a c => simp only; rw [runP_bad (rd := readF) hE]
  | ok x =>
   obtain ⟨h1, ts, j, h2, h3⟩ := runP_ok (rd := readF) hE
   simp only
   refine ⟨by rw [h1], ?_⟩
   obtain ⟨lo, hlo, hq2⟩ := hq ts j h2 (by simp only [h3]; rfl)
   have := hq2 ts h2
   rw [h3] at this
   obtain ⟨p, c, q1, q2⟩ := this
   exact ⟨p, c, q1, q2.move (Turned.refl (fun _ => False) _) (fun _ _ => id) (fun b hb _ => by omega)⟩
theorem drew_heap (w : World) : w.drew.heap = w.heap := rfl
theorem results_xp (tmps : Array Value) (w : World) (N M : Nat) (x y z u v a b : Value) (hN : tmps.getD 2 undef = .pointer (some ⟨N, 0, none⟩)) (hM : tmps.getD 3 undef = .pointer (some ⟨M, 0, none⟩)) (h1 : w.heap[N]? = some (.cells #[x, y, z, u, v] 31 (0, 0))) (h2 : w.heap[M]? = some (.cells #[a, b] 26 (0, 0))) :
  (results Tryz.f10 tmps).run Tryz.prog w = .ok (.tuple #[.agg #[x, y, z, u, v], .agg #[a, b]]) w := by
 have hN' : tmps[2]?.getD undef = .pointer (some ⟨N, 0, none⟩) := by simpa using hN
 have hM' : tmps[3]?.getD undef = .pointer (some ⟨M, 0, none⟩) := by simpa using hM
 simp [results, hN', hM', asAddr, run_loadVar_row w N 31 31 #[x, y, z, u, v] (0, 0) _ h1 Tryz.underlying31 rfl expr_size, run_loadVar_row w M 26 26 #[a, b] (0, 0) _ h2 Tryz.underlying26 rfl problem_size2]
def ExprR (s : ByteArray) (w : World) (e : Ending) (w' : World) : Prop :=
 Turned (fun _ => False) w w' /\ match exprP s with
  | .bad a c => e = .returned (.tuple #[.agg #[.int .i64 0, .int .i64 0, .string ⟨#[]⟩, .slice none 0 0, .int .i64 0], .agg #[.int .i64 a, .int .i64 c]])
  | .ok x => ∃ p c, e = .returned (.tuple #[.agg #[.int .i64 x.op, .int .i64 x.n, .string x.s, .slice p x.kids.length c, .int .i64 x.at_], .agg #[.int .i64 0, .int .i64 0]]) /\ KidsAt w' (fun b => w.heap.size <= b) x.kids (.slice p x.kids.length c)
theorem expr_any (s : ByteArray) (w : World) (hv : Vars w.heap.size w) : Calls Tryz.prog 10 #[.string s] w (ExprR s w) := by
 have hmf : ∀ (fn : Fn) (first cap : Array Value) (w : World), (Instr.makeFunc fn first cap).run Tryz.prog w = .ok (.func fn first cap) w := fun _ _ _ _ => rfl
 obtain ⟨W1, hW1⟩ : ∃ W1, W1 = w.alloc (.cells #[.int .i64 0, .int .i64 0, .string ⟨#[]⟩, .slice none 0 0, .int .i64 0] 31) := ⟨_, rfl⟩
 obtain ⟨W2, hW2⟩ : ∃ W2, W2 = W1.alloc (.cells #[.int .i64 0, .int .i64 0] 26) := ⟨_, rfl⟩
 obtain ⟨W3, hW3⟩ : ∃ W3, W3 = W2.alloc (.cells #[.int .i64 0, .int .i64 0, .string ⟨#[]⟩, .slice none 0 0, .int .i64 0] 31) := ⟨_, rfl⟩
 have s1 : W1.heap.size = w.heap.size + 1 := by rw [hW1]; simp
 have s2 : W2.heap.size = w.heap.size + 1 + 1 := by rw [hW2]; simp [s1]
 have t3 : Turned (fun _ => False) w W3 := by rw [hW3, hW2, hW1]; exact (((Turned.refl _ w).alloc _).alloc _).alloc _
 have b1 : W3.heap[w.heap.size]? = some (.cells #[.int .i64 0, .int .i64 0, .string ⟨#[]⟩, .slice none 0 0, .int .i64 0] 31 (0, 0)) := by
  rw [hW3, hao _ _ (by omega), hW2, hao _ _ (by omega), hW1]; exact heap_alloc_new _ _
 have b2 : W3.heap[w.heap.size + 1]? = some (.cells #[.int .i64 0, .int .i64 0] 26 (0, 0)) := by
  rw [hW3, hao _ _ (by omega), hW2, <- s1]; exact heap_alloc_new _ _
 have b3 : W3.heap[w.heap.size + 1 + 1]? = some (.cells #[.int .i64 0, .int .i64 0, .string ⟨#[]⟩, .slice none 0 0, .int .i64 0] 31 (0, 0)) := by
  rw [hW3, <- s2]; exact heap_alloc_new _ _
 have HR := run_expr_at s (w.heap.size + 1 + 1) W3 ((hv.turned t3 fun g hg => id).mono t3.size) _ _ _ _ _ b3
 have s33 : w.heap.size + 1 + 1 < W3.heap.size := getElem?_lt b3
 go_enter Tryz.func10, Tryz.ntmps10
 go_wp2_with fail
 rw [<- hW1, <- hW2, <- hW3]
 clear hW1 hW2 hW3 b3
 unfold ExprR
 cases hE : exprP s with
 | bad a c =>
  rw [hE] at HR
  have hc : (c != 0) = true := by simpa using exprP_err hE
  refine HR.mono ?_
  rintro e W4 ⟨ht, rfl⟩
  go_wp2_with fail
  obtain ⟨W5, hW5⟩ : ∃ W5, W5 = W4.alloc (.cells #[.int .i64 a, .int .i64 c] 26) := ⟨_, rfl⟩
  obtain ⟨D, hD⟩ : ∃ D, D = W4.heap.size := ⟨_, rfl⟩
  have t5 : Turned (fun _ => False) W4 W5 := by rw [hW5]; exact (Turned.refl _ _).alloc _
  have d5 : W5.heap[D]? = some (.cells #[.int .i64 a, .int .i64 c] 26 (0, 0)) := by rw [hW5, hD]; exact heap_alloc_new _ _
  rw [<- hW5, <- hD]
  have s3 := ht.size
  have l1 := getElem?_lt b1
  have l2 := getElem?_lt b2
  have e1 : W5.heap[w.heap.size]? = some (.cells #[.int .i64 0, .int .i64 0, .string ⟨#[]⟩, .slice none 0 0, .int .i64 0] 31 (0, 0)) := (t5.block _ (by omega) id).trans ((ht.block _ l1 (by omega)).trans b1)
  have e2 : W5.heap[w.heap.size + 1]? = some (.cells #[.int .i64 0, .int .i64 0] 26 (0, 0)) := (t5.block _ (by omega) id).trans ((ht.block _ l2 (by omega)).trans b2)
  have tA : Turned (fun b => w.heap.size <= b) w W5 := ((t3.mono fun _ h => h.elim).trans (ht.mono fun b hb => (by omega))).trans (t5.mono fun _ h => h.elim)
  obtain ⟨rb, hrb⟩ : ∃ rb, rb = w.heap.size := ⟨_, rfl⟩
  have hDl : rb + 1 < D := by omega
  rw [<- hrb] at e1 e2 tA ⊢
  have n1 : rb ≠ D := by omega
  have n2 : rb + 1 ≠ D := by omega
  have n3 : D ≠ rb := by omega
  have n4 : D ≠ rb + 1 := by omega
  obtain ⟨d0, d1, d2, d3⟩ := two_cells d5
  obtain ⟨r0, r1, r2, r3, r4⟩ := cellsFive e1
  have fr := free_of_box e1
  obtain ⟨q0, q1, q2, q3⟩ := two_cells e2
  have drew5 : True := trivial
  have T := Lib.hid tA
  have E1 := Lib.hid e1
  have E2 := Lib.hid e2
  have hrw := Lib.hid hrb
  clear hW5 hD ht t5 d5 s1 s2 b1 b2 t3 tA e1 e2 hrb s3 l1 l2 hv
  refine region_R (R := fun j V => j < 3 -> (fun V : World => V.cell? ⟨D, 0, none⟩ = some (.int .i64 a) /\ V.cell? ⟨D, 1, none⟩ = some (.int .i64 c)) V) (by kernel_rfl) ?_
  refine tk (n := 3) 0 (.agg #[.int .i64 0, .int .i64 0, .string ⟨#[]⟩, .slice none 0 0, .int .i64 0]) rfl (.inl ⟨by rfl, ?_⟩) ⟨d0, d1⟩ ?_
  ·rintro V ⟨v0, v1⟩
   go_simp
  simp only [zz0, zz1, Act.put, zz3, zz4, zz5]
  refine tk (n := 3) 1 (.agg #[.int .i64 a, .int .i64 c]) rfl (.inl ⟨by rfl, ?_⟩) ⟨d0, d1⟩ ?_
  ·rintro V ⟨v0, v1⟩
   go_simp
  simp only [zz0, zz1, zz2, Act.put, zz3, zz4, zz5]
  refine wpAnyR_all (rs := [2]) (by kernel_rfl) (by simp) (fun i2 hi2 => ?_)
  obtain rfl : i2 = 2 := by simpa using hi2
  clear hi2
  refine wpOp_plain rfl rfl ?_
  simp only [zz0, zz1, zz2]
  go_simp
  refine wpAnyR_all (rs := [3]) (by kernel_rfl) (by simp) (fun i2 hi2 => ?_)
  obtain rfl : i2 = 3 := by simpa using hi2
  clear hi2
  refine wpOp_plain rfl rfl ?_
  simp only [zz0, zz1, zz2]
  go_simp
  refine wpAnyR_done (by kernel_rfl) ?_ _
  go_wp2_with fail
  have t6 := five_turned W5 rb (.int .i64 0) (.int .i64 0) (.string ⟨#[]⟩) (.slice none 0 0) (.int .i64 0)
  have g6 := five_set (x := (.int .i64 0)) (y := (.int .i64 0)) (z := (.string ⟨#[]⟩)) (u := (.slice none 0 0)) (v := (.int .i64 0)) E1.out
  have t7 := two_turned'  (((((W5.setCell ⟨rb, 0, none⟩ (.int .i64 0)).setCell ⟨rb, 1, none⟩ (.int .i64 0)).setCell ⟨rb, 2, none⟩ (.string ⟨#[]⟩)).setCell ⟨rb, 3, none⟩ (.slice none 0 0)).setCell ⟨rb, 4, none⟩ (.int .i64 0)) (rb + 1) (.int .i64 a) (.int .i64 c)
  have g7 := two_set' (x := (.int .i64 a)) (y := (.int .i64 c)) ((t6.block _ (getElem?_lt E2.out) (by omega)).trans E2.out)
  have h7 := (t7.block rb (getElem?_lt g6) (by omega)).trans g6
  obtain ⟨Wz, hWz⟩ : ∃ Wz, Wz = (((((((W5.setCell ⟨rb, 0, none⟩ (.int .i64 0)).setCell ⟨rb, 1, none⟩ (.int .i64 0)).setCell ⟨rb, 2, none⟩ (.string ⟨#[]⟩)).setCell ⟨rb, 3, none⟩ (.slice none 0 0)).setCell ⟨rb, 4, none⟩ (.int .i64 0)).setCell ⟨rb + 1, 0, none⟩ (.int .i64 a)).setCell ⟨rb + 1, 1, none⟩ (.int .i64 c)).drew := ⟨_, rfl⟩
  have g8 : Wz.heap[rb + 1]? = some (.cells #[.int .i64 a, .int .i64 c] 26 (0, 0)) := by rw [hWz, drew_heap]; exact g7
  have h8 : Wz.heap[rb]? = some (.cells #[.int .i64 0, .int .i64 0, .string ⟨#[]⟩, .slice none 0 0, .int .i64 0] 31 (0, 0)) := by rw [hWz, drew_heap]; exact h7
  have t8 : Turned (fun b => w.heap.size <= b) w Wz := by rw [hWz, <- hrw.out]; exact ((T.out.trans (t6.mono fun b hb => (by omega))).trans (t7.mono fun b hb => (by omega))).drew
  rw [<- hWz]
  clear hWz t6 t7 g6 g7 h7
  refine bodyPost_ret (results_xp _ Wz rb (rb + 1) (.int .i64 0) (.int .i64 0) (.string ⟨#[]⟩) (.slice none 0 0) (.int .i64 0) (.int .i64 a) (.int .i64 c) rfl rfl h8 g8) rfl ?_
  exact ⟨turned_narrow t8 fun b hb hc => absurd hb (by omega), by rw [hE]⟩
 | ok x =>
  rw [hE] at HR
  refine HR.mono ?_
  rintro e W4 ⟨ht, rfl, p, c, hb, hk⟩
  go_wp2_with fail
  obtain ⟨W5, hW5⟩ : ∃ W5, W5 = W4.alloc (.cells #[.int .i64 0, .int .i64 0] 26) := ⟨_, rfl⟩
  obtain ⟨D, hD⟩ : ∃ D, D = W4.heap.size := ⟨_, rfl⟩
  have t5 : Turned (fun _ => False) W4 W5 := by rw [hW5]; exact (Turned.refl _ _).alloc _
  have d5 : W5.heap[D]? = some (.cells #[.int .i64 0, .int .i64 0] 26 (0, 0)) := by rw [hW5, hD]; exact heap_alloc_new _ _
  rw [<- hW5, <- hD]
  have s3 := ht.size
  have l1 := getElem?_lt b1
  have l2 := getElem?_lt b2
  have e1 : W5.heap[w.heap.size]? = some (.cells #[.int .i64 0, .int .i64 0, .string ⟨#[]⟩, .slice none 0 0, .int .i64 0] 31 (0, 0)) := (t5.block _ (by omega) id).trans ((ht.block _ l1 (by omega)).trans b1)
  have e2 : W5.heap[w.heap.size + 1]? = some (.cells #[.int .i64 0, .int .i64 0] 26 (0, 0)) := (t5.block _ (by omega) id).trans ((ht.block _ l2 (by omega)).trans b2)
  have tA : Turned (fun b => w.heap.size <= b) w W5 := ((t3.mono fun _ h => h.elim).trans (ht.mono fun b hb => (by omega))).trans (t5.mono fun _ h => h.elim)
  have e3 := (t5.block _ (getElem?_lt hb) id).trans hb
  have hk5 := hk.move t5 (fun _ _ => id) (M := fun b => w.heap.size + 1 + 1 < b) (fun b hb _ => by omega)
  obtain ⟨rb, hrb⟩ : ∃ rb, rb = w.heap.size := ⟨_, rfl⟩
  have hDl : rb + 1 < D := by omega
  rw [<- hrb] at e1 e2 tA ⊢
  rw [<- hrb] at e3 hk5
  obtain ⟨o0, o1, o2, o3, o4⟩ := cellsFive e3
  have HK := Lib.hid hk5
  have n1 : rb ≠ D := by omega
  have n2 : rb + 1 ≠ D := by omega
  have n3 : D ≠ rb := by omega
  have n4 : D ≠ rb + 1 := by omega
  obtain ⟨d0, d1, d2, d3⟩ := two_cells d5
  obtain ⟨r0, r1, r2, r3, r4⟩ := cellsFive e1
  have fr := free_of_box e1
  obtain ⟨q0, q1, q2, q3⟩ := two_cells e2
  have drew5 : True := trivial
  have T := Lib.hid tA
  have E1 := Lib.hid e1
  have E2 := Lib.hid e2
  have hrw := Lib.hid hrb
  clear hk5 hk hb e3 hW5 hD ht t5 d5 s1 s2 b1 b2 t3 tA e1 e2 hrb s3 l1 l2 hv
  refine region_R (R := fun j V => j < 3 -> (fun V : World => V.cell? ⟨(rb + 1 + 1), 0, none⟩ = some (.int .i64 x.op) /\ V.cell? ⟨(rb + 1 + 1), 1, none⟩ = some (.int .i64 x.n) /\ V.cell? ⟨(rb + 1 + 1), 2, none⟩ = some (.string x.s) /\ V.cell? ⟨(rb + 1 + 1), 3, none⟩ = some (.slice p x.kids.length c) /\ V.cell? ⟨(rb + 1 + 1), 4, none⟩ = some (.int .i64 x.at_) /\ V.cell? ⟨D, 0, none⟩ = some (.int .i64 0) /\ V.cell? ⟨D, 1, none⟩ = some (.int .i64 0)) V) (by kernel_rfl) ?_
  refine tk (n := 3) 0 (.agg #[.int .i64 x.op, .int .i64 x.n, .string x.s, .slice p x.kids.length c, .int .i64 x.at_]) rfl (.inl ⟨by rfl, ?_⟩) ⟨o0, o1, o2, o3, o4, d0, d1⟩ ?_
  ·rintro V ⟨v0, v1, v2, v3, v4, v5, v6⟩
   go_simp
  simp only [zz0, zz1, Act.put, zz3, zz4, zz5]
  refine tk (n := 3) 1 (.agg #[.int .i64 0, .int .i64 0]) rfl (.inl ⟨by rfl, ?_⟩) ⟨o0, o1, o2, o3, o4, d0, d1⟩ ?_
  ·rintro V ⟨v0, v1, v2, v3, v4, v5, v6⟩
   go_simp
  simp only [zz0, zz1, zz2, Act.put, zz3, zz4, zz5]
  refine wpAnyR_all (rs := [2]) (by kernel_rfl) (by simp) (fun i2 hi2 => ?_)
  obtain rfl : i2 = 2 := by simpa using hi2
  clear hi2
  refine wpOp_plain rfl rfl ?_
  simp only [zz0, zz1, zz2]
  go_simp
  refine wpAnyR_all (rs := [3]) (by kernel_rfl) (by simp) (fun i2 hi2 => ?_)
  obtain rfl : i2 = 3 := by simpa using hi2
  clear hi2
  refine wpOp_plain rfl rfl ?_
  simp only [zz0, zz1, zz2]
  go_simp
  refine wpAnyR_done (by kernel_rfl) ?_ _
  go_wp2_with fail
  have t6 := five_turned W5 rb (.int .i64 x.op) (.int .i64 x.n) (.string x.s) (.slice p x.kids.length c) (.int .i64 x.at_)
  have g6 := five_set (x := (.int .i64 x.op)) (y := (.int .i64 x.n)) (z := (.string x.s)) (u := (.slice p x.kids.length c)) (v := (.int .i64 x.at_)) E1.out
  have t7 := two_turned'  (((((W5.setCell ⟨rb, 0, none⟩ (.int .i64 x.op)).setCell ⟨rb, 1, none⟩ (.int .i64 x.n)).setCell ⟨rb, 2, none⟩ (.string x.s)).setCell ⟨rb, 3, none⟩ (.slice p x.kids.length c)).setCell ⟨rb, 4, none⟩ (.int .i64 x.at_)) (rb + 1) (.int .i64 0) (.int .i64 0)
  have g7 := two_set' (x := (.int .i64 0)) (y := (.int .i64 0)) ((t6.block _ (getElem?_lt E2.out) (by omega)).trans E2.out)
  have h7 := (t7.block rb (getElem?_lt g6) (by omega)).trans g6
  obtain ⟨Wz, hWz⟩ : ∃ Wz, Wz = (((((((W5.setCell ⟨rb, 0, none⟩ (.int .i64 x.op)).setCell ⟨rb, 1, none⟩ (.int .i64 x.n)).setCell ⟨rb, 2, none⟩ (.string x.s)).setCell ⟨rb, 3, none⟩ (.slice p x.kids.length c)).setCell ⟨rb, 4, none⟩ (.int .i64 x.at_)).setCell ⟨rb + 1, 0, none⟩ (.int .i64 0)).setCell ⟨rb + 1, 1, none⟩ (.int .i64 0)).drew := ⟨_, rfl⟩
  have g8 : Wz.heap[rb + 1]? = some (.cells #[.int .i64 0, .int .i64 0] 26 (0, 0)) := by rw [hWz, drew_heap]; exact g7
  have h8 : Wz.heap[rb]? = some (.cells #[.int .i64 x.op, .int .i64 x.n, .string x.s, .slice p x.kids.length c, .int .i64 x.at_] 31 (0, 0)) := by rw [hWz, drew_heap]; exact h7
  have t8 : Turned (fun b => w.heap.size <= b) w Wz := by rw [hWz, <- hrw.out]; exact ((T.out.trans (t6.mono fun b hb => (by omega))).trans (t7.mono fun b hb => (by omega))).drew
  have hk8 : KidsAt Wz (fun b => w.heap.size <= b) x.kids (.slice p x.kids.length c) := by
   rw [hWz]
   exact HK.out.move ((t6.mono (C' := fun b => b = rb \/ b = rb + 1) fun _ h => .inl h).trans (t7.mono fun _ h => .inr h)).drew (fun b hb hc => by omega) (fun b hb _ => by have := hrw.out; omega)
  rw [<- hWz]
  clear hWz t6 t7 g6 g7 h7
  refine bodyPost_ret (results_xp _ Wz rb (rb + 1) (.int .i64 x.op) (.int .i64 x.n) (.string x.s) (.slice p x.kids.length c) (.int .i64 x.at_) (.int .i64 0) (.int .i64 0) rfl rfl h8 g8) rfl ?_
  refine ⟨turned_narrow t8 fun b hb hc => absurd hb (by omega), ?_⟩
  rw [hE]
  exact ⟨p, c, rfl, hk8⟩
theorem results_fp (tmps : Array Value) (w : World) (M : Nat) (v a b : Value) (hN : tmps.getD 2 undef = v) (hM : tmps.getD 3 undef = .pointer (some ⟨M, 0, none⟩)) (h2 : w.heap[M]? = some (.cells #[a, b] 26 (0, 0))) :
  (results Tryz.f9 tmps).run Tryz.prog w = .ok (.tuple #[v, .agg #[a, b]]) w := by
 have hN' : tmps[2]?.getD undef = v := by simpa using hN
 have hM' : tmps[3]?.getD undef = .pointer (some ⟨M, 0, none⟩) := by simpa using hM
 simp [results, hN', hM', asAddr, run_loadVar_row w M 26 26 #[a, b] (0, 0) _ h2 Tryz.underlying26 rfl problem_size2]
def FormsR (s : ByteArray) (w : World) (e : Ending) (w' : World) : Prop :=
 Turned (fun _ => False) w w' /\ match formsP s with
  | .bad a c => e = .returned (.tuple #[.slice none 0 0, .agg #[.int .i64 a, .int .i64 c]])
  | .ok fs => ∃ p c, e = .returned (.tuple #[.slice p fs.length c, .agg #[.int .i64 0, .int .i64 0]]) /\ FormsAt w' (fun b => w.heap.size <= b) fs (.slice p fs.length c)
theorem forms_any (s : ByteArray) (w : World) (hv : Vars w.heap.size w) : Calls Tryz.prog 9 #[.string s] w (FormsR s w) := by
 have hmf : ∀ (fn : Fn) (first cap : Array Value) (w : World), (Instr.makeFunc fn first cap).run Tryz.prog w = .ok (.func fn first cap) w := fun _ _ _ _ => rfl
 obtain ⟨W1, hW1⟩ : ∃ W1, W1 = w.alloc (.cells #[.int .i64 0, .int .i64 0] 26) := ⟨_, rfl⟩
 obtain ⟨W2, hW2⟩ : ∃ W2, W2 = W1.alloc (.cells #[.slice none 0 0] 23) := ⟨_, rfl⟩
 have s1 : W1.heap.size = w.heap.size + 1 := by rw [hW1]; simp
 have t2 : Turned (fun _ => False) w W2 := by rw [hW2, hW1]; exact ((Turned.refl _ w).alloc _).alloc _
 have b1 : W2.heap[w.heap.size]? = some (.cells #[.int .i64 0, .int .i64 0] 26 (0, 0)) := by
  rw [hW2, hao _ _ (by omega), hW1]; exact heap_alloc_new _ _
 have b2 : W2.heap[w.heap.size + 1]? = some (.cells #[.slice none 0 0] 23 (0, 0)) := by
  rw [hW2, <- s1]; exact heap_alloc_new _ _
 have HR := run_forms_at s (w.heap.size + 1) W2 ((hv.turned t2 fun g hg => id).mono t2.size) b2
 have s33 : w.heap.size + 1 < W2.heap.size := getElem?_lt b2
 go_enter Tryz.func9, Tryz.ntmps9
 go_wp2_with fail
 rw [<- hW1, <- hW2]
 clear hW1 hW2 b2
 unfold FormsR
 cases hE : formsP s with
 | bad a c =>
  rw [hE] at HR
  have hc : (c != 0) = true := by simpa using formsP_err hE
  refine HR.mono ?_
  rintro e W4 ⟨ht, rfl⟩
  go_wp2_with fail
  obtain ⟨W5, hW5⟩ : ∃ W5, W5 = W4.alloc (.cells #[.int .i64 a, .int .i64 c] 26) := ⟨_, rfl⟩
  obtain ⟨D, hD⟩ : ∃ D, D = W4.heap.size := ⟨_, rfl⟩
  have t5 : Turned (fun _ => False) W4 W5 := by rw [hW5]; exact (Turned.refl _ _).alloc _
  have d5 : W5.heap[D]? = some (.cells #[.int .i64 a, .int .i64 c] 26 (0, 0)) := by rw [hW5, hD]; exact heap_alloc_new _ _
  rw [<- hW5, <- hD]
  have s3 := ht.size
  have l1 := getElem?_lt b1
  have e1 : W5.heap[w.heap.size]? = some (.cells #[.int .i64 0, .int .i64 0] 26 (0, 0)) := (t5.block _ (by omega) id).trans ((ht.block _ l1 (by omega)).trans b1)
  have tA : Turned (fun b => w.heap.size <= b) w W5 := ((t2.mono fun _ h => h.elim).trans (ht.mono fun b hb => (by omega))).trans (t5.mono fun _ h => h.elim)
  obtain ⟨rb, hrb⟩ : ∃ rb, rb = w.heap.size := ⟨_, rfl⟩
  have hDl : rb < D := by omega
  rw [<- hrb] at e1 tA ⊢
  have n1 : rb ≠ D := by omega
  have n3 : D ≠ rb := by omega
  obtain ⟨d0, d1, d2, d3⟩ := two_cells d5
  obtain ⟨q0, q1, q2, q3⟩ := two_cells e1
  have T := Lib.hid tA
  have E1 := Lib.hid e1
  have hrw := Lib.hid hrb
  clear hW5 hD ht t5 d5 s1 b1 t2 tA e1 hrb s3 l1 hv
  refine region_R (R := fun j V => j < 2 -> (fun V : World => V.cell? ⟨D, 0, none⟩ = some (.int .i64 a) /\ V.cell? ⟨D, 1, none⟩ = some (.int .i64 c)) V) (by kernel_rfl) ?_
  refine tk (n := 2) 0 (.agg #[.int .i64 a, .int .i64 c]) rfl (.inl ⟨by rfl, ?_⟩) ⟨d0, d1⟩ ?_
  ·rintro V ⟨v0, v1⟩
   go_simp
  simp only [zz0, zz1, Act.put, zz3, zz4, zz5]
  refine tk (n := 2) 1 (.slice none 0 0) rfl (.inl ⟨by rfl, ?_⟩) ⟨d0, d1⟩ ?_
  ·rintro V ⟨v0, v1⟩
   go_simp
  simp only [zz0, zz1, zz2, Act.put, zz3, zz4, zz5]
  refine wpAnyR_all (rs := [2]) (by kernel_rfl) (by simp) (fun i2 hi2 => ?_)
  obtain rfl : i2 = 2 := by simpa using hi2
  clear hi2
  refine wpOp_plain rfl rfl ?_
  simp only [zz0, zz1, zz2]
  go_simp
  refine wpAnyR_done (by kernel_rfl) ?_ _
  go_wp2_with fail
  have t7 := two_turned' W5 rb (.int .i64 a) (.int .i64 c)
  have g7 := two_set' (x := (.int .i64 a)) (y := (.int .i64 c)) E1.out
  obtain ⟨Wz, hWz⟩ : ∃ Wz, Wz = ((W5.setCell ⟨rb, 0, none⟩ (.int .i64 a)).setCell ⟨rb, 1, none⟩ (.int .i64 c)).drew := ⟨_, rfl⟩
  have g8 : Wz.heap[rb]? = some (.cells #[.int .i64 a, .int .i64 c] 26 (0, 0)) := by rw [hWz, drew_heap]; exact g7
  have t8 : Turned (fun b => w.heap.size <= b) w Wz := by rw [hWz, <- hrw.out]; exact (T.out.trans (t7.mono fun b hb => (by omega))).drew
  rw [<- hWz]
  clear hWz t7 g7
  refine bodyPost_ret (results_fp _ Wz rb (.slice none 0 0) (.int .i64 a) (.int .i64 c) rfl rfl g8) rfl ?_
  exact ⟨turned_narrow t8 fun b hb hc => absurd hb (by omega), by rw [hE]⟩
 | ok x =>
  rw [hE] at HR
  refine HR.mono ?_
  rintro e W4 ⟨ht, rfl, p, c, hb, hk⟩
  go_wp2_with fail
  obtain ⟨W5, hW5⟩ : ∃ W5, W5 = W4.alloc (.cells #[.int .i64 0, .int .i64 0] 26) := ⟨_, rfl⟩
  obtain ⟨D, hD⟩ : ∃ D, D = W4.heap.size := ⟨_, rfl⟩
  have t5 : Turned (fun _ => False) W4 W5 := by rw [hW5]; exact (Turned.refl _ _).alloc _
  have d5 : W5.heap[D]? = some (.cells #[.int .i64 0, .int .i64 0] 26 (0, 0)) := by rw [hW5, hD]; exact heap_alloc_new _ _
  rw [<- hW5, <- hD]
  have s3 := ht.size
  have l1 := getElem?_lt b1
  have e1 : W5.heap[w.heap.size]? = some (.cells #[.int .i64 0, .int .i64 0] 26 (0, 0)) := (t5.block _ (by omega) id).trans ((ht.block _ l1 (by omega)).trans b1)
  have tA : Turned (fun b => w.heap.size <= b) w W5 := ((t2.mono fun _ h => h.elim).trans (ht.mono fun b hb => (by omega))).trans (t5.mono fun _ h => h.elim)
  have e3 := (t5.block _ (getElem?_lt hb) id).trans hb
  have hk5 := hk.move t5 (fun _ _ => id) (M := fun b => w.heap.size + 1 < b) (fun b hb _ => by omega)
  obtain ⟨rb, hrb⟩ : ∃ rb, rb = w.heap.size := ⟨_, rfl⟩
  have hDl : rb < D := by omega
  rw [<- hrb] at e1 tA ⊢
  rw [<- hrb] at e3 hk5
  have o0 := cell_of_box e3
  have HK := Lib.hid hk5
  have n1 : rb ≠ D := by omega
  have n3 : D ≠ rb := by omega
  obtain ⟨d0, d1, d2, d3⟩ := two_cells d5
  obtain ⟨q0, q1, q2, q3⟩ := two_cells e1
  have T := Lib.hid tA
  have E1 := Lib.hid e1
  have hrw := Lib.hid hrb
  clear hk5 hk hb e3 hW5 hD ht t5 d5 s1 b1 t2 tA e1 hrb s3 l1 hv
  refine region_R (R := fun j V => j < 3 -> (fun V : World => V.cell? ⟨(rb + 1), 0, none⟩ = some (.slice p x.length c) /\ V.cell? ⟨D, 0, none⟩ = some (.int .i64 0) /\ V.cell? ⟨D, 1, none⟩ = some (.int .i64 0)) V) (by kernel_rfl) ?_
  refine tk (n := 3) 0 (.slice p x.length c) rfl (.inl ⟨by rfl, ?_⟩) ⟨o0, d0, d1⟩ ?_
  ·rintro V ⟨v0, v1, v2⟩
   go_simp
  simp only [zz0, zz1, Act.put, zz3, zz4, zz5]
  refine tk (n := 3) 1 (.agg #[.int .i64 0, .int .i64 0]) rfl (.inl ⟨by rfl, ?_⟩) ⟨o0, d0, d1⟩ ?_
  ·rintro V ⟨v0, v1, v2⟩
   go_simp
  simp only [zz0, zz1, zz2, Act.put, zz3, zz4, zz5]
  refine tk (n := 3) 2 (.slice p x.length c) rfl (.inl ⟨by rfl, ?_⟩) ⟨o0, d0, d1⟩ ?_
  ·rintro V ⟨v0, v1, v2⟩
   go_simp
  simp only [zz0, zz1, zz2, Act.put, zz3, zz4, zz5]
  refine wpAnyR_all (rs := [3]) (by kernel_rfl) (by simp) (fun i2 hi2 => ?_)
  obtain rfl : i2 = 3 := by simpa using hi2
  clear hi2
  refine wpOp_plain rfl rfl ?_
  simp only [zz0, zz1, zz2]
  go_simp
  refine wpAnyR_done (by kernel_rfl) ?_ _
  go_wp2_with fail
  have t7 := two_turned' W5 rb (.int .i64 0) (.int .i64 0)
  have g7 := two_set' (x := (.int .i64 0)) (y := (.int .i64 0)) E1.out
  obtain ⟨Wz, hWz⟩ : ∃ Wz, Wz = ((W5.setCell ⟨rb, 0, none⟩ (.int .i64 0)).setCell ⟨rb, 1, none⟩ (.int .i64 0)).drew := ⟨_, rfl⟩
  have g8 : Wz.heap[rb]? = some (.cells #[.int .i64 0, .int .i64 0] 26 (0, 0)) := by rw [hWz, drew_heap]; exact g7
  have t8 : Turned (fun b => w.heap.size <= b) w Wz := by rw [hWz, <- hrw.out]; exact (T.out.trans (t7.mono fun b hb => (by omega))).drew
  have hk8 : FormsAt Wz (fun b => w.heap.size <= b) x (.slice p x.length c) := by
   rw [hWz]
   exact HK.out.move t7.drew (fun b hb hc => by omega) (fun b hb _ => by have := hrw.out; omega)
  rw [<- hWz]
  clear hWz t7 g7
  refine bodyPost_ret (results_fp _ Wz rb (.slice p x.length c) (.int .i64 0) (.int .i64 0) rfl rfl g8) rfl ?_
  refine ⟨turned_narrow t8 fun b hb hc => absurd hb (by omega), ?_⟩
  rw [hE]
  exact ⟨p, c, rfl, hk8⟩
def PV (n : Nat) (W : World) : Prop := Vars n W /\ VarAt n W "internal/strconv.uint64pow10" (Lib.pow10Tab.map fun z => Value.int .u64 z).toArray
theorem PV.mono {n m : Nat} {W : World} (h : PV n W) (hm : n <= m) : PV m W := ⟨h.1.mono hm, h.2.1, fun g hg => Nat.lt_of_lt_of_le (h.2.2 g hg) hm⟩
theorem PV.turned {n : Nat} {C : Nat -> Prop} {W W' : World} (h : PV n W) (ht : Turned C W W') (hC : ∀ g, g < n -> ¬ C g) : PV n W' := ⟨h.1.turned ht hC, h.2.turned ht hC⟩
def FitT (ts : List Tok) : Prop := ∀ t ∈ ts, -9223372036854775808 <= t.n /\ t.n <= 9223372036854775807 /\ t.s.size <= 100000
theorem toks_of_owns {W : World} {base : Nat} {v : Value} {ts : List Tok} (h : W.ownsRow base 68 4 v ts.length (ts.flatMap tokV)) : (v = .slice none 0 0 /\ ts = []) \/ ∃ g cap, v = .slice (some ⟨g, 0, none⟩) ts.length cap /\ ToksAt W g 0 ts := by
 rcases owns_cell (enc := tokV) (fun _ => rfl) h with ⟨h1, h2⟩ | ⟨g, cap, h1, h2, h3, h4, h5, h6⟩
 ·exact .inl ⟨h1, h2⟩
 ·refine .inr ⟨g, cap, h1, h5, fun j t hj => ?_⟩
  obtain ⟨hlt, he⟩ := List.getElem?_eq_some_iff.1 hj
  have hc : ∀ k, k < 4 -> W.cell? ⟨g, 0 + j * 4 + k, none⟩ = (tokV t)[k]? := fun k hk => by rw [h6 j k hlt hk, he]
  exact ⟨hc 0 (by decide), hc 1 (by decide), hc 2 (by decide), hc 3 (by decide)⟩
theorem text_pr' {W : World} {base n : Nat} {v : Value} {ts : List Tok} (h : W.ownsRow base 68 4 v ts.length (ts.flatMap tokV)) (hv : PV n W) (hl : ts.length <= 100000) (hf : FitT ts) :
  Calls Tryz.prog 40 #[v] W fun e w' => e = .returned (.string (textQ ts)) /\ Turned (fun _ => False) W w' := by
 rcases toks_of_owns h with ⟨rfl, rfl⟩ | ⟨g, cap, rfl, hT⟩
 ·refine (text_zero none 0 W).mono ?_
  rintro e w' ⟨rfl, hb⟩
  exact ⟨rfl, hb.os, hb.tape, hb.output, hb.size, fun k hk _ => hb.block k hk⟩
 ·have h1 := textQ_len ts hf
  have h2 : (textQ ts).size = (Lib.join ((wordsQ ts).map (·.data.toList)) [32]).length := by simp [textQ, ByteArray.size]
  exact print_all g 0 cap ts W n hT hl hf hv.2 (by omega)
def okE {α : Type} : PE α -> Bool
 | .bad _ _ => false
 | .ok _ => true
def printed (bad : Bool) (t : ByteArray) (ok : Bool) : ByteArray × Int := if bad then (noB, 1) else if ok then (t, 0) else (noB, 2)
def printX (x : Ex) : ByteArray × Int := printed (showX x).2.2 (textQ (showX x).2.1) (okE (exprP (textQ (showX x).2.1)))
def printFs (l : List Fm) : ByteArray × Int := printed (showFs l).2 (textQ (showFs l).1) (okE (formsP (textQ (showFs l).1)))
theorem turned_of_prt {w W W' : World} {B : Nat} {ts : List Tok} {bad : Bool} (h : Turned (fun _ => False) w W) (ht : PrT B W W') (hp : PrS B ts bad W) (hB : w.heap.size <= B) : Turned (fun _ => False) w W' :=
 ⟨ht.os.trans h.os, ht.tape.trans h.tape, ht.output.trans h.output, Nat.le_trans h.size ht.size, fun k hk _ => ((ht.keep k (Nat.lt_of_lt_of_le hk h.size) (hp.data (by omega))).1).trans (h.block k hk id)⟩
theorem PrS.new {w : World} (B : Nat) (hB : B = w.heap.size) : PrS B [] false (w.alloc (.cells #[.slice none 0 0, .bool false] 90)) := by
 subst hB
 exact ⟨_, heap_alloc_new _ _, by simp, .inl ⟨rfl, rfl⟩⟩
theorem printExpr_any (x : Ex) (a : Value) (w : World) (hv : PV w.heap.size w) (hk : KidsAt w (fun b => b < w.heap.size) x.kids a) (hl : (showX x).2.1.length <= 100000) (hs : smallX x = true) (hf : FitT (showX x).2.1) :
  Calls Tryz.prog 21 #[exA x a] w fun e w' => e = .returned (.tuple #[.string (printX x).1, (.int .i64 ((printX x).2))]) /\ Turned (fun _ => False) w w' := by
 obtain ⟨W1, hW1⟩ : ∃ W1, W1 = w.alloc (.cells #[.int .i64 x.op, .int .i64 x.n, .string x.s, a, .int .i64 x.at_] 31) := ⟨_, rfl⟩
 obtain ⟨W2, hW2⟩ : ∃ W2, W2 = W1.alloc (.cells #[.slice none 0 0, .bool false] 90) := ⟨_, rfl⟩
 obtain ⟨eb, heb⟩ : ∃ eb, eb = w.heap.size := ⟨_, rfl⟩
 obtain ⟨B, hB⟩ : ∃ B, B = W1.heap.size := ⟨_, rfl⟩
 have t2 : Turned (fun _ => False) w W2 := by rw [hW2, hW1]; exact ((Turned.refl _ _).alloc _).alloc _
 have hBe : B = w.heap.size + 1 := by rw [hB, hW1]; simp
 have hp0 : PrS B [] false W2 := by rw [hW2]; exact PrS.new B hB
 have hbox : W2.heap[eb]? = some (.cells #[.int .i64 x.op, .int .i64 x.n, .string x.s, a, .int .i64 x.at_] 31 (0, 0)) := by
  rw [hW2, hao _ _ (by rw [heb, hW1]; simp), hW1, heb]; exact heap_alloc_new _ _
 have hk2 : KidsAt W2 (fun b => b < B) x.kids a := hk.move t2 (fun _ _ => id) (fun b hb _ => by omega)
 have HC := Lib.hid (expr_pr _ x (Nat.le_refl _) B [] false a W2 hp0 hk2 (by simpa using hl) hs)
 obtain ⟨pa, ca, rfl⟩ := hk.shape
 have HV := Lib.hid (hv.turned t2 fun _ _ => id)
 have hv0 := Lib.hid hv
 have HT := Lib.hid t2
 have HP0 := Lib.hid hp0
 have c : W2.cell? ⟨eb, 0, none⟩ = some (.int .i64 x.op) /\ W2.cell? ⟨eb, 1, none⟩ = some (.int .i64 x.n) /\ W2.cell? ⟨eb, 2, none⟩ = some (.string x.s) /\ W2.cell? ⟨eb, 3, none⟩ = some (.slice pa x.kids.length ca) /\ W2.cell? ⟨eb, 4, none⟩ = some (.int .i64 x.at_) := by simp [World.cell?, hbox]
 obtain ⟨c0, c1, c2, c3, c4⟩ := c
 have HBE := Lib.hid hBe
 have HF := Lib.hid hf
 clear hk hk2 hv t2 hp0 hbox hBe hs hf
 unfold exA at HC ⊢
 simp only [List.nil_append, Bool.false_or] at HC
 have hW2' := Lib.hid hW2
 have hW1' := Lib.hid hW1
 have heb' := Lib.hid heb
 have hB' := Lib.hid hB
 clear hW1 hW2 heb hB
 go_enter Tryz.func21, Tryz.ntmps21
 go_upto_region 2 with fail
 rw [<- hW1'.out, <- heb'.out, <- hW2'.out]
 have hbe : eb + 1 = B := by rw [heb'.out]; exact HBE.out.symm
 rw [hbe]
 clear hbe
 go_upto_region 3 with (go_at_call 41; refine HC.out.mono ?_; rintro e w3 ⟨rfl, hp, ht⟩; have HP3 := Lib.hid hp; have HT3 := Lib.hid (turned_of_prt HT.out ht HP0.out (by have := HBE.out; omega)); clear hp ht)
 obtain ⟨v, h0, hown⟩ := HP3.out
 obtain ⟨k0, k1⟩ := pr_cells h0
 obtain ⟨va, vc, rfl⟩ := owns_shape hown
 have HO := Lib.hid hown
 have HV3 : Hid (PV w3.heap.size w3) := Lib.hid ((hv0.out.turned HT3.out fun _ _ => id).mono HT3.out.size)
 clear c0 c1 c2 c3 c4 HC h0 hown HV hv0
 have HPX : Hid (printX x = printed (showX x).2.2 (textQ (showX x).2.1) (okE (exprP (textQ (showX x).2.1)))) := Lib.hid rfl
 generalize (showX x).2.2 = bd at *
 generalize (showX x).2.1 = tk at *
 cases bd with
 | true =>
  have HR : Hid (printX x = (noB, 1)) := Lib.hid HPX.out
  clear HO HV3 HPX
  go_wp2_with fail
  go_ret2
  rw [HR.out]
  exact ⟨rfl, HT3.out⟩
 | false =>
  have HTX := Lib.hid (text_pr' HO.out HV3.out hl HF.out)
  go_upto_region 6 with (go_at_call 40; refine HTX.out.mono ?_; rintro e w4 ⟨rfl, ht⟩; have HT4 := Lib.hid (HT3.out.trans ht); have HV4 := Lib.hid ((HV3.out.turned ht fun _ _ => id).mono ht.size); clear ht)
  have HEX := Lib.hid (expr_any (textQ tk) w4 HV4.out.1)
  clear k0 k1 HO HV3 HTX
  cases hE : exprP (textQ tk) with
  | bad a c =>
   have hc : (c != 0) = true := by simpa using exprP_err hE
   have HR : Hid (printX x = (noB, 2)) := Lib.hid (by rw [HPX.out, hE]; rfl)
   have HEB : Hid (Calls Tryz.prog 10 #[.string (textQ tk)] w4 fun e w' => Turned (fun _ => False) w4 w' /\ e = .returned (.tuple #[.agg #[.int .i64 0, .int .i64 0, .string ⟨#[]⟩, .slice none 0 0, .int .i64 0], .agg #[.int .i64 a, .int .i64 c]])) := Lib.hid (HEX.out.mono fun e w' h => by unfold ExprR at h; rw [hE] at h; exact h)
   clear HEX HPX hE
   go_wp2_with (go_at_call 10; refine HEB.out.mono ?_; rintro e w5 ⟨ht, rfl⟩; have HT5 := Lib.hid (HT4.out.trans ht); clear ht)
   go_ret2
   rw [HR.out]
   exact ⟨rfl, (HT5.out.alloc _).alloc _⟩
  | ok y =>
   have HR : Hid (printX x = (textQ tk, 0)) := Lib.hid (by rw [HPX.out, hE]; rfl)
   have HEB : Hid (Calls Tryz.prog 10 #[.string (textQ tk)] w4 fun e w' => Turned (fun _ => False) w4 w' /\ ∃ p c, e = .returned (.tuple #[.agg #[.int .i64 y.op, .int .i64 y.n, .string y.s, .slice p y.kids.length c, .int .i64 y.at_], .agg #[.int .i64 0, .int .i64 0]])) := Lib.hid (HEX.out.mono fun e w' h => by
    unfold ExprR at h; rw [hE] at h
    obtain ⟨h1, p, c, h2, -⟩ := h
    exact ⟨h1, p, c, h2⟩)
   clear HEX HPX hE
   go_wp2_with (go_at_call 10; refine HEB.out.mono ?_; rintro e w5 ⟨ht, py, cy, rfl⟩; have HT5 := Lib.hid (HT4.out.trans ht); clear ht)
   go_ret2
   rw [HR.out]
   exact ⟨rfl, (HT5.out.alloc _).alloc _⟩
theorem showFs_zero (l : List Fm) : showFs (l.take 0) = ([], false) := by rw [List.take_zero, showFs]
theorem print_any' (l : List Fm) (a : Value) (w : World) (hv : PV w.heap.size w) (hk : FormsAt w (fun b => b < w.heap.size) l a) (hl : (showFs l).1.length <= 100000) (hs : smallFs l = true) (hf : FitT (showFs l).1) :
  Calls Tryz.prog 20 #[a] w fun e w' => e = .returned (.tuple #[.string (printFs l).1, (.int .i64 ((printFs l).2))]) /\ Turned (fun _ => False) w w' := by
 obtain ⟨W2, hW2⟩ : ∃ W2, W2 = w.alloc (.cells #[.slice none 0 0, .bool false] 90) := ⟨_, rfl⟩
 obtain ⟨B, hB⟩ : ∃ B, B = w.heap.size := ⟨_, rfl⟩
 have t2 : Turned (fun _ => False) w W2 := by rw [hW2]; exact (Turned.refl _ _).alloc _
 have hp0 : PrS B [] false W2 := by rw [hW2]; exact PrS.new B hB
 have HK := Lib.hid (hk.move t2 (fun _ _ => id) (M := fun b => b < B) (fun b hb _ => by omega))
 have hlen := hk.len
 unfold maxLen at hlen
 obtain ⟨pa, ca, rfl⟩ := hk.shape
 have hv0 := Lib.hid hv
 have HT := Lib.hid t2
 have HP0 := Lib.hid hp0
 have HF := Lib.hid hf
 have HSB := Lib.hid hs
 clear hk hv t2 hp0 hs hf
 have hW2' := Lib.hid hW2
 have hB' := Lib.hid hB
 clear hW2 hB
 go_enter Tryz.func20, Tryz.ntmps20
 go_upto_region 2 with fail
 rw [<- hW2'.out, <- hB'.out]
 go_wp2_with fail
 go_loopw [14] (fun u wr => ∃ i : Nat, i <= l.length /\ u = (.int .i64 i) /\ Hid (PrS B (showFs (l.take i)).1 (showFs (l.take i)).2 wr /\ PrT B W2 wr)) (fun u _ => l.length - (intOf u).toNat)
 case atStart => exact ⟨0, by omega, rfl, Lib.hid ⟨by rw [showFs_zero]; exact HP0.out, PrT.refl _ _⟩⟩
 case round =>
  obtain ⟨j, hj, rfl, HJ⟩ := hrel
  by_cases hlj : j < l.length
  ·obtain ⟨y, hy⟩ := some_of_lt hlj
   have hym := List.mem_of_getElem? hy
   have hsy := smallFs_mem HSB.out hym
   have hkw := HK.out.move HJ.out.2.turned (M := fun b => b < B) (fun b hb hn => hn (HP0.out.data hb)) (fun _ hb _ => hb)
   obtain ⟨bx, ax, ky, my, he1, ⟨x0, x1, x2, x3⟩, HKA, HKB⟩ := formsAt_get hkw hy
   subst he1
   obtain ⟨pk, ck, rfl⟩ := HKA.shape
   obtain ⟨qk, dk, rfl⟩ := HKB.shape
   have HP := Lib.hid (showFs_succ hy)
   have hle := showFs_le l (j + 1)
   rw [HP.out] at hle
   simp only [Pr.app, List.length_append] at hle
   have lx := cell_lt x0
   have ht4 : Turned (fun _ => False) wr (wr.alloc (.cells #[.string y.word, .slice pk y.args.length ck, .slice qk y.body.length dk, .int .i64 y.at_] 45)) := (Turned.refl (fun _ => False) wr).alloc _
   obtain ⟨hp4, htr4⟩ := HJ.out.1.same ht4
   have HC5 := Lib.hid (form_pr _ y (Nat.le_refl _) B _ _ _ _ _ hp4 (HKA.move ht4 (fun _ _ => id) (fun _ hb _ => hb)) (HKB.move ht4 (fun _ _ => id) (fun _ hb _ => hb)) (by omega) hsy)
   have HTR := Lib.hid (HJ.out.2.trans htr4)
   unfold fmA at HC5
   clear hy hym HKA HKB HJ hle ht4 hp4 htr4 hkw
   go_wp2_with (go_at_call 39; refine HC5.out.mono ?_; rintro e w5 ⟨rfl, hp, ht⟩; have HS5 := Lib.hid (And.intro hp (HTR.out.trans ht)); clear hp ht)
   go_roundw
   case rel => exact ⟨j + 1, by omega, by go_num, by rw [HP.out]; exact HS5⟩
   case measure => simp [intOf]; omega
  ·obtain rfl : j = l.length := by omega
   rw [List.take_length] at HJ
   have HT3 := Lib.hid (turned_of_prt HT.out HJ.out.2 HP0.out (by rw [hB'.out]; exact Nat.le_refl _))
   obtain ⟨v, h0, hown⟩ := HJ.out.1
   obtain ⟨k0, k1⟩ := pr_cells h0
   obtain ⟨va, vc, rfl⟩ := owns_shape hown
   have HO := Lib.hid hown
   have HV3 : Hid (PV wr.heap.size wr) := Lib.hid ((hv0.out.turned HT3.out fun _ _ => id).mono HT3.out.size)
   have HPX : Hid (printFs l = printed (showFs l).2 (textQ (showFs l).1) (okE (formsP (textQ (showFs l).1)))) := Lib.hid rfl
   clear HJ h0 hown hv0 HK HSB
   generalize (showFs l).2 = bd at *
   generalize (showFs l).1 = tk at *
   cases bd with
   | true =>
    have HR : Hid (printFs l = (noB, 1)) := Lib.hid HPX.out
    clear HO HV3 HPX
    go_wp2_with fail
    go_ret2
    rw [HR.out]
    exact ⟨rfl, HT3.out⟩
   | false =>
    have HTX := Lib.hid (text_pr' HO.out HV3.out hl HF.out)
    go_upto_region 10 with (go_at_call 40; refine HTX.out.mono ?_; rintro e w4 ⟨rfl, ht⟩; have HT4 := Lib.hid (HT3.out.trans ht); have HV4 := Lib.hid ((HV3.out.turned ht fun _ _ => id).mono ht.size); clear ht)
    have HEX := Lib.hid (forms_any (textQ tk) w4 HV4.out.1)
    clear k0 k1 HO HV3 HTX
    cases hE : formsP (textQ tk) with
    | bad a c =>
     have hc : (c != 0) = true := by simpa using formsP_err hE
     have HR : Hid (printFs l = (noB, 2)) := Lib.hid (by rw [HPX.out, hE]; rfl)
     have HEB : Hid (Calls Tryz.prog 9 #[.string (textQ tk)] w4 fun e w' => Turned (fun _ => False) w4 w' /\ e = .returned (.tuple #[.slice none 0 0, .agg #[.int .i64 a, .int .i64 c]])) := Lib.hid (HEX.out.mono fun e w' h => by unfold FormsR at h; rw [hE] at h; exact h)
     clear HEX HPX hE
     go_wp2_with (go_at_call 9; refine HEB.out.mono ?_; rintro e w5 ⟨ht, rfl⟩; have HT5 := Lib.hid (HT4.out.trans ht); clear ht)
     go_ret2
     rw [HR.out]
     exact ⟨rfl, HT5.out.alloc _⟩
    | ok y =>
     have HR : Hid (printFs l = (textQ tk, 0)) := Lib.hid (by rw [HPX.out, hE]; rfl)
     have HEB : Hid (Calls Tryz.prog 9 #[.string (textQ tk)] w4 fun e w' => Turned (fun _ => False) w4 w' /\ ∃ p c, e = .returned (.tuple #[.slice p y.length c, .agg #[.int .i64 0, .int .i64 0]])) := Lib.hid (HEX.out.mono fun e w' h => by
      unfold FormsR at h; rw [hE] at h
      obtain ⟨h1, p, c, h2, -⟩ := h
      exact ⟨h1, p, c, h2⟩)
     clear HEX HPX hE
     go_wp2_with (go_at_call 9; refine HEB.out.mono ?_; rintro e w5 ⟨ht, py, cy, rfl⟩; have HT5 := Lib.hid (HT4.out.trans ht); clear ht)
     go_ret2
     rw [HR.out]
     exact ⟨rfl, HT5.out.alloc _⟩
def psrcA : ByteArray := ⟨#[108, 105, 102, 116, 32, 108, 49, 32, 45, 53, 32, 34, 97, 34, 32, 45, 62, 32, 40, 120, 32, 43, 32, 49, 41, 32, 123, 32, 100, 111, 103, 59, 32, 125]⟩
def psrcB : ByteArray := ⟨#[97, 32, 45, 32, 98, 32, 45, 32, 99, 32, 42, 32, 45, 100]⟩
def psrcC : ByteArray := ⟨#[33, 97, 32, 61, 61, 32, 98, 32, 63, 32, 102, 40, 49, 44, 32, 50, 41, 32, 58, 32, 40, 97, 32, 60, 32, 98, 41, 32, 61, 61, 32, 99]⟩
def psrcD : ByteArray := ⟨#[97, 32, 60, 32, 98, 32, 60, 32, 99]⟩
def psrcE : ByteArray := ⟨#[97, 32, 98]⟩
def psrcF : ByteArray := ⟨#[120, 32, 40]⟩
def psrcG : ByteArray := ⟨#[120, 32, 45, 32, 121, 59]⟩
def psrcP : ByteArray := ⟨#[33, 32, 97, 32, 61, 61, 32, 98, 32, 63, 32, 102, 32, 40, 32, 49, 32, 44, 32, 50, 32, 41, 32, 58, 32, 40, 32, 97, 32, 60, 32, 98, 32, 41, 32, 61, 61, 32, 99]⟩
def pexB : Ex := match exprP psrcB with | .ok x => x | .bad _ _ => noEx
def pexC : Ex := match exprP psrcC with | .ok x => x | .bad _ _ => noEx
def pfsA : List Fm := match formsP psrcA with | .ok x => x | .bad _ _ => []
theorem preadA : formsP psrcA = .ok pfsA := by kernel_rfl
theorem preadB : exprP psrcB = .ok pexB := by kernel_rfl
theorem preadC : exprP psrcC = .ok pexC := by kernel_rfl
theorem preadD : exprP psrcD = .bad 6 5 := by kernel_rfl
theorem preadE : exprP psrcE = .bad 2 5 := by kernel_rfl
theorem preadF : exprP psrcF = .bad 3 5 := by kernel_rfl
theorem preadG : formsP psrcG = .bad 4 5 := by kernel_rfl
theorem pprintC : printX pexC = (psrcP, 0) := by kernel_rfl
def pnm (s : ByteArray) : Ex := .mk 3 0 s [] 0
def pa : Ex := pnm ⟨#[97]⟩
def pb : Ex := pnm ⟨#[98]⟩
def pc : Ex := pnm ⟨#[99]⟩
def ptwo (op : Int) (x y : Ex) : Ex := .mk op 0 noB [x, y] 0
def pminus : Ex := .mk 6 0 noB [pnm ⟨#[100]⟩] 0
def pnot : Ex := .mk 5 0 noB [ptwo 12 pa pb] 0
def pcall : Ex := .mk 4 0 ⟨#[102]⟩ [.mk 1 1 noB [] 0, .mk 1 2 noB [] 0] 0
theorem psameB : sameX false pexB (ptwo 11 (ptwo 11 pa pb) (ptwo 7 pc pminus)) = true := by kernel_rfl
theorem psameC : sameX false pexC (.mk 20 0 noB [pnot, pcall, ptwo 12 (ptwo 14 pa pb) pc] 0) = true := by kernel_rfl
theorem psameAB : sameX false pa pb = false := by kernel_rfl
def fitB (ts : List Tok) : Bool := ts.all fun t => decide (-9223372036854775808 <= t.n) && decide (t.n <= 9223372036854775807) && decide (t.s.size <= 100000)
theorem fit_of {ts : List Tok} (h : fitB ts = true) : FitT ts := fun t ht => by
 have := List.all_eq_true.1 h t ht
 simp only [Bool.and_eq_true, decide_eq_true_eq] at this
 exact ⟨this.1.1, this.1.2, this.2⟩
theorem pfitC : fitB (showX pexC).2.1 = true := by kernel_rfl
theorem psmallC : smallX pexC = true := by kernel_rfl
theorem plenC : (showX pexC).2.1.length = 19 := by kernel_rfl
def pfA : Fm := pfsA.headD (.mk noB [] [] 0)
def pargB : Ar := pfA.args.getD 1 ⟨0, 0, noB, noEx, 0⟩
def pargD : Ar := pfA.args.getD 3 ⟨0, 0, noB, noEx, 0⟩
def pargE : Ar := pfA.args.getD 4 ⟨0, 0, noB, noEx, 0⟩
theorem pfsA_len : pfsA.length = 1 := by kernel_rfl
theorem pfsA_at : pfsA[0]? = some pfA := by kernel_rfl
theorem pfA_word : pfA.word = ⟨#[108, 105, 102, 116]⟩ := by kernel_rfl
theorem pfA_args : pfA.args.length = 5 := by kernel_rfl
theorem pfA_body : pfA.body.length = 1 := by kernel_rfl
theorem pfA_b : pfA.args[1]? = some pargB := by kernel_rfl
theorem pfA_d : pfA.args[3]? = some pargD := by kernel_rfl
theorem pfA_e : pfA.args[4]? = some pargE := by kernel_rfl
theorem pargB_n : pargB.n = -5 := by kernel_rfl
theorem pargD_k : pargD.kind = 4 := by kernel_rfl
theorem pargE_o : pargE.e.op = 10 := by kernel_rfl
end Go.Proofs.YtjijdgkccfeeaaaGreatDoor
