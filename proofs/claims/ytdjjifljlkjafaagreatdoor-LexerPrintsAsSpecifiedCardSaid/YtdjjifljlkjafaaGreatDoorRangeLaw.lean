/- A law for a range over a function whose iterator yields a known list and may write cells of its own. Conditions: those of 'range_law'. -/
import Derived.RangeFuncNested
import Derived.RangeFuncBound
import Derived.RangeFuncCalls
import Derived.RangeFuncLeaves
import Derived.WalkKit
import Derived.OwnWalkIn
import Derived.TacticsInMore
import Derived.LoopNIn
import Derived.LoopIn
namespace Go.Proofs.YtdjjifljlkjafaaGreatDoor
open Go Go.Proofs Go.RowKit

/-- A guarded operation that is passed over. -/
theorem wide_skip {F : Fence} {n : Nat} {P : Program} {ops : Array Oper} {Q : Exit → Act → World → Prop} {o : Oper} {rest : List Oper} {a : Act} {w : World} (hF : ∀ f, F.fn f) (hw : Region.wanted o (yielded ops a.tmps) = false) (h : wpListIn F n P ops Q rest (a.put o.dst undef) w) : wpListIn F n P ops Q (o :: rest) a w := by
  simp only [wpListIn, hw]
  exact ⟨fun f _ => hF f, h⟩

/-- Outside the blocks of C nothing that lay has turned. -/
structure Turned (C : Nat → Prop) (A B : World) : Prop where
  os : B.os = A.os
  tape : B.tape = A.tape
  output : B.output = A.output
  size : A.heap.size ≤ B.heap.size
  block : ∀ k, k < A.heap.size → ¬ C k → B.heap[k]? = A.heap[k]?

theorem Turned.refl (C : Nat → Prop) (A : World) : Turned C A A := ⟨rfl, rfl, rfl, Nat.le_refl _, fun _ _ _ => rfl⟩
theorem Turned.trans {C : Nat → Prop} {a b c : World} (h : Turned C a b) (k : Turned C b c) : Turned C a c :=
  ⟨k.os.trans h.os, k.tape.trans h.tape, k.output.trans h.output, Nat.le_trans h.size k.size, fun i hi hc => (k.block i (Nat.lt_of_lt_of_le hi h.size) hc).trans (h.block i hi hc)⟩
theorem Turned.mono {C C' : Nat → Prop} {a b : World} (h : Turned C a b) (hc : ∀ k, C k → C' k) : Turned C' a b := ⟨h.os, h.tape, h.output, h.size, fun i hi hn => h.block i hi (fun x => hn (hc i x))⟩
theorem Turned.alloc {C : Nat → Prop} {a w : World} (h : Turned C a w) (o : Obj) : Turned C a (w.alloc o) :=
  h.trans ⟨rfl, rfl, rfl, by simp, fun k hk _ => Below.heap_alloc _ _ _ hk⟩
theorem Turned.setCell {C : Nat → Prop} {a w : World} (h : Turned C a w) {p : Addr} (hp : C p.block) (u : Value) : Turned C a (w.setCell p u) :=
  h.trans ⟨rfl, rfl, rfl, by simp [World.setCell], fun k _ hn => Below.heap_setCell _ _ _ _ (fun e => hn (e ▸ hp))⟩
theorem Turned.drew {C : Nat → Prop} {a w : World} (h : Turned C a w) : Turned C a w.drew := ⟨h.os, h.tape, h.output, h.size, h.block⟩
theorem Turned.putObj {C : Nat → Prop} {a w : World} (h : Turned C a w) {r : Nat} (hr : C r) (o : Obj) : Turned C a (w.putObj r o) :=
  h.trans ⟨rfl, rfl, rfl, by simp, fun k _ hn => World.putObj_heap_other (fun e => hn (e ▸ hr))⟩
theorem Turned.of_below {B : Nat} {a b : World} (h : Below B a b) : Turned (fun k => B ≤ k) a b := ⟨h.os, h.tape, h.output, h.size, fun k _ hn => h.block k (by omega)⟩
theorem Turned.below {C : Nat → Prop} {a b : World} (h : Turned C a b) {B : Nat} (hB : B ≤ a.heap.size) (hc : ∀ k, C k → B ≤ k) : Below B a b := ⟨h.os, h.tape, h.output, h.size, fun k hk => h.block k (by omega) (fun x => by have := hc k x; omega)⟩
theorem Turned.of_new {C : Nat → Prop} {a b : World} (h : Below a.heap.size a b) : Turned C a b := ⟨h.os, h.tape, h.output, h.size, fun k hk _ => h.block k hk⟩
theorem Turned.cell {C : Nat → Prop} {a b : World} (h : Turned C a b) {p : Addr} (hp : p.block < a.heap.size) (hn : ¬ C p.block) : b.cell? p = a.cell? p := World.cell?_of_block (w := a) (h.block p.block hp hn)
theorem Turned.of_grown {C : Nat → Prop} {a b : World} {row : Option Nat} (h : a.grownBy b row) (hr : ∀ k, row = some k → C k) : Turned C a b :=
  ⟨h.os, h.tape, h.output, h.size, fun k hk hn => h.block k hk (fun e => hn (hr k e.symm))⟩

/-- The blocks of T lie as they lay. -/
structure Kept (T : Nat → Prop) (A B : World) : Prop where
  size : A.heap.size ≤ B.heap.size
  block : ∀ k, T k → B.heap[k]? = A.heap[k]?
theorem Kept.refl (T : Nat → Prop) (A : World) : Kept T A A := ⟨Nat.le_refl _, fun _ _ => rfl⟩
theorem Kept.trans {T : Nat → Prop} {a b c : World} (h : Kept T a b) (k : Kept T b c) : Kept T a c := ⟨Nat.le_trans h.size k.size, fun i hi => (k.block i hi).trans (h.block i hi)⟩
theorem Turned.kept {C T : Nat → Prop} {a b : World} (h : Turned C a b) (ht : ∀ k, T k → k < a.heap.size ∧ ¬ C k) : Kept T a b := ⟨h.size, fun k hk => h.block k (ht k hk).1 (ht k hk).2⟩

/-- THE CONTRACT OF AN ITERATOR: it yields the list xs, element by element, till a round says no; it turns no block but those of C, and new ones; it asks of a round that the blocks of S and of C lie as they lay, and those that the iterator has made since ('J k N': the caller's own blocks lie below N). -/
def Iter (P : Program) (gf : Nat) (lb : Array Value) {α : Type} (encs : α → Array Value) (xs : List α) (C S : Nat → Prop) (w : World) : Prop :=
  ∀ (l : Nat) (J : Nat → Nat → World → Prop) (Jx : World → Prop) (W : World), w.heap.size ≤ W.heap.size → (∀ k, S k ∨ C k → W.heap[k]? = w.heap[k]?) →
    (∀ k N N' A, J k N A → N ≤ N' → J k N' A) → (∀ k N A B, J k N A → N ≤ A.heap.size → Turned C A B → J k N B) → (∀ A B, Jx A → Turned C A B → Jx B) →
    (∀ k N x W1, J k N W1 → N ≤ W1.heap.size → xs[k]? = some x → YieldAt Fence.wide 0 P l (encs x) W1 fun e W' =>
      (e = .returned (.bool true) ∧ J (k + 1) W'.heap.size W' ∧ Kept (fun k => (S k ∨ C k) ∨ (N ≤ k ∧ k < W1.heap.size)) W1 W') ∨ (e = .returned (.bool false) ∧ Jx W')) →
    J 0 W.heap.size W →
    CallsIn Fence.wide 0 P gf (#[.func (.yield l) #[] #[]] ++ lb) W fun e W' => (∃ v, e = .returned v) ∧ (J xs.length W'.heap.size W' ∨ Jx W')

/-- How the body of a round may be left. -/
def bodyLeft (T : Nat → Prop) (I : World → Prop) (Ix : Code → World → Prop) (W : World) : Exit → Act → World → Prop
  | .normal, _, W' => Kept T W W' ∧ I W'
  | .ret, _, W' => Kept T W W' ∧ Ix .ret W'
  | .exit id, _, W' => Kept T W W' ∧ Ix (.exit id) W'
  | .goto t, _, W' => Kept T W W' ∧ Ix (.goto t) W'
  | .panic _, _, _ => False
  | .outgrown, _, _ => False

theorem range_law {P : Program} {g : Operand} {ps : Array Tmp} {assign body : Code} {Q : Exit → Act → World → Prop} {a : Act} {w : World}
    {gf : Nat} {lb : Array Value} (hg : a.eval g = .func (.func gf) #[] lb) (eg : ∀ args w, (callFunc gf args).run P w = .ok (.enter gf args) w)
    {α : Type} {encs : α → Array Value} {xs : List α} {C S : Nat → Prop} (hit : Iter P gf lb encs xs C S w) (hps : ∀ x, (encs x).size = ps.size)
    (hSC : ∀ k, S k ∨ C k → k < w.heap.size)
    (I : Nat → Nat → World → Prop) (Ix : Code → World → Prop)
    (monoN : ∀ k N N' A, I k N A → N ≤ N' → I k N' A)
    (stab : ∀ k N A B, I k N A → N ≤ A.heap.size → Turned (fun r => C r ∨ r = w.heap.size ∨ r = w.heap.size + 1) A B → I k N B)
    (stabx : ∀ c A B, Ix c A → Turned (fun r => C r ∨ r = w.heap.size ∨ r = w.heap.size + 1) A B → Ix c B)
    (h0 : I 0 w.heap.size w) (tm : α → Array Value) (htm : ∀ x, (ps.zip (encs x)).foldl (fun t (p, v) => t.setIfInBounds p v) a.tmps = tm x) (Ax : Nat → Nat → Nat → α → Act → World → Prop)
    (stabA : ∀ k N M x a' A B, Ax k N M x a' A → Turned (fun r => r = w.heap.size + 1) A B → Ax k N M x a' B)
    (hassign : ∀ k N x W, xs[k]? = some x → I k N W → N ≤ W.heap.size → w.heap.size + 2 ≤ W.heap.size →
      assign.wpIn (Fence.wide.inRound (w.heap.size + 1)) 0 P (Exit.then (fun a₁ W₁ => Ax k N W.heap.size x a₁ W₁ ∧ Kept (fun k => ((S k ∨ C k) ∨ (N ≤ k ∧ k < W.heap.size)) ∨ k = w.heap.size ∨ k = w.heap.size + 1) W W₁) (fun _ _ _ => False)) { tmps := tm x, defers := [] } W)
    (hbody : ∀ k N M x a₁ W, xs[k]? = some x → Ax k N M x a₁ W → N ≤ M → M ≤ W.heap.size → w.heap.size + 2 ≤ W.heap.size →
      body.wpIn (Fence.wide.inRound (w.heap.size + 1)) 0 P (bodyLeft (fun k => ((S k ∨ C k) ∨ (N ≤ k ∧ k < M)) ∨ k = w.heap.size ∨ k = w.heap.size + 1) (fun W' => I (k + 1) W'.heap.size W') Ix W) a₁ W)
    (hdone : ∀ W, I xs.length W.heap.size W → W.heap[w.heap.size]? = some (.deferred (some [])) → w.heap.size + 2 ≤ W.heap.size → Q .normal { a with defers := { target := .collected w.heap.size, args := #[] } :: a.defers } W)
    (hstop : ∀ c W, Ix c W → W.heap[w.heap.size]? = some (.deferred (some [])) → w.heap.size + 2 ≤ W.heap.size → c.wpIn Fence.wide 0 P Q { a with defers := { target := .collected w.heap.size, args := #[] } :: a.defers } W) :
    (Code.rangeFunc g ps assign body).wpIn Fence.wide 0 P Q a w := by
  refine wpIn_rangeFunc ?_
  intro fn hfn
  rw [show Fence.wide.round = none from rfl]
  obtain ⟨rec, hrec⟩ : ∃ rec : LoopState → Option Code → Loop, rec = fun st pe => { state := st, pending := pe, fn, tmps := a.tmps, params := ps, assign, body, defers := w.heap.size } := ⟨_, rfl⟩
  obtain ⟨W1, hW1⟩ : ∃ W1, (w.alloc (.deferred (some []))).alloc (.loop (rec .ready none)) = W1 := ⟨_, rfl⟩
  have hsz1 : W1.heap.size = w.heap.size + 2 := by rw [← hW1]; simp
  have hL1 : W1.heap[w.heap.size + 1]? = some (.loop (rec .ready none)) := by
    rw [← hW1]; have := World.alloc_heap_new (w.alloc (.deferred (some []))) (.loop (rec .ready none)); rwa [World.size_alloc] at this
  have hK1 : W1.heap[w.heap.size]? = some (.deferred (some [])) := by
    rw [← hW1]; exact (Below.heap_alloc _ _ _ (by simp)).trans (World.alloc_heap_new w _)
  have hTn : ∀ C, Turned C w W1 := fun C => by rw [← hW1]; exact ((Turned.refl C w).alloc _).alloc _
  have hCn : ∀ r, C r → r ≠ w.heap.size ∧ r ≠ w.heap.size + 1 := fun r hr => by have := hSC r (.inr hr); omega
  refine ⟨w.heap.size + 1, [{ target := .collected w.heap.size, args := #[] }], W1, { target := .fn (.func gf) lb, args := #[.func (.yield (w.heap.size + 1)) #[] #[]] }, W1, gf,
    #[.func (.yield (w.heap.size + 1)) #[] #[]] ++ lb, W1, ?_, ?_, ?_, ?_, (fun h => by cases h), ?_⟩
  · rw [← hW1, hrec]; exact run_enterLoop_outer _ _ _ _ _
  · simp only [resolve, hg]
    simp [go_sem]
  · intro f' _; trivial
  · simp [invoke, go_sem, eg]
  · refine (hit (w.heap.size + 1)
      (fun k N W => I k N W ∧ W.heap[w.heap.size + 1]? = some (.loop (rec .ready none)) ∧ W.heap[w.heap.size]? = some (.deferred (some [])) ∧ w.heap.size + 2 ≤ W.heap.size)
      (fun W => ∃ c, Ix c W ∧ W.heap[w.heap.size + 1]? = some (.loop (rec .done (some c))) ∧ W.heap[w.heap.size]? = some (.deferred (some [])) ∧ w.heap.size + 2 ≤ W.heap.size)
      W1 (by omega) (fun k hk => (hTn (fun _ => False)).block k (hSC k hk) id)
      (fun k N N' A hs hN => ⟨monoN k N N' A hs.1 hN, hs.2⟩)
      (fun k N A B hs hN ht => ⟨stab k N A B hs.1 hN (ht.mono fun _ h => .inl h), (ht.block _ (by omega) (fun h => (hCn _ h).2 rfl)).trans hs.2.1, (ht.block _ (by omega) (fun h => (hCn _ h).1 rfl)).trans hs.2.2.1, by have := ht.size; omega⟩)
      (fun A B hs ht => by
        obtain ⟨c, h1, h2, h3, h4⟩ := hs
        exact ⟨c, stabx c A B h1 (ht.mono fun _ h => .inl h), (ht.block _ (by omega) (fun h => (hCn _ h).2 rfl)).trans h2, (ht.block _ (by omega) (fun h => (hCn _ h).1 rfl)).trans h3, by have := ht.size; omega⟩)
      ?_ ⟨monoN _ _ _ _ (stab 0 _ w W1 h0 (Nat.le_refl _) (hTn _)) (by omega), hL1, hK1, by omega⟩).mono ?_
    · rintro k N x W ⟨hi, hl, hk, hsz⟩ hN hx
      have hy := run_yield (P := P) (args := encs x) hl (by rw [hrec]; exact hps x)
      rw [hrec] at hy
      refine ⟨fn, _, assign, body, hy, roundIn_of_wpIn hfn (wpIn_mono (by have := hassign k N x W hx hi hN hsz; rw [← htm x] at this; exact this) ?_)⟩
      rintro e a1 W2 hp
      cases e with
      | normal =>
        obtain ⟨hax, hkt⟩ := hp
        have hl2 : W2.heap[w.heap.size + 1]? = some (.loop (rec .ready none)) := (hkt.block _ (.inr (.inr rfl))).trans hl
        have hlt : w.heap.size + 1 < W2.heap.size := by have := hkt.size; omega
        refine ⟨_, run_beginRound hl2 (by rw [hrec]), ?_⟩
        obtain ⟨W3, hW3⟩ : ∃ W3, W2.putObj (w.heap.size + 1) (.loop { rec .ready none with state := .busy }) = W3 := ⟨_, rfl⟩
        rw [hW3]
        have ht3 : Turned (fun r => r = w.heap.size + 1) W2 W3 := by rw [← hW3]; exact (Turned.refl (fun r => r = w.heap.size + 1) _).putObj rfl _
        have hl3 : W3.heap[w.heap.size + 1]? = some (.loop { rec .ready none with state := .busy }) := by rw [← hW3]; exact World.putObj_heap_same hlt
        have hk3 : W3.heap[w.heap.size]? = some (.deferred (some [])) := (ht3.block _ (by omega) (by omega)).trans ((hkt.block _ (.inr (.inl rfl))).trans hk)
        refine wpIn_mono (hbody k N W.heap.size x a1 W3 hx (stabA k N _ x a1 _ _ hax ht3) hN (by have := hkt.size; have := ht3.size; omega) (by have := hkt.size; have := ht3.size; omega)) ?_
        have fin : ∀ (jump : Option Code) (W4 : World), Kept (fun k => ((S k ∨ C k) ∨ (N ≤ k ∧ k < W.heap.size)) ∨ k = w.heap.size ∨ k = w.heap.size + 1) W3 W4 →
            (Instr.endRound (w.heap.size + 1) jump).run P W4 = .ok (.bool jump.isNone) (W4.putObj (w.heap.size + 1) (.loop (rec (if jump.isNone then .ready else .done) jump))) ∧
            (W4.putObj (w.heap.size + 1) (.loop (rec (if jump.isNone then .ready else .done) jump))).heap[w.heap.size + 1]? = some (.loop (rec (if jump.isNone then .ready else .done) jump)) ∧
            (W4.putObj (w.heap.size + 1) (.loop (rec (if jump.isNone then .ready else .done) jump))).heap[w.heap.size]? = some (.deferred (some [])) ∧
            w.heap.size + 2 ≤ (W4.putObj (w.heap.size + 1) (.loop (rec (if jump.isNone then .ready else .done) jump))).heap.size ∧
            Turned (fun r => C r ∨ r = w.heap.size ∨ r = w.heap.size + 1) W4 (W4.putObj (w.heap.size + 1) (.loop (rec (if jump.isNone then .ready else .done) jump))) ∧
            (jump = none → Kept (fun k => (S k ∨ C k) ∨ (N ≤ k ∧ k < W.heap.size)) W (W4.putObj (w.heap.size + 1) (.loop (rec (if jump.isNone then .ready else .done) jump)))) := fun jump W4 hk4 => by
          have hl4 := (hk4.block _ (.inr (.inr rfl))).trans hl3
          have hsz4 : w.heap.size + 2 ≤ W4.heap.size := by have := hkt.size; have := ht3.size; have := hk4.size; omega
          have := run_endRound (P := P) jump hl4
          rw [hrec] at this ⊢
          refine ⟨this, World.putObj_heap_same (by omega), (World.putObj_heap_other (by omega)).trans ((hk4.block _ (.inr (.inl rfl))).trans hk3), by simp; omega, (Turned.refl _ _).putObj (.inr (.inr rfl)) _, ?_⟩
          intro hj
          subst hj
          refine ⟨by have := hkt.size; have := ht3.size; have := hk4.size; simp; omega, fun i hi => ?_⟩
          by_cases hil : i = w.heap.size + 1
          · subst hil
            rw [World.putObj_heap_same (by omega), hl, hrec]
            rfl
          · have hi2 : i < W2.heap.size := by
              have := hkt.size
              rcases hi with h | ⟨_, h⟩
              · have := hSC i h; omega
              · omega
            exact (World.putObj_heap_other hil).trans ((hk4.block i (.inl hi)).trans ((ht3.block i hi2 hil).trans (hkt.block i (.inl hi))))
        rintro e a3 W4 hp
        cases e with
        | normal =>
          obtain ⟨h1, h2⟩ := hp
          obtain ⟨hr, f1, f2, f3, f4, f5⟩ := fin none W4 h1
          exact ⟨_, _, hr, .inl ⟨rfl, ⟨monoN _ _ _ _ (stab _ _ _ _ h2 (Nat.le_refl _) f4) f4.size, f1, f2, f3⟩, f5 rfl⟩⟩
        | ret =>
          obtain ⟨h1, h2⟩ := hp
          obtain ⟨hr, f1, f2, f3, f4, -⟩ := fin (some .ret) W4 h1
          exact ⟨_, _, hr, .inr ⟨rfl, .ret, stabx _ _ _ h2 f4, f1, f2, f3⟩⟩
        | exit id =>
          obtain ⟨h1, h2⟩ := hp
          obtain ⟨hr, f1, f2, f3, f4, -⟩ := fin (some (.exit id)) W4 h1
          exact ⟨_, _, hr, .inr ⟨rfl, .exit id, stabx _ _ _ h2 f4, f1, f2, f3⟩⟩
        | goto t =>
          obtain ⟨h1, h2⟩ := hp
          obtain ⟨hr, f1, f2, f3, f4, -⟩ := fin (some (.goto t)) W4 h1
          exact ⟨_, _, hr, .inr ⟨rfl, .goto t, stabx _ _ _ h2 f4, f1, f2, f3⟩⟩
        | panic ch => exact hp.elim
        | outgrown => exact hp.elim
      | ret => exact hp.elim
      | exit id => exact hp.elim
      | goto t => exact hp.elim
      | panic ch => exact hp.elim
      | outgrown => exact hp.elim
    · rintro e W2 ⟨⟨v, rfl⟩, (⟨hi, hl, hk, hsz⟩ | ⟨c, hi, hl, hk, hsz⟩)⟩
      · refine ⟨none, _, by have := run_endLoop (P := P) hl (by rw [hrec]; simp); rw [hrec] at this; exact this, ?_⟩
        have ht : Turned (fun r => C r ∨ r = w.heap.size ∨ r = w.heap.size + 1) W2 (W2.putObj (w.heap.size + 1) (.loop { rec .ready none with state := .exhausted })) := (Turned.refl _ _).putObj (.inr (.inr rfl)) _
        rw [hrec] at ht
        exact hdone _ (monoN _ _ _ _ (stab _ _ _ _ hi (Nat.le_refl _) ht) ht.size) ((World.putObj_heap_other (by omega)).trans hk) (by simp; omega)
      · refine ⟨some c, _, by have := run_endLoop (P := P) hl (by rw [hrec]; simp); rw [hrec] at this; exact this, ?_⟩
        exact hstop c _ (stabx _ _ _ hi ((Turned.refl _ _).putObj (.inr (.inr rfl)) _)) ((World.putObj_heap_other (by omega)).trans hk) (by simp; omega)
end Go.Proofs.YtdjjifljlkjafaaGreatDoor
