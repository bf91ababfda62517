/- Part 16 of the proof of card: ParWalkI, ParWalkJ, LexRefA, LexRefB. Conditions: those of each theorem. -/
import Derived.Defers
import Derived.Recover
import Derived.Laws.Pointers
import Derived.Test.YtjijdgkccfeeaaaGreatDoorPt01
import Derived.Test.YtjijdgkccfeeaaaGreatDoorPt03
import Derived.Test.YtjijdgkccfeeaaaGreatDoorPt11
import Derived.Test.YtjijdgkccfeeaaaGreatDoorPt15
set_option maxRecDepth 20000
set_option maxHeartbeats 16000000
namespace Go.Proofs.YtjijdgkccfeeaaaGreatDoor
open Go Go.Proofs Go.RowKit
attribute [local go_sem] Oper.semAt_some
def HowR (B ob g cap : Nat) (ts : List Tok) (w : World) (r : PR Unit) (Q : World -> Prop) (e : Ending) (w' : World) : Prop :=
 Turned (fun b => b = B \/ b = ob) w w' /\ match r with
 | .ok _ j => e = .returned (.tuple #[]) /\ (∃ nf, PS B g cap ts w' j nf) /\ Q w'
 | .err j c => e = .panicked [stopE ts j c]
def ExBox (ob lo : Nat) (x : Ex) (W : World) : Prop := ∃ p c, W.heap[ob]? = some (.cells #[.int .i64 x.op, .int .i64 x.n, .string x.s, .slice p x.kids.length c, .int .i64 x.at_] 31 (0, 0)) /\ KidsAt W (fun b => lo <= b) x.kids (.slice p x.kids.length c)
def FmBox (ob lo : Nat) (fs : List Fm) (W : World) : Prop := ∃ p c, W.heap[ob]? = some (.cells #[.slice p fs.length c] 23 (0, 0)) /\ FormsAt W (fun b => lo <= b) fs (.slice p fs.length c)
def ExQ (ob lo : Nat) : PR Ex -> World -> Prop
 | .ok x _ => ExBox ob lo x
 | .err _ _ => fun _ => True
def FmQ (ob lo : Nat) : PR (List Fm) -> World -> Prop
 | .ok x _ => FmBox ob lo x
 | .err _ _ => fun _ => True
def PR.unit {α : Type} : PR α -> PR Unit
 | .ok _ j => .ok () j
 | .err j c => .err j c
theorem exprE_any {B g cap : Nat} {ts : List Tok} (m k : Nat) (r : PR Ex) (w : World) (nf : Int) (hr : runF ts m .expr k 1 = some r) (h : PS B g cap ts w k nf) (ob : Nat) (hob : ob ≠ B) (hgo : g ≠ ob) (a b c d e : Value) (hbox : w.heap[ob]? = some (.cells #[a, b, c, d, e] 31 (0, 0))) :
  Calls Tryz.prog 30 #[.pointer (some ⟨B, 0, none⟩), .pointer (some ⟨ob, 0, none⟩)] w (HowR B ob g cap ts w r.unit (ExQ ob w.heap.size r)) := by
 have hl := getElem?_lt hbox
 cases r with
 | err j c =>
  have HX := Lib.hid (expr_ps m k 1 _ w nf (by omega) (by omega) hr h)
  go_enter Tryz.func30, Tryz.ntmps30
  go_wp2_with fail
  refine HX.out.mono ?_
  rintro e W1 ⟨rfl, ht⟩
  exact ⟨rfl, ht.mono fun _ h => .inl h, rfl⟩
 | ok x j =>
  have HX := Lib.hid (expr_ps m k 1 _ w nf (by omega) (by omega) hr h)
  have Hb := Lib.hid hbox
  clear hbox
  go_enter Tryz.func30, Tryz.ntmps30
  go_wp2_with fail
  refine HX.out.mono ?_
  rintro e W1 ⟨p, c, rfl, hk, hp, ht⟩
  have hb1 := (ht.block ob hl hob).trans Hb.out
  have fq := free_of_box hb1
  obtain ⟨x0, x1, x2, x3, x4⟩ := cellsFive hb1
  have H2 := Lib.hid (And.intro hk (And.intro hp ht))
  have H3 := Lib.hid hb1
  clear hk hp ht hb1
  go_wp2_with fail
  go_end0
  obtain ⟨hk, hp, ht⟩ := H2.out
  have ht5 := five_turned W1 ob (.int .i64 x.op) (.int .i64 x.n) (.string x.s) (.slice p x.kids.length c) (.int .i64 x.at_)
  refine ⟨(ht.mono fun _ h => .inl h).trans (ht5.mono fun _ h => .inr h), rfl, ⟨nf, hp.moved ht5 hgo hp.lt ((ht5.block B hp.ltB (Ne.symm hob)).trans hp.box)⟩, p, c, five_set H3.out, hk.move ht5 (fun b hb => by omega) (fun _ hb _ => hb)⟩
theorem ownsRow_set {W : World} {base e s n g cap : Nat} {xs : List Value} (h : W.ownsRow base e s (.slice (some ⟨g, 0, none⟩) n cap) n xs) (i : Nat) (u : Value) : (W.setCell ⟨g, i, none⟩ u).ownsRow base e s (.slice (some ⟨g, 0, none⟩) n cap) n (xs.set i u) := by
 obtain ⟨h1, h2⟩ := h
 refine ⟨by rw [List.length_set]; exact h1, ?_⟩
 rcases h2 with ⟨h2, -⟩ | ⟨g0, cap0, cur, hv, hb, hh, hc1, hc2, hcs, htk⟩
 ·cases h2
 ·obtain ⟨rfl, rfl⟩ : g = g0 /\ cap = cap0 := by cases hv; exact ⟨rfl, rfl⟩
  refine .inr ⟨g, cap, cur.setIfInBounds i u, rfl, hb, ?_, hc1, hc2, by simpa using hcs, ?_⟩
  ·simp [World.setCell, Array.getElem?_modify, hh]
  ·rw [Array.toList_setIfInBounds, List.take_set, htk]
def RowOf (W : World) (k : Nat) (cs : List Value) : Prop := ∀ j u, cs[j]? = some u -> W.cell? ((⟨k, 0, none⟩ : Addr).add j) = some u
theorem row_turned {C : Nat -> Prop} {W W' : World} {k : Nat} {cs : List Value} (h : RowOf W k cs) (ht : Turned C W W') (hk : ¬ C k) : RowOf W' k cs := by
 intro j u hj
 have := h j u hj
 rw [Addr.add_lit] at this ⊢
 exact cell_turned ht hk this
structure OBx (B ob g cap : Nat) (ts : List Tok) (w : World) (lo : Nat) (v : Value) (ps : List (Fm × Value × Value)) (j : Nat) (n : Nat) (W : World) : Prop where
 par : PS B g cap ts W j (n : Nat)
 box : W.heap[ob]? = some (.cells #[v] 23 (0, 0))
 own : Hid (Own W lo 45 4 fmEnc fmAt v ps.length ps)
 tur : Turned (fun b => b = B \/ b = ob) w W
 sep : ob ≠ B /\ g ≠ ob /\ B < lo /\ ob < lo /\ g < lo /\ w.heap.size <= lo
def zeroF : List Value := [.string ⟨#[]⟩, .slice none 0 0, .slice none 0 0, .int .i64 0]
structure OGx (B ob g cap : Nat) (ts : List Tok) (w : World) (lo : Nat) (v : Value) (ga c : Nat) (ps : List (Fm × Value × Value)) (p : Fm × Value × Value) (j : Nat) (n : Nat) (W : World) : Prop where
 par : PS B g cap ts W j (n : Nat)
 box : W.heap[ob]? = some (.cells #[v] 23 (0, 0))
 own : W.ownsRow lo 45 4 (.slice (some ⟨ga, 0, none⟩) (ps.length + 1) c) (ps.length + 1) (ps.flatMap fmEnc ++ zeroF)
 kids : ∀ q ∈ ps ++ [p], fmAt W (fun b => lo <= b /\ b ≠ ga) q
 tur : Turned (fun b => b = B \/ b = ob) w W
 sep : ob ≠ B /\ g ≠ ob /\ B < lo /\ ob < lo /\ g < lo /\ w.heap.size <= lo
 gaL : lo <= ga /\ ob ≠ ga /\ ga ≠ ob
 top : lo <= W.heap.size
 last : W.cell? ⟨ga, ps.length * 4, none⟩ = some (.string ⟨#[]⟩) /\ W.cell? ⟨ga, ps.length * 4 + 1, none⟩ = some (.slice none 0 0) /\ W.cell? ⟨ga, ps.length * 4 + 2, none⟩ = some (.slice none 0 0) /\ W.cell? ⟨ga, ps.length * 4 + 3, none⟩ = some (.int .i64 0) /\ (∀ o, W.frozen? ⟨ga, o, none⟩ = false)
section
variable {B ob g cap : Nat} {ts : List Tok} {w W W' : World} {lo : Nat} {v : Value} {ps : List (Fm × Value × Value)} {j i n n' : Nat}
theorem OBx.same (h : Hid (OBx B ob g cap ts w lo v ps j n W)) (ht : Turned (fun _ => False) W W') : Hid (OBx B ob g cap ts w lo v ps j n W') :=
 Lib.hid ⟨h.out.par.same ht (fun _ h => h.elim), (ht.block ob (getElem?_lt h.out.box) id).trans h.out.box, Own.move h.out.own fmMov ht (fun _ h => h.elim), h.out.tur.trans (ht.mono fun _ h => h.elim), h.out.sep⟩
theorem OBx.call (h : Hid (OBx B ob g cap ts w lo v ps j n W)) (ht : Turned (fun b => b = B) W W') (hp : PS B g cap ts W' i (n' : Nat)) : Hid (OBx B ob g cap ts w lo v ps i n' W') :=
 Lib.hid ⟨hp, (ht.block ob (getElem?_lt h.out.box) h.out.sep.1).trans h.out.box, Own.move h.out.own fmMov ht (fun b hb => by have := h.out.sep; omega), h.out.tur.trans (ht.mono fun _ h => .inl h), h.out.sep⟩
theorem flat_len (ps : List (Fm × Value × Value)) : (ps.flatMap fmEnc).length = ps.length * 4 := by
 induction ps with
 | nil => rfl
 | cons p ps ih => rw [List.flatMap_cons, List.length_append, ih, List.length_cons]; simp [fmEnc, fmV]; omega
theorem OBx.grown (h : Hid (OBx B ob g cap ts w lo v ps j n W)) {ga c : Nat} {p : Fm × Value × Value} (hp : fmAt W (fun b => lo <= b /\ ∀ g, v.ownBlock = some g -> b ≠ g) p) (hg : W.grownBy W' v.ownBlock) (hown : W'.ownsRow lo 45 4 (.slice (some ⟨ga, 0, none⟩) (ps.length + 1) c) (ps.length + 1) (ps.flatMap fmEnc ++ [.string ⟨#[]⟩, .slice none 0 0, .slice none 0 0, .int .i64 0])) (hex : ∀ k, (Value.slice (some ⟨ga, 0, none⟩) (ps.length + 1) c).ownBlock = some k -> v.ownBlock = some k \/ W.heap.size <= k) :
  Hid (OGx B ob g cap ts w lo v ga c ps p j n W') := by
 have ht : Turned (fun k => v.ownBlock = some k) W W' := Turned.of_grown hg fun _ h => h
 have hob := fun k hk => (ownsRow_block h.out.own.out.own k hk).1
 have hsep := h.out.sep
 have hga := ownsRow_block hown ga (by simp [Value.ownBlock])
 refine Lib.hid ⟨?_, ?_, hown, fun q hq => ?_, ?_, hsep, ⟨hga.1, by omega, by omega⟩, Nat.le_trans h.out.own.out.top ht.size, ?_⟩
 ·exact h.out.par.moved ht (fun hc => by have := hob _ hc; omega) h.out.par.lt ((ht.block B h.out.par.ltB (fun hc => by have := hob _ hc; omega)).trans h.out.par.box)
 ·exact (ht.block ob (getElem?_lt h.out.box) (fun hc => by have := hob _ hc; omega)).trans h.out.box
 ·have hq2 : fmAt W (fun b => lo <= b /\ ∀ g, v.ownBlock = some g -> b ≠ g) q := by
   rcases List.mem_append.1 hq with hq | hq
   ·exact h.out.own.out.kids q hq
   ·obtain rfl : q = p := by simpa using hq
    exact hp
  refine fmMov _ _ _ _ _ q hq2 ht (fun b hb hc => hb.2 b hc rfl) (fun b hb hlt => ⟨hb.1, fun he => ?_⟩)
  rcases hex ga (by simp [Value.ownBlock]) with h1 | h1
  ·exact hb.2 ga h1 he
  ·omega
 ·refine ⟨ht.os.trans h.out.tur.os, ht.tape.trans h.out.tur.tape, ht.output.trans h.out.tur.output, Nat.le_trans h.out.tur.size ht.size, fun c hc hn => ?_⟩
  exact (ht.block c (Nat.lt_of_lt_of_le hc h.out.tur.size) (fun hcc => by have := hob _ hcc; omega)).trans (h.out.tur.block c hc hn)
 ·obtain ⟨h1, h2⟩ := hown
  rcases h2 with ⟨h2, -⟩ | ⟨g0, cap0, cur, hv, hb, hh, hc1, hc2, hcs, htk⟩
  ·cases h2
  ·obtain rfl : ga = g0 := by cases hv; rfl
   have hfl := flat_len ps
   have hget : ∀ d u, d < 4 -> zeroF[d]? = some u -> W'.cell? ⟨ga, ps.length * 4 + d, none⟩ = some u := by
    intro d u hd hu
    simp only [World.cell?, hh]
    have h3 : (cur.toList.take ((ps.length + 1) * 4))[ps.length * 4 + d]? = some u := by
     rw [htk, List.getElem?_append_right (by omega), hfl, show ps.length * 4 + d - ps.length * 4 = d by omega]
     exact hu
    rw [List.getElem?_take_of_lt (by omega)] at h3
    simpa using h3
   exact ⟨hget 0 _ (by omega) rfl, hget 1 _ (by omega) rfl, hget 2 _ (by omega) rfl, hget 3 _ (by omega) rfl, fun o => by simp [World.frozen?, hh]⟩
theorem OGx.final {v : Value} {ga c : Nat} {p : Fm × Value × Value} (h : Hid (OGx B ob g cap ts w lo v ga c ps p j n W)) :
  Hid (OBx B ob g cap ts w lo (.slice (some ⟨ga, 0, none⟩) (ps.length + 1) c) (ps ++ [p]) j n (((((W.setCell ⟨ga, ps.length * 4, none⟩ (.string p.1.word)).setCell ⟨ga, ps.length * 4 + 1, none⟩ p.2.1).setCell ⟨ga, ps.length * 4 + 2, none⟩ p.2.2).setCell ⟨ga, ps.length * 4 + 3, none⟩ (.int .i64 p.1.at_)).setCell ⟨ob, 0, none⟩ (.slice (some ⟨ga, 0, none⟩) (ps.length + 1) c))) := by
 have hsep := h.out.sep
 have hga := h.out.gaL
 have t1 : Turned (fun b => b = ga) W ((((W.setCell ⟨ga, ps.length * 4, none⟩ (.string p.1.word)).setCell ⟨ga, ps.length * 4 + 1, none⟩ p.2.1).setCell ⟨ga, ps.length * 4 + 2, none⟩ p.2.2).setCell ⟨ga, ps.length * 4 + 3, none⟩ (.int .i64 p.1.at_)) :=
  ((((Turned.refl (fun b => b = ga) W).setCell (p := ⟨ga, ps.length * 4, none⟩) rfl _).setCell (p := ⟨ga, ps.length * 4 + 1, none⟩) rfl _).setCell (p := ⟨ga, ps.length * 4 + 2, none⟩) rfl _).setCell (p := ⟨ga, ps.length * 4 + 3, none⟩) rfl _
 have o1 := ownsRow_set (ownsRow_set (ownsRow_set (ownsRow_set h.out.own (ps.length * 4) (.string p.1.word)) (ps.length * 4 + 1) p.2.1) (ps.length * 4 + 2) p.2.2) (ps.length * 4 + 3) (.int .i64 p.1.at_)
 generalize ((((W.setCell ⟨ga, ps.length * 4, none⟩ (.string p.1.word)).setCell ⟨ga, ps.length * 4 + 1, none⟩ p.2.1).setCell ⟨ga, ps.length * 4 + 2, none⟩ p.2.2).setCell ⟨ga, ps.length * 4 + 3, none⟩ (.int .i64 p.1.at_)) = W1 at t1 o1
 have b1 : W1.heap[ob]? = some (.cells #[v] 23 (0, 0)) := (t1.block ob (getElem?_lt h.out.box) (by omega)).trans h.out.box
 have t2 := one_turned W1 ob 0 (.slice (some ⟨ga, 0, none⟩) (ps.length + 1) c)
 have hfl := flat_len ps
 have o2 : W1.ownsRow lo 45 4 (.slice (some ⟨ga, 0, none⟩) (ps.length + 1) c) (ps ++ [p]).length ((ps ++ [p]).flatMap fmEnc) := by
  have e : (ps ++ [p]).flatMap fmEnc = ((((ps.flatMap fmEnc ++ zeroF).set (ps.length * 4) (.string p.1.word)).set (ps.length * 4 + 1) p.2.1).set (ps.length * 4 + 2) p.2.2).set (ps.length * 4 + 3) (.int .i64 p.1.at_) := by
   rw [List.set_append_right _ _ (by omega), List.set_append_right _ _ (by omega), List.set_append_right _ _ (by omega), List.set_append_right _ _ (by omega), hfl]
   simp [zeroF, fmEnc, fmV]
  rw [e, show (ps ++ [p]).length = ps.length + 1 by simp]
  exact o1
 have s1 : W.heap.size <= W1.heap.size := t1.size
 refine Lib.hid ⟨?_, box_setCell _ b1, Lib.hid ⟨ownsRow_turned t2 (fun k hk => by omega) o2, fun q hq => ?_, ?_⟩, ?_, hsep⟩
 ·have p1 := h.out.par.moved t1 (by omega) h.out.par.lt ((t1.block B h.out.par.ltB (by omega)).trans h.out.par.box)
  exact p1.moved t2 hsep.2.1 p1.lt ((t2.block B p1.ltB (Ne.symm hsep.1)).trans p1.box)
 ·have q1 := fmMov _ _ _ (fun b => lo <= b /\ b ≠ ga) _ q (h.out.kids q hq) t1 (fun b hb => hb.2) (fun b hb _ => hb)
  refine fmMov _ _ _ _ _ q q1 t2 (fun b hb => by have := hb.1; omega) (fun b hb _ => ⟨hb.1, fun k hk => ?_⟩)
  simp [Value.ownBlock] at hk
  rw [<- hk]; exact hb.2
 ·have := t2.size; have := h.out.top; omega
 ·have t3 : Turned (fun b => b = B \/ b = ob) w W1 := by
   refine ⟨t1.os.trans h.out.tur.os, t1.tape.trans h.out.tur.tape, t1.output.trans h.out.tur.output, Nat.le_trans h.out.tur.size t1.size, fun c hc hn => ?_⟩
   exact (t1.block c (Nat.lt_of_lt_of_le hc h.out.tur.size) (by omega)).trans (h.out.tur.block c hc hn)
  exact t3.trans (t2.mono fun _ h => .inr h)
theorem OGx.final2 {v : Value} {ga c : Nat} {p : Fm × Value × Value} (h : Hid (OGx B ob g cap ts w lo v ga c ps p j n W)) :
  Hid (OBx B ob g cap ts w lo (.slice (some ⟨ga, 0, none⟩) (ps.length + 1) c) (ps ++ [p]) j n (((((W.setCell ⟨ob, 0, none⟩ (.slice (some ⟨ga, 0, none⟩) (ps.length + 1) c)).setCell ⟨ga, ps.length * 4, none⟩ (.string p.1.word)).setCell ⟨ga, ps.length * 4 + 1, none⟩ p.2.1).setCell ⟨ga, ps.length * 4 + 2, none⟩ p.2.2).setCell ⟨ga, ps.length * 4 + 3, none⟩ (.int .i64 p.1.at_))) := by
 have hsep := h.out.sep
 have hga := h.out.gaL
 have t2 := one_turned W ob 0 (.slice (some ⟨ga, 0, none⟩) (ps.length + 1) c)
 have b1 : (W.setCell ⟨ob, 0, none⟩ (.slice (some ⟨ga, 0, none⟩) (ps.length + 1) c)).heap[ob]? = some (.cells #[.slice (some ⟨ga, 0, none⟩) (ps.length + 1) c] 23 (0, 0)) := box_setCell _ h.out.box
 have o0 := ownsRow_turned t2 (fun k hk => by omega) h.out.own
 generalize (W.setCell ⟨ob, 0, none⟩ (.slice (some ⟨ga, 0, none⟩) (ps.length + 1) c)) = W0 at t2 b1 o0
 have t1 : Turned (fun b => b = ga) W0 ((((W0.setCell ⟨ga, ps.length * 4, none⟩ (.string p.1.word)).setCell ⟨ga, ps.length * 4 + 1, none⟩ p.2.1).setCell ⟨ga, ps.length * 4 + 2, none⟩ p.2.2).setCell ⟨ga, ps.length * 4 + 3, none⟩ (.int .i64 p.1.at_)) :=
  ((((Turned.refl (fun b => b = ga) W0).setCell (p := ⟨ga, ps.length * 4, none⟩) rfl _).setCell (p := ⟨ga, ps.length * 4 + 1, none⟩) rfl _).setCell (p := ⟨ga, ps.length * 4 + 2, none⟩) rfl _).setCell (p := ⟨ga, ps.length * 4 + 3, none⟩) rfl _
 have o1 := ownsRow_set (ownsRow_set (ownsRow_set (ownsRow_set o0 (ps.length * 4) (.string p.1.word)) (ps.length * 4 + 1) p.2.1) (ps.length * 4 + 2) p.2.2) (ps.length * 4 + 3) (.int .i64 p.1.at_)
 generalize ((((W0.setCell ⟨ga, ps.length * 4, none⟩ (.string p.1.word)).setCell ⟨ga, ps.length * 4 + 1, none⟩ p.2.1).setCell ⟨ga, ps.length * 4 + 2, none⟩ p.2.2).setCell ⟨ga, ps.length * 4 + 3, none⟩ (.int .i64 p.1.at_)) = W1 at t1 o1
 have hfl := flat_len ps
 have o2 : W1.ownsRow lo 45 4 (.slice (some ⟨ga, 0, none⟩) (ps.length + 1) c) (ps ++ [p]).length ((ps ++ [p]).flatMap fmEnc) := by
  have e : (ps ++ [p]).flatMap fmEnc = ((((ps.flatMap fmEnc ++ zeroF).set (ps.length * 4) (.string p.1.word)).set (ps.length * 4 + 1) p.2.1).set (ps.length * 4 + 2) p.2.2).set (ps.length * 4 + 3) (.int .i64 p.1.at_) := by
   rw [List.set_append_right _ _ (by omega), List.set_append_right _ _ (by omega), List.set_append_right _ _ (by omega), List.set_append_right _ _ (by omega), hfl]
   simp [zeroF, fmEnc, fmV]
  rw [e, show (ps ++ [p]).length = ps.length + 1 by simp]
  exact o1
 have s1 : W0.heap.size <= W1.heap.size := t1.size
 have s2 : W.heap.size <= W0.heap.size := t2.size
 refine Lib.hid ⟨?_, (t1.block ob (getElem?_lt b1) (by omega)).trans b1, Lib.hid ⟨o2, fun q hq => ?_, ?_⟩, ?_, hsep⟩
 ·have p1 := h.out.par.moved t2 hsep.2.1 h.out.par.lt ((t2.block B h.out.par.ltB (Ne.symm hsep.1)).trans h.out.par.box)
  exact p1.moved t1 (by omega) p1.lt ((t1.block B p1.ltB (by omega)).trans p1.box)
 ·have q1 := fmMov _ _ _ (fun b => lo <= b /\ b ≠ ga) _ q (h.out.kids q hq) t2 (fun b hb => by have := hb.1; omega) (fun b hb _ => hb)
  refine fmMov _ _ _ _ _ q q1 t1 (fun b hb => hb.2) (fun b hb _ => ⟨hb.1, fun k hk => ?_⟩)
  simp [Value.ownBlock] at hk
  rw [<- hk]; exact hb.2
 ·have := h.out.top; omega
 ·have t3 : Turned (fun b => b = B \/ b = ob) w W0 := h.out.tur.trans (t2.mono fun _ h => .inr h)
  refine ⟨t1.os.trans t3.os, t1.tape.trans t3.tape, t1.output.trans t3.output, Nat.le_trans t3.size t1.size, fun c hc hn => ?_⟩
  exact (t1.block c (Nat.lt_of_lt_of_le hc t3.size) (by omega)).trans (t3.block c hc hn)
end
structure OL (B ob g cap : Nat) (ts : List Tok) (f : Nat) (w : World) (r : PR (List Fm)) (v : Value) (ps : List (Fm × Value × Value)) (j m n : Nat) (wr : World) : Prop where
 ob : Hid (OBx B ob g cap ts w w.heap.size v ps j n wr)
 len : ps.length <= n
 cnt : n <= 2000
 fuel : m < f
 eq : formsF ts m j n (ps.map (·.1)) = some r
theorem formsE_any {B g cap : Nat} {ts : List Tok} (m k : Nat) (r : PR (List Fm)) (w : World) (hr : formsF ts m k 0 [] = some r) (h : PS B g cap ts w k (0 : Nat)) (ob : Nat) (hob : ob ≠ B) (hgo : g ≠ ob) (hbox : w.heap[ob]? = some (.cells #[.slice none 0 0] 23 (0, 0))) :
  Calls Tryz.prog 28 #[.pointer (some ⟨B, 0, none⟩), .pointer (some ⟨ob, 0, none⟩)] w (HowR B ob g cap ts w r.unit (FmQ ob w.heap.size r)) := by
 have hl := getElem?_lt hbox
 have hB := h.ltB
 have hg := h.ltg
 have O1 : Hid (OBx B ob g cap ts w w.heap.size (.slice none 0 0) [] k 0 w) := Lib.hid ⟨h, hbox, Own.start (Nat.le_refl _), Turned.refl _ _, hob, hgo, hB, hl, hg, Nat.le_refl _⟩
 obtain ⟨lo, hlo⟩ : ∃ lo, lo = w.heap.size := ⟨_, rfl⟩
 obtain ⟨i0, hif, hz0, hz1, hz2⟩ := info_parts infoForm
 go_enter Tryz.func28, Tryz.ntmps28
 go_wp2_with fail
 go_loopw [3] (fun _ wr => ∃ (v : Value) (ps : List (Fm × Value × Value)) (j m2 n2 : Nat), Hid (OL B ob g cap ts (m + 1) w r v ps j m2 n2 wr)) (fun _ wr => lenOf ((wr.cell? ⟨B, 0, none⟩).getD undef))
 case atStart => exact ⟨_, [], k, m, 0, Lib.hid ⟨O1, by simp, by omega, by omega, hr⟩⟩
 case round =>
  clear O1 hr
  obtain ⟨v, ps, j, m2, n2, HL⟩ := hrel
  have OB := HL.out.ob
  rw [<- hlo] at OB
  have hlen := HL.out.len
  have hcnt := HL.out.cnt
  have heq := HL.out.eq
  have hm2 := HL.out.fuel
  clear HL
  obtain ⟨va, vc, rfl⟩ := owns_shape OB.out.own.out.own
  have HM := Lib.hid OB.out.par.len
  obtain ⟨u, hu⟩ := some_of_lt OB.out.par.lt
  have hju := OB.out.par.lt
  obtain ⟨m3, rfl⟩ : ∃ m', m2 = m' + 1 := by
   cases m2 with
   | zero => simp [formsF] at heq
   | succ m' => exact ⟨m', rfl⟩
  unfold formsF at heq
  simp only [hu] at heq
  obtain ⟨c0, c1⟩ := OB.out.par.cells
  obtain ⟨t0, t1, t2, t3⟩ := OB.out.par.tok hu
  obtain ⟨l, hl2⟩ : ∃ l, ts.length - j = l + 1 := ⟨ts.length - j - 1, by omega⟩
  rw [hl2] at c0
  clear hl2
  by_cases h5k : u.kind = 5
  ·rw [if_pos h5k] at heq
   cases heq
   have b5 : (u.kind != 5) = false := by simpa using h5k
   have b6 : (u.kind == 5) = true := by simpa using h5k
   clear h5k
   go_wp2_with fail
   go_end0
   refine ⟨OB.out.tur, rfl, ⟨_, OB.out.par⟩, va, vc, ?_, ?_⟩
   ·simpa using OB.out.box
   ·have := Own.formsAt OB.out.own rfl
    rw [hlo] at this
    simpa using this
  ·rw [if_neg h5k] at heq
   have b5 : (u.kind != 5) = true := by simpa using h5k
   have b6 : (u.kind == 5) = false := by simpa using h5k
   clear h5k
   go_wp2_with fail
   have OB := OBx.same OB (Turned.refl _ _).drew
   have x0 := cell_of_box OB.out.box
   clear c0 c1 t0 t1 t2 t3
   rcases PR.then_some heq with ⟨j3, c, h5, rfl⟩ | ⟨y, j3, h5, h6⟩
   ·clear heq
    refine region_R (R := fun j V => j < 6 -> (fun V : World => V.cell? ⟨ob, 0, none⟩ = some (.slice va ps.length vc)) V) (by kernel_rfl) ?_
    obtain ⟨Wd, hWd⟩ : ∃ Wd, Wd = wr.drew := ⟨_, rfl⟩
    rw [<- hWd]
    rw [<- hWd] at OB x0
    clear hWd
    refine tk (n := 6) 0 (.slice va ps.length vc) rfl (.inl ⟨by rfl, ?_⟩) x0 ?_
    ·intro V v3
     go_simp
    simp only [zz0, zz1, Act.put, zz3, zz4, zz5]
    refine tk (n := 6) 1 (.pointer (some ⟨B, 0, none⟩)) rfl (.inl ⟨by rfl, ?_⟩) x0 ?_
    ·intro V v3
     go_simp
    simp only [zz0, zz1, zz2, Act.put, zz3, zz4, zz5]
    refine tk (n := 6) 3 (.int .i64 ((ps.length : Nat))) rfl (.inl ⟨by rfl, ?_⟩) x0 ?_
    ·intro V v3
     go_simp
    simp only [zz0, zz1, zz2, Act.put, zz3, zz4, zz5]
    refine wpAnyR_all (rs := [2, 4]) (by kernel_rfl) (by simp) (fun i2 hi2 => ?_)
    rcases (show i2 = 2 \/ i2 = 4 by simpa using hi2) with rfl | rfl
    ·clear hi2
     refine wpOp_plain rfl rfl ?_
     simp only [zz0, zz1, zz2]
     go_simp
     refine (form_ps m3 j 1 n2 _ _ (by omega) (by omega) hcnt h5 OB.out.par).mono ?_
     rintro e W9 ⟨rfl, ht2⟩
     exact ⟨rfl, OB.out.tur.trans (ht2.mono fun _ h => .inl h), rfl⟩
    ·clear hi2
     refine wpOp_plain rfl rfl ?_
     simp only [zz0, zz1, zz2]
     go_simp
     obtain ⟨Wk, hW⟩ : ∃ Wk, Wk = World.alloc Wd (.cells #[.string ⟨#[]⟩, .slice none 0 0, .slice none 0 0, .int .i64 0] 45) := ⟨_, rfl⟩
     obtain ⟨kb, hb⟩ : ∃ kb, kb = (Wd).heap.size := ⟨_, rfl⟩
     have htA : Turned (fun _ => False) (Wd) Wk := by rw [hW]; exact (Turned.refl _ _).alloc _
     have hkB : kb ≠ B := by have := OB.out.par.ltB; omega
     have hcell : RowOf Wk kb [.string ⟨#[]⟩, .slice none 0 0, .slice none 0 0, .int .i64 0] := by rw [hW, hb]; exact cells_list _ [.string ⟨#[]⟩, .slice none 0 0, .slice none 0 0, .int .i64 0] 45
     have OB := OBx.same OB htA
     rw [<- hW, <- hb]
     clear hW hb htA x0
     have x0 := cell_of_box OB.out.box
     refine ⟨x0, ?_⟩
     refine wpAnyR_all (rs := [2]) (by kernel_rfl) (by simp) (fun i2 hi2 => ?_)
     obtain rfl : i2 = 2 := by simpa using hi2
     clear hi2
     refine wpOp_plain rfl rfl ?_
     simp only [zz0, zz1, zz2]
     go_simp
     refine (form_ps m3 j 1 n2 _ _ (by omega) (by omega) hcnt h5 OB.out.par).mono ?_
     rintro e W9 ⟨rfl, ht2⟩
     exact ⟨rfl, OB.out.tur.trans (ht2.mono fun _ h => .inl h), rfl⟩
   ·clear heq
    have hj3 : j + 1 <= j3 /\ j3 < ts.length := (form_fits h.ok _ _ _ _ _ _ h5).1
    have hcnt2 : n2 < y.2 /\ y.2 <= 2000 := (form_fits h.ok _ _ _ _ _ _ h5).2 trivial
    have hpl : (ps.length : Int) < (ps.length : Int) + 1 := by omega
    refine region_R (R := fun j V => j < 6 -> (fun V : World => V.cell? ⟨ob, 0, none⟩ = some (.slice va ps.length vc)) V) (by kernel_rfl) ?_
    obtain ⟨Wd, hWd⟩ : ∃ Wd, Wd = wr.drew := ⟨_, rfl⟩
    rw [<- hWd]
    rw [<- hWd] at OB x0
    clear hWd
    refine tk (n := 6) 0 (.slice va ps.length vc) rfl (.inl ⟨by rfl, ?_⟩) x0 ?_
    ·intro V v3
     go_simp
    simp only [zz0, zz1, Act.put, zz3, zz4, zz5]
    refine tk (n := 6) 1 (.pointer (some ⟨B, 0, none⟩)) rfl (.inl ⟨by rfl, ?_⟩) x0 ?_
    ·intro V v3
     go_simp
    simp only [zz0, zz1, zz2, Act.put, zz3, zz4, zz5]
    refine tk (n := 6) 3 (.int .i64 ((ps.length : Nat))) rfl (.inl ⟨by rfl, ?_⟩) x0 ?_
    ·intro V v3
     go_simp
    simp only [zz0, zz1, zz2, Act.put, zz3, zz4, zz5]
    refine wpAnyR_all (rs := [2, 4]) (by kernel_rfl) (by simp) (fun i2 hi2 => ?_)
    rcases (show i2 = 2 \/ i2 = 4 by simpa using hi2) with rfl | rfl
    ·clear hi2
     refine wpOp_plain rfl rfl ?_
     simp only [zz0, zz1, zz2]
     go_simp
     refine (form_ps m3 j 1 n2 _ _ (by omega) (by omega) hcnt h5 OB.out.par).mono ?_
     rintro e W9 ⟨pa, ca, pb, cb, rfl, hk1, hk2, hp, ht2⟩
     have HY : Hid (fmAt W9 (fun b => lo <= b /\ ∀ g, (Value.slice va ps.length vc).ownBlock = some g -> b ≠ g) (y.1, .slice pa y.1.args.length ca, .slice pb y.1.body.length cb)) := Lib.hid (Own.fresh OB.out.own fmMov (p := (y.1, .slice pa y.1.args.length ca, .slice pb y.1.body.length cb)) ⟨hk1, hk2⟩)
     have OB := OBx.call OB ht2 hp
     clear hk1 hk2 hp ht2 x0
     have x0 := cell_of_box OB.out.box
     refine ⟨x0, ?_⟩
     refine wpAnyR_all (rs := [4]) (by kernel_rfl) (by simp) (fun i2 hi2 => ?_)
     obtain rfl : i2 = 4 := by simpa using hi2
     clear hi2
     refine wpOp_plain rfl rfl ?_
     simp only [zz0, zz1, zz2]
     go_simp
     obtain ⟨Wk, hW⟩ : ∃ Wk, Wk = World.alloc W9 (.cells #[.string ⟨#[]⟩, .slice none 0 0, .slice none 0 0, .int .i64 0] 45) := ⟨_, rfl⟩
     obtain ⟨kb, hb⟩ : ∃ kb, kb = (W9).heap.size := ⟨_, rfl⟩
     have htA : Turned (fun _ => False) (W9) Wk := by rw [hW]; exact (Turned.refl _ _).alloc _
     have hkB : kb ≠ B := by have := OB.out.par.ltB; omega
     have hcell : RowOf Wk kb [.string ⟨#[]⟩, .slice none 0 0, .slice none 0 0, .int .i64 0] := by rw [hW, hb]; exact cells_list _ [.string ⟨#[]⟩, .slice none 0 0, .slice none 0 0, .int .i64 0] 45
     have OB := OBx.same OB htA
     have HY : Hid (fmAt Wk (fun b => lo <= b /\ ∀ g, (Value.slice va ps.length vc).ownBlock = some g -> b ≠ g) (y.1, .slice pa y.1.args.length ca, .slice pb y.1.body.length cb)) := Lib.hid (fmMov _ _ _ _ _ _ HY.out htA (fun _ _ => id) (fun _ hb _ => hb))
     rw [<- hW, <- hb]
     clear hW hb htA x0
     have x0 := cell_of_box OB.out.box
     refine ⟨x0, ?_⟩
     refine wpAnyR_all (rs := [5]) (by kernel_rfl) (by simp) (fun i2 hi2 => ?_)
     obtain rfl : i2 = 5 := by simpa using hi2
     clear hi2
     refine wpOp_append_exact _ rfl rfl _ _ 23 rfl lo 45 i0 (.agg #[.string ⟨#[]⟩, .slice none 0 0, .slice none 0 0, .int .i64 0]) 4 72 Tryz.underlying23 hif hz0 hz1 hz2 rfl (by decide) (.slice va ps.length vc) ps.length (ps.flatMap fmEnc) rfl OB.out.own.out.own ⟨kb, 0, none⟩ 1 1 [.string ⟨#[]⟩, .slice none 0 0, .slice none 0 0, .int .i64 0] rfl rfl hcell (by simp [Value.oneCell']) (by unfold maxLen; omega) (by omega) OB.out.own.out.top ?_
     intro v' w4 hown' hgrow hex
     obtain ⟨ga, cap', rfl⟩ := ownsRow_succ hown'
     have OG := OBx.grown OB HY.out hgrow hown' hex
     clear hown' hgrow hex HY OB hcell x0
     have x0 := cell_of_box OG.out.box
     have fq := free_of_box OG.out.box
     obtain ⟨z0, z1, z2, z3, fg⟩ := OG.out.last
     obtain ⟨-, hgl1, hgl2⟩ := OG.out.gaL
     refine ⟨fun _ => x0, ?_⟩
     simp only [zz0, zz1, zz2, Act.put, zz3, zz4, zz5]
     refine wpAnyR_all (rs := [6, 8]) (by kernel_rfl) (by simp) (fun i2 hi2 => ?_)
     rcases (show i2 = 6 \/ i2 = 8 by simpa using hi2) with rfl | rfl
     ·clear hi2
      refine wpOp_plain rfl rfl ?_
      simp only [zz0, zz1, zz2]
      go_simp
      refine wpAnyR_all (rs := [7, 8]) (by kernel_rfl) (by simp) (fun i2 hi2 => ?_)
      rcases (show i2 = 7 \/ i2 = 8 by simpa using hi2) with rfl | rfl
      ·clear hi2
       refine wpOp_plain rfl rfl ?_
       simp only [zz0, zz1, zz2]
       go_simp
       refine wpAnyR_all (rs := [8]) (by kernel_rfl) (by simp) (fun i2 hi2 => ?_)
       obtain rfl : i2 = 8 := by simpa using hi2
       clear hi2
       refine wpOp_plain rfl rfl ?_
       simp only [zz0, zz1, zz2]
       go_simp
       refine wpAnyR_done (by kernel_rfl) ?_ _
       have OF := OGx.final OG
       have hlen2 : (ps ++ [(y.1, Value.slice pa y.1.args.length ca, Value.slice pb y.1.body.length cb)]).length = ps.length + 1 := by simp
       try go_wp2_with fail
       go_roundw
       case rel => exact ⟨_, ps ++ [(y.1, .slice pa y.1.args.length ca, .slice pb y.1.body.length cb)], j3, m3, y.2, Lib.hid ⟨by rw [<- hlo]; exact OF, by omega, by omega, by omega, by rw [List.map_append]; exact h6⟩⟩
       case measure =>
        rw [HM.out]
        refine Nat.lt_of_le_of_lt (Nat.le_of_eq OF.out.par.len) ?_
        omega
      ·clear hi2
       refine wpOp_plain rfl rfl ?_
       simp only [zz0, zz1, zz2]
       go_simp
       refine wpAnyR_all (rs := [7]) (by kernel_rfl) (by simp) (fun i2 hi2 => ?_)
       obtain rfl : i2 = 7 := by simpa using hi2
       clear hi2
       refine wpOp_plain rfl rfl ?_
       simp only [zz0, zz1, zz2]
       go_simp
       refine wpAnyR_done (by kernel_rfl) ?_ _
       have OF := OGx.final2 OG
       have hlen2 : (ps ++ [(y.1, Value.slice pa y.1.args.length ca, Value.slice pb y.1.body.length cb)]).length = ps.length + 1 := by simp
       try go_wp2_with fail
       go_roundw
       case rel => exact ⟨_, ps ++ [(y.1, .slice pa y.1.args.length ca, .slice pb y.1.body.length cb)], j3, m3, y.2, Lib.hid ⟨by rw [<- hlo]; exact OF, by omega, by omega, by omega, by rw [List.map_append]; exact h6⟩⟩
       case measure =>
        rw [HM.out]
        refine Nat.lt_of_le_of_lt (Nat.le_of_eq OF.out.par.len) ?_
        omega
     ·clear hi2
      refine wpOp_plain rfl rfl ?_
      simp only [zz0, zz1, zz2]
      go_simp
      refine wpAnyR_all (rs := [6]) (by kernel_rfl) (by simp) (fun i2 hi2 => ?_)
      obtain rfl : i2 = 6 := by simpa using hi2
      clear hi2
      refine wpOp_plain rfl rfl ?_
      simp only [zz0, zz1, zz2]
      go_simp
      refine wpAnyR_all (rs := [7]) (by kernel_rfl) (by simp) (fun i2 hi2 => ?_)
      obtain rfl : i2 = 7 := by simpa using hi2
      clear hi2
      refine wpOp_plain rfl rfl ?_
      simp only [zz0, zz1, zz2]
      go_simp
      refine wpAnyR_done (by kernel_rfl) ?_ _
      have OF := OGx.final2 OG
      have hlen2 : (ps ++ [(y.1, Value.slice pa y.1.args.length ca, Value.slice pb y.1.body.length cb)]).length = ps.length + 1 := by simp
      try go_wp2_with fail
      go_roundw
      case rel => exact ⟨_, ps ++ [(y.1, .slice pa y.1.args.length ca, .slice pb y.1.body.length cb)], j3, m3, y.2, Lib.hid ⟨by rw [<- hlo]; exact OF, by omega, by omega, by omega, by rw [List.map_append]; exact h6⟩⟩
      case measure =>
       rw [HM.out]
       refine Nat.lt_of_le_of_lt (Nat.le_of_eq OF.out.par.len) ?_
       omega
    ·clear hi2
     refine wpOp_plain rfl rfl ?_
     simp only [zz0, zz1, zz2]
     go_simp
     obtain ⟨Wk, hW⟩ : ∃ Wk, Wk = World.alloc Wd (.cells #[.string ⟨#[]⟩, .slice none 0 0, .slice none 0 0, .int .i64 0] 45) := ⟨_, rfl⟩
     obtain ⟨kb, hb⟩ : ∃ kb, kb = (Wd).heap.size := ⟨_, rfl⟩
     have htA : Turned (fun _ => False) (Wd) Wk := by rw [hW]; exact (Turned.refl _ _).alloc _
     have hkB : kb ≠ B := by have := OB.out.par.ltB; omega
     have hcell : RowOf Wk kb [.string ⟨#[]⟩, .slice none 0 0, .slice none 0 0, .int .i64 0] := by rw [hW, hb]; exact cells_list _ [.string ⟨#[]⟩, .slice none 0 0, .slice none 0 0, .int .i64 0] 45
     have OB := OBx.same OB htA
     rw [<- hW, <- hb]
     clear hW hb htA x0
     have x0 := cell_of_box OB.out.box
     refine ⟨x0, ?_⟩
     refine wpAnyR_all (rs := [2]) (by kernel_rfl) (by simp) (fun i2 hi2 => ?_)
     obtain rfl : i2 = 2 := by simpa using hi2
     clear hi2
     refine wpOp_plain rfl rfl ?_
     simp only [zz0, zz1, zz2]
     go_simp
     refine (form_ps m3 j 1 n2 _ _ (by omega) (by omega) hcnt h5 OB.out.par).mono ?_
     rintro e W9 ⟨pa, ca, pb, cb, rfl, hk1, hk2, hp, ht2⟩
     have HY : Hid (fmAt W9 (fun b => lo <= b /\ ∀ g, (Value.slice va ps.length vc).ownBlock = some g -> b ≠ g) (y.1, .slice pa y.1.args.length ca, .slice pb y.1.body.length cb)) := Lib.hid (Own.fresh OB.out.own fmMov (p := (y.1, .slice pa y.1.args.length ca, .slice pb y.1.body.length cb)) ⟨hk1, hk2⟩)
     have OB := OBx.call OB ht2 hp
     have hcell := row_turned hcell ht2 hkB
     clear hk1 hk2 hp ht2 x0
     have x0 := cell_of_box OB.out.box
     refine ⟨x0, ?_⟩
     refine wpAnyR_all (rs := [5]) (by kernel_rfl) (by simp) (fun i2 hi2 => ?_)
     obtain rfl : i2 = 5 := by simpa using hi2
     clear hi2
     refine wpOp_append_exact _ rfl rfl _ _ 23 rfl lo 45 i0 (.agg #[.string ⟨#[]⟩, .slice none 0 0, .slice none 0 0, .int .i64 0]) 4 72 Tryz.underlying23 hif hz0 hz1 hz2 rfl (by decide) (.slice va ps.length vc) ps.length (ps.flatMap fmEnc) rfl OB.out.own.out.own ⟨kb, 0, none⟩ 1 1 [.string ⟨#[]⟩, .slice none 0 0, .slice none 0 0, .int .i64 0] rfl rfl hcell (by simp [Value.oneCell']) (by unfold maxLen; omega) (by omega) OB.out.own.out.top ?_
     intro v' w4 hown' hgrow hex
     obtain ⟨ga, cap', rfl⟩ := ownsRow_succ hown'
     have OG := OBx.grown OB HY.out hgrow hown' hex
     clear hown' hgrow hex HY OB hcell x0
     have x0 := cell_of_box OG.out.box
     have fq := free_of_box OG.out.box
     obtain ⟨z0, z1, z2, z3, fg⟩ := OG.out.last
     obtain ⟨-, hgl1, hgl2⟩ := OG.out.gaL
     refine ⟨fun _ => x0, ?_⟩
     simp only [zz0, zz1, zz2, Act.put, zz3, zz4, zz5]
     refine wpAnyR_all (rs := [6, 8]) (by kernel_rfl) (by simp) (fun i2 hi2 => ?_)
     rcases (show i2 = 6 \/ i2 = 8 by simpa using hi2) with rfl | rfl
     ·clear hi2
      refine wpOp_plain rfl rfl ?_
      simp only [zz0, zz1, zz2]
      go_simp
      refine wpAnyR_all (rs := [7, 8]) (by kernel_rfl) (by simp) (fun i2 hi2 => ?_)
      rcases (show i2 = 7 \/ i2 = 8 by simpa using hi2) with rfl | rfl
      ·clear hi2
       refine wpOp_plain rfl rfl ?_
       simp only [zz0, zz1, zz2]
       go_simp
       refine wpAnyR_all (rs := [8]) (by kernel_rfl) (by simp) (fun i2 hi2 => ?_)
       obtain rfl : i2 = 8 := by simpa using hi2
       clear hi2
       refine wpOp_plain rfl rfl ?_
       simp only [zz0, zz1, zz2]
       go_simp
       refine wpAnyR_done (by kernel_rfl) ?_ _
       have OF := OGx.final OG
       have hlen2 : (ps ++ [(y.1, Value.slice pa y.1.args.length ca, Value.slice pb y.1.body.length cb)]).length = ps.length + 1 := by simp
       try go_wp2_with fail
       go_roundw
       case rel => exact ⟨_, ps ++ [(y.1, .slice pa y.1.args.length ca, .slice pb y.1.body.length cb)], j3, m3, y.2, Lib.hid ⟨by rw [<- hlo]; exact OF, by omega, by omega, by omega, by rw [List.map_append]; exact h6⟩⟩
       case measure =>
        rw [HM.out]
        refine Nat.lt_of_le_of_lt (Nat.le_of_eq OF.out.par.len) ?_
        omega
      ·clear hi2
       refine wpOp_plain rfl rfl ?_
       simp only [zz0, zz1, zz2]
       go_simp
       refine wpAnyR_all (rs := [7]) (by kernel_rfl) (by simp) (fun i2 hi2 => ?_)
       obtain rfl : i2 = 7 := by simpa using hi2
       clear hi2
       refine wpOp_plain rfl rfl ?_
       simp only [zz0, zz1, zz2]
       go_simp
       refine wpAnyR_done (by kernel_rfl) ?_ _
       have OF := OGx.final2 OG
       have hlen2 : (ps ++ [(y.1, Value.slice pa y.1.args.length ca, Value.slice pb y.1.body.length cb)]).length = ps.length + 1 := by simp
       try go_wp2_with fail
       go_roundw
       case rel => exact ⟨_, ps ++ [(y.1, .slice pa y.1.args.length ca, .slice pb y.1.body.length cb)], j3, m3, y.2, Lib.hid ⟨by rw [<- hlo]; exact OF, by omega, by omega, by omega, by rw [List.map_append]; exact h6⟩⟩
       case measure =>
        rw [HM.out]
        refine Nat.lt_of_le_of_lt (Nat.le_of_eq OF.out.par.len) ?_
        omega
     ·clear hi2
      refine wpOp_plain rfl rfl ?_
      simp only [zz0, zz1, zz2]
      go_simp
      refine wpAnyR_all (rs := [6]) (by kernel_rfl) (by simp) (fun i2 hi2 => ?_)
      obtain rfl : i2 = 6 := by simpa using hi2
      clear hi2
      refine wpOp_plain rfl rfl ?_
      simp only [zz0, zz1, zz2]
      go_simp
      refine wpAnyR_all (rs := [7]) (by kernel_rfl) (by simp) (fun i2 hi2 => ?_)
      obtain rfl : i2 = 7 := by simpa using hi2
      clear hi2
      refine wpOp_plain rfl rfl ?_
      simp only [zz0, zz1, zz2]
      go_simp
      refine wpAnyR_done (by kernel_rfl) ?_ _
      have OF := OGx.final2 OG
      have hlen2 : (ps ++ [(y.1, Value.slice pa y.1.args.length ca, Value.slice pb y.1.body.length cb)]).length = ps.length + 1 := by simp
      try go_wp2_with fail
      go_roundw
      case rel => exact ⟨_, ps ++ [(y.1, .slice pa y.1.args.length ca, .slice pb y.1.body.length cb)], j3, m3, y.2, Lib.hid ⟨by rw [<- hlo]; exact OF, by omega, by omega, by omega, by rw [List.map_append]; exact h6⟩⟩
      case measure =>
       rw [HM.out]
       refine Nat.lt_of_le_of_lt (Nat.le_of_eq OF.out.par.len) ?_
       omega
theorem run_assert (v : Value) (w : World) : (Instr.typeAssert (.iface 106 v) 20 106 true).run Tryz.prog w = .ok (.tuple #[v, .bool true]) w := by kernel_rfl
theorem two_turned' (V : World) (N : Nat) (x y : Value) : Turned (fun c => c = N) V ((V.setCell ⟨N, 0, none⟩ x).setCell ⟨N, 1, none⟩ y) :=
 ((Turned.refl (fun c => c = N) V).setCell (p := ⟨N, 0, none⟩) rfl x).setCell (p := ⟨N, 1, none⟩) rfl y
theorem two_set' {V : World} {N : Nat} {a b x y : Value} {t : TypeId} (h : V.heap[N]? = some (.cells #[a, b] t (0, 0))) : ((V.setCell ⟨N, 0, none⟩ x).setCell ⟨N, 1, none⟩ y).heap[N]? = some (.cells #[x, y] t (0, 0)) := by
 simp [World.setCell, Array.getElem?_modify, h]
theorem catch_idle (N : Nat) (w : World) :
  CallsD Tryz.prog 50 #[.pointer (some ⟨N, 0, none⟩)] .returning w fun e u' w' => e = .returned (.tuple #[]) /\ u' = .returning /\ w' = w := by
 refine callsD_of_wpS Tryz.func50 rfl fun c₀ cs hu => ?_
 apply wpS_seq
 apply wpS_region
 simp [wpOpsS, go_sem, recoverD, hu, Tryz.ntmps50, Exit.thenS]
 refine wpS_of_wp ?_
 rw [show (#[Value.pointer (some ⟨N, 0, none⟩)] ++ ((Array.replicate 15 undef).setIfInBounds 3 Value.nilIface).setIfInBounds 0 Value.nilIface) = #[Value.pointer (some ⟨N, 0, none⟩), Value.nilIface, undef, undef, Value.nilIface, undef, undef, undef, undef, undef, undef, undef, undef, undef, undef, undef] from rfl]
 go_wp2_with fail
 exact ⟨rfl, .returning, by cases c₀; simp_all, _, results_none rfl _ _ _, rfl, rfl, rfl⟩
theorem catch_stop (N : Nat) (a c x y : Int) (older : List PanicEntry) (w : World) (h : w.heap[N]? = some (.cells #[.int .i64 x, .int .i64 y] 26 (0, 0))) :
  CallsD Tryz.prog 50 #[.pointer (some ⟨N, 0, none⟩)] (.panicking ({ v := .iface 106 (.agg #[.int .i64 a, .int .i64 c]), recovered := false } :: older)) w fun e u' w' =>
   e = .returned (.tuple #[]) /\ u' = .panicking ({ v := .iface 106 (.agg #[.int .i64 a, .int .i64 c]), recovered := true } :: older) /\ w'.heap[N]? = some (.cells #[.int .i64 a, .int .i64 c] 26 (0, 0)) /\ Turned (fun b => b = N) w w' := by
 have hN : N < w.heap.size := getElem?_lt h
 have c0 : w.cell? ⟨N, 0, none⟩ = some (.int .i64 x) := by simp [World.cell?, h]
 have c1 : w.cell? ⟨N, 1, none⟩ = some (.int .i64 y) := by simp [World.cell?, h]
 have f0 := free_of_box h
 have hta := run_assert
 refine callsD_of_wpS Tryz.func50 rfl fun c₀ cs hu => ?_
 apply wpS_seq
 apply wpS_region
 simp [wpOpsS, go_sem, recoverD, hu, Tryz.ntmps50, Exit.thenS]
 refine wpS_of_wp ?_
 rw [show (#[Value.pointer (some ⟨N, 0, none⟩)] ++ ((Array.replicate 15 undef).setIfInBounds 3 (Value.iface 106 (Value.agg #[.int .i64 a, .int .i64 c]))).setIfInBounds 0 (Value.iface 106 (Value.agg #[.int .i64 a, .int .i64 c]))) = #[Value.pointer (some ⟨N, 0, none⟩), Value.iface 106 (Value.agg #[.int .i64 a, .int .i64 c]), undef, undef, Value.iface 106 (Value.agg #[.int .i64 a, .int .i64 c]), undef, undef, undef, undef, undef, undef, undef, undef, undef, undef, undef] from rfl]
 go_wp2_with fail
 refine ⟨rfl, _, rfl, _, results_none rfl _ _ _, rfl, rfl, ?_, (two_turned' w N (.int .i64 a) (.int .i64 c)).alloc _⟩
 rw [hao _ _ (by simpa using hN)]
 exact two_set' h
theorem ret_bool {a b : Bool} (h : a = b) : Ending.returned (.bool a) = .returned (.bool b) := by rw [h]
theorem cls3_iff (c : Int) : clsI c = 3 ↔ c = 95 \/ (97 <= c /\ c <= 122) \/ (65 <= c /\ c <= 90) := by
 unfold clsI
 split
 ·simp_all
 ·split
  ·simp_all
  ·split <;> simp_all
theorem cls2_iff (c : Int) : clsI c = 2 ↔ 48 <= c /\ c <= 57 := by
 unfold clsI
 split
 ·constructor <;> intro h <;> omega
 ·split
  ·simp_all
  ·split <;> simp_all <;> omega
theorem cls1_iff (c : Int) : clsI c = 1 ↔ c = 32 \/ c = 9 \/ c = 10 \/ c = 13 := by
 unfold clsI
 split
 ·constructor <;> intro h <;> omega
 ·split
  ·constructor <;> intro h <;> omega
  ·split <;> simp_all
theorem rletter_any (c : Int) (w : World) (h0 : 0 <= c) (h1 : c <= 255) : Calls Tryz.prog 90 #[.int .u8 c] w fun e w' => e = .returned (.bool (decide (clsI c = 3))) /\ w = w' := by
 have HC := Lib.hid (cls3_iff c)
 go_enter Tryz.func90, Tryz.ntmps90
 by_cases a1 : 97 <= c
 ·by_cases a2 : c <= 122
  ·go_wp2
   go_ret
   exact ⟨ret_bool (by rw [Bool.eq_iff_iff]; simp [HC.out]; omega), rfl⟩
  ·have a3 : 65 <= c := by omega
   have a4 : ¬ c <= 90 := by omega
   go_wp2
   go_ret
   exact ⟨ret_bool (by rw [Bool.eq_iff_iff]; simp [HC.out]; omega), rfl⟩
 ·by_cases a3 : 65 <= c
  ·by_cases a4 : c <= 90
   ·go_wp2
    go_ret
    exact ⟨ret_bool (by rw [Bool.eq_iff_iff]; simp [HC.out]; omega), rfl⟩
   ·go_wp2
    go_ret
    exact ⟨ret_bool (by rw [Bool.eq_iff_iff]; simp [HC.out]; omega), rfl⟩
  ·go_wp2
   go_ret
   exact ⟨ret_bool (by rw [Bool.eq_iff_iff]; simp [HC.out]; omega), rfl⟩
theorem rdigit_any (c : Int) (w : World) (h0 : 0 <= c) (h1 : c <= 255) : Calls Tryz.prog 92 #[.int .u8 c] w fun e w' => e = .returned (.bool (decide (clsI c = 2))) /\ w = w' := by
 have HC := Lib.hid (cls2_iff c)
 go_enter Tryz.func92, Tryz.ntmps92
 by_cases a1 : 48 <= c
 ·go_wp2
  go_ret
  exact ⟨ret_bool (by rw [Bool.eq_iff_iff]; simp [HC.out]; omega), rfl⟩
 ·go_wp2
  go_ret
  exact ⟨ret_bool (by rw [Bool.eq_iff_iff]; simp [HC.out]; omega), rfl⟩
def pairI (c : Int) : Int := if c = 34 then 34 else if c = 92 then 92 else if c = 110 then 10 else 0
theorem ret_u8 {a b : Int} (h : a = b) : Ending.returned (.int .u8 a) = .returned (.int .u8 b) := by rw [h]
theorem rpair_any (c : Int) (w : World) : Calls Tryz.prog 115 #[.int .u8 c] w fun e w' => e = .returned (.int .u8 (pairI c)) /\ w = w' := by
 go_enter Tryz.func115, Tryz.ntmps115
 go_wp2
 all_goals go_ret
 all_goals refine ⟨ret_u8 ?_, rfl⟩
 all_goals (unfold pairI; simp_all)
theorem rblank_any (s : ByteArray) (k : Nat) (w : World) (hs : s.size <= 70000) (hk : k <= s.size) : Calls Tryz.prog 59 #[.string s, .int .i64 k] w fun e w' => e = .returned (.int .i64 ((blankTo s k : Nat))) /\ w = w' := by
 go_enter Tryz.func59, Tryz.ntmps59
 go_wp2
 go_loop [1] (fun u => ∃ j : Nat, j <= s.size /\ u = (.int .i64 j) /\ Hid (blankTo s j = blankTo s k)) (fun u => s.size - (intOf u).toNat)
 case atStart => exact ⟨k, hk, rfl, rfl⟩
 case round =>
  obtain ⟨j, hj, rfl, HJ⟩ := hrel
  by_cases hlt : j < s.size
  ·have hb : (s[j].toNat : Int) <= 255 := by have := s[j].toNat_lt; omega
   have h35 : s[j] = 35 ↔ (s[j].toNat : Int) = 35 := ⟨fun h => by rw [h]; rfl, fun h => UInt8.toNat_inj.1 (by simpa using Int.ofNat_inj.1 h)⟩
   have h10 : ∀ i (h : i < s.size), s[i] = 10 ↔ (s[i].toNat : Int) = 10 := fun i h => ⟨fun h => by rw [h]; rfl, fun h => UInt8.toNat_inj.1 (by simpa using Int.ofNat_inj.1 h)⟩
   have H1 := Lib.hid (fun h : cls s[j] = 1 => (blankTo_blank s j hlt h).symm.trans HJ.out)
   have H2 := Lib.hid (fun h : s[j] = 35 => ((inComment_step s j hlt (by rw [h]; decide)).trans (blankTo_comment s j hlt h).symm).trans HJ.out)
   have H3 := Lib.hid (fun (h : cls s[j] ≠ 1) (h2 : s[j] ≠ 35) => (blankTo_stop s j hlt h h2).symm.trans HJ.out)
   have HC := Lib.hid (cls1_iff (s[j].toNat : Int))
   have H35 := Lib.hid h35
   have H10 := Lib.hid h10
   clear h35 h10
   generalize hx : (s[j].toNat : Int) = x at hb HC
   have H6 : Hid (cls s[j] = clsI x) := by show _ = _; rw [<- hx]; rfl
   by_cases b1 : x = 32
   ·go_wp2
    go_round
    case rel => exact ⟨j + 1, by omega, by go_num, H1.out (by rw [H6.out, HC.out]; omega)⟩
    case measure => simp [intOf]; omega
   by_cases b2 : x = 9
   ·go_wp2
    go_round
    case rel => exact ⟨j + 1, by omega, by go_num, H1.out (by rw [H6.out, HC.out]; omega)⟩
    case measure => simp [intOf]; omega
   by_cases b3 : x = 10
   ·go_wp2
    go_round
    case rel => exact ⟨j + 1, by omega, by go_num, H1.out (by rw [H6.out, HC.out]; omega)⟩
    case measure => simp [intOf]; omega
   by_cases b4 : x = 13
   ·go_wp2
    go_round
    case rel => exact ⟨j + 1, by omega, by go_num, H1.out (by rw [H6.out, HC.out]; omega)⟩
    case measure => simp [intOf]; omega
   by_cases b5 : x = 35
   ·have H7 := Lib.hid (H2.out (H35.out.2 (by rw [hx, b5])))
    go_wp2
    go_loop [1] (fun u => ∃ i : Nat, j <= i /\ i <= s.size /\ u = (.int .i64 i) /\ Hid (inComment s i = blankTo s k)) (fun u => s.size - (intOf u).toNat)
    case atStart => exact ⟨j, Nat.le_refl _, by omega, rfl, H7⟩
    case round =>
     obtain ⟨i, hi1, hi2, rfl, HI⟩ := hrel
     by_cases hi : i < s.size
     ·by_cases b6 : (s[i].toNat : Int) = 10
      ·have H8 : Hid (blankTo s i = blankTo s k) := (inComment_line s i hi ((H10.out i hi).2 b6)).symm.trans HI.out
       have hne : i ≠ j := fun h => by subst h; omega
       go_wp2
       go_round
       case rel => exact ⟨i, by omega, rfl, H8⟩
       case measure => simp [intOf]; omega
      ·have H8 : Hid (inComment s (i + 1) = blankTo s k) := (inComment_step s i hi (fun h => b6 ((H10.out i hi).1 h))).symm.trans HI.out
       go_wp2
       go_round
       case rel => exact ⟨i + 1, by omega, by omega, by go_num, H8⟩
       case measure => simp [intOf]; omega
     ·obtain rfl : i = s.size := by omega
      have H8 : Hid (blankTo s s.size = blankTo s k) := (blankTo_end s _ (Nat.le_refl _)).trans ((inComment_end s _ (Nat.le_refl _)).symm.trans HI.out)
      go_wp2
      go_round
      case rel => exact ⟨s.size, by omega, rfl, H8⟩
      case measure => simp [intOf]; omega
   ·have H7 := Lib.hid (H3.out (by rw [H6.out]; intro h; rw [HC.out] at h; omega) (fun h => b5 (by rw [<- hx]; exact H35.out.1 h)))
    have k32 : (x == 32) = false := by simpa using b1
    have k9 : (x == 9) = false := by simpa using b2
    have k10 : (x == 10) = false := by simpa using b3
    have k13 : (x == 13) = false := by simpa using b4
    have k35 : (x == 35) = false := by simpa using b5
    go_wp2
    go_ret
    exact ⟨ret_int (by have := H7.out; omega), rfl⟩
  ·have HE : Hid (blankTo s k = j) := by show _ = _; rw [<- HJ.out, blankTo_end s j (by omega)]
   go_wp2
   go_ret
   exact ⟨ret_int (by have := HE.out; omega), rfl⟩
def oneV : TR -> Value
 | .tok t tt => .agg #[.int .i64 t.kind, .int .i64 t.at_, .string t.s, .int .i64 t.n, .int .i64 tt, .int .i64 0]
 | .err c => .agg #[.int .i64 0, .int .i64 0, .string ⟨#[]⟩, .int .i64 0, .int .i64 0, .int .i64 c]
 | .none => undef
theorem rname_any (s : ByteArray) (k : Nat) (w : World) (hs : s.size <= 70000) (hk : k < s.size) (hc : clsI s[k].toNat = 3) : Calls Tryz.prog 91 #[.string s, .int .i64 k] w fun e w' => e = .returned (oneV (nameT s k)) /\ Turned (fun _ => False) w w' := by
 have HN : Hid (nameT s k = if 32 < spanTo s k 2 - k then .err 2 else .tok ⟨1, k, s.extract k (spanTo s k 2), 0⟩ (spanTo s k 2)) := by
  show _ = _
  unfold nameT; rw [rest_head s k hk, if_neg (by simpa using hc)]
 clear hc
 have hto := spanTo_le s k 2 (by omega)
 have hge := spanTo_ge s k 2
 go_enter Tryz.func91, Tryz.ntmps91
 go_wp2
 go_loop [5] (fun u => ∃ j : Nat, k <= j /\ j <= s.size /\ u = (.int .i64 j) /\ Hid (j + spanL 2 (rest s j) = spanTo s k 2)) (fun u => s.size - (intOf u).toNat)
 case atStart => exact ⟨k, Nat.le_refl _, by omega, rfl, rfl⟩
 case round =>
  obtain ⟨j, hj1, hj2, rfl, HJ⟩ := hrel
  by_cases hlt : j < s.size
  ·have hb : (s[j].toNat : Int) <= 255 := by have := s[j].toNat_lt; omega
   have hr := rest_cons s j hlt
   have HY : Hid (2 <= cls s[j] -> j + 1 + spanL 2 (rest s (j + 1)) = spanTo s k 2) := fun h => by
    rw [<- HJ.out, hr, spanL_cons_yes h]; omega
   have HZ : Hid (cls s[j] < 2 -> j = spanTo s k 2) := fun h => by
    rw [<- HJ.out, hr, spanL_cons_no h]; rfl
   clear hr
   have HC := Lib.hid (fun W => rletter_any (s[j].toNat : Int) W (by omega) hb)
   have HD := Lib.hid (fun W => rdigit_any (s[j].toNat : Int) W (by omega) hb)
   have hcd := cls_bd (s[j].toNat : Int)
   by_cases h3 : clsI (s[j].toNat : Int) = 3
   ·have HK := Lib.hid (HY.out (by unfold cls; omega))
    go_wp2_with (first | (go_at_call 90; refine (HC.out _).mono ?_; rintro e w' ⟨rfl, rfl⟩) | (go_at_call 92; refine (HD.out _).mono ?_; rintro e w' ⟨rfl, rfl⟩))
    go_round
    case rel => exact ⟨j + 1, by omega, by omega, by go_num, HK⟩
    case measure => simp [intOf]; omega
   ·by_cases h2 : clsI (s[j].toNat : Int) = 2
    ·have HK := Lib.hid (HY.out (by unfold cls; omega))
     go_wp2_with (first | (go_at_call 90; refine (HC.out _).mono ?_; rintro e w' ⟨rfl, rfl⟩) | (go_at_call 92; refine (HD.out _).mono ?_; rintro e w' ⟨rfl, rfl⟩))
     go_round
     case rel => exact ⟨j + 1, by omega, by omega, by go_num, HK⟩
     case measure => simp [intOf]; omega
    ·have HK := Lib.hid (HZ.out (by unfold cls; omega))
     have hw : IntKind.i64.wrap ((j : Int) - k) = (j : Int) - k := IntWalk.i64_in _ (by omega)
     by_cases hl : 32 < j - k
     ·have hl2 : (32 : Int) < (j : Int) - k := by omega
      go_wp2_with (first | (go_at_call 90; refine (HC.out _).mono ?_; rintro e w' ⟨rfl, rfl⟩) | (go_at_call 92; refine (HD.out _).mono ?_; rintro e w' ⟨rfl, rfl⟩))
      exact bodyPost_ret (v := oneV (.err 2)) (by simp [results, Tryz.results91, go_sem, oneV]) rfl ⟨by rw [HN.out, <- HK.out, if_pos hl], (Turned.refl _ _).alloc _⟩
     ·have hl2 : (j : Int) - k <= 32 := by omega
      go_wp2_with (first | (go_at_call 90; refine (HC.out _).mono ?_; rintro e w' ⟨rfl, rfl⟩) | (go_at_call 92; refine (HD.out _).mono ?_; rintro e w' ⟨rfl, rfl⟩))
      exact bodyPost_ret (v := oneV (.tok ⟨1, k, s.extract k j, 0⟩ j)) (by simp [results, Tryz.results91, go_sem, oneV]) rfl ⟨by rw [HN.out, <- HK.out, if_neg hl], (Turned.refl _ _).alloc _⟩
  ·obtain rfl : j = s.size := by omega
   have HK : Hid (s.size = spanTo s k 2) := by show _ = _; rw [<- HJ.out, rest_nil s _ (Nat.le_refl _)]; rfl
   have hw : IntKind.i64.wrap ((s.size : Int) - k) = (s.size : Int) - k := IntWalk.i64_in _ (by omega)
   by_cases hl : 32 < s.size - k
   ·have hl2 : (32 : Int) < (s.size : Int) - k := by omega
    go_wp2
    exact bodyPost_ret (v := oneV (.err 2)) (by simp [results, Tryz.results91, go_sem, oneV]) rfl ⟨by rw [HN.out, <- HK.out, if_pos hl], (Turned.refl _ _).alloc _⟩
   ·have hl2 : (s.size : Int) - k <= 32 := by omega
    go_wp2
    exact bodyPost_ret (v := oneV (.tok ⟨1, k, s.extract k s.size, 0⟩ s.size)) (by simp [results, Tryz.results91, go_sem, oneV]) rfl ⟨by rw [HN.out, <- HK.out, if_neg hl], (Turned.refl _ _).alloc _⟩
end Go.Proofs.YtjijdgkccfeeaaaGreatDoor
