/- Part 30 of the proof of card: ParOpen, ParFewA, ParFewB, ParTxQ, ParTxR, ParSameR. Conditions: those of each theorem. -/
import Derived.Deep.CutBlock
import Derived.Deep.DeepCutAuto
import Derived.Test.YtjijdgkccfeeaaaGreatDoorPt01
import Derived.Test.YtjijdgkccfeeaaaGreatDoorPt02
import Derived.Test.YtjijdgkccfeeaaaGreatDoorPt07
import Derived.Test.YtjijdgkccfeeaaaGreatDoorPt10
import Derived.Test.YtjijdgkccfeeaaaGreatDoorPt18
import Derived.Test.YtjijdgkccfeeaaaGreatDoorPt29
set_option maxRecDepth 20000
set_option maxHeartbeats 8000000
namespace Go.Proofs.YtjijdgkccfeeaaaGreatDoor
open Go Go.RowKit Go.WideShapes Go.ChangeShapes Go.Deep
def I64 (z : Int) : Prop := -9223372036854775808 <= z /\ z <= 9223372036854775807
inductive WfX : Ex -> Prop
 | mk (p n : Int) (s : ByteArray) (ks : List Ex) (a : Int) (hp : I64 p) (hn : I64 n) (ha : I64 a) (hl : ks.length <= maxLen) (hk : ∀ k ∈ ks, WfX k) : WfX (.mk p n s ks a)
def WfA (a : Ar) : Prop := I64 a.kind /\ I64 a.n /\ I64 a.at_ /\ WfX a.e
inductive WfF : Fm -> Prop
 | mk (w : ByteArray) (zs : List Ar) (fs : List Fm) (a : Int) (ha : I64 a) (hl : zs.length <= maxLen) (hm : fs.length <= maxLen) (hz : ∀ z ∈ zs, WfA z) (hf : ∀ f ∈ fs, WfF f) : WfF (.mk w zs fs a)
theorem cInt : Tryz.prog.cellsOf 3 = 1 := by kernel_rfl
theorem cString : Tryz.prog.cellsOf 9 = 1 := by kernel_rfl
theorem cExprs : Tryz.prog.cellsOf 29 = 1 := by kernel_rfl
theorem cArgs : Tryz.prog.cellsOf 43 = 1 := by kernel_rfl
theorem cForms : Tryz.prog.cellsOf 23 = 1 := by kernel_rfl
theorem cExpr : Tryz.prog.cellsOf 31 = 5 := by kernel_rfl
theorem cArg : Tryz.prog.cellsOf 48 = 9 := by kernel_rfl
theorem cForm : Tryz.prog.cellsOf 45 = 4 := by kernel_rfl
theorem i64_wf {z : Int} (h : (Lit.int .i64 z).wf = true) : I64 z := by
 have h2 : IntKind.i64.min <= z /\ z <= IntKind.i64.max := by simpa [Lit.wf] using h
 exact h2
section
variable {H : Type} {enc : TypeId × Value -> H} {w : World} {held : Bool}
theorem elems_open {P : Program} {t e : TypeId} {fuel : Nat} {v : Value} {x : DataW H × List MemPlace} (ht : P.underlying t = some (.slice e)) (hpos : 0 < P.cellsOf e) (h : DataW.trod enc P w 0 (fun _ => true) held fuel t [v] = some x) :
  (∃ p c, v = .slice p 0 c) \/ ∃ b off len cap n, fuel = n + 1 /\ v = .slice (some ⟨b, off, none⟩) len cap /\ 0 < len /\ len <= maxLen /\ b < w.heap.size /\
   ∀ i, i < len -> ∃ cs y, DataW.trod enc P w 0 (fun _ => true) held n e cs = some y /\ cs.length = P.cellsOf e /\ ∀ j, j < P.cellsOf e -> w.cell? ⟨b, off + (i * P.cellsOf e + j), none⟩ = cs[j]? := by
 rcases DataW.trod_slice ht h with ⟨h0, -⟩ | ⟨a, len, cap, elems, rest, n, rfl, hcs, -, -, hl, hm, hlen, hel, -, -⟩
 ·simp only [List.cons.injEq, and_true] at h0
  exact .inl ⟨none, 0, h0⟩
 ·simp only [List.cons.injEq, and_true] at hcs
  subst hcs
  by_cases h0 : len = 0
  ·subst h0; exact .inl ⟨some a, cap, rfl⟩
  ·obtain ⟨b, off, spot⟩ := a
   have key : ∀ i, i < len -> ∃ cs y, w.cells? 0 ((⟨b, off, spot⟩ : Addr).add (i * P.cellsOf e)) (P.cellsOf e) = some cs /\ DataW.trod enc P w 0 (fun _ => true) held n e cs = some y := fun i hi => by
    have h1 := hel i hi
    rw [List.getElem?_eq_getElem (by omega)] at h1
    obtain ⟨cs, h2, h3⟩ := Option.bind_eq_some_iff.1 h1
    exact ⟨cs, _, h2, h3⟩
   obtain ⟨cs0, y0, hc0, -⟩ := key 0 (by omega)
   obtain ⟨-, hl0, hat0⟩ := World.cells?_some hc0
   have hcell := hat0 0 hpos
   rw [List.getElem?_eq_getElem (by omega)] at hcell
   have hspot : spot = none := by simpa [Addr.add] using World.cell?_spot hcell
   subst hspot
   refine .inr ⟨b, off, len, cap, n, rfl, rfl, by omega, by omega, ?_, fun i hi => ?_⟩
   ·rcases Nat.lt_or_ge b w.heap.size with h' | h'
    ·exact h'
    ·simp [World.cell?, Addr.add, Array.getElem?_eq_none h'] at hcell
   ·obtain ⟨cs, y, hc, hy⟩ := key i hi
    obtain ⟨-, hl1, hat⟩ := World.cells?_some hc
    refine ⟨cs, y, hy, hl1, fun j hj => ?_⟩
    have := hat j hj
    rw [Addr.add_lit, Addr.add_lit, Nat.add_assoc] at this
    exact this
theorem expr_open {fuel : Nat} {cs : List Value} {x : DataW H × List MemPlace} (hl : cs.length = 5) (h : DataW.trod enc Tryz.prog w 0 (fun _ => true) held fuel 31 cs = some x) :
  ∃ n op nn s v at_ y, fuel = n + 1 /\ cs = [(.int .i64 op), .int .i64 nn, .string s, v, .int .i64 at_] /\ I64 op /\ I64 nn /\ I64 at_ /\ DataW.trod enc Tryz.prog w 0 (fun _ => true) held n 29 [v] = some y := by
 match cs, hl with
 | [c0, c1, c2, c3, c4], _ =>
  obtain ⟨xs, n, rfl, -, -, hxl, hf⟩ := DataW.trod_struct Tryz.underlying31 h
  have hxl5 : xs.length = 5 := hxl
  have g0 : DataW.trod enc Tryz.prog w 0 (fun _ => true) held n 3 (([c0, c1, c2, c3, c4].drop 0).take (Tryz.prog.cellsOf 3)) = xs[0]? := hf 0 _ rfl
  rw [cInt, List.getElem?_eq_getElem (by omega)] at g0
  have g1 : DataW.trod enc Tryz.prog w 0 (fun _ => true) held n 3 (([c0, c1, c2, c3, c4].drop 1).take (Tryz.prog.cellsOf 3)) = xs[1]? := hf 1 _ rfl
  rw [cInt, List.getElem?_eq_getElem (by omega)] at g1
  have g2 : DataW.trod enc Tryz.prog w 0 (fun _ => true) held n 9 (([c0, c1, c2, c3, c4].drop 2).take (Tryz.prog.cellsOf 9)) = xs[2]? := hf 2 _ rfl
  rw [cString, List.getElem?_eq_getElem (by omega)] at g2
  have g3 : DataW.trod enc Tryz.prog w 0 (fun _ => true) held n 29 (([c0, c1, c2, c3, c4].drop 3).take (Tryz.prog.cellsOf 29)) = xs[3]? := hf 3 _ rfl
  rw [cExprs, List.getElem?_eq_getElem (by omega)] at g3
  have g4 : DataW.trod enc Tryz.prog w 0 (fun _ => true) held n 3 (([c0, c1, c2, c3, c4].drop 4).take (Tryz.prog.cellsOf 3)) = xs[4]? := hf 4 _ rfl
  rw [cInt, List.getElem?_eq_getElem (by omega)] at g4
  obtain ⟨z0, e0, -, f0⟩ := DataW.trod_int Tryz.underlying3 g0
  obtain ⟨z1, e1, -, f1⟩ := DataW.trod_int Tryz.underlying3 g1
  obtain ⟨s, e2, -, -⟩ := DataW.trod_string Tryz.underlying9 g2
  obtain ⟨z4, e4, -, f4⟩ := DataW.trod_int Tryz.underlying3 g4
  simp at e0 e1 e2 e4
  subst e0 e1 e2 e4
  exact ⟨n, z0, z1, s, c3, z4, _, rfl, rfl, i64_wf f0, i64_wf f1, i64_wf f4, g3⟩
theorem kids_open : ∀ (fuel : Nat) (v : Value) (x : DataW H × List MemPlace), DataW.trod enc Tryz.prog w 0 (fun _ => true) held fuel 29 [v] = some x ->
  ∃ kids, (∃ p c, v = .slice p kids.length c) /\ KidsAt w (fun b => b < w.heap.size) kids v /\ (∀ k ∈ kids, WfX k) /\ kids.length <= maxLen := by
 intro fuel
 induction fuel using Nat.strongRecOn with
 | _ fuel ih =>
  intro v x h
  rcases elems_open Tryz.underlying29 (by rw [cExpr]; omega) h with ⟨p, c, rfl⟩ | ⟨b, off, len, cap, n, rfl, rfl, hpos, hlen, hb, hi⟩
  ·exact ⟨[], ⟨p, c, rfl⟩, .nil p c, (fun _ hk => by cases hk), by simp⟩
  ·obtain ⟨l, hl, hq⟩ := exists_list (noEx, undef) (fun i (q : Ex × Value) => (∀ j u, (exV q.1 q.2)[j]? = some u -> w.cell? ⟨b, off + i * 5 + j, none⟩ = some u) /\ KidsAt w (fun b => b < w.heap.size) q.1.kids q.2 /\ WfX q.1) len (fun i hil => by
    obtain ⟨cs, y, hy, hcl, hcell⟩ := hi i hil
    rw [cExpr] at hcl hcell
    obtain ⟨n', op, nn, s, v, at_, y', rfl, rfl, i1, i2, i3, hk⟩ := expr_open hcl hy
    obtain ⟨kids, -, hka, hwf, hkl⟩ := ih n' (by omega) v y' hk
    refine ⟨(.mk op nn s kids at_, v), fun j u hu => ?_, hka, .mk _ _ _ _ _ i1 i2 i3 hkl hwf⟩
    have hj : j < 5 := by
     have := (List.getElem?_eq_some_iff.1 hu).1
     simpa [exV] using this
    have := hcell j hj
    rw [<- Nat.add_assoc] at this
    rw [this]
    exact hu)
   have hg : ∀ i, i < len -> l[i]? = some (l.getD i (noEx, undef)) := fun i hil => by
    rw [List.getD_eq_getElem?_getD, List.getElem?_eq_getElem (by omega)]; rfl
   have hlm : (l.map (·.1)).length = len := by rw [List.length_map, hl]
   refine ⟨l.map (·.1), ⟨_, cap, by rw [hlm]⟩, ?_, fun k hk => ?_, by omega⟩
   ·rw [<- hlm]
    refine KidsAt.some (N := fun b => b < w.heap.size) (l.map (·.1)) b off cap (fun i => (l.getD i (noEx, undef)).2) hb (by omega) (fun i hil j u hu => ?_) (fun i x hx => ?_)
    ·rw [hlm] at hil
     dsimp only at hu
     rw [List.getElem?_map, hg i hil] at hu
     exact (hq i hil).1 j u hu
    ·have hil : i < len := by have := lt_of_some hx; omega
     rw [List.getElem?_map, hg i hil] at hx
     cases hx
     exact (hq i hil).2.1
   ·obtain ⟨q, hqm, rfl⟩ := List.mem_map.1 hk
    obtain ⟨i, hx⟩ := List.getElem?_of_mem hqm
    have hil : i < len := by have := lt_of_some hx; omega
    rw [hg i hil] at hx
    cases hx
    exact (hq i hil).2.2
theorem ex_open {fuel : Nat} {cs : List Value} {x : DataW H × List MemPlace} (hl : cs.length = 5) (h : DataW.trod enc Tryz.prog w 0 (fun _ => true) held fuel 31 cs = some x) : ∃ e v, cs = exV e v /\ KidsAt w (fun b => b < w.heap.size) e.kids v /\ WfX e := by
 obtain ⟨n, op, nn, s, v, at_, y, -, rfl, i1, i2, i3, hk⟩ := expr_open hl h
 obtain ⟨kids, -, hka, hwf, hkl⟩ := kids_open n v y hk
 exact ⟨.mk op nn s kids at_, v, rfl, hka, .mk _ _ _ _ _ i1 i2 i3 hkl hwf⟩
theorem arg_open {fuel : Nat} {cs : List Value} {x : DataW H × List MemPlace} (hl : cs.length = 9) (h : DataW.trod enc Tryz.prog w 0 (fun _ => true) held fuel 48 cs = some x) : ∃ a v, cs = arV a v /\ KidsAt w (fun b => b < w.heap.size) a.e.kids v /\ WfA a := by
 match cs, hl with
 | [c0, c1, c2, c3, c4, c5, c6, c7, c8], _ =>
  obtain ⟨xs, n, rfl, -, -, hxl, hf⟩ := DataW.trod_struct Tryz.underlying48 h
  have hxl5 : xs.length = 5 := hxl
  have g0 : DataW.trod enc Tryz.prog w 0 (fun _ => true) held n 3 (([c0, c1, c2, c3, c4, c5, c6, c7, c8].drop 0).take (Tryz.prog.cellsOf 3)) = xs[0]? := hf 0 _ rfl
  rw [cInt, List.getElem?_eq_getElem (by omega)] at g0
  have g1 : DataW.trod enc Tryz.prog w 0 (fun _ => true) held n 3 (([c0, c1, c2, c3, c4, c5, c6, c7, c8].drop 1).take (Tryz.prog.cellsOf 3)) = xs[1]? := hf 1 _ rfl
  rw [cInt, List.getElem?_eq_getElem (by omega)] at g1
  have g2 : DataW.trod enc Tryz.prog w 0 (fun _ => true) held n 9 (([c0, c1, c2, c3, c4, c5, c6, c7, c8].drop 2).take (Tryz.prog.cellsOf 9)) = xs[2]? := hf 2 _ rfl
  rw [cString, List.getElem?_eq_getElem (by omega)] at g2
  have g3 : DataW.trod enc Tryz.prog w 0 (fun _ => true) held n 31 (([c0, c1, c2, c3, c4, c5, c6, c7, c8].drop 3).take (Tryz.prog.cellsOf 31)) = xs[3]? := hf 3 _ rfl
  rw [cExpr, List.getElem?_eq_getElem (by omega)] at g3
  have g4 : DataW.trod enc Tryz.prog w 0 (fun _ => true) held n 3 (([c0, c1, c2, c3, c4, c5, c6, c7, c8].drop 8).take (Tryz.prog.cellsOf 3)) = xs[4]? := hf 4 _ rfl
  rw [cInt, List.getElem?_eq_getElem (by omega)] at g4
  obtain ⟨z0, e0, -, f0⟩ := DataW.trod_int Tryz.underlying3 g0
  obtain ⟨z1, e1, -, f1⟩ := DataW.trod_int Tryz.underlying3 g1
  obtain ⟨s, e2, -, -⟩ := DataW.trod_string Tryz.underlying9 g2
  obtain ⟨e, v, e3, hk, hw⟩ := ex_open (by simp) g3
  obtain ⟨z4, e4, -, f4⟩ := DataW.trod_int Tryz.underlying3 g4
  simp at e0 e1 e2 e4
  simp only [List.drop_succ_cons, List.drop_zero, List.take_succ_cons, List.take_zero, exV, List.cons.injEq, and_true] at e3
  obtain ⟨e30, e31, e32, e33, e34⟩ := e3
  subst e0 e1 e2 e4 e30 e31 e32 e33 e34
  exact ⟨⟨z0, z1, s, e, z4⟩, c6, rfl, hk, i64_wf f0, i64_wf f1, i64_wf f4, hw⟩
theorem args_open {fuel : Nat} {v : Value} {x : DataW H × List MemPlace} (h : DataW.trod enc Tryz.prog w 0 (fun _ => true) held fuel 43 [v] = some x) :
  ∃ zs, (∃ p c, v = .slice p zs.length c) /\ ArgsAt w (fun b => b < w.heap.size) zs v /\ (∀ z ∈ zs, WfA z) /\ zs.length <= maxLen := by
 rcases elems_open Tryz.underlying43 (by rw [cArg]; omega) h with ⟨p, c, rfl⟩ | ⟨b, off, len, cap, n, rfl, rfl, hpos, hlen, hb, hi⟩
 ·exact ⟨[], ⟨p, c, rfl⟩, .nil p c, (fun _ hk => by cases hk), by simp⟩
 ·obtain ⟨l, hl, hq⟩ := exists_list (⟨0, 0, noB, noEx, 0⟩, undef) (fun i (q : Ar × Value) => (∀ j u, (arV q.1 q.2)[j]? = some u -> w.cell? ⟨b, off + i * 9 + j, none⟩ = some u) /\ KidsAt w (fun b => b < w.heap.size) q.1.e.kids q.2 /\ WfA q.1) len (fun i hil => by
   obtain ⟨cs, y, hy, hcl, hcell⟩ := hi i hil
   rw [cArg] at hcl hcell
   obtain ⟨a, v, rfl, hka, hwf⟩ := arg_open hcl hy
   refine ⟨(a, v), fun j u hu => ?_, hka, hwf⟩
   have hj : j < 9 := by
    have := (List.getElem?_eq_some_iff.1 hu).1
    simpa [arV] using this
   have := hcell j hj
   rw [<- Nat.add_assoc] at this
   rw [this]
   exact hu)
  have hg : ∀ i, i < len -> l[i]? = some (l.getD i (⟨0, 0, noB, noEx, 0⟩, undef)) := fun i hil => by
   rw [List.getD_eq_getElem?_getD, List.getElem?_eq_getElem (by omega)]; rfl
  have hlm : (l.map (·.1)).length = len := by rw [List.length_map, hl]
  refine ⟨l.map (·.1), ⟨_, cap, by rw [hlm]⟩, ?_, fun k hk => ?_, by omega⟩
  ·rw [<- hlm]
   refine ArgsAt.some (N := fun b => b < w.heap.size) (l.map (·.1)) b off cap (fun i => (l.getD i (⟨0, 0, noB, noEx, 0⟩, undef)).2) hb (by omega) (fun i hil j u hu => ?_) (fun i x hx => ?_)
   ·rw [hlm] at hil
    dsimp only at hu
    rw [List.getElem?_map, hg i hil] at hu
    exact (hq i hil).1 j u hu
   ·have hil : i < len := by have := lt_of_some hx; omega
    rw [List.getElem?_map, hg i hil] at hx
    cases hx
    exact (hq i hil).2.1
  ·obtain ⟨q, hqm, rfl⟩ := List.mem_map.1 hk
   obtain ⟨i, hx⟩ := List.getElem?_of_mem hqm
   have hil : i < len := by have := lt_of_some hx; omega
   rw [hg i hil] at hx
   cases hx
   exact (hq i hil).2.2
theorem form_open {fuel : Nat} {cs : List Value} {x : DataW H × List MemPlace} (hl : cs.length = 4) (h : DataW.trod enc Tryz.prog w 0 (fun _ => true) held fuel 45 cs = some x) :
  ∃ n s u v at_ y0 y1, fuel = n + 1 /\ cs = [.string s, u, v, .int .i64 at_] /\ I64 at_ /\ DataW.trod enc Tryz.prog w 0 (fun _ => true) held n 43 [u] = some y0 /\ DataW.trod enc Tryz.prog w 0 (fun _ => true) held n 23 [v] = some y1 := by
 match cs, hl with
 | [c0, c1, c2, c3], _ =>
  obtain ⟨xs, n, rfl, -, -, hxl, hf⟩ := DataW.trod_struct Tryz.underlying45 h
  have hxl5 : xs.length = 4 := hxl
  have g0 : DataW.trod enc Tryz.prog w 0 (fun _ => true) held n 9 (([c0, c1, c2, c3].drop 0).take (Tryz.prog.cellsOf 9)) = xs[0]? := hf 0 _ rfl
  rw [cString, List.getElem?_eq_getElem (by omega)] at g0
  have g1 : DataW.trod enc Tryz.prog w 0 (fun _ => true) held n 43 (([c0, c1, c2, c3].drop 1).take (Tryz.prog.cellsOf 43)) = xs[1]? := hf 1 _ rfl
  rw [cArgs, List.getElem?_eq_getElem (by omega)] at g1
  have g2 : DataW.trod enc Tryz.prog w 0 (fun _ => true) held n 23 (([c0, c1, c2, c3].drop 2).take (Tryz.prog.cellsOf 23)) = xs[2]? := hf 2 _ rfl
  rw [cForms, List.getElem?_eq_getElem (by omega)] at g2
  have g3 : DataW.trod enc Tryz.prog w 0 (fun _ => true) held n 3 (([c0, c1, c2, c3].drop 3).take (Tryz.prog.cellsOf 3)) = xs[3]? := hf 3 _ rfl
  rw [cInt, List.getElem?_eq_getElem (by omega)] at g3
  obtain ⟨s, e0, -, -⟩ := DataW.trod_string Tryz.underlying9 g0
  obtain ⟨z3, e3, -, f3⟩ := DataW.trod_int Tryz.underlying3 g3
  simp at e0 e3
  subst e0 e3
  exact ⟨n, s, c1, c2, z3, _, _, rfl, rfl, i64_wf f3, g1, g2⟩
theorem forms_open : ∀ (fuel : Nat) (v : Value) (x : DataW H × List MemPlace), DataW.trod enc Tryz.prog w 0 (fun _ => true) held fuel 23 [v] = some x ->
  ∃ fs, (∃ p c, v = .slice p fs.length c) /\ FormsAt w (fun b => b < w.heap.size) fs v /\ (∀ f ∈ fs, WfF f) /\ fs.length <= maxLen := by
 intro fuel
 induction fuel using Nat.strongRecOn with
 | _ fuel ih =>
  intro v x h
  rcases elems_open Tryz.underlying23 (by rw [cForm]; omega) h with ⟨p, c, rfl⟩ | ⟨b, off, len, cap, n, rfl, rfl, hpos, hlen, hb, hi⟩
  ·exact ⟨[], ⟨p, c, rfl⟩, .nil p c, (fun _ hk => by cases hk), by simp⟩
  ·obtain ⟨l, hl, hq⟩ := exists_list (.mk noB [] [] 0, undef, undef) (fun i (q : Fm × Value × Value) => (∀ j u, (fmV q.1 q.2.1 q.2.2)[j]? = some u -> w.cell? ⟨b, off + i * 4 + j, none⟩ = some u) /\ ArgsAt w (fun b => b < w.heap.size) q.1.args q.2.1 /\ FormsAt w (fun b => b < w.heap.size) q.1.body q.2.2 /\ WfF q.1) len (fun i hil => by
    obtain ⟨cs, y, hy, hcl, hcell⟩ := hi i hil
    rw [cForm] at hcl hcell
    obtain ⟨n', s, u, v, at_, y0, y1, rfl, rfl, i3, ha, hb2⟩ := form_open hcl hy
    obtain ⟨zs, -, hza, hzw, hzl⟩ := args_open ha
    obtain ⟨fs, -, hfa, hfw, hfl⟩ := ih n' (by omega) v y1 hb2
    refine ⟨(.mk s zs fs at_, u, v), fun j u hu => ?_, hza, hfa, .mk _ _ _ _ i3 hzl hfl hzw hfw⟩
    have hj : j < 4 := by
     have := (List.getElem?_eq_some_iff.1 hu).1
     simpa [fmV] using this
    have := hcell j hj
    rw [<- Nat.add_assoc] at this
    rw [this]
    exact hu)
   have hg : ∀ i, i < len -> l[i]? = some (l.getD i (.mk noB [] [] 0, undef, undef)) := fun i hil => by
    rw [List.getD_eq_getElem?_getD, List.getElem?_eq_getElem (by omega)]; rfl
   have hlm : (l.map (·.1)).length = len := by rw [List.length_map, hl]
   refine ⟨l.map (·.1), ⟨_, cap, by rw [hlm]⟩, ?_, fun k hk => ?_, by omega⟩
   ·rw [<- hlm]
    refine FormsAt.some (N := fun b => b < w.heap.size) (l.map (·.1)) b off cap (fun i => (l.getD i (.mk noB [] [] 0, undef, undef)).2.1) (fun i => (l.getD i (.mk noB [] [] 0, undef, undef)).2.2) hb (by omega) (fun i hil j u hu => ?_) (fun i x hx => ?_) (fun i x hx => ?_)
    ·rw [hlm] at hil
     dsimp only at hu
     rw [List.getElem?_map, hg i hil] at hu
     exact (hq i hil).1 j u hu
    ·have hil : i < len := by have := lt_of_some hx; omega
     rw [List.getElem?_map, hg i hil] at hx
     cases hx
     exact (hq i hil).2.1
    ·have hil : i < len := by have := lt_of_some hx; omega
     rw [List.getElem?_map, hg i hil] at hx
     cases hx
     exact (hq i hil).2.2.1
   ·obtain ⟨q, hqm, rfl⟩ := List.mem_map.1 hk
    obtain ⟨i, hx⟩ := List.getElem?_of_mem hqm
    have hil : i < len := by have := lt_of_some hx; omega
    rw [hg i hil] at hx
    cases hx
    exact (hq i hil).2.2.2
end
open Go.Proofs
mutual
def nodesX : Ex -> Nat
 | .mk _ _ _ ks _ => 1 + nodesXs ks
def nodesXs : List Ex -> Nat
 | [] => 0
 | x :: xs => nodesX x + nodesXs xs
end
mutual
def OkX : Ex -> Prop
 | .mk _ n s ks _ => I64 n /\ s.size <= 300 /\ OkXs ks
def OkXs : List Ex -> Prop
 | [] => True
 | x :: xs => OkX x /\ OkXs xs
end
theorem nodesX_pos (x : Ex) : 1 <= nodesX x := by cases x; rw [nodesX]; omega
theorem nodesXs_len : ∀ l : List Ex, l.length <= nodesXs l
 | [] => Nat.le_refl _
 | x :: l => by
  have := nodesXs_len l
  have := nodesX_pos x
  rw [nodesXs, List.length_cons]
  omega
mutual
theorem few_okX : ∀ (x : Ex) (n : Int), WfX x -> 0 <= fewX x n -> OkX x /\ (nodesX x : Int) + fewX x n = n
 | .mk _ m s ks _, n, hw, h => by
  obtain ⟨_, _, _, _, _, -, hn, -, -, hk⟩ := hw
  rw [fewX] at h ⊢
  split at h
  ·omega
  ·rename_i h1
   rw [if_neg h1]
   obtain ⟨h2, h3⟩ := few_okXs ks (n - 1) hk h
   refine ⟨⟨hn, by omega, h2⟩, ?_⟩
   rw [nodesX]
   omega
theorem few_okXs : ∀ (l : List Ex) (n : Int), (∀ k ∈ l, WfX k) -> 0 <= fewXs l n -> OkXs l /\ (nodesXs l : Int) + fewXs l n = n
 | [], n, _, h => by
  rw [fewXs] at h ⊢
  exact ⟨trivial, by rw [nodesXs]; omega⟩
 | k :: l, n, hw, h => by
  rw [fewXs] at h ⊢
  split at h
  ·omega
  ·rename_i h1
   rw [if_neg h1]
   have h2 : 0 <= fewX k n := by
    rcases Int.lt_or_le (fewX k n) 0 with h2 | h2
    ·rw [fewXs_neg h2] at h; omega
    ·exact h2
   obtain ⟨h3, h4⟩ := few_okX k n (hw k (by simp)) h2
   obtain ⟨h5, h6⟩ := few_okXs l (fewX k n) (fun y hy => hw y (List.mem_cons_of_mem _ hy)) h
   refine ⟨⟨h3, h5⟩, ?_⟩
   rw [nodesXs]
   omega
end
theorem row_len {op : Int} {r : ByteArray × Int × Nat} (h : (opRows.find? fun r => r.2.1 == op) = some r) : r.1.size <= 2 := by
 have := List.mem_of_find?_eq_some h
 simp only [opRows, List.mem_cons, List.not_mem_nil, or_false] at this
 rcases this with rfl | rfl | rfl | rfl | rfl | rfl | rfl | rfl | rfl | rfl | rfl | rfl | rfl <;> decide
def ToksOk (p : Pr) (c : Nat) : Prop := p.1.length <= c /\ FitT p.1
theorem FitT.app {a b : List Tok} (h : FitT a) (g : FitT b) : FitT (a ++ b) := fun t ht => (List.mem_append.1 ht).elim (h t) (g t)
theorem ToksOk.app {p q : Pr} {a b : Nat} (h : ToksOk p a) (g : ToksOk q b) : ToksOk (Pr.app p q) (a + b) := ⟨by
 show (p.1 ++ q.1).length <= _
 rw [List.length_append]
 have := h.1
 have := g.1
 omega, h.2.app g.2⟩
theorem ToksOk.le {p : Pr} {a b : Nat} (h : ToksOk p a) (hb : a <= b) : ToksOk p b := ⟨Nat.le_trans h.1 hb, h.2⟩
theorem toks_one (t : Tok) (b : Bool) (hn : I64 t.n) (hs : t.s.size <= 300) : ToksOk ([t], b) 1 := ⟨Nat.le_refl _, fun u hu => by
 rw [List.mem_singleton.1 hu]
 exact ⟨hn.1, hn.2, by omega⟩⟩
theorem i64_zero : I64 0 := by unfold I64; omega
theorem toks_sign (s : ByteArray) (hs : s.size <= 300) : ToksOk ([sgT s], false) 1 := toks_one _ _ i64_zero hs
theorem toks_none (b : Bool) (c : Nat) : ToksOk ([], b) c := ⟨Nat.zero_le _, fun t h => by cases h⟩
theorem opnd_app (need : Nat) (op : Int) (p : Pr) : opndX need op p = if need <= lvlX op then p else Pr.app ([sgT ⟨#[40]⟩], false) (Pr.app p ([sgT ⟨#[41]⟩], false)) := by simp [opndX, Pr.app]
theorem toks_at {p : Pr} {c : Nat} (need : Nat) (op : Int) (h : ToksOk p c) : ToksOk (opndX need op p) (c + 2) := by
 rw [opnd_app]
 split
 ·exact h.le (by omega)
 ·exact ((toks_sign _ (by decide)).app (h.app (toks_sign _ (by decide)))).le (by omega)
def TokK : List (Int × Pr) -> Nat -> Prop
 | [], _ => True
 | (_, p) :: L, N => ∃ a b, ToksOk p (10 * a - 5) /\ 1 <= a /\ TokK L b /\ a + b <= N
theorem toks_call : ∀ (k : Nat) (L : List (Int × Pr)) (N : Nat), TokK L N -> ToksOk (callX k L) (10 * N)
 | _, [], N, _ => toks_none _ _
 | k, (p, t) :: L, N, h => by
  obtain ⟨a, b, h1, h0, h2, h3⟩ := h
  have h4 := toks_call (k + 1) L b h2
  unfold callX
  have h6 : ToksOk (if 0 < k then [sgT ⟨#[44]⟩] else [], false) 1 := by
   split
   ·exact toks_sign _ (by decide)
   ·exact toks_none _ _
  exact (h6.app ((toks_at 0 p h1).app h4)).le (by omega)
theorem toks_head (op n : Int) (s : ByteArray) (L : List (Int × Pr)) (N : Nat) (hn : I64 n) (hs : s.size <= 300) (h : TokK L N) : ToksOk (headX op n s L) (10 * (1 + N) - 5) := by
 unfold headX
 split
 ·exact (toks_one (nuT n) _ hn (by show noB.size <= 300; decide)).le (by omega)
 split
 ·exact (toks_one (txT s) _ i64_zero hs).le (by omega)
 split
 ·exact (toks_one (nmT s) _ i64_zero hs).le (by omega)
 split
 ·have h1 : ToksOk ([nmT s, sgT ⟨#[40]⟩], badName s) (1 + 1) := by
   have := (toks_one (nmT s) (badName s) i64_zero hs).app (toks_sign ⟨#[40]⟩ (by decide))
   simpa [Pr.app] using this
  exact (h1.app ((toks_call 0 L N h).app (toks_sign _ (by decide)))).le (by omega)
 match L, h with
 | [], _ => exact toks_none _ _
 | [(p, t)], h =>
  obtain ⟨a, b, h1, h0, -, h3⟩ := h
  dsimp only
  split
  ·exact ((toks_sign _ (by decide)).app (toks_at 3 p h1)).le (by omega)
  split
  ·exact ((toks_sign _ (by decide)).app (toks_at 7 p h1)).le (by omega)
  ·exact toks_none _ _
 | [(p, t), (q, u)], h =>
  obtain ⟨a, b, h1, h0, ⟨a2, b2, h2, h20, -, h4⟩, h3⟩ := h
  dsimp only
  split
  ·rename_i r hr
   have h8 := row_len hr
   exact ((toks_at _ p h1).app ((toks_sign _ (by omega)).app (toks_at _ q h2))).le (by omega)
  ·exact toks_none _ _
 | [(p, t), (q, u), (r, v)], h =>
  obtain ⟨a, b, h1, h0, ⟨a2, b2, h2, h20, ⟨a3, b3, h4, h40, -, h5⟩, h6⟩, h3⟩ := h
  dsimp only
  split
  ·exact ((toks_at _ p h1).app ((toks_sign _ (by decide)).app ((toks_at _ q h2).app ((toks_sign _ (by decide)).app (toks_at _ r h4))))).le (by omega)
  ·exact toks_none _ _
 | _ :: _ :: _ :: _ :: _, _ => exact toks_none _ _
mutual
theorem toksX : ∀ x : Ex, OkX x -> ToksOk (showX x).2 (10 * nodesX x - 5)
 | .mk op n s ks _, h => by
  rw [OkX] at h
  rw [showX, nodesX]
  exact toks_head op n s _ _ h.1 h.2.1 (toksXs ks h.2.2)
theorem toksXs : ∀ l : List Ex, OkXs l -> TokK (showXs l) (nodesXs l)
 | [], _ => by rw [showXs]; trivial
 | x :: l, h => by
  rw [OkXs] at h
  rw [showXs, nodesXs]
  have h1 := toksX x h.1
  have h2 := nodesX_pos x
  generalize nodesX x = N at h1 h2
  generalize showX x = z at h1
  obtain ⟨op, p⟩ := z
  exact ⟨N, _, h1, h2, toksXs l h.2, Nat.le_refl _⟩
end
mutual
theorem small_okX : ∀ x : Ex, OkX x -> smallX x = true
 | .mk op n s ks _, h => by
  rw [OkX] at h
  rw [smallX, small_okXs ks h.2.2, decide_eq_true (by omega : s.size <= 100000)]
  rfl
theorem small_okXs : ∀ l : List Ex, OkXs l -> smallXs l = true
 | [], _ => rfl
 | x :: l, h => by
  rw [OkXs] at h
  rw [smallXs, small_okX x h.1, small_okXs l h.2]
  rfl
end
theorem few_p {x : Ex} {n : Int} (hw : WfX x) (hn : n <= 1000) (h : 0 <= fewX x n) : (OkX x /\ nodesX x <= 1000) /\ smallX x = true /\ (showX x).2.1.length <= 100000 /\ FitT (showX x).2.1 := by
 obtain ⟨h1, h2⟩ := few_okX x n hw h
 have h3 := toksX x h1
 have := h3.1
 exact ⟨⟨h1, by omega⟩, small_okX x h1, by omega, h3.2⟩
def nodesAs : List Ar -> Nat
 | [] => 0
 | a :: l => (1 + nodesX a.e) + nodesAs l
mutual
def nodesF : Fm -> Nat
 | .mk _ zs fs _ => 1 + nodesAs zs + nodesFs fs
def nodesFs : List Fm -> Nat
 | [] => 0
 | x :: xs => nodesF x + nodesFs xs
end
def OkA (a : Ar) : Prop := I64 a.n /\ a.s.size <= 300 /\ OkX a.e
mutual
def OkF : Fm -> Prop
 | .mk w zs fs _ => w.size <= 300 /\ (∀ a ∈ zs, OkA a) /\ OkFs fs
def OkFs : List Fm -> Prop
 | [] => True
 | x :: xs => OkF x /\ OkFs xs
end
theorem nodesAs_len : ∀ l : List Ar, l.length <= nodesAs l
 | [] => Nat.le_refl _
 | x :: l => by
  have := nodesAs_len l
  rw [nodesAs, List.length_cons]
  omega
theorem nodesF_pos (f : Fm) : 1 <= nodesF f := by cases f; rw [nodesF]; omega
theorem nodesFs_len : ∀ l : List Fm, l.length <= nodesFs l
 | [] => Nat.le_refl _
 | x :: l => by
  have := nodesFs_len l
  have := nodesF_pos x
  rw [nodesFs, List.length_cons]
  omega
theorem few_okAs : ∀ (l : List Ar) (n : Int), (∀ a ∈ l, WfA a) -> 0 <= fewAs l n -> (∀ a ∈ l, OkA a) /\ (nodesAs l : Int) + fewAs l n = n + l.length
 | [], n, _, _ => ⟨fun _ h => (by cases h), by rw [nodesAs, fewAs]; simp⟩
 | a :: l, n, hw, h => by
  rw [fewAs] at h ⊢
  split at h
  ·omega
  rename_i h0
  rw [if_neg h0]
  split at h
  ·omega
  rename_i h1
  rw [if_neg h1]
  have h2 : 0 <= fewX a.e n := by
   rcases Int.lt_or_le (fewX a.e n) 0 with h2 | h2
   ·rw [(fewAs_le l _).1 h2] at h; omega
   ·exact h2
  obtain ⟨-, wn, -, we⟩ := hw a (by simp)
  obtain ⟨h3, h4⟩ := few_okX a.e n we h2
  obtain ⟨h5, h6⟩ := few_okAs l (fewX a.e n) (fun y hy => hw y (List.mem_cons_of_mem _ hy)) h
  refine ⟨fun y hy => ?_, ?_⟩
  ·rcases List.mem_cons.1 hy with rfl | hy
   ·exact ⟨wn, by omega, h3⟩
   ·exact h5 y hy
  ·rw [nodesAs, List.length_cons]
   omega
mutual
theorem few_okF : ∀ (f : Fm) (n : Int), WfF f -> 0 <= fewF f n -> OkF f /\ (nodesF f : Int) + fewF f n = n + 1
 | .mk w zs fs _, n, hw, h => by
  obtain ⟨_, _, _, _, -, -, -, hz, hf⟩ := hw
  rw [fewF] at h ⊢
  split at h
  ·omega
  rename_i h0
  rw [if_neg h0]
  split at h
  ·omega
  rename_i h1
  rw [if_neg h1]
  obtain ⟨h2, h3⟩ := few_okAs zs (n - zs.length) hz (by omega)
  have h4 : 0 <= fewFs fs (fewAs zs (n - zs.length) - fs.length) := by omega
  obtain ⟨h5, h6⟩ := few_okFs fs _ hf h4
  refine ⟨⟨by omega, h2, h5⟩, ?_⟩
  rw [nodesF]
  omega
theorem few_okFs : ∀ (l : List Fm) (n : Int), (∀ f ∈ l, WfF f) -> 0 <= fewFs l n -> OkFs l /\ (nodesFs l : Int) + fewFs l n = n + l.length
 | [], n, _, h => by
  rw [fewFs] at h ⊢
  exact ⟨trivial, by rw [nodesFs]; simp⟩
 | f :: l, n, hw, h => by
  rw [fewFs] at h ⊢
  split at h
  ·omega
  rename_i h1
  rw [if_neg h1]
  have h2 : 0 <= fewF f n := by
   rcases Int.lt_or_le (fewF f n) 0 with h2 | h2
   ·rw [(fewFs_le l _).1 h2] at h; omega
   ·exact h2
  obtain ⟨h3, h4⟩ := few_okF f n (hw f (by simp)) h2
  obtain ⟨h5, h6⟩ := few_okFs l (fewF f n) (fun y hy => hw y (List.mem_cons_of_mem _ hy)) h
  refine ⟨⟨h3, h5⟩, ?_⟩
  rw [nodesFs, List.length_cons]
  omega
end
theorem few_okL {l : List Fm} {n : Int} (hw : ∀ f ∈ l, WfF f) (h : 0 <= fewL l n) : OkFs l /\ (nodesFs l : Int) <= n := by
 unfold fewL at h
 obtain ⟨h1, h2⟩ := few_okFs l (n - l.length) hw (by omega)
 exact ⟨h1, by omega⟩
theorem toks_A (a : Ar) (h : OkA a) : ToksOk (showA a) (10 * (1 + nodesX a.e)) := by
 obtain ⟨h1, h2, h3⟩ := h
 unfold showA
 split
 ·exact (toks_one (nmT a.s) _ i64_zero h2).le (by omega)
 split
 ·split
  ·have h4 := (toks_sign ⟨#[45]⟩ (by decide)).app (toks_one (nuT (max (wrap64 (-a.n)) 0)) (badNum (max (wrap64 (-a.n)) 0) || decide (a.n < -999999999999999)) (by show I64 (max (wrap64 (-a.n)) 0); unfold I64 wrap64; omega) (by show noB.size <= 300; decide))
   exact ToksOk.le h4 (by omega)
  ·exact (toks_one (nuT a.n) _ h1 (by show noB.size <= 300; decide)).le (by omega)
 split
 ·exact (toks_one (txT a.s) _ i64_zero h2).le (by omega)
 split
 ·exact (toks_sign _ (by decide)).le (by omega)
 split
 ·have h4 := toksX a.e h3
  have h5 := nodesX_pos a.e
  have h6 := (toks_sign ⟨#[40]⟩ (by decide)).app (h4.app (toks_sign ⟨#[41]⟩ (by decide)))
  have e : Pr.app ([sgT ⟨#[40]⟩], false) (Pr.app (showX a.e).2 ([sgT ⟨#[41]⟩], false)) = (sgT ⟨#[40]⟩ :: ((showX a.e).2.1 ++ [sgT ⟨#[41]⟩]), (showX a.e).2.2) := by simp [Pr.app]
  rw [e] at h6
  exact h6.le (by omega)
 ·exact toks_none _ _
theorem toks_As : ∀ l : List Ar, (∀ a ∈ l, OkA a) -> ToksOk (showAs l) (10 * nodesAs l)
 | [], _ => toks_none _ _
 | a :: l, h => by
  have h1 := toks_A a (h a (by simp))
  have h2 := toks_As l fun y hy => h y (List.mem_cons_of_mem _ hy)
  rw [showAs, nodesAs]
  exact (h1.app h2).le (by omega)
mutual
theorem toks_F : ∀ f : Fm, OkF f -> ToksOk (showF f) (10 * nodesF f)
 | .mk w zs fs _, h => by
  rw [OkF] at h
  have h1 := toks_As zs h.2.1
  have h2 := toks_Fs fs h.2.2
  rw [showF, nodesF]
  have h3 : ToksOk (if fs.isEmpty then ([sgT ⟨#[59]⟩], false) else Pr.app ([sgT ⟨#[123]⟩], false) (Pr.app (showFs fs) ([sgT ⟨#[125]⟩], false))) (10 * nodesFs fs + 2) := by
   split
   ·exact (toks_sign _ (by decide)).le (by omega)
   ·exact ((toks_sign _ (by decide)).app (h2.app (toks_sign _ (by decide)))).le (by omega)
  exact ((toks_one (nmT w) _ i64_zero h.1).app (h1.app h3)).le (by omega)
theorem toks_Fs : ∀ l : List Fm, OkFs l -> ToksOk (showFs l) (10 * nodesFs l)
 | [], _ => by rw [showFs]; exact toks_none _ _
 | x :: l, h => by
  rw [OkFs] at h
  have h1 := toks_F x h.1
  have h2 := toks_Fs l h.2
  rw [showFs, nodesFs]
  exact (h1.app h2).le (by omega)
end
mutual
theorem small_okF : ∀ f : Fm, OkF f -> smallF f = true
 | .mk w zs fs _, h => by
  rw [OkF] at h
  have h1 : zs.all smallA = true := List.all_eq_true.2 fun a ha => by
   obtain ⟨-, a2, a3⟩ := h.2.1 a ha
   unfold smallA
   rw [small_okX a.e a3, decide_eq_true (by omega : a.s.size <= 100000)]
   rfl
  have h2 := h.1
  rw [smallF, small_okFs fs h.2.2, h1, decide_eq_true (by omega : w.size <= 100000)]
  rfl
theorem small_okFs : ∀ l : List Fm, OkFs l -> smallFs l = true
 | [], _ => rfl
 | x :: l, h => by
  rw [OkFs] at h
  rw [smallFs, small_okF x h.1, small_okFs l h.2]
  rfl
end
theorem few_q {l : List Fm} {n : Int} (hw : ∀ f ∈ l, WfF f) (hn : n <= 1000) (h : 0 <= fewL l n) : (OkFs l /\ nodesFs l <= 1000) /\ l.length <= 100000 /\ smallFs l = true /\ (showFs l).1.length <= 100000 /\ FitT (showFs l).1 := by
 obtain ⟨h1, h2⟩ := few_okL hw h
 have h3 := toks_Fs l h1
 have h4 := h3.1
 have h5 := nodesFs_len l
 exact ⟨⟨h1, by omega⟩, by omega, small_okFs l h1, by omega, h3.2⟩
def sumB : List (ByteArray × Bool) -> Nat
 | [] => 0
 | q :: l => q.1.size + 1 + sumB l
theorem sumB_app (a b : List (ByteArray × Bool)) : sumB (a ++ b) = sumB a + sumB b := by
 induction a with
 | nil => simp [sumB]
 | cons q a ih => simp only [List.cons_append, sumB, ih]; omega
theorem joinTail_len : ∀ l : List (ByteArray × Bool), (Lib.joinTail [32] ((l.map (·.1)).map (·.data.toList))).length = sumB l
 | [] => rfl
 | q :: l => by
  rw [List.map_cons, List.map_cons, joinTail_one]
  simp only [List.length_append, List.length_cons, List.length_nil, joinTail_len l, sumB]
  have : q.1.data.toList.length = q.1.size := by simp
  omega
theorem joinT_len (l : List (ByteArray × Bool)) : (joinT l).1.size <= sumB l := by
 cases l with
 | nil => exact Nat.zero_le _
 | cons q l =>
  show (Lib.join (((q :: l).map (·.1)).map (·.data.toList)) [32]).length <= _
  rw [List.map_cons, List.map_cons, Lib.join_cons, List.length_append, joinTail_len, sumB]
  have : q.1.data.toList.length = q.1.size := by simp
  omega
theorem num_len (n : Int) (h : I64 n) : (textQ [nuT n]).size <= 20 := by
 rw [textQ_eq]
 show (outQ [itoaB n]).size <= _
 rw [outQ_one]
 exact itoaB_len n h.1 h.2
theorem text_len (s : ByteArray) (h : s.size <= 300) : (textQ [txT s]).size <= 602 := by
 rw [textQ_eq]
 show (outQ [quotedB s]).size <= _
 rw [outQ_one]
 have := quotedB_len s
 omega
theorem at_len (need : Nat) (op : Int) (t : ByteArray × Bool) : (rtAt need op t).1.size <= t.1.size + 5 := by
 unfold rtAt
 split
 ·omega
 ·have h := joinT_len [tx ⟨#[40]⟩, t, tx ⟨#[41]⟩]
  have h1 : (tx ⟨#[40]⟩).1.size = 1 := rfl
  have h2 : (tx ⟨#[41]⟩).1.size = 1 := rfl
  simp only [sumB, h1, h2] at h
  omega
def SumK : List (Int × (ByteArray × Bool)) -> Nat -> Prop
 | [], _ => True
 | (_, t) :: L, N => ∃ a b, t.1.size + 20 <= 1000 * a /\ SumK L b /\ a + b <= N
theorem call_sum : ∀ (k : Nat) (L : List (Int × (ByteArray × Bool))) (N : Nat), SumK L N -> sumB (rtCall k L) <= 1000 * N
 | _, [], N, _ => Nat.zero_le _
 | k, (p, t) :: L, N, h => by
  obtain ⟨a, b, h1, h2, h3⟩ := h
  have h4 := call_sum (k + 1) L b h2
  have h5 := at_len 0 p t
  unfold rtCall
  rw [sumB_app, sumB]
  have h6 : sumB (if 0 < k then [tx ⟨#[44]⟩] else []) <= 2 := by split <;> simp [sumB, tx, ByteArray.size]
  omega
theorem head_len (op n : Int) (s : ByteArray) (L : List (Int × (ByteArray × Bool))) (N : Nat) (hn : I64 n) (hs : s.size <= 300) (h : SumK L N) : (rtH op n s L).1.size + 20 <= 1000 * (1 + N) := by
 unfold rtH
 have o1 : ∀ b : UInt8, (tx ⟨#[b]⟩).1.size = 1 := fun _ => rfl
 have o0 : (noB, true).1.size = 0 := rfl
 split
 ·have := num_len n hn
  dsimp only
  omega
 split
 ·have := text_len s hs
  dsimp only
  omega
 split
 ·dsimp only; omega
 split
 ·have h1 := joinT_len ((s, badName s) :: tx ⟨#[40]⟩ :: (rtCall 0 L ++ [tx ⟨#[41]⟩]))
  have h2 := call_sum 0 L N h
  simp only [sumB, sumB_app, o1] at h1
  omega
 match L, h with
 | [], _ => rw [o0]; omega
 | [(p, t)], h =>
  obtain ⟨a, b, h1, -, h3⟩ := h
  dsimp only
  split
  ·have h4 := joinT_len [tx ⟨#[33]⟩, rtAt 3 p t]
   have h5 := at_len 3 p t
   simp only [sumB, o1] at h4
   omega
  split
  ·have h4 := joinT_len [tx ⟨#[45]⟩, rtAt 7 p t]
   have h5 := at_len 7 p t
   simp only [sumB, o1] at h4
   omega
  ·rw [o0]; omega
 | [(p, t), (q, u)], h =>
  obtain ⟨a, b, h1, ⟨a2, b2, h2, -, h4⟩, h3⟩ := h
  dsimp only
  split
  ·rename_i r hr
   have h5 := joinT_len [rtAt (if r.2.2 = 4 then 5 else r.2.2) p t, tx r.1, rtAt (r.2.2 + 1) q u]
   have h6 := at_len (if r.2.2 = 4 then 5 else r.2.2) p t
   have h7 := at_len (r.2.2 + 1) q u
   have h8 : (tx r.1).1.size <= 2 := row_len hr
   simp only [sumB] at h5
   omega
  ·rw [o0]; omega
 | [(p, t), (q, u), (r, v)], h =>
  obtain ⟨a, b, h1, ⟨a2, b2, h2, ⟨a3, b3, h4, -, h5⟩, h6⟩, h3⟩ := h
  dsimp only
  split
  ·have h7 := joinT_len [rtAt 1 p t, tx ⟨#[63]⟩, rtAt 0 q u, tx ⟨#[58]⟩, rtAt 0 r v]
   have h8 := at_len 1 p t
   have h9 := at_len 0 q u
   have h10 := at_len 0 r v
   simp only [sumB, o1] at h7
   omega
  ·rw [o0]; omega
 | _ :: _ :: _ :: _ :: _, _ => rw [o0]; omega
mutual
theorem lenX : ∀ x : Ex, OkX x -> (rtX x).1.size + 20 <= 1000 * nodesX x
 | .mk op n s ks _, h => by
  rw [OkX] at h
  rw [rtX, nodesX]
  exact head_len op n s _ _ h.1 h.2.1 (lenXs ks h.2.2)
theorem lenXs : ∀ l : List Ex, OkXs l -> SumK (rtXs l) (nodesXs l)
 | [], _ => by rw [rtXs]; trivial
 | x :: l, h => by
  rw [OkXs] at h
  rw [rtXs, nodesXs]
  exact ⟨_, _, lenX x h.1, lenXs l h.2, Nat.le_refl _⟩
end
mutual
theorem szX_ok : ∀ x : Ex, OkX x -> nodesX x <= 1000 -> SzX x
 | .mk op n s ks at_, h, hn => by
  have h1 := lenX _ h
  rw [OkX] at h
  rw [nodesX] at hn
  have h2 := nodesXs_len ks
  rw [rtX, nodesX] at h1
  rw [SzX]
  refine ⟨h.1, by omega, by omega, by omega, fun need => ?_, szXs_ok ks h.2.2 (by omega)⟩
  have := at_len need op (rtH op n s (rtXs ks))
  omega
theorem szXs_ok : ∀ l : List Ex, OkXs l -> nodesXs l <= 1000 -> SzXs l
 | [], _, _ => by rw [SzXs]; trivial
 | x :: l, h, hn => by
  rw [OkXs] at h
  rw [nodesXs] at hn
  rw [SzXs]
  exact ⟨szX_ok x h.1 (by omega), szXs_ok l h.2 (by omega)⟩
end
theorem few_x {x : Ex} {n : Int} (hw : WfX x) (hn : n <= 1000) (h : 0 <= fewX x n) : OkX x /\ SzX x /\ smallX x = true /\ (showX x).2.1.length <= 100000 /\ FitT (showX x).2.1 := by
 obtain ⟨⟨h1, h2⟩, h3⟩ := few_p hw hn h
 exact ⟨h1, szX_ok x h1 h2, h3⟩
theorem wrap_i64 (z : Int) : I64 (IntKind.i64.wrap z) := by
 unfold I64
 rw [IntKind.wrap_i64]
 omega
theorem arg_sum (a : Ar) (h : OkA a) : sumB (rtArg a) <= 1000 * (1 + nodesX a.e) := by
 obtain ⟨h1, h2, h3⟩ := h
 have o1 : ∀ b : UInt8, (tx ⟨#[b]⟩).1.size = 1 := fun _ => rfl
 have o2 : ∀ b c : UInt8, (tx ⟨#[b, c]⟩).1.size = 2 := fun _ _ => rfl
 have o0 : noB.size = 0 := rfl
 unfold rtArg
 split
 ·simp only [sumB]; omega
 split
 ·split
  ·have h4 := num_len _ (wrap_i64 (-(a.n + 1) + 1))
   rw [sumB_app]
   have h5 : sumB (if a.n < -999999999999999 then [(noB, true)] else []) <= 1 := by split <;> simp [sumB, o0]
   simp only [sumB, o1]
   omega
  ·have h4 := num_len _ h1
   simp only [sumB]
   omega
 split
 ·have h4 := text_len _ h2
  simp only [sumB]
  omega
 split
 ·simp only [sumB, o2]; omega
 split
 ·have h4 := lenX _ h3
  simp only [sumB, o1]
  omega
 ·simp only [sumB, o0]; omega
theorem args_sum : ∀ l : List Ar, (∀ a ∈ l, OkA a) -> sumB (l.flatMap rtArg) <= 1000 * nodesAs l
 | [], _ => Nat.zero_le _
 | a :: l, h => by
  have h1 := arg_sum a (h a (by simp))
  have h2 := args_sum l fun y hy => h y (List.mem_cons_of_mem _ hy)
  rw [List.flatMap_cons, sumB_app, nodesAs]
  omega
mutual
theorem lenF : ∀ f : Fm, OkF f -> (rtF f).1.size + 20 <= 1000 * nodesF f
 | .mk w zs fs _, h => by
  rw [OkF] at h
  have h1 := args_sum zs h.2.1
  have h2 := lenFs fs h.2.2
  have h3 := h.1
  have o1 : ∀ b : UInt8, (tx ⟨#[b]⟩).1.size = 1 := fun _ => rfl
  rw [rtF, nodesF]
  have h4 := joinT_len (((w, badName w) :: zs.flatMap rtArg) ++ (if fs.length = 0 then [tx ⟨#[59]⟩] else tx ⟨#[123]⟩ :: (rtFs fs ++ [tx ⟨#[125]⟩])))
  have h5 : sumB (if fs.length = 0 then [tx ⟨#[59]⟩] else tx ⟨#[123]⟩ :: (rtFs fs ++ [tx ⟨#[125]⟩])) <= sumB (rtFs fs) + 4 := by
   split
   ·simp only [sumB, o1]; omega
   ·simp only [sumB, sumB_app, o1]; omega
  rw [sumB_app, sumB] at h4
  have h6 : ((w, badName w) : ByteArray × Bool).1.size = w.size := rfl
  omega
theorem lenFs : ∀ l : List Fm, OkFs l -> sumB (rtFs l) <= 1000 * nodesFs l
 | [], _ => by rw [rtFs]; exact Nat.zero_le _
 | x :: l, h => by
  rw [OkFs] at h
  have h1 := lenF x h.1
  have h2 := lenFs l h.2
  rw [rtFs, nodesFs, sumB]
  omega
end
theorem nodesAs_mem : ∀ {l : List Ar} {a : Ar}, a ∈ l -> nodesX a.e <= nodesAs l
 | y :: l, a, h => by
  rw [nodesAs]
  rcases List.mem_cons.1 h with rfl | h
  ·omega
  ·have := nodesAs_mem h; omega
theorem sumB_mem : ∀ {l : List (ByteArray × Bool)} {q : ByteArray × Bool}, q ∈ l -> q.1.size <= sumB l
 | y :: l, q, h => by
  rw [sumB]
  rcases List.mem_cons.1 h with rfl | h
  ·omega
  ·have := sumB_mem h; omega
mutual
theorem szF_ok : ∀ f : Fm, OkF f -> nodesF f <= 1000 -> SzF f
 | .mk w zs fs at_, h, hn => by
  rw [OkF] at h
  rw [nodesF] at hn
  have h1 := nodesAs_len zs
  have h2 := nodesFs_len fs
  rw [SzF]
  refine ⟨by have := h.1; omega, by omega, by omega, fun a ha => ?_, szFs_ok fs h.2.2 (by omega)⟩
  obtain ⟨a1, a2, a3⟩ := h.2.1 a ha
  have h3 := nodesAs_mem ha
  have h4 := arg_sum a (h.2.1 a ha)
  refine ⟨a1, by omega, szX_ok a.e a3 (by omega), fun q hq => ?_⟩
  have := sumB_mem hq
  omega
theorem szFs_ok : ∀ l : List Fm, OkFs l -> nodesFs l <= 1000 -> SzFs l
 | [], _, _ => by rw [SzFs]; trivial
 | x :: l, h, hn => by
  rw [OkFs] at h
  rw [nodesFs] at hn
  have h1 := lenF x h.1
  rw [SzFs]
  exact ⟨⟨szF_ok x h.1 (by omega), by omega⟩, szFs_ok l h.2 (by omega)⟩
end
theorem few_l {l : List Fm} {n : Int} (hw : ∀ f ∈ l, WfF f) (hn : n <= 1000) (h : 0 <= fewL l n) : OkFs l /\ SzFs l /\ l.length <= 100000 /\ smallFs l = true /\ (showFs l).1.length <= 100000 /\ FitT (showFs l).1 := by
 obtain ⟨⟨h1, h2⟩, h3⟩ := few_q hw hn h
 exact ⟨h1, szFs_ok l h1 h2, h3⟩
attribute [local go_sem] Oper.semAt_some
theorem box_two {w w' : World} {A B : Obj} (h : Turned (fun _ => False) ((w.alloc A).alloc B) w') : w'.heap[w.heap.size]? = (w.alloc A).heap[w.heap.size]? /\ w'.heap[w.heap.size + 1]? = ((w.alloc A).alloc B).heap[(w.alloc A).heap.size]? := by
 have s1 : (w.alloc A).heap.size = w.heap.size + 1 := by simp
 have s2 : ((w.alloc A).alloc B).heap.size = w.heap.size + 1 + 1 := by simp
 refine ⟨?_, ?_⟩
 ·rw [h.block _ (by omega) id, hao _ _ (by omega)]
 ·rw [s1, h.block _ (by omega) id]
def badX (o : Bool) (op op' n n' : Int) (s s' : ByteArray) (a a' : Int) : Bool := !(op == op' && (op != 1 || n == n') && (!(decide (2 <= op) && decide (op <= 4)) || s.data.toList == s'.data.toList) && (!o || a == a'))
theorem badX_ok {o : Bool} {op n n' : Int} {s s' : ByteArray} {a a' : Int} (h1 : (op != 1 || n == n') = true) (h2 : (!(decide (2 <= op) && decide (op <= 4)) || s.data.toList == s'.data.toList) = true) : badX o op op n n' s s' a a' = (o && (a != a')) := by
 unfold badX
 rw [h1, h2]
 cases o <;> simp [bne]
theorem rsameExpr_any : ∀ (m : Nat) (x : Ex), SizeOf.sizeOf x <= m -> ∀ (o : Bool) (y : Ex) (a b : Value) (w : World), KidsAt w (fun _ => True) x.kids a -> KidsAt w (fun _ => True) y.kids b -> Calls Tryz.prog 14 #[exA x a, exA y b, .bool o] w fun e w' => e = .returned (.bool (sameX o x y)) /\ Turned (fun _ => False) w w'
 | 0, .mk op n s ks at_, hm => by simp only [Ex.mk.sizeOf_spec] at hm; omega
 | m + 1, .mk op n s ks at_, hm => by
  intro o y a b w hx hy
  obtain ⟨op', n', s', ls, at'⟩ := y
  have HF : Hid (∀ x ∈ ks, ∀ y a b W, KidsAt W (fun _ => True) x.kids a -> KidsAt W (fun _ => True) y.kids b -> Calls Tryz.prog 14 #[exA x a, exA y b, .bool o] W fun e w' => e = .returned (.bool (sameX o x y)) /\ Turned (fun _ => False) W w') :=
   Lib.hid fun x hx y a b W => rsameExpr_any m x (by have := ex_kid_lt hx op n s at_; omega) o y a b W
  simp only [Ex.kids] at hx hy
  have hlx := hx.len
  have hly := hy.len
  obtain ⟨pa, ca, rfl⟩ := hx.shape
  obtain ⟨pb, cb, rfl⟩ := hy.shape
  have HKX := Lib.hid hx
  have HKY := Lib.hid hy
  clear hx hy hm
  unfold maxLen at hlx hly
  have HX := Lib.hid (show sameX o (.mk op n s ks at_) (.mk op' n' s' ls at') = (!badX o op op' n n' s s' at_ at' && (decide (1 <= op) && decide (op <= 3) || sameXs o ks ls)) from by rw [sameX, badX, Bool.not_not])
  simp only [exA, Ex.op, Ex.n, Ex.s, Ex.at_]
  generalize sameX o (.mk op n s ks at_) (.mk op' n' s' ls at') = r at HX ⊢
  obtain ⟨W2, hW2⟩ : ∃ W2, W2 = (w.alloc (.cells #[.int .i64 op, .int .i64 n, .string s, .slice pa ks.length ca, .int .i64 at_] 31)).alloc (.cells #[.int .i64 op', .int .i64 n', .string s', .slice pb ls.length cb, .int .i64 at'] 31) := ⟨_, rfl⟩
  have HT : Hid (Turned (fun _ => False) w W2) := Lib.hid (by rw [hW2]; exact ((Turned.refl _ _).alloc _).alloc _)
  have HB : Hid (∀ V, Turned (fun _ => False) W2 V -> V.cell? ⟨w.heap.size, 0, none⟩ = some (.int .i64 op) /\ V.cell? ⟨w.heap.size, 3, none⟩ = some (.slice pa ks.length ca) /\ V.cell? ⟨w.heap.size + 1, 3, none⟩ = some (.slice pb ls.length cb)) := Lib.hid fun V hV => by
   rw [hW2] at hV
   obtain ⟨h1, h2⟩ := box_two hV
   rw [heap_alloc_new] at h1 h2
   simp [World.cell?, h1, h2]
  go_enter Tryz.func14, Tryz.ntmps14
  go_upto_region 1 with fail
  go_cut [52] from 9 to 52 (fun c wx => c = .bool (badX o op op' n n' s s' at_ at') /\ wx = W2)
  case first =>
   clear HX HF HB HKX HKY
   by_cases h0 : op = op'
   ·subst h0
    by_cases h1 : op = 1
    ·subst h1
     by_cases hn : n = n'
     ·subst hn
      have HQ := Lib.hid (badX_ok (o := o) (op := 1) (n := n) (n' := n) (s := s) (s' := s') (a := at_) (a' := at') (show _ = true from by simp) (show _ = true from by simp))
      cases o with
      | false =>
       go_wp2_with fail
       go_meet
       case rel => exact ⟨by rw [HQ.out]; rfl, hW2.symm⟩
      | true =>
       go_wp2_with fail
       go_meet
       case rel => exact ⟨by rw [HQ.out]; rfl, hW2.symm⟩
     ·have hnb : (n == n') = false := by simpa using hn
      go_wp2_with fail
      go_meet
      case rel => exact ⟨by rw [badX]; simp [hn], hW2.symm⟩
    ·have b1 : (op == 1) = false := by simpa using h1
     by_cases h2 : 2 <= op
     ·by_cases h4 : op <= 4
      ·by_cases hs : s = s'
       ·subst hs
        have HQ := Lib.hid (badX_ok (o := o) (op := op) (n := n) (n' := n') (s := s) (s' := s) (a := at_) (a' := at') (show _ = true from by simp [h1]) (show _ = true from by simp))
        cases o with
        | false =>
         go_wp2_with fail
         go_meet
         case rel => exact ⟨by rw [HQ.out]; rfl, hW2.symm⟩
        | true =>
         go_wp2_with fail
         go_meet
         case rel => exact ⟨by rw [HQ.out]; rfl, hW2.symm⟩
       ·have hsb : (s.toList == s'.toList) = false := by rw [ByteArray.toList_eq, ByteArray.toList_eq]; exact bytes_ne hs
        have hsc := bytes_ne hs
        go_wp2_with fail
        go_meet
        case rel => exact ⟨by rw [badX]; simp [h2, h4, hsc], hW2.symm⟩
      ·have HQ := Lib.hid (badX_ok (o := o) (op := op) (n := n) (n' := n') (s := s) (s' := s') (a := at_) (a' := at') (show _ = true from by simp [h1]) (show _ = true from by simp [h4]))
       cases o with
       | false =>
        go_wp2_with fail
        go_meet
        case rel => exact ⟨by rw [HQ.out]; rfl, hW2.symm⟩
       | true =>
        go_wp2_with fail
        go_meet
        case rel => exact ⟨by rw [HQ.out]; rfl, hW2.symm⟩
     ·have HQ := Lib.hid (badX_ok (o := o) (op := op) (n := n) (n' := n') (s := s) (s' := s') (a := at_) (a' := at') (show _ = true from by simp [h1]) (show _ = true from by simp [h2]))
      cases o with
      | false =>
       go_wp2_with fail
       go_meet
       case rel => exact ⟨by rw [HQ.out]; rfl, hW2.symm⟩
      | true =>
       go_wp2_with fail
       go_meet
       case rel => exact ⟨by rw [HQ.out]; rfl, hW2.symm⟩
   ·have hb : (op == op') = false := by simpa using h0
    go_wp2_with fail
    go_meet
    case rel => exact ⟨by rw [badX]; simp [h0], hW2.symm⟩
  case rest =>
   obtain ⟨rfl, hwc⟩ := hcut
   rw [hwc]
   clear hwc hW2
   generalize badX o op op' n n' s s' at_ at' = bd at HX ⊢
   obtain ⟨c0, c3, d3⟩ := HB.out W2 (Turned.refl _ _)
   cases bd with
   | true =>
    have HR : Hid (r = false) := by show _ = _; rw [HX.out]; rfl
    clear HX HF HB HKX HKY c0 c3 d3
    go_wp2_with fail
    go_ret
    rw [HR.out]
    exact ⟨rfl, HT.out⟩
   | false =>
    go_upto_region 3 with fail
    go_cut [60] from 53 to 60 (fun c wx => c = .bool (decide (1 <= op) && decide (op <= 3)) /\ wx = W2)
    case first =>
     clear HX HF HB HKX HKY HT
     by_cases h1 : 1 <= op
     ·have h1d : decide (1 <= op) = true := decide_eq_true h1
      go_wp2_with fail
      go_meet
      case rel => exact ⟨by rw [h1d, Bool.true_and], rfl⟩
     ·go_wp2_with fail
      go_meet
      case rel => exact ⟨by rw [decide_eq_false (p := 1 <= op) (by omega), Bool.false_and], rfl⟩
    case rest =>
     obtain ⟨rfl, hwc⟩ := hcut
     rw [hwc]
     clear hwc
     generalize (decide (1 <= op) && decide (op <= 3)) = be at HX ⊢
     cases be with
     | true =>
      have HR : Hid (r = true) := by show _ = _; rw [HX.out]; rfl
      clear HX HF HB HKX HKY
      go_wp2_with fail
      go_ret
      rw [HR.out]
      exact ⟨rfl, HT.out⟩
     | false =>
      have HR : Hid (r = sameXs o ks ls) := by show _ = _; rw [HX.out]; rfl
      clear HX
      by_cases hl : ks.length = ls.length
      ·have HL := Lib.hid hl
       have hlb : ((ks.length : Int) != (ls.length : Int)) = false := by simp [hl]
       have HLI : Hid (∀ i : Nat, i < ks.length -> (i : Int) < (ls.length : Int)) := Lib.hid fun i h => by omega
       clear hl
       go_wp2_with fail
       go_loopw [7] (fun c wr => ∃ i : Nat, i <= ks.length /\ c = (.int .i64 i) /\ Hid (Turned (fun _ => False) W2 wr /\ SameTo o ks ls i)) (fun c _ => ks.length - (intOf c).toNat)
       case atStart => exact ⟨0, by omega, rfl, Lib.hid ⟨Turned.refl _ _, fun j x y hj => by omega⟩⟩
       case round =>
        clear c0 c3 d3
        obtain ⟨i, hi, rfl, HO⟩ := hrel
        obtain ⟨c0, c3, d3⟩ := HB.out wr HO.out.1
        by_cases hlt : i < ks.length
        ·obtain ⟨x, hx⟩ := some_of_lt hlt
         have hiy := HLI.out i hlt
         obtain ⟨y, hy⟩ := some_of_lt (show i < ls.length by omega)
         obtain ⟨bx, ax, kx, rfl, x01, HKX1⟩ := kidsAt_get (HKX.out.all (HT.out.trans HO.out.1)) hx
         obtain ⟨by_, ay, ky, rfl, y01, HKY1⟩ := kidsAt_get (HKY.out.all (HT.out.trans HO.out.1)) hy
         obtain ⟨pk, ck, rfl⟩ := HKX1.shape
         obtain ⟨pl, cl, rfl⟩ := HKY1.shape
         have HC : Hid (∀ W, Turned (fun _ => False) wr W -> Calls Tryz.prog 14 #[.agg #[.int .i64 x.op, .int .i64 x.n, .string x.s, .slice pk x.kids.length ck, .int .i64 x.at_], .agg #[.int .i64 y.op, .int .i64 y.n, .string y.s, .slice pl y.kids.length cl, .int .i64 y.at_], .bool o] W fun e w' => e = .returned (.bool (sameX o x y)) /\ Turned (fun _ => False) W w') :=
          Lib.hid fun W hW => HF.out x (List.mem_of_getElem? hx) y _ _ W (HKX1.all hW) (HKY1.all hW)
         have HT1 : Hid (sameX o x y = true -> SameTo o ks ls (i + 1)) := Lib.hid fun h => HO.out.2.succ hx hy h
         have HU : Hid (sameX o x y = false -> sameXs o ks ls = false) := Lib.hid fun h => sameXs_no hx hy h
         have X01 := Lib.hid x01
         have Y01 := Lib.hid y01
         clear hx hy HKX1 HKY1 x01 y01
         generalize sameX o x y = z at HC HT1 HU
         have hi2 : (i : Int) < (ks.length : Int) := by omega
         go_upto_region 10 with fail
         refine region_tail (w := wr) (Turned.refl _ _) 11 (by kernel_rfl) (by kernel_rfl) (fun V hT => ?_)
         obtain ⟨f0, f3, g3⟩ := HB.out V (HO.out.1.trans hT)
         obtain ⟨x0, x1, x2, x3, x4⟩ := X01.out
         obtain ⟨y0, y1, y2, y3, y4⟩ := Y01.out
         replace x0 := cell_turned hT id x0
         replace x1 := cell_turned hT id x1
         replace x2 := cell_turned hT id x2
         replace x3 := cell_turned hT id x3
         replace x4 := cell_turned hT id x4
         replace y0 := cell_turned hT id y0
         replace y1 := cell_turned hT id y1
         replace y2 := cell_turned hT id y2
         replace y3 := cell_turned hT id y3
         replace y4 := cell_turned hT id y4
         have HCV := Lib.hid (HC.out V hT)
         have HTV := Lib.hid (HO.out.1.trans hT)
         clear hT HC c0 c3 d3
         simp only [List.take_succ_cons, List.take_zero, List.drop_succ_cons, List.drop_zero]
         repeat still_step
         refine wpStill_nil ?_
         cases z with
         | true =>
          have HT2 := Lib.hid (HT1.out rfl)
          clear HT1 HU
          go_wp2_with (go_at_call 14; refine HCV.out.mono ?_; rintro e w' ⟨rfl, hT⟩)
          go_roundw
          case rel => exact ⟨i + 1, by omega, by go_num, Lib.hid ⟨HTV.out.trans hT, HT2.out⟩⟩
          case measure => simp [intOf]; omega
         | false =>
          have HU2 := Lib.hid (HU.out rfl)
          clear HT1 HU
          go_wp2_with (go_at_call 14; refine HCV.out.mono ?_; rintro e w' ⟨rfl, hT⟩)
          go_ret
          rw [HR.out, HU2.out]
          exact ⟨rfl, HT.out.trans (HTV.out.trans hT)⟩
        ·obtain rfl : i = ks.length := by omega
         have HS : Hid (sameXs o ks ls = true) := Lib.hid (SameTo.done HO.out.2 HL.out)
         go_wp2_with fail
         go_ret
         rw [HR.out, HS.out]
         exact ⟨rfl, HT.out.trans HO.out.1⟩
      ·have hlb : ((ks.length : Int) != (ls.length : Int)) = true := by simp; omega
       have HS := Lib.hid (sameXs_len (o := o) hl)
       clear hl HF HB HKX HKY
       go_wp2_with fail
       go_ret
       rw [HR.out, HS.out]
       exact ⟨rfl, HT.out⟩
end Go.Proofs.YtjijdgkccfeeaaaGreatDoor
