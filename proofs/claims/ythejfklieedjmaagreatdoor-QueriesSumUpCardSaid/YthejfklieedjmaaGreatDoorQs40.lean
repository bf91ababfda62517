/- Part 40 of the proof of lawSum.card: QryLaid, OpenS, QryOpen. Conditions: those of each theorem. -/
import Derived.LaidSub
import Derived.LaidMore
import Derived.Lib.LaidTab
import Derived.Lib.SmallJoins
import Derived.Deep.Slices
import Derived.Deep.Fields
import Derived.Test.YthejfklieedjmaaGreatDoorQs01
import Derived.Test.YthejfklieedjmaaGreatDoorQs15
import Derived.Test.YthejfklieedjmaaGreatDoorQs22
import Derived.Test.YthejfklieedjmaaGreatDoorQs39
set_option maxRecDepth 20000
namespace Go.Proofs.YthejfklieedjmaaGreatDoor
open Go Go.Proofs Go.RowKit Go.WideShapes Go.ChangeShapes
theorem gAS34 : Tryz.prog.globalNamed "strings.asciiSpace" = some 1 := by kernel_rfl
theorem gPW34 : Tryz.prog.globalNamed "internal/strconv.uint64pow10" = some 2 := by kernel_rfl
theorem gLN34 : Tryz.prog.globalNamed "rivermark/calendar.lengths" = some 0 := by kernel_rfl
theorem laid34 {l : List (String × DataW Unit)} {W : World} (h : laidMetH Tryz.prog l W) (nm : String) (d : DataW Unit) (hf : l.filter (fun x => x.1 == nm) = [(nm, d)]) (hh : d.handleName?.isNone = true) : laidMet Tryz.prog [(nm, d)] W := by
 have h1 := h.filter fun x => x.1 == nm
 rw [hf] at h1
 have h2 := (laidMetH_iff.1 h1).1
 simpa [hh] using h2
theorem tabs34 {W : World} (h : laidMetH Tryz.prog Rows.queriesSumUpRow.laid W) : Lib.TabIs Tryz.prog W "strings.asciiSpace" .u8 Lib.asciiSpaceTab /\ Lib.TabIs Tryz.prog W "internal/strconv.uint64pow10" .u64 Lib.pow10Tab /\ Lib.TabIs Tryz.prog W "rivermark/calendar.lengths" .i64 lengthsTab :=
 ⟨Lib.tabIs_of_head (rest := []) gAS34 (show (Tryz.prog.globals[1]?).map (·.type) = some 269 by kernel_rfl) Tryz.underlying269 Tryz.underlying5 (by kernel_rfl) (by kernel_rfl) (laid34 h "strings.asciiSpace" (Lib.tabData .u8 Lib.asciiSpaceTab) (by kernel_rfl) (by kernel_rfl)),
 Lib.tabIs_of_head (rest := []) gPW34 (show (Tryz.prog.globals[2]?).map (·.type) = some 286 by kernel_rfl) Tryz.underlying286 Tryz.underlying191 (by kernel_rfl) (by kernel_rfl) (laid34 h "internal/strconv.uint64pow10" (Lib.tabData .u64 Lib.pow10Tab) (by kernel_rfl) (by kernel_rfl)),
 Lib.tabIs_of_head (rest := []) gLN34 (show (Tryz.prog.globals[0]?).map (·.type) = some 245 by kernel_rfl) Tryz.underlying245 Tryz.underlying3 (by kernel_rfl) (by kernel_rfl) (laid34 h "rivermark/calendar.lengths" (Lib.tabData .i64 lengthsTab) (by kernel_rfl) (by kernel_rfl))⟩
theorem tab34 {W : World} (h : laidMetH Tryz.prog Rows.queriesSumUpRow.laid W) : TabOK W := fun i hi => (tabs34 h).2.2.cell gLN34 i hi
theorem san34 {W V : World} (h : laidMetH Tryz.prog Rows.queriesSumUpRow.laid W) (t : Turned (fun _ => False) W V) : Calls Tryz.prog 5 #[] V fun e w' => e = .returned (.bool true) /\ Turned (fun _ => False) V w' := by
 obtain ⟨h1, h2, h3⟩ := tabs34 h
 have hw := gs_at h1 h2 h3
 have hv : TabsAt gs V := fun p hp => by
  obtain ⟨ty, fr, hb⟩ := hw p hp
  exact ⟨ty, fr, (t.block _ (getElem?_lt hb) id).trans hb⟩
 exact (sanity_any hv).mono fun _ _ h => ⟨h.1, Turned.of_new h.2⟩
open Go.Deep
theorem exists_list {α : Type} (d : α) (Q : Nat -> α -> Prop) : ∀ (n : Nat), (∀ i, i < n -> ∃ x, Q i x) -> ∃ l : List α, l.length = n /\ ∀ i, i < n -> Q i (l.getD i d)
 | 0, _ => ⟨[], rfl, fun _ h => absurd h (Nat.not_lt_zero _)⟩
 | n + 1, h => by
  obtain ⟨l, hl, hq⟩ := exists_list d Q n (fun i hi => h i (by omega))
  obtain ⟨x, hx⟩ := h n (by omega)
  refine ⟨l ++ [x], by simp [hl], fun i hi => ?_⟩
  rcases Nat.lt_or_ge i n with c | c
  ·have := hq i c
   rwa [List.getD_eq_getElem?_getD, List.getElem?_append_left (by omega), <- List.getD_eq_getElem?_getD]
  ·obtain rfl : i = n := by omega
   rwa [List.getD_eq_getElem?_getD, List.getElem?_append_right (by omega), hl, Nat.sub_self]
section
variable {H : Type} {enc : TypeId × Value -> H} {P : Program} {w : World} {base : Nat} {spare : Nat -> Bool} {held : Bool}
end
def I64Q (z : Int) : Prop := -9223372036854775808 <= z /\ z <= 9223372036854775807
inductive WfQ : Ex -> Prop
 | mk (p n : Int) (s : ByteArray) (ks : List Ex) (a : Int) (hp : I64Q p) (hn : I64Q n) (ha : I64Q a) (hs : s.size <= maxLen) (hl : ks.length <= maxLen) (hk : ∀ k ∈ ks, WfQ k) : WfQ (.mk p n s ks a)
theorem cIntQ : Tryz.prog.cellsOf 3 = 1 := by kernel_rfl
theorem cStringQ : Tryz.prog.cellsOf 9 = 1 := by kernel_rfl
theorem cExprsQ : Tryz.prog.cellsOf 40 = 1 := by kernel_rfl
theorem cExprQ : Tryz.prog.cellsOf 42 = 5 := by kernel_rfl
theorem i64_wfQ {z : Int} (h : (Lit.int .i64 z).wf = true) : I64Q z := by
 have h2 : IntKind.i64.min <= z /\ z <= IntKind.i64.max := by simpa [Lit.wf] using h
 exact h2
section
variable {H : Type} {enc : TypeId × Value -> H} {w : World} {held : Bool}
theorem elems_openQ {P : Program} {t e : TypeId} {fuel : Nat} {v : Value} {x : DataW H × List MemPlace} (ht : P.underlying t = some (.slice e)) (hpos : 0 < P.cellsOf e) (h : DataW.trod enc P w 0 (fun _ => true) held fuel t [v] = some x) :
  (∃ p c, v = .slice p 0 c) \/ ∃ b off len cap n, fuel = n + 1 /\ v = .slice (some ⟨b, off, none⟩) len cap /\ 0 < len /\ len <= maxLen /\ b < w.heap.size /\
   ∀ i, i < len -> ∃ cs y, DataW.trod enc P w 0 (fun _ => true) held n e cs = some y /\ cs.length = P.cellsOf e /\ ∀ j, j < P.cellsOf e -> w.cell? ⟨b, off + (i * P.cellsOf e + j), none⟩ = cs[j]? := by
 rcases DataW.trod_slice ht h with ⟨h0, -⟩ | ⟨a, len, cap, elems, rest, n, rfl, hcs, -, -, hl, hm, hlen, hel, -, -⟩
 ·simp only [List.cons.injEq, and_true] at h0
  exact .inl ⟨none, 0, h0⟩
 ·simp only [List.cons.injEq, and_true] at hcs
  subst hcs
  by_cases h0 : len = 0
  ·subst h0; exact .inl ⟨some a, cap, rfl⟩
  ·obtain ⟨b, off, spot⟩ := a
   have key : ∀ i, i < len -> ∃ cs y, w.cells? 0 ((⟨b, off, spot⟩ : Addr).add (i * P.cellsOf e)) (P.cellsOf e) = some cs /\ DataW.trod enc P w 0 (fun _ => true) held n e cs = some y := fun i hi => by
    have h1 := hel i hi
    rw [List.getElem?_eq_getElem (by omega)] at h1
    obtain ⟨cs, h2, h3⟩ := Option.bind_eq_some_iff.1 h1
    exact ⟨cs, _, h2, h3⟩
   obtain ⟨cs0, y0, hc0, -⟩ := key 0 (by omega)
   obtain ⟨-, hl0, hat0⟩ := World.cells?_some hc0
   have hcell := hat0 0 hpos
   rw [List.getElem?_eq_getElem (by omega)] at hcell
   have hspot : spot = none := by simpa [Addr.add] using World.cell?_spot hcell
   subst hspot
   refine .inr ⟨b, off, len, cap, n, rfl, rfl, by omega, by omega, ?_, fun i hi => ?_⟩
   ·rcases Nat.lt_or_ge b w.heap.size with h' | h'
    ·exact h'
    ·simp [World.cell?, Addr.add, Array.getElem?_eq_none h'] at hcell
   ·obtain ⟨cs, y, hc, hy⟩ := key i hi
    obtain ⟨-, hl1, hat⟩ := World.cells?_some hc
    refine ⟨cs, y, hy, hl1, fun j hj => ?_⟩
    have := hat j hj
    rw [Addr.add_lit, Addr.add_lit, Nat.add_assoc] at this
    exact this
theorem expr_openQ {fuel : Nat} {cs : List Value} {x : DataW H × List MemPlace} (hl : cs.length = 5) (h : DataW.trod enc Tryz.prog w 0 (fun _ => true) held fuel 42 cs = some x) :
  ∃ n op nn s v at_ y, fuel = n + 1 /\ cs = [(.int .i64 op), .int .i64 nn, .string s, v, .int .i64 at_] /\ I64Q op /\ I64Q nn /\ I64Q at_ /\ s.size <= maxLen /\ DataW.trod enc Tryz.prog w 0 (fun _ => true) held n 40 [v] = some y := by
 match cs, hl with
 | [c0, c1, c2, c3, c4], _ =>
  obtain ⟨xs, n, rfl, -, -, hxl, hf⟩ := DataW.trod_struct Tryz.underlying42 h
  have hxl5 : xs.length = 5 := hxl
  have g0 : DataW.trod enc Tryz.prog w 0 (fun _ => true) held n 3 (([c0, c1, c2, c3, c4].drop 0).take (Tryz.prog.cellsOf 3)) = xs[0]? := hf 0 _ rfl
  rw [cIntQ, List.getElem?_eq_getElem (by omega)] at g0
  have g1 : DataW.trod enc Tryz.prog w 0 (fun _ => true) held n 3 (([c0, c1, c2, c3, c4].drop 1).take (Tryz.prog.cellsOf 3)) = xs[1]? := hf 1 _ rfl
  rw [cIntQ, List.getElem?_eq_getElem (by omega)] at g1
  have g2 : DataW.trod enc Tryz.prog w 0 (fun _ => true) held n 9 (([c0, c1, c2, c3, c4].drop 2).take (Tryz.prog.cellsOf 9)) = xs[2]? := hf 2 _ rfl
  rw [cStringQ, List.getElem?_eq_getElem (by omega)] at g2
  have g3 : DataW.trod enc Tryz.prog w 0 (fun _ => true) held n 40 (([c0, c1, c2, c3, c4].drop 3).take (Tryz.prog.cellsOf 40)) = xs[3]? := hf 3 _ rfl
  rw [cExprsQ, List.getElem?_eq_getElem (by omega)] at g3
  have g4 : DataW.trod enc Tryz.prog w 0 (fun _ => true) held n 3 (([c0, c1, c2, c3, c4].drop 4).take (Tryz.prog.cellsOf 3)) = xs[4]? := hf 4 _ rfl
  rw [cIntQ, List.getElem?_eq_getElem (by omega)] at g4
  obtain ⟨z0, e0, -, f0⟩ := DataW.trod_int Tryz.underlying3 g0
  obtain ⟨z1, e1, -, f1⟩ := DataW.trod_int Tryz.underlying3 g1
  obtain ⟨s, e2, -, hs⟩ := DataW.trod_string Tryz.underlying9 g2
  obtain ⟨z4, e4, -, f4⟩ := DataW.trod_int Tryz.underlying3 g4
  simp at e0 e1 e2 e4
  subst e0 e1 e2 e4
  exact ⟨n, z0, z1, s, c3, z4, _, rfl, rfl, i64_wfQ f0, i64_wfQ f1, i64_wfQ f4, hs, g3⟩
theorem kids_openQ : ∀ (fuel : Nat) (v : Value) (x : DataW H × List MemPlace), DataW.trod enc Tryz.prog w 0 (fun _ => true) held fuel 40 [v] = some x ->
  ∃ kids, (∃ p c, v = .slice p kids.length c) /\ KidsAt w (fun b => b < w.heap.size) kids v /\ (∀ k ∈ kids, WfQ k) /\ kids.length <= maxLen := by
 intro fuel
 induction fuel using Nat.strongRecOn with
 | _ fuel ih =>
  intro v x h
  rcases elems_openQ Tryz.underlying40 (by rw [cExprQ]; omega) h with ⟨p, c, rfl⟩ | ⟨b, off, len, cap, n, rfl, rfl, hpos, hlen, hb, hi⟩
  ·exact ⟨[], ⟨p, c, rfl⟩, .nil p c, (fun _ hk => by cases hk), by simp⟩
  ·obtain ⟨l, hl, hq⟩ := exists_list (noEx, undef) (fun i (q : Ex × Value) => (∀ j u, (exV q.1 q.2)[j]? = some u -> w.cell? ⟨b, off + i * 5 + j, none⟩ = some u) /\ KidsAt w (fun b => b < w.heap.size) q.1.kids q.2 /\ WfQ q.1) len (fun i hil => by
    obtain ⟨cs, y, hy, hcl, hcell⟩ := hi i hil
    rw [cExprQ] at hcl hcell
    obtain ⟨n', op, nn, s, v, at_, y', rfl, rfl, i1, i2, i3, i4, hk⟩ := expr_openQ hcl hy
    obtain ⟨kids, -, hka, hwf, hkl⟩ := ih n' (by omega) v y' hk
    refine ⟨(.mk op nn s kids at_, v), fun j u hu => ?_, hka, .mk _ _ _ _ _ i1 i2 i3 i4 hkl hwf⟩
    have hj : j < 5 := by
     have := (List.getElem?_eq_some_iff.1 hu).1
     simpa [exV] using this
    have := hcell j hj
    rw [<- Nat.add_assoc] at this
    rw [this]
    exact hu)
   have hg : ∀ i, i < len -> l[i]? = some (l.getD i (noEx, undef)) := fun i hil => by
    rw [List.getD_eq_getElem?_getD, List.getElem?_eq_getElem (by omega)]; rfl
   have hlm : (l.map (·.1)).length = len := by rw [List.length_map, hl]
   refine ⟨l.map (·.1), ⟨_, cap, by rw [hlm]⟩, ?_, fun k hk => ?_, by omega⟩
   ·rw [<- hlm]
    refine KidsAt.some (N := fun b => b < w.heap.size) (l.map (·.1)) b off cap (fun i => (l.getD i (noEx, undef)).2) hb (by omega) (fun i hil j u hu => ?_) (fun i x hx => ?_)
    ·rw [hlm] at hil
     dsimp only at hu
     rw [List.getElem?_map, hg i hil] at hu
     exact (hq i hil).1 j u hu
    ·have hil : i < len := by have := lt_of_some hx; omega
     rw [List.getElem?_map, hg i hil] at hx
     cases hx
     exact (hq i hil).2.1
   ·obtain ⟨q, hqm, rfl⟩ := List.mem_map.1 hk
    obtain ⟨i, hx⟩ := List.getElem?_of_mem hqm
    have hil : i < len := by have := lt_of_some hx; omega
    rw [hg i hil] at hx
    cases hx
    exact (hq i hil).2.2
theorem ex_openQ {fuel : Nat} {cs : List Value} {x : DataW H × List MemPlace} (hl : cs.length = 5) (h : DataW.trod enc Tryz.prog w 0 (fun _ => true) held fuel 42 cs = some x) : ∃ e v, cs = exV e v /\ KidsAt w (fun b => b < w.heap.size) e.kids v /\ WfQ e := by
 obtain ⟨n, op, nn, s, v, at_, y, -, rfl, i1, i2, i3, i4, hk⟩ := expr_openQ hl h
 obtain ⟨kids, -, hka, hwf, hkl⟩ := kids_openQ n v y hk
 exact ⟨.mk op nn s kids at_, v, rfl, hka, .mk _ _ _ _ _ i1 i2 i3 i4 hkl hwf⟩
theorem ex_paramQ {r : Reach} {b0 : Nat} {v : Value} {d : DataW H} {p : List MemPlace} (hv : Value.okWide Tryz.prog w r b0 42 v) (h : DataW.Trod enc Tryz.prog w 0 (fun _ => true) held 42 v d p) : ∃ e u, v = exA e u /\ KidsAt w (fun _ => True) e.kids u /\ WfQ e := by
 obtain ⟨cs, rfl, hsz⟩ := okWide_struct Tryz.underlying42 hv
 obtain ⟨fuel, hf⟩ := h
 obtain ⟨e, u, h1, h2, h3⟩ := ex_openQ (by rw [cExprQ] at hsz; simpa [Value.cells] using hsz) hf
 refine ⟨e, u, ?_, h2.move (Turned.refl (fun _ => False) _) (fun _ _ => id) (fun _ _ _ => trivial), h3⟩
 unfold exA
 congr 1
 apply Array.ext'
 exact h1
end
mutual
theorem WfQ.sm : ∀ (x : Ex), WfQ x -> nodes x <= 100000 -> SmX x
 | .mk p n s ks a, h, hn => by
  cases h with
  | mk _ _ _ _ _ hp hq ha hs hl hk =>
   rw [nodes] at hn
   have := WfQ.sms ks hk (by omega)
   rw [SmX]
   exact ⟨hs, by omega, this.2⟩
theorem WfQ.sms : ∀ (l : List Ex), (∀ k ∈ l, WfQ k) -> nodesL l <= 100000 -> l.length <= nodesL l /\ SmXs l
 | [], _, _ => by rw [nodesL, SmXs]; exact ⟨by simp, trivial⟩
 | x :: r, h, hn => by
  rw [nodesL] at hn ⊢
  have h1 := WfQ.sm x (h x (List.mem_cons_self ..)) (by omega)
  have h2 := WfQ.sms r (fun k hk => h k (List.mem_cons_of_mem _ hk)) (by omega)
  rw [SmXs]
  have h3 : 1 <= nodes x := by cases x; rw [nodes]; omega
  exact ⟨by rw [List.length_cons]; omega, h1, h2.2⟩
end
end Go.Proofs.YthejfklieedjmaaGreatDoor
