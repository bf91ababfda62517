/- Part 22 of the proof of lawDue.card: OrdExA. Conditions: those of each theorem. -/
import Derived.Test.YtanhhdndgkhcfaaGreatDoorDt01
import Derived.Test.YtanhhdndgkhcfaaGreatDoorDt11
import Derived.Test.YtanhhdndgkhcfaaGreatDoorDt21
namespace Go.Proofs.YtanhhdndgkhcfaaGreatDoor
open Go Go.Proofs Go.RowKit
attribute [local go_sem] Oper.semAt_some
def opsOf (k : Nat) : Code → Option (Array Oper)
  | .region id ops _ => if id = k then some ops else none
  | .seq a b => match opsOf k a with
    | some o => some o
    | none => opsOf k b
  | _ => none
noncomputable def exOps : Array Oper := ((Tryz.f37).body.bind (opsOf 2)).getD #[]
theorem at3 {w : World} {b x y z : Nat} (h : w.heap[b]? = some (.cells #[(.int .i64 x), (.int .i64 y), (.int .i64 z)] 3 (0, 0))) : At w.heap.size w 1 intCells ([x, y, z].map fun n : Nat => (n : Int)) (some ⟨b, 0, none⟩) 3 :=
  ⟨by simp, by decide, fun i v hi => ⟨b, 0, rfl, getElem?_lt h, fun j u hj => by
    have hlt : i < 3 := by simpa using (List.getElem?_eq_some_iff.1 hi).1
    have hj0 : j = 0 := by
      have := (List.getElem?_eq_some_iff.1 hj).1
      simp at this
      omega
    subst hj0
    rcases (by omega : i = 0 ∨ i = 1 ∨ i = 2) with rfl | rfl | rfl <;> (simp at hi hj; subst hi; subst hj; simp [World.cell?, h])⟩⟩
theorem Grown.other {α : Type} {w w' : World} {base e s b t : Nat} {enc : α → List Value} {v : Value} {l : List α} {o : Array Value} (h : Grown w base e s enc v l) (ht : Turned (fun k => k = b) w w') (hb : w.heap[b]? = some (.cells o t (0, 0))) (hne : e ≠ t) : Grown w' base e s enc v l := by
  obtain ⟨h1, h2⟩ := h
  refine ⟨h1, ?_⟩
  rcases h2 with h2 | ⟨g, cap, cur, h3, h4, h5, h6⟩
  · exact .inl h2
  · refine .inr ⟨g, cap, cur, h3, h4, (ht.block g (getElem?_lt h5) fun he => ?_).trans h5, h6⟩
    rw [he, hb] at h5
    cases h5
    exact hne rfl
theorem block_other {w w' : World} {a b t e : Nat} {o u : Array Value} (h : w.heap[a]? = some (.cells o e (0, 0))) (ht : Turned (fun k => k = b) w w') (hb : w.heap[b]? = some (.cells u t (0, 0))) (hne : e ≠ t) : w'.heap[a]? = some (.cells o e (0, 0)) :=
  (ht.block a (getElem?_lt h) fun he => by
    rw [he, hb] at h
    cases h
    exact hne rfl).trans h
set_option maxRecDepth 100000 in
set_option maxHeartbeats 4000000 in
theorem ex_region (mo r0 kb w1 : Nat) (W0 : World) (hmo : mo ≤ 1000) (Q : Exit → Act → World → Prop)
    (hkb : kb < W0.heap.size) (hQ : ∀ (bA : Nat) (bB : Nat) (qC : Option Addr) (dC : Nat) (bD : Nat) (qE : Option Addr) (dE : Nat) (bF : Nat) (w : World), Hid (Turned (fun _ => False) W0 w ∧ (W0.heap.size ≤ bA ∧ w.heap[bA]? = some (.cells #[(.int .i64 2), .slice (some ⟨w1, 0, none⟩) 1 1, (.int .i64 2), .slice (some ⟨w1, 0, none⟩) 1 1, (.int .i64 (-1)), .slice none 0 0] 123 (0, 0))) ∧ Grown w W0.heap.size 68 3 ratCells (.slice qC 3 dC) (exU 6) ∧ Grown w W0.heap.size 68 3 ratCells (.slice qE 3 dE) (exU mo) ∧ w.heap[bF]? = some (.cells #[.slice (some ⟨bA, 0, none⟩) 3 3, .slice qC 3 dC, .slice qE 3 dE] 25 (0, 0))) → Q .normal { tmps := #[(.int .i64 mo), undef, .pointer (some ⟨r0, 0, none⟩), .slice none 0 0, .pointer (some ⟨kb, 0, none⟩), .pointer (some ⟨bF, 0, none⟩), .slice (some ⟨w1, 0, none⟩) 1 1, .agg #[.slice (some ⟨w1, 0, none⟩) 1 1], .agg #[.slice (some ⟨w1, 0, none⟩) 1 1], .agg #[(.int .i64 2), .slice (some ⟨w1, 0, none⟩) 1 1], .agg #[.slice (some ⟨w1, 0, none⟩) 1 1], .agg #[(.int .i64 2), .slice (some ⟨w1, 0, none⟩) 1 1], .agg #[(.int .i64 (-1)), .slice none 0 0], .slice (some ⟨bA, 0, none⟩) 3 3, .slice (some ⟨bB, 0, none⟩) 3 3, .slice qC 3 dC, (.int .i64 mo), .slice (some ⟨bD, 0, none⟩) 3 3, .slice qE 3 dE, .agg #[.slice (some ⟨bA, 0, none⟩) 3 3, .slice qC 3 dC, .slice qE 3 dE], undef, undef, undef, undef, undef, undef, undef, undef, undef, undef], defers := [] } w) :
    ∀ (w : World), w.cell? ⟨kb, 0, none⟩ = some (.slice (some ⟨w1, 0, none⟩) 1 1) → Hid (Turned (fun _ => False) W0 w) → wpAnyH Tryz.prog .any exOps (OnlyN Q) (fun V => V.cell? ⟨kb, 0, none⟩ = some (.slice (some ⟨w1, 0, none⟩) 1 1)) 8 #[true, true, true, true, true, false, false, false, true, false, false, false, false, false] { tmps := #[(.int .i64 mo), undef, .pointer (some ⟨r0, 0, none⟩), .slice none 0 0, .pointer (some ⟨kb, 0, none⟩), undef, .slice (some ⟨w1, 0, none⟩) 1 1, .agg #[.slice (some ⟨w1, 0, none⟩) 1 1], .agg #[.slice (some ⟨w1, 0, none⟩) 1 1], .agg #[(.int .i64 2), .slice (some ⟨w1, 0, none⟩) 1 1], .agg #[.slice (some ⟨w1, 0, none⟩) 1 1], .agg #[(.int .i64 2), .slice (some ⟨w1, 0, none⟩) 1 1], .agg #[(.int .i64 (-1)), .slice none 0 0], undef, undef, undef, (.int .i64 mo), undef, undef, undef, undef, undef, undef, undef, undef, undef, undef, undef, undef, undef], defers := [] } w := by
  obtain ⟨ops, hops⟩ : ∃ o, o = exOps := ⟨_, rfl⟩
  rw [← hops]
  unfold exOps at hops
  conv at hops => rhs; whnf
  have stABCDEF : ∀ (bA : Nat) (bB : Nat) (qC : Option Addr) (dC : Nat) (bD : Nat) (qE : Option Addr) (dE : Nat) (bF : Nat) (w : World), w.cell? ⟨kb, 0, none⟩ = some (.slice (some ⟨w1, 0, none⟩) 1 1) → Hid (Turned (fun _ => False) W0 w ∧ (W0.heap.size ≤ bA ∧ w.heap[bA]? = some (.cells #[(.int .i64 2), .slice (some ⟨w1, 0, none⟩) 1 1, (.int .i64 2), .slice (some ⟨w1, 0, none⟩) 1 1, (.int .i64 (-1)), .slice none 0 0] 123 (0, 0))) ∧ (W0.heap.size ≤ bB ∧ w.heap[bB]? = some (.cells #[(.int .i64 6), (.int .i64 2), (.int .i64 1)] 3 (0, 0))) ∧ Grown w W0.heap.size 68 3 ratCells (.slice qC 3 dC) (exU 6) ∧ (W0.heap.size ≤ bD ∧ w.heap[bD]? = some (.cells #[(.int .i64 mo), (.int .i64 2), (.int .i64 1)] 3 (0, 0))) ∧ Grown w W0.heap.size 68 3 ratCells (.slice qE 3 dE) (exU mo) ∧ (W0.heap.size ≤ bF ∧ w.heap[bF]? = some (.cells #[.slice none 0 0, .slice none 0 0, .slice none 0 0] 25 (0, 0)))) → wpAnyH Tryz.prog .any ops (OnlyN Q) (fun V => V.cell? ⟨kb, 0, none⟩ = some (.slice (some ⟨w1, 0, none⟩) 1 1)) 1 #[true, true, true, true, true, true, true, true, true, true, true, true, true, false] { tmps := #[(.int .i64 mo), undef, .pointer (some ⟨r0, 0, none⟩), .slice none 0 0, .pointer (some ⟨kb, 0, none⟩), .pointer (some ⟨bF, 0, none⟩), .slice (some ⟨w1, 0, none⟩) 1 1, .agg #[.slice (some ⟨w1, 0, none⟩) 1 1], .agg #[.slice (some ⟨w1, 0, none⟩) 1 1], .agg #[(.int .i64 2), .slice (some ⟨w1, 0, none⟩) 1 1], .agg #[.slice (some ⟨w1, 0, none⟩) 1 1], .agg #[(.int .i64 2), .slice (some ⟨w1, 0, none⟩) 1 1], .agg #[(.int .i64 (-1)), .slice none 0 0], .slice (some ⟨bA, 0, none⟩) 3 3, .slice (some ⟨bB, 0, none⟩) 3 3, .slice qC 3 dC, (.int .i64 mo), .slice (some ⟨bD, 0, none⟩) 3 3, .slice qE 3 dE, .agg #[.slice (some ⟨bA, 0, none⟩) 3 3, .slice qC 3 dC, .slice qE 3 dE], undef, undef, undef, undef, undef, undef, undef, undef, undef, undef], defers := [] } w := by
    subst hops
    intro bA bB qC dC bD qE dE bF w hS HH
    obtain ⟨hT, hA, hB, hC, hD, hE, hF⟩ := HH.out
    have hst := set3 hF.2 (.slice (some ⟨bA, 0, none⟩) 3 3) (.slice qC 3 dC) (.slice qE 3 dE)
    refine wpAnyH_ready (rs := [13]) (by kernel_rfl) (by simp) ?_
    refine AllReadyH.cons (o := _) rfl (fun K hK => ?_) AllReadyH.nil
    obtain ⟨d0, d1, d2, d3, d4, d5⟩ := box3 hF.2
    have hne : ¬ kb = bF := by have := hF.1; omega
    have HFIN : Hid (Turned (fun _ => False) W0 (((w.setCell ⟨bF, 0, none⟩ (.slice (some ⟨bA, 0, none⟩) 3 3)).setCell ⟨bF, 1, none⟩ (.slice qC 3 dC)).setCell ⟨bF, 2, none⟩ (.slice qE 3 dE)) ∧ (W0.heap.size ≤ bA ∧ (((w.setCell ⟨bF, 0, none⟩ (.slice (some ⟨bA, 0, none⟩) 3 3)).setCell ⟨bF, 1, none⟩ (.slice qC 3 dC)).setCell ⟨bF, 2, none⟩ (.slice qE 3 dE)).heap[bA]? = some (.cells #[(.int .i64 2), .slice (some ⟨w1, 0, none⟩) 1 1, (.int .i64 2), .slice (some ⟨w1, 0, none⟩) 1 1, (.int .i64 (-1)), .slice none 0 0] 123 (0, 0))) ∧ Grown (((w.setCell ⟨bF, 0, none⟩ (.slice (some ⟨bA, 0, none⟩) 3 3)).setCell ⟨bF, 1, none⟩ (.slice qC 3 dC)).setCell ⟨bF, 2, none⟩ (.slice qE 3 dE)) W0.heap.size 68 3 ratCells (.slice qC 3 dC) (exU 6) ∧ Grown (((w.setCell ⟨bF, 0, none⟩ (.slice (some ⟨bA, 0, none⟩) 3 3)).setCell ⟨bF, 1, none⟩ (.slice qC 3 dC)).setCell ⟨bF, 2, none⟩ (.slice qE 3 dE)) W0.heap.size 68 3 ratCells (.slice qE 3 dE) (exU mo) ∧ (((w.setCell ⟨bF, 0, none⟩ (.slice (some ⟨bA, 0, none⟩) 3 3)).setCell ⟨bF, 1, none⟩ (.slice qC 3 dC)).setCell ⟨bF, 2, none⟩ (.slice qE 3 dE)).heap[bF]? = some (.cells #[.slice (some ⟨bA, 0, none⟩) 3 3, .slice qC 3 dC, .slice qE 3 dE] 25 (0, 0))) := Lib.hid (⟨hT.fresh hst.2 fun g hg => by have := hF.1; omega, ⟨hA.1, block_other hA.2 hst.2 hF.2 (by decide)⟩, hC.other hst.2 hF.2 (by decide), hE.other hst.2 hF.2 (by decide), hst.1⟩)
    have hcc := cellT hst.2 hne hS
    clear hT hA hB hC hD hE hF HH
    go_simp
    refine hK.out _ _ hcc (fun _ => ?_)
    refine wpAnyH_done (by kernel_rfl) ?_ _
    exact hQ bA bB qC dC bD qE dE bF _ HFIN
  have stABCDE : ∀ (bA : Nat) (bB : Nat) (qC : Option Addr) (dC : Nat) (bD : Nat) (qE : Option Addr) (dE : Nat) (w : World), w.cell? ⟨kb, 0, none⟩ = some (.slice (some ⟨w1, 0, none⟩) 1 1) → Hid (Turned (fun _ => False) W0 w ∧ (W0.heap.size ≤ bA ∧ w.heap[bA]? = some (.cells #[(.int .i64 2), .slice (some ⟨w1, 0, none⟩) 1 1, (.int .i64 2), .slice (some ⟨w1, 0, none⟩) 1 1, (.int .i64 (-1)), .slice none 0 0] 123 (0, 0))) ∧ (W0.heap.size ≤ bB ∧ w.heap[bB]? = some (.cells #[(.int .i64 6), (.int .i64 2), (.int .i64 1)] 3 (0, 0))) ∧ Grown w W0.heap.size 68 3 ratCells (.slice qC 3 dC) (exU 6) ∧ (W0.heap.size ≤ bD ∧ w.heap[bD]? = some (.cells #[(.int .i64 mo), (.int .i64 2), (.int .i64 1)] 3 (0, 0))) ∧ Grown w W0.heap.size 68 3 ratCells (.slice qE 3 dE) (exU mo)) → wpAnyH Tryz.prog .any ops (OnlyN Q) (fun V => V.cell? ⟨kb, 0, none⟩ = some (.slice (some ⟨w1, 0, none⟩) 1 1)) 2 #[true, true, true, true, true, true, true, true, true, true, true, true, false, false] { tmps := #[(.int .i64 mo), undef, .pointer (some ⟨r0, 0, none⟩), .slice none 0 0, .pointer (some ⟨kb, 0, none⟩), undef, .slice (some ⟨w1, 0, none⟩) 1 1, .agg #[.slice (some ⟨w1, 0, none⟩) 1 1], .agg #[.slice (some ⟨w1, 0, none⟩) 1 1], .agg #[(.int .i64 2), .slice (some ⟨w1, 0, none⟩) 1 1], .agg #[.slice (some ⟨w1, 0, none⟩) 1 1], .agg #[(.int .i64 2), .slice (some ⟨w1, 0, none⟩) 1 1], .agg #[(.int .i64 (-1)), .slice none 0 0], .slice (some ⟨bA, 0, none⟩) 3 3, .slice (some ⟨bB, 0, none⟩) 3 3, .slice qC 3 dC, (.int .i64 mo), .slice (some ⟨bD, 0, none⟩) 3 3, .slice qE 3 dE, .agg #[.slice (some ⟨bA, 0, none⟩) 3 3, .slice qC 3 dC, .slice qE 3 dE], undef, undef, undef, undef, undef, undef, undef, undef, undef, undef], defers := [] } w := by
    subst hops
    intro bA bB qC dC bD qE dE w hS HH
    refine wpAnyH_ready (rs := [12]) (by kernel_rfl) (by simp) ?_
    refine AllReadyH.cons (o := _) rfl (fun K hK => ?_) AllReadyH.nil
    · go_simp
      have TA := (Turned.refl (fun _ => False) w).alloc (.cells #[.slice none 0 0, .slice none 0 0, .slice none 0 0] 25)
      exact hK.out _ _ (cellT TA id hS) fun h => stABCDEF bA bB qC dC bD qE dE w.heap.size _ h (Lib.hid ⟨(HH.out.1.trans TA), ⟨HH.out.2.1.1, keepB TA HH.out.2.1.2⟩, ⟨HH.out.2.2.1.1, keepB TA HH.out.2.2.1.2⟩, HH.out.2.2.2.1.turned TA fun _ h => h.elim, ⟨HH.out.2.2.2.2.1.1, keepB TA HH.out.2.2.2.2.1.2⟩, HH.out.2.2.2.2.2.turned TA fun _ h => h.elim, ⟨HH.out.1.size, World.alloc_heap_new _ _⟩⟩)
  have stABCDF : ∀ (bA : Nat) (bB : Nat) (qC : Option Addr) (dC : Nat) (bD : Nat) (bF : Nat) (w : World), w.cell? ⟨kb, 0, none⟩ = some (.slice (some ⟨w1, 0, none⟩) 1 1) → Hid (Turned (fun _ => False) W0 w ∧ (W0.heap.size ≤ bA ∧ w.heap[bA]? = some (.cells #[(.int .i64 2), .slice (some ⟨w1, 0, none⟩) 1 1, (.int .i64 2), .slice (some ⟨w1, 0, none⟩) 1 1, (.int .i64 (-1)), .slice none 0 0] 123 (0, 0))) ∧ (W0.heap.size ≤ bB ∧ w.heap[bB]? = some (.cells #[(.int .i64 6), (.int .i64 2), (.int .i64 1)] 3 (0, 0))) ∧ Grown w W0.heap.size 68 3 ratCells (.slice qC 3 dC) (exU 6) ∧ (W0.heap.size ≤ bD ∧ w.heap[bD]? = some (.cells #[(.int .i64 mo), (.int .i64 2), (.int .i64 1)] 3 (0, 0))) ∧ (W0.heap.size ≤ bF ∧ w.heap[bF]? = some (.cells #[.slice none 0 0, .slice none 0 0, .slice none 0 0] 25 (0, 0)))) → wpAnyH Tryz.prog .any ops (OnlyN Q) (fun V => V.cell? ⟨kb, 0, none⟩ = some (.slice (some ⟨w1, 0, none⟩) 1 1)) 3 #[true, true, true, true, true, true, true, true, true, true, false, false, true, false] { tmps := #[(.int .i64 mo), undef, .pointer (some ⟨r0, 0, none⟩), .slice none 0 0, .pointer (some ⟨kb, 0, none⟩), .pointer (some ⟨bF, 0, none⟩), .slice (some ⟨w1, 0, none⟩) 1 1, .agg #[.slice (some ⟨w1, 0, none⟩) 1 1], .agg #[.slice (some ⟨w1, 0, none⟩) 1 1], .agg #[(.int .i64 2), .slice (some ⟨w1, 0, none⟩) 1 1], .agg #[.slice (some ⟨w1, 0, none⟩) 1 1], .agg #[(.int .i64 2), .slice (some ⟨w1, 0, none⟩) 1 1], .agg #[(.int .i64 (-1)), .slice none 0 0], .slice (some ⟨bA, 0, none⟩) 3 3, .slice (some ⟨bB, 0, none⟩) 3 3, .slice qC 3 dC, (.int .i64 mo), .slice (some ⟨bD, 0, none⟩) 3 3, undef, undef, undef, undef, undef, undef, undef, undef, undef, undef, undef, undef], defers := [] } w := by
    subst hops
    intro bA bB qC dC bD bF w hS HH
    refine wpAnyH_ready (rs := [10]) (by kernel_rfl) (by simp) ?_
    refine AllReadyH.cons (o := _) rfl (fun K hK => ?_) AllReadyH.nil
    · go_simp
      have hl : At w.heap.size w 1 intCells ([mo, 2, 1].map fun n : Nat => (n : Int)) (some ⟨bD, 0, none⟩) 3 := at3 HH.out.2.2.2.2.1.2
      refine (lawInts_any [mo, 2, 1] (some ⟨bD, 0, none⟩) 3 _ w hl (by intro n hn; simp at hn; omega) (by simp)).mono ?_
      rintro e w' ⟨q, d, rfl, hg, TA⟩
      refine hK.out _ _ (cellT TA id hS) fun h => ?_
      refine wpAnyH_take (i := 11) (oi := _) (v := .agg #[.slice (some ⟨bA, 0, none⟩) 3 3, .slice qC 3 dC, .slice q 3 d]) rfl (by kernel_rfl) (by kernel_rfl) (by kernel_rfl) (fun _ _ _ h => h) (Or.inl ⟨by kernel_rfl, fun V hV => ?_⟩) h ?_
      · go_simp
      exact stABCDEF bA bB qC dC bD q d bF _ h (Lib.hid ⟨(HH.out.1.trans TA), ⟨HH.out.2.1.1, keepB TA HH.out.2.1.2⟩, ⟨HH.out.2.2.1.1, keepB TA HH.out.2.2.1.2⟩, HH.out.2.2.2.1.turned TA fun _ h => h.elim, ⟨HH.out.2.2.2.2.1.1, keepB TA HH.out.2.2.2.2.1.2⟩, hg.low HH.out.1.size, ⟨HH.out.2.2.2.2.2.1, keepB TA HH.out.2.2.2.2.2.2⟩⟩)
  have stBCDEF : ∀ (bB : Nat) (qC : Option Addr) (dC : Nat) (bD : Nat) (qE : Option Addr) (dE : Nat) (bF : Nat) (w : World), w.cell? ⟨kb, 0, none⟩ = some (.slice (some ⟨w1, 0, none⟩) 1 1) → Hid (Turned (fun _ => False) W0 w ∧ (W0.heap.size ≤ bB ∧ w.heap[bB]? = some (.cells #[(.int .i64 6), (.int .i64 2), (.int .i64 1)] 3 (0, 0))) ∧ Grown w W0.heap.size 68 3 ratCells (.slice qC 3 dC) (exU 6) ∧ (W0.heap.size ≤ bD ∧ w.heap[bD]? = some (.cells #[(.int .i64 mo), (.int .i64 2), (.int .i64 1)] 3 (0, 0))) ∧ Grown w W0.heap.size 68 3 ratCells (.slice qE 3 dE) (exU mo) ∧ (W0.heap.size ≤ bF ∧ w.heap[bF]? = some (.cells #[.slice none 0 0, .slice none 0 0, .slice none 0 0] 25 (0, 0)))) → wpAnyH Tryz.prog .any ops (OnlyN Q) (fun V => V.cell? ⟨kb, 0, none⟩ = some (.slice (some ⟨w1, 0, none⟩) 1 1)) 3 #[true, true, true, true, true, false, true, true, true, true, true, false, true, false] { tmps := #[(.int .i64 mo), undef, .pointer (some ⟨r0, 0, none⟩), .slice none 0 0, .pointer (some ⟨kb, 0, none⟩), .pointer (some ⟨bF, 0, none⟩), .slice (some ⟨w1, 0, none⟩) 1 1, .agg #[.slice (some ⟨w1, 0, none⟩) 1 1], .agg #[.slice (some ⟨w1, 0, none⟩) 1 1], .agg #[(.int .i64 2), .slice (some ⟨w1, 0, none⟩) 1 1], .agg #[.slice (some ⟨w1, 0, none⟩) 1 1], .agg #[(.int .i64 2), .slice (some ⟨w1, 0, none⟩) 1 1], .agg #[(.int .i64 (-1)), .slice none 0 0], undef, .slice (some ⟨bB, 0, none⟩) 3 3, .slice qC 3 dC, (.int .i64 mo), .slice (some ⟨bD, 0, none⟩) 3 3, .slice qE 3 dE, undef, undef, undef, undef, undef, undef, undef, undef, undef, undef, undef], defers := [] } w := by
    subst hops
    intro bB qC dC bD qE dE bF w hS HH
    refine wpAnyH_ready (rs := [5]) (by kernel_rfl) (by simp) ?_
    refine AllReadyH.cons (o := _) rfl (fun K hK => ?_) AllReadyH.nil
    · go_simp
      have TA := (Turned.refl (fun _ => False) w).alloc (.cells #[(.int .i64 2), .slice (some ⟨w1, 0, none⟩) 1 1, (.int .i64 2), .slice (some ⟨w1, 0, none⟩) 1 1, (.int .i64 (-1)), .slice none 0 0] 123)
      refine hK.out _ _ (cellT TA id hS) fun h => ?_
      refine wpAnyH_take (i := 11) (oi := _) (v := .agg #[.slice (some ⟨(w.heap.size), 0, none⟩) 3 3, .slice qC 3 dC, .slice qE 3 dE]) rfl (by kernel_rfl) (by kernel_rfl) (by kernel_rfl) (fun _ _ _ h => h) (Or.inl ⟨by kernel_rfl, fun V hV => ?_⟩) h ?_
      · go_simp
      exact stABCDEF w.heap.size bB qC dC bD qE dE bF _ h (Lib.hid ⟨(HH.out.1.trans TA), ⟨HH.out.1.size, World.alloc_heap_new _ _⟩, ⟨HH.out.2.1.1, keepB TA HH.out.2.1.2⟩, HH.out.2.2.1.turned TA fun _ h => h.elim, ⟨HH.out.2.2.2.1.1, keepB TA HH.out.2.2.2.1.2⟩, HH.out.2.2.2.2.1.turned TA fun _ h => h.elim, ⟨HH.out.2.2.2.2.2.1, keepB TA HH.out.2.2.2.2.2.2⟩⟩)
  have stABCD : ∀ (bA : Nat) (bB : Nat) (qC : Option Addr) (dC : Nat) (bD : Nat) (w : World), w.cell? ⟨kb, 0, none⟩ = some (.slice (some ⟨w1, 0, none⟩) 1 1) → Hid (Turned (fun _ => False) W0 w ∧ (W0.heap.size ≤ bA ∧ w.heap[bA]? = some (.cells #[(.int .i64 2), .slice (some ⟨w1, 0, none⟩) 1 1, (.int .i64 2), .slice (some ⟨w1, 0, none⟩) 1 1, (.int .i64 (-1)), .slice none 0 0] 123 (0, 0))) ∧ (W0.heap.size ≤ bB ∧ w.heap[bB]? = some (.cells #[(.int .i64 6), (.int .i64 2), (.int .i64 1)] 3 (0, 0))) ∧ Grown w W0.heap.size 68 3 ratCells (.slice qC 3 dC) (exU 6) ∧ (W0.heap.size ≤ bD ∧ w.heap[bD]? = some (.cells #[(.int .i64 mo), (.int .i64 2), (.int .i64 1)] 3 (0, 0)))) → wpAnyH Tryz.prog .any ops (OnlyN Q) (fun V => V.cell? ⟨kb, 0, none⟩ = some (.slice (some ⟨w1, 0, none⟩) 1 1)) 4 #[true, true, true, true, true, true, true, true, true, true, false, false, false, false] { tmps := #[(.int .i64 mo), undef, .pointer (some ⟨r0, 0, none⟩), .slice none 0 0, .pointer (some ⟨kb, 0, none⟩), undef, .slice (some ⟨w1, 0, none⟩) 1 1, .agg #[.slice (some ⟨w1, 0, none⟩) 1 1], .agg #[.slice (some ⟨w1, 0, none⟩) 1 1], .agg #[(.int .i64 2), .slice (some ⟨w1, 0, none⟩) 1 1], .agg #[.slice (some ⟨w1, 0, none⟩) 1 1], .agg #[(.int .i64 2), .slice (some ⟨w1, 0, none⟩) 1 1], .agg #[(.int .i64 (-1)), .slice none 0 0], .slice (some ⟨bA, 0, none⟩) 3 3, .slice (some ⟨bB, 0, none⟩) 3 3, .slice qC 3 dC, (.int .i64 mo), .slice (some ⟨bD, 0, none⟩) 3 3, undef, undef, undef, undef, undef, undef, undef, undef, undef, undef, undef, undef], defers := [] } w := by
    subst hops
    intro bA bB qC dC bD w hS HH
    refine wpAnyH_ready (rs := [10, 12]) (by kernel_rfl) (by simp) ?_
    refine AllReadyH.cons (o := _) rfl (fun K hK => ?_) (AllReadyH.cons (o := _) rfl (fun K hK => ?_) AllReadyH.nil)
    · go_simp
      have hl : At w.heap.size w 1 intCells ([mo, 2, 1].map fun n : Nat => (n : Int)) (some ⟨bD, 0, none⟩) 3 := at3 HH.out.2.2.2.2.2
      refine (lawInts_any [mo, 2, 1] (some ⟨bD, 0, none⟩) 3 _ w hl (by intro n hn; simp at hn; omega) (by simp)).mono ?_
      rintro e w' ⟨q, d, rfl, hg, TA⟩
      refine hK.out _ _ (cellT TA id hS) fun h => ?_
      refine wpAnyH_take (i := 11) (oi := _) (v := .agg #[.slice (some ⟨bA, 0, none⟩) 3 3, .slice qC 3 dC, .slice q 3 d]) rfl (by kernel_rfl) (by kernel_rfl) (by kernel_rfl) (fun _ _ _ h => h) (Or.inl ⟨by kernel_rfl, fun V hV => ?_⟩) h ?_
      · go_simp
      exact stABCDE bA bB qC dC bD q d _ h (Lib.hid ⟨(HH.out.1.trans TA), ⟨HH.out.2.1.1, keepB TA HH.out.2.1.2⟩, ⟨HH.out.2.2.1.1, keepB TA HH.out.2.2.1.2⟩, HH.out.2.2.2.1.turned TA fun _ h => h.elim, ⟨HH.out.2.2.2.2.1, keepB TA HH.out.2.2.2.2.2⟩, hg.low HH.out.1.size⟩)
    · go_simp
      have TA := (Turned.refl (fun _ => False) w).alloc (.cells #[.slice none 0 0, .slice none 0 0, .slice none 0 0] 25)
      exact hK.out _ _ (cellT TA id hS) fun h => stABCDF bA bB qC dC bD w.heap.size _ h (Lib.hid ⟨(HH.out.1.trans TA), ⟨HH.out.2.1.1, keepB TA HH.out.2.1.2⟩, ⟨HH.out.2.2.1.1, keepB TA HH.out.2.2.1.2⟩, HH.out.2.2.2.1.turned TA fun _ h => h.elim, ⟨HH.out.2.2.2.2.1, keepB TA HH.out.2.2.2.2.2⟩, ⟨HH.out.1.size, World.alloc_heap_new _ _⟩⟩)
  have stABCF : ∀ (bA : Nat) (bB : Nat) (qC : Option Addr) (dC : Nat) (bF : Nat) (w : World), w.cell? ⟨kb, 0, none⟩ = some (.slice (some ⟨w1, 0, none⟩) 1 1) → Hid (Turned (fun _ => False) W0 w ∧ (W0.heap.size ≤ bA ∧ w.heap[bA]? = some (.cells #[(.int .i64 2), .slice (some ⟨w1, 0, none⟩) 1 1, (.int .i64 2), .slice (some ⟨w1, 0, none⟩) 1 1, (.int .i64 (-1)), .slice none 0 0] 123 (0, 0))) ∧ (W0.heap.size ≤ bB ∧ w.heap[bB]? = some (.cells #[(.int .i64 6), (.int .i64 2), (.int .i64 1)] 3 (0, 0))) ∧ Grown w W0.heap.size 68 3 ratCells (.slice qC 3 dC) (exU 6) ∧ (W0.heap.size ≤ bF ∧ w.heap[bF]? = some (.cells #[.slice none 0 0, .slice none 0 0, .slice none 0 0] 25 (0, 0)))) → wpAnyH Tryz.prog .any ops (OnlyN Q) (fun V => V.cell? ⟨kb, 0, none⟩ = some (.slice (some ⟨w1, 0, none⟩) 1 1)) 4 #[true, true, true, true, true, true, true, true, true, false, false, false, true, false] { tmps := #[(.int .i64 mo), undef, .pointer (some ⟨r0, 0, none⟩), .slice none 0 0, .pointer (some ⟨kb, 0, none⟩), .pointer (some ⟨bF, 0, none⟩), .slice (some ⟨w1, 0, none⟩) 1 1, .agg #[.slice (some ⟨w1, 0, none⟩) 1 1], .agg #[.slice (some ⟨w1, 0, none⟩) 1 1], .agg #[(.int .i64 2), .slice (some ⟨w1, 0, none⟩) 1 1], .agg #[.slice (some ⟨w1, 0, none⟩) 1 1], .agg #[(.int .i64 2), .slice (some ⟨w1, 0, none⟩) 1 1], .agg #[(.int .i64 (-1)), .slice none 0 0], .slice (some ⟨bA, 0, none⟩) 3 3, .slice (some ⟨bB, 0, none⟩) 3 3, .slice qC 3 dC, (.int .i64 mo), undef, undef, undef, undef, undef, undef, undef, undef, undef, undef, undef, undef, undef], defers := [] } w := by
    subst hops
    intro bA bB qC dC bF w hS HH
    refine wpAnyH_ready (rs := [9]) (by kernel_rfl) (by simp) ?_
    refine AllReadyH.cons (o := _) rfl (fun K hK => ?_) AllReadyH.nil
    · go_simp
      have TA := (Turned.refl (fun _ => False) w).alloc (.cells #[(.int .i64 mo), (.int .i64 2), (.int .i64 1)] 3)
      exact hK.out _ _ (cellT TA id hS) fun h => stABCDF bA bB qC dC w.heap.size bF _ h (Lib.hid ⟨(HH.out.1.trans TA), ⟨HH.out.2.1.1, keepB TA HH.out.2.1.2⟩, ⟨HH.out.2.2.1.1, keepB TA HH.out.2.2.1.2⟩, HH.out.2.2.2.1.turned TA fun _ h => h.elim, ⟨HH.out.1.size, World.alloc_heap_new _ _⟩, ⟨HH.out.2.2.2.2.1, keepB TA HH.out.2.2.2.2.2⟩⟩)
  have stABDF : ∀ (bA : Nat) (bB : Nat) (bD : Nat) (bF : Nat) (w : World), w.cell? ⟨kb, 0, none⟩ = some (.slice (some ⟨w1, 0, none⟩) 1 1) → Hid (Turned (fun _ => False) W0 w ∧ (W0.heap.size ≤ bA ∧ w.heap[bA]? = some (.cells #[(.int .i64 2), .slice (some ⟨w1, 0, none⟩) 1 1, (.int .i64 2), .slice (some ⟨w1, 0, none⟩) 1 1, (.int .i64 (-1)), .slice none 0 0] 123 (0, 0))) ∧ (W0.heap.size ≤ bB ∧ w.heap[bB]? = some (.cells #[(.int .i64 6), (.int .i64 2), (.int .i64 1)] 3 (0, 0))) ∧ (W0.heap.size ≤ bD ∧ w.heap[bD]? = some (.cells #[(.int .i64 mo), (.int .i64 2), (.int .i64 1)] 3 (0, 0))) ∧ (W0.heap.size ≤ bF ∧ w.heap[bF]? = some (.cells #[.slice none 0 0, .slice none 0 0, .slice none 0 0] 25 (0, 0)))) → wpAnyH Tryz.prog .any ops (OnlyN Q) (fun V => V.cell? ⟨kb, 0, none⟩ = some (.slice (some ⟨w1, 0, none⟩) 1 1)) 4 #[true, true, true, true, true, true, true, false, true, true, false, false, true, false] { tmps := #[(.int .i64 mo), undef, .pointer (some ⟨r0, 0, none⟩), .slice none 0 0, .pointer (some ⟨kb, 0, none⟩), .pointer (some ⟨bF, 0, none⟩), .slice (some ⟨w1, 0, none⟩) 1 1, .agg #[.slice (some ⟨w1, 0, none⟩) 1 1], .agg #[.slice (some ⟨w1, 0, none⟩) 1 1], .agg #[(.int .i64 2), .slice (some ⟨w1, 0, none⟩) 1 1], .agg #[.slice (some ⟨w1, 0, none⟩) 1 1], .agg #[(.int .i64 2), .slice (some ⟨w1, 0, none⟩) 1 1], .agg #[(.int .i64 (-1)), .slice none 0 0], .slice (some ⟨bA, 0, none⟩) 3 3, .slice (some ⟨bB, 0, none⟩) 3 3, undef, (.int .i64 mo), .slice (some ⟨bD, 0, none⟩) 3 3, undef, undef, undef, undef, undef, undef, undef, undef, undef, undef, undef, undef], defers := [] } w := by
    subst hops
    intro bA bB bD bF w hS HH
    refine wpAnyH_ready (rs := [7]) (by kernel_rfl) (by simp) ?_
    refine AllReadyH.cons (o := _) rfl (fun K hK => ?_) AllReadyH.nil
    · go_simp
      have hl : At w.heap.size w 1 intCells ([6, 2, 1].map fun n : Nat => (n : Int)) (some ⟨bB, 0, none⟩) 3 := at3 HH.out.2.2.1.2
      refine (lawInts_any [6, 2, 1] (some ⟨bB, 0, none⟩) 3 _ w hl (by intro n hn; simp at hn; omega) (by simp)).mono ?_
      rintro e w' ⟨q, d, rfl, hg, TA⟩
      exact hK.out _ _ (cellT TA id hS) fun h => stABCDF bA bB q d bD bF _ h (Lib.hid ⟨(HH.out.1.trans TA), ⟨HH.out.2.1.1, keepB TA HH.out.2.1.2⟩, ⟨HH.out.2.2.1.1, keepB TA HH.out.2.2.1.2⟩, hg.low HH.out.1.size, ⟨HH.out.2.2.2.1.1, keepB TA HH.out.2.2.2.1.2⟩, ⟨HH.out.2.2.2.2.1, keepB TA HH.out.2.2.2.2.2⟩⟩)
  have stBCDE : ∀ (bB : Nat) (qC : Option Addr) (dC : Nat) (bD : Nat) (qE : Option Addr) (dE : Nat) (w : World), w.cell? ⟨kb, 0, none⟩ = some (.slice (some ⟨w1, 0, none⟩) 1 1) → Hid (Turned (fun _ => False) W0 w ∧ (W0.heap.size ≤ bB ∧ w.heap[bB]? = some (.cells #[(.int .i64 6), (.int .i64 2), (.int .i64 1)] 3 (0, 0))) ∧ Grown w W0.heap.size 68 3 ratCells (.slice qC 3 dC) (exU 6) ∧ (W0.heap.size ≤ bD ∧ w.heap[bD]? = some (.cells #[(.int .i64 mo), (.int .i64 2), (.int .i64 1)] 3 (0, 0))) ∧ Grown w W0.heap.size 68 3 ratCells (.slice qE 3 dE) (exU mo)) → wpAnyH Tryz.prog .any ops (OnlyN Q) (fun V => V.cell? ⟨kb, 0, none⟩ = some (.slice (some ⟨w1, 0, none⟩) 1 1)) 4 #[true, true, true, true, true, false, true, true, true, true, true, false, false, false] { tmps := #[(.int .i64 mo), undef, .pointer (some ⟨r0, 0, none⟩), .slice none 0 0, .pointer (some ⟨kb, 0, none⟩), undef, .slice (some ⟨w1, 0, none⟩) 1 1, .agg #[.slice (some ⟨w1, 0, none⟩) 1 1], .agg #[.slice (some ⟨w1, 0, none⟩) 1 1], .agg #[(.int .i64 2), .slice (some ⟨w1, 0, none⟩) 1 1], .agg #[.slice (some ⟨w1, 0, none⟩) 1 1], .agg #[(.int .i64 2), .slice (some ⟨w1, 0, none⟩) 1 1], .agg #[(.int .i64 (-1)), .slice none 0 0], undef, .slice (some ⟨bB, 0, none⟩) 3 3, .slice qC 3 dC, (.int .i64 mo), .slice (some ⟨bD, 0, none⟩) 3 3, .slice qE 3 dE, undef, undef, undef, undef, undef, undef, undef, undef, undef, undef, undef], defers := [] } w := by
    subst hops
    intro bB qC dC bD qE dE w hS HH
    refine wpAnyH_ready (rs := [5, 12]) (by kernel_rfl) (by simp) ?_
    refine AllReadyH.cons (o := _) rfl (fun K hK => ?_) (AllReadyH.cons (o := _) rfl (fun K hK => ?_) AllReadyH.nil)
    · go_simp
      have TA := (Turned.refl (fun _ => False) w).alloc (.cells #[(.int .i64 2), .slice (some ⟨w1, 0, none⟩) 1 1, (.int .i64 2), .slice (some ⟨w1, 0, none⟩) 1 1, (.int .i64 (-1)), .slice none 0 0] 123)
      refine hK.out _ _ (cellT TA id hS) fun h => ?_
      refine wpAnyH_take (i := 11) (oi := _) (v := .agg #[.slice (some ⟨(w.heap.size), 0, none⟩) 3 3, .slice qC 3 dC, .slice qE 3 dE]) rfl (by kernel_rfl) (by kernel_rfl) (by kernel_rfl) (fun _ _ _ h => h) (Or.inl ⟨by kernel_rfl, fun V hV => ?_⟩) h ?_
      · go_simp
      exact stABCDE w.heap.size bB qC dC bD qE dE _ h (Lib.hid ⟨(HH.out.1.trans TA), ⟨HH.out.1.size, World.alloc_heap_new _ _⟩, ⟨HH.out.2.1.1, keepB TA HH.out.2.1.2⟩, HH.out.2.2.1.turned TA fun _ h => h.elim, ⟨HH.out.2.2.2.1.1, keepB TA HH.out.2.2.2.1.2⟩, HH.out.2.2.2.2.turned TA fun _ h => h.elim⟩)
    · go_simp
      have TA := (Turned.refl (fun _ => False) w).alloc (.cells #[.slice none 0 0, .slice none 0 0, .slice none 0 0] 25)
      exact hK.out _ _ (cellT TA id hS) fun h => stBCDEF bB qC dC bD qE dE w.heap.size _ h (Lib.hid ⟨(HH.out.1.trans TA), ⟨HH.out.2.1.1, keepB TA HH.out.2.1.2⟩, HH.out.2.2.1.turned TA fun _ h => h.elim, ⟨HH.out.2.2.2.1.1, keepB TA HH.out.2.2.2.1.2⟩, HH.out.2.2.2.2.turned TA fun _ h => h.elim, ⟨HH.out.1.size, World.alloc_heap_new _ _⟩⟩)
  have stBCDF : ∀ (bB : Nat) (qC : Option Addr) (dC : Nat) (bD : Nat) (bF : Nat) (w : World), w.cell? ⟨kb, 0, none⟩ = some (.slice (some ⟨w1, 0, none⟩) 1 1) → Hid (Turned (fun _ => False) W0 w ∧ (W0.heap.size ≤ bB ∧ w.heap[bB]? = some (.cells #[(.int .i64 6), (.int .i64 2), (.int .i64 1)] 3 (0, 0))) ∧ Grown w W0.heap.size 68 3 ratCells (.slice qC 3 dC) (exU 6) ∧ (W0.heap.size ≤ bD ∧ w.heap[bD]? = some (.cells #[(.int .i64 mo), (.int .i64 2), (.int .i64 1)] 3 (0, 0))) ∧ (W0.heap.size ≤ bF ∧ w.heap[bF]? = some (.cells #[.slice none 0 0, .slice none 0 0, .slice none 0 0] 25 (0, 0)))) → wpAnyH Tryz.prog .any ops (OnlyN Q) (fun V => V.cell? ⟨kb, 0, none⟩ = some (.slice (some ⟨w1, 0, none⟩) 1 1)) 4 #[true, true, true, true, true, false, true, true, true, true, false, false, true, false] { tmps := #[(.int .i64 mo), undef, .pointer (some ⟨r0, 0, none⟩), .slice none 0 0, .pointer (some ⟨kb, 0, none⟩), .pointer (some ⟨bF, 0, none⟩), .slice (some ⟨w1, 0, none⟩) 1 1, .agg #[.slice (some ⟨w1, 0, none⟩) 1 1], .agg #[.slice (some ⟨w1, 0, none⟩) 1 1], .agg #[(.int .i64 2), .slice (some ⟨w1, 0, none⟩) 1 1], .agg #[.slice (some ⟨w1, 0, none⟩) 1 1], .agg #[(.int .i64 2), .slice (some ⟨w1, 0, none⟩) 1 1], .agg #[(.int .i64 (-1)), .slice none 0 0], undef, .slice (some ⟨bB, 0, none⟩) 3 3, .slice qC 3 dC, (.int .i64 mo), .slice (some ⟨bD, 0, none⟩) 3 3, undef, undef, undef, undef, undef, undef, undef, undef, undef, undef, undef, undef], defers := [] } w := by
    subst hops
    intro bB qC dC bD bF w hS HH
    refine wpAnyH_ready (rs := [5, 10]) (by kernel_rfl) (by simp) ?_
    refine AllReadyH.cons (o := _) rfl (fun K hK => ?_) (AllReadyH.cons (o := _) rfl (fun K hK => ?_) AllReadyH.nil)
    · go_simp
      have TA := (Turned.refl (fun _ => False) w).alloc (.cells #[(.int .i64 2), .slice (some ⟨w1, 0, none⟩) 1 1, (.int .i64 2), .slice (some ⟨w1, 0, none⟩) 1 1, (.int .i64 (-1)), .slice none 0 0] 123)
      exact hK.out _ _ (cellT TA id hS) fun h => stABCDF w.heap.size bB qC dC bD bF _ h (Lib.hid ⟨(HH.out.1.trans TA), ⟨HH.out.1.size, World.alloc_heap_new _ _⟩, ⟨HH.out.2.1.1, keepB TA HH.out.2.1.2⟩, HH.out.2.2.1.turned TA fun _ h => h.elim, ⟨HH.out.2.2.2.1.1, keepB TA HH.out.2.2.2.1.2⟩, ⟨HH.out.2.2.2.2.1, keepB TA HH.out.2.2.2.2.2⟩⟩)
    · go_simp
      have hl : At w.heap.size w 1 intCells ([mo, 2, 1].map fun n : Nat => (n : Int)) (some ⟨bD, 0, none⟩) 3 := at3 HH.out.2.2.2.1.2
      refine (lawInts_any [mo, 2, 1] (some ⟨bD, 0, none⟩) 3 _ w hl (by intro n hn; simp at hn; omega) (by simp)).mono ?_
      rintro e w' ⟨q, d, rfl, hg, TA⟩
      exact hK.out _ _ (cellT TA id hS) fun h => stBCDEF bB qC dC bD q d bF _ h (Lib.hid ⟨(HH.out.1.trans TA), ⟨HH.out.2.1.1, keepB TA HH.out.2.1.2⟩, HH.out.2.2.1.turned TA fun _ h => h.elim, ⟨HH.out.2.2.2.1.1, keepB TA HH.out.2.2.2.1.2⟩, hg.low HH.out.1.size, ⟨HH.out.2.2.2.2.1, keepB TA HH.out.2.2.2.2.2⟩⟩)
  have stABC : ∀ (bA : Nat) (bB : Nat) (qC : Option Addr) (dC : Nat) (w : World), w.cell? ⟨kb, 0, none⟩ = some (.slice (some ⟨w1, 0, none⟩) 1 1) → Hid (Turned (fun _ => False) W0 w ∧ (W0.heap.size ≤ bA ∧ w.heap[bA]? = some (.cells #[(.int .i64 2), .slice (some ⟨w1, 0, none⟩) 1 1, (.int .i64 2), .slice (some ⟨w1, 0, none⟩) 1 1, (.int .i64 (-1)), .slice none 0 0] 123 (0, 0))) ∧ (W0.heap.size ≤ bB ∧ w.heap[bB]? = some (.cells #[(.int .i64 6), (.int .i64 2), (.int .i64 1)] 3 (0, 0))) ∧ Grown w W0.heap.size 68 3 ratCells (.slice qC 3 dC) (exU 6)) → wpAnyH Tryz.prog .any ops (OnlyN Q) (fun V => V.cell? ⟨kb, 0, none⟩ = some (.slice (some ⟨w1, 0, none⟩) 1 1)) 5 #[true, true, true, true, true, true, true, true, true, false, false, false, false, false] { tmps := #[(.int .i64 mo), undef, .pointer (some ⟨r0, 0, none⟩), .slice none 0 0, .pointer (some ⟨kb, 0, none⟩), undef, .slice (some ⟨w1, 0, none⟩) 1 1, .agg #[.slice (some ⟨w1, 0, none⟩) 1 1], .agg #[.slice (some ⟨w1, 0, none⟩) 1 1], .agg #[(.int .i64 2), .slice (some ⟨w1, 0, none⟩) 1 1], .agg #[.slice (some ⟨w1, 0, none⟩) 1 1], .agg #[(.int .i64 2), .slice (some ⟨w1, 0, none⟩) 1 1], .agg #[(.int .i64 (-1)), .slice none 0 0], .slice (some ⟨bA, 0, none⟩) 3 3, .slice (some ⟨bB, 0, none⟩) 3 3, .slice qC 3 dC, (.int .i64 mo), undef, undef, undef, undef, undef, undef, undef, undef, undef, undef, undef, undef, undef], defers := [] } w := by
    subst hops
    intro bA bB qC dC w hS HH
    refine wpAnyH_ready (rs := [9, 12]) (by kernel_rfl) (by simp) ?_
    refine AllReadyH.cons (o := _) rfl (fun K hK => ?_) (AllReadyH.cons (o := _) rfl (fun K hK => ?_) AllReadyH.nil)
    · go_simp
      have TA := (Turned.refl (fun _ => False) w).alloc (.cells #[(.int .i64 mo), (.int .i64 2), (.int .i64 1)] 3)
      exact hK.out _ _ (cellT TA id hS) fun h => stABCD bA bB qC dC w.heap.size _ h (Lib.hid ⟨(HH.out.1.trans TA), ⟨HH.out.2.1.1, keepB TA HH.out.2.1.2⟩, ⟨HH.out.2.2.1.1, keepB TA HH.out.2.2.1.2⟩, HH.out.2.2.2.turned TA fun _ h => h.elim, ⟨HH.out.1.size, World.alloc_heap_new _ _⟩⟩)
    · go_simp
      have TA := (Turned.refl (fun _ => False) w).alloc (.cells #[.slice none 0 0, .slice none 0 0, .slice none 0 0] 25)
      exact hK.out _ _ (cellT TA id hS) fun h => stABCF bA bB qC dC w.heap.size _ h (Lib.hid ⟨(HH.out.1.trans TA), ⟨HH.out.2.1.1, keepB TA HH.out.2.1.2⟩, ⟨HH.out.2.2.1.1, keepB TA HH.out.2.2.1.2⟩, HH.out.2.2.2.turned TA fun _ h => h.elim, ⟨HH.out.1.size, World.alloc_heap_new _ _⟩⟩)
  have stABD : ∀ (bA : Nat) (bB : Nat) (bD : Nat) (w : World), w.cell? ⟨kb, 0, none⟩ = some (.slice (some ⟨w1, 0, none⟩) 1 1) → Hid (Turned (fun _ => False) W0 w ∧ (W0.heap.size ≤ bA ∧ w.heap[bA]? = some (.cells #[(.int .i64 2), .slice (some ⟨w1, 0, none⟩) 1 1, (.int .i64 2), .slice (some ⟨w1, 0, none⟩) 1 1, (.int .i64 (-1)), .slice none 0 0] 123 (0, 0))) ∧ (W0.heap.size ≤ bB ∧ w.heap[bB]? = some (.cells #[(.int .i64 6), (.int .i64 2), (.int .i64 1)] 3 (0, 0))) ∧ (W0.heap.size ≤ bD ∧ w.heap[bD]? = some (.cells #[(.int .i64 mo), (.int .i64 2), (.int .i64 1)] 3 (0, 0)))) → wpAnyH Tryz.prog .any ops (OnlyN Q) (fun V => V.cell? ⟨kb, 0, none⟩ = some (.slice (some ⟨w1, 0, none⟩) 1 1)) 5 #[true, true, true, true, true, true, true, false, true, true, false, false, false, false] { tmps := #[(.int .i64 mo), undef, .pointer (some ⟨r0, 0, none⟩), .slice none 0 0, .pointer (some ⟨kb, 0, none⟩), undef, .slice (some ⟨w1, 0, none⟩) 1 1, .agg #[.slice (some ⟨w1, 0, none⟩) 1 1], .agg #[.slice (some ⟨w1, 0, none⟩) 1 1], .agg #[(.int .i64 2), .slice (some ⟨w1, 0, none⟩) 1 1], .agg #[.slice (some ⟨w1, 0, none⟩) 1 1], .agg #[(.int .i64 2), .slice (some ⟨w1, 0, none⟩) 1 1], .agg #[(.int .i64 (-1)), .slice none 0 0], .slice (some ⟨bA, 0, none⟩) 3 3, .slice (some ⟨bB, 0, none⟩) 3 3, undef, (.int .i64 mo), .slice (some ⟨bD, 0, none⟩) 3 3, undef, undef, undef, undef, undef, undef, undef, undef, undef, undef, undef, undef], defers := [] } w := by
    subst hops
    intro bA bB bD w hS HH
    refine wpAnyH_ready (rs := [7, 12]) (by kernel_rfl) (by simp) ?_
    refine AllReadyH.cons (o := _) rfl (fun K hK => ?_) (AllReadyH.cons (o := _) rfl (fun K hK => ?_) AllReadyH.nil)
    · go_simp
      have hl : At w.heap.size w 1 intCells ([6, 2, 1].map fun n : Nat => (n : Int)) (some ⟨bB, 0, none⟩) 3 := at3 HH.out.2.2.1.2
      refine (lawInts_any [6, 2, 1] (some ⟨bB, 0, none⟩) 3 _ w hl (by intro n hn; simp at hn; omega) (by simp)).mono ?_
      rintro e w' ⟨q, d, rfl, hg, TA⟩
      exact hK.out _ _ (cellT TA id hS) fun h => stABCD bA bB q d bD _ h (Lib.hid ⟨(HH.out.1.trans TA), ⟨HH.out.2.1.1, keepB TA HH.out.2.1.2⟩, ⟨HH.out.2.2.1.1, keepB TA HH.out.2.2.1.2⟩, hg.low HH.out.1.size, ⟨HH.out.2.2.2.1, keepB TA HH.out.2.2.2.2⟩⟩)
    · go_simp
      have TA := (Turned.refl (fun _ => False) w).alloc (.cells #[.slice none 0 0, .slice none 0 0, .slice none 0 0] 25)
      exact hK.out _ _ (cellT TA id hS) fun h => stABDF bA bB bD w.heap.size _ h (Lib.hid ⟨(HH.out.1.trans TA), ⟨HH.out.2.1.1, keepB TA HH.out.2.1.2⟩, ⟨HH.out.2.2.1.1, keepB TA HH.out.2.2.1.2⟩, ⟨HH.out.2.2.2.1, keepB TA HH.out.2.2.2.2⟩, ⟨HH.out.1.size, World.alloc_heap_new _ _⟩⟩)
  have stABF : ∀ (bA : Nat) (bB : Nat) (bF : Nat) (w : World), w.cell? ⟨kb, 0, none⟩ = some (.slice (some ⟨w1, 0, none⟩) 1 1) → Hid (Turned (fun _ => False) W0 w ∧ (W0.heap.size ≤ bA ∧ w.heap[bA]? = some (.cells #[(.int .i64 2), .slice (some ⟨w1, 0, none⟩) 1 1, (.int .i64 2), .slice (some ⟨w1, 0, none⟩) 1 1, (.int .i64 (-1)), .slice none 0 0] 123 (0, 0))) ∧ (W0.heap.size ≤ bB ∧ w.heap[bB]? = some (.cells #[(.int .i64 6), (.int .i64 2), (.int .i64 1)] 3 (0, 0))) ∧ (W0.heap.size ≤ bF ∧ w.heap[bF]? = some (.cells #[.slice none 0 0, .slice none 0 0, .slice none 0 0] 25 (0, 0)))) → wpAnyH Tryz.prog .any ops (OnlyN Q) (fun V => V.cell? ⟨kb, 0, none⟩ = some (.slice (some ⟨w1, 0, none⟩) 1 1)) 5 #[true, true, true, true, true, true, true, false, true, false, false, false, true, false] { tmps := #[(.int .i64 mo), undef, .pointer (some ⟨r0, 0, none⟩), .slice none 0 0, .pointer (some ⟨kb, 0, none⟩), .pointer (some ⟨bF, 0, none⟩), .slice (some ⟨w1, 0, none⟩) 1 1, .agg #[.slice (some ⟨w1, 0, none⟩) 1 1], .agg #[.slice (some ⟨w1, 0, none⟩) 1 1], .agg #[(.int .i64 2), .slice (some ⟨w1, 0, none⟩) 1 1], .agg #[.slice (some ⟨w1, 0, none⟩) 1 1], .agg #[(.int .i64 2), .slice (some ⟨w1, 0, none⟩) 1 1], .agg #[(.int .i64 (-1)), .slice none 0 0], .slice (some ⟨bA, 0, none⟩) 3 3, .slice (some ⟨bB, 0, none⟩) 3 3, undef, (.int .i64 mo), undef, undef, undef, undef, undef, undef, undef, undef, undef, undef, undef, undef, undef], defers := [] } w := by
    subst hops
    intro bA bB bF w hS HH
    refine wpAnyH_ready (rs := [7, 9]) (by kernel_rfl) (by simp) ?_
    refine AllReadyH.cons (o := _) rfl (fun K hK => ?_) (AllReadyH.cons (o := _) rfl (fun K hK => ?_) AllReadyH.nil)
    · go_simp
      have hl : At w.heap.size w 1 intCells ([6, 2, 1].map fun n : Nat => (n : Int)) (some ⟨bB, 0, none⟩) 3 := at3 HH.out.2.2.1.2
      refine (lawInts_any [6, 2, 1] (some ⟨bB, 0, none⟩) 3 _ w hl (by intro n hn; simp at hn; omega) (by simp)).mono ?_
      rintro e w' ⟨q, d, rfl, hg, TA⟩
      exact hK.out _ _ (cellT TA id hS) fun h => stABCF bA bB q d bF _ h (Lib.hid ⟨(HH.out.1.trans TA), ⟨HH.out.2.1.1, keepB TA HH.out.2.1.2⟩, ⟨HH.out.2.2.1.1, keepB TA HH.out.2.2.1.2⟩, hg.low HH.out.1.size, ⟨HH.out.2.2.2.1, keepB TA HH.out.2.2.2.2⟩⟩)
    · go_simp
      have TA := (Turned.refl (fun _ => False) w).alloc (.cells #[(.int .i64 mo), (.int .i64 2), (.int .i64 1)] 3)
      exact hK.out _ _ (cellT TA id hS) fun h => stABDF bA bB w.heap.size bF _ h (Lib.hid ⟨(HH.out.1.trans TA), ⟨HH.out.2.1.1, keepB TA HH.out.2.1.2⟩, ⟨HH.out.2.2.1.1, keepB TA HH.out.2.2.1.2⟩, ⟨HH.out.1.size, World.alloc_heap_new _ _⟩, ⟨HH.out.2.2.2.1, keepB TA HH.out.2.2.2.2⟩⟩)
  have stADF : ∀ (bA : Nat) (bD : Nat) (bF : Nat) (w : World), w.cell? ⟨kb, 0, none⟩ = some (.slice (some ⟨w1, 0, none⟩) 1 1) → Hid (Turned (fun _ => False) W0 w ∧ (W0.heap.size ≤ bA ∧ w.heap[bA]? = some (.cells #[(.int .i64 2), .slice (some ⟨w1, 0, none⟩) 1 1, (.int .i64 2), .slice (some ⟨w1, 0, none⟩) 1 1, (.int .i64 (-1)), .slice none 0 0] 123 (0, 0))) ∧ (W0.heap.size ≤ bD ∧ w.heap[bD]? = some (.cells #[(.int .i64 mo), (.int .i64 2), (.int .i64 1)] 3 (0, 0))) ∧ (W0.heap.size ≤ bF ∧ w.heap[bF]? = some (.cells #[.slice none 0 0, .slice none 0 0, .slice none 0 0] 25 (0, 0)))) → wpAnyH Tryz.prog .any ops (OnlyN Q) (fun V => V.cell? ⟨kb, 0, none⟩ = some (.slice (some ⟨w1, 0, none⟩) 1 1)) 5 #[true, true, true, true, true, true, false, false, true, true, false, false, true, false] { tmps := #[(.int .i64 mo), undef, .pointer (some ⟨r0, 0, none⟩), .slice none 0 0, .pointer (some ⟨kb, 0, none⟩), .pointer (some ⟨bF, 0, none⟩), .slice (some ⟨w1, 0, none⟩) 1 1, .agg #[.slice (some ⟨w1, 0, none⟩) 1 1], .agg #[.slice (some ⟨w1, 0, none⟩) 1 1], .agg #[(.int .i64 2), .slice (some ⟨w1, 0, none⟩) 1 1], .agg #[.slice (some ⟨w1, 0, none⟩) 1 1], .agg #[(.int .i64 2), .slice (some ⟨w1, 0, none⟩) 1 1], .agg #[(.int .i64 (-1)), .slice none 0 0], .slice (some ⟨bA, 0, none⟩) 3 3, undef, undef, (.int .i64 mo), .slice (some ⟨bD, 0, none⟩) 3 3, undef, undef, undef, undef, undef, undef, undef, undef, undef, undef, undef, undef], defers := [] } w := by
    subst hops
    intro bA bD bF w hS HH
    refine wpAnyH_ready (rs := [6]) (by kernel_rfl) (by simp) ?_
    refine AllReadyH.cons (o := _) rfl (fun K hK => ?_) AllReadyH.nil
    · go_simp
      have TA := (Turned.refl (fun _ => False) w).alloc (.cells #[(.int .i64 6), (.int .i64 2), (.int .i64 1)] 3)
      exact hK.out _ _ (cellT TA id hS) fun h => stABDF bA w.heap.size bD bF _ h (Lib.hid ⟨(HH.out.1.trans TA), ⟨HH.out.2.1.1, keepB TA HH.out.2.1.2⟩, ⟨HH.out.1.size, World.alloc_heap_new _ _⟩, ⟨HH.out.2.2.1.1, keepB TA HH.out.2.2.1.2⟩, ⟨HH.out.2.2.2.1, keepB TA HH.out.2.2.2.2⟩⟩)
  have stBCD : ∀ (bB : Nat) (qC : Option Addr) (dC : Nat) (bD : Nat) (w : World), w.cell? ⟨kb, 0, none⟩ = some (.slice (some ⟨w1, 0, none⟩) 1 1) → Hid (Turned (fun _ => False) W0 w ∧ (W0.heap.size ≤ bB ∧ w.heap[bB]? = some (.cells #[(.int .i64 6), (.int .i64 2), (.int .i64 1)] 3 (0, 0))) ∧ Grown w W0.heap.size 68 3 ratCells (.slice qC 3 dC) (exU 6) ∧ (W0.heap.size ≤ bD ∧ w.heap[bD]? = some (.cells #[(.int .i64 mo), (.int .i64 2), (.int .i64 1)] 3 (0, 0)))) → wpAnyH Tryz.prog .any ops (OnlyN Q) (fun V => V.cell? ⟨kb, 0, none⟩ = some (.slice (some ⟨w1, 0, none⟩) 1 1)) 5 #[true, true, true, true, true, false, true, true, true, true, false, false, false, false] { tmps := #[(.int .i64 mo), undef, .pointer (some ⟨r0, 0, none⟩), .slice none 0 0, .pointer (some ⟨kb, 0, none⟩), undef, .slice (some ⟨w1, 0, none⟩) 1 1, .agg #[.slice (some ⟨w1, 0, none⟩) 1 1], .agg #[.slice (some ⟨w1, 0, none⟩) 1 1], .agg #[(.int .i64 2), .slice (some ⟨w1, 0, none⟩) 1 1], .agg #[.slice (some ⟨w1, 0, none⟩) 1 1], .agg #[(.int .i64 2), .slice (some ⟨w1, 0, none⟩) 1 1], .agg #[(.int .i64 (-1)), .slice none 0 0], undef, .slice (some ⟨bB, 0, none⟩) 3 3, .slice qC 3 dC, (.int .i64 mo), .slice (some ⟨bD, 0, none⟩) 3 3, undef, undef, undef, undef, undef, undef, undef, undef, undef, undef, undef, undef], defers := [] } w := by
    subst hops
    intro bB qC dC bD w hS HH
    refine wpAnyH_ready (rs := [5, 10, 12]) (by kernel_rfl) (by simp) ?_
    refine AllReadyH.cons (o := _) rfl (fun K hK => ?_) (AllReadyH.cons (o := _) rfl (fun K hK => ?_) (AllReadyH.cons (o := _) rfl (fun K hK => ?_) AllReadyH.nil))
    · go_simp
      have TA := (Turned.refl (fun _ => False) w).alloc (.cells #[(.int .i64 2), .slice (some ⟨w1, 0, none⟩) 1 1, (.int .i64 2), .slice (some ⟨w1, 0, none⟩) 1 1, (.int .i64 (-1)), .slice none 0 0] 123)
      exact hK.out _ _ (cellT TA id hS) fun h => stABCD w.heap.size bB qC dC bD _ h (Lib.hid ⟨(HH.out.1.trans TA), ⟨HH.out.1.size, World.alloc_heap_new _ _⟩, ⟨HH.out.2.1.1, keepB TA HH.out.2.1.2⟩, HH.out.2.2.1.turned TA fun _ h => h.elim, ⟨HH.out.2.2.2.1, keepB TA HH.out.2.2.2.2⟩⟩)
    · go_simp
      have hl : At w.heap.size w 1 intCells ([mo, 2, 1].map fun n : Nat => (n : Int)) (some ⟨bD, 0, none⟩) 3 := at3 HH.out.2.2.2.2
      refine (lawInts_any [mo, 2, 1] (some ⟨bD, 0, none⟩) 3 _ w hl (by intro n hn; simp at hn; omega) (by simp)).mono ?_
      rintro e w' ⟨q, d, rfl, hg, TA⟩
      exact hK.out _ _ (cellT TA id hS) fun h => stBCDE bB qC dC bD q d _ h (Lib.hid ⟨(HH.out.1.trans TA), ⟨HH.out.2.1.1, keepB TA HH.out.2.1.2⟩, HH.out.2.2.1.turned TA fun _ h => h.elim, ⟨HH.out.2.2.2.1, keepB TA HH.out.2.2.2.2⟩, hg.low HH.out.1.size⟩)
    · go_simp
      have TA := (Turned.refl (fun _ => False) w).alloc (.cells #[.slice none 0 0, .slice none 0 0, .slice none 0 0] 25)
      exact hK.out _ _ (cellT TA id hS) fun h => stBCDF bB qC dC bD w.heap.size _ h (Lib.hid ⟨(HH.out.1.trans TA), ⟨HH.out.2.1.1, keepB TA HH.out.2.1.2⟩, HH.out.2.2.1.turned TA fun _ h => h.elim, ⟨HH.out.2.2.2.1, keepB TA HH.out.2.2.2.2⟩, ⟨HH.out.1.size, World.alloc_heap_new _ _⟩⟩)
  have stBCF : ∀ (bB : Nat) (qC : Option Addr) (dC : Nat) (bF : Nat) (w : World), w.cell? ⟨kb, 0, none⟩ = some (.slice (some ⟨w1, 0, none⟩) 1 1) → Hid (Turned (fun _ => False) W0 w ∧ (W0.heap.size ≤ bB ∧ w.heap[bB]? = some (.cells #[(.int .i64 6), (.int .i64 2), (.int .i64 1)] 3 (0, 0))) ∧ Grown w W0.heap.size 68 3 ratCells (.slice qC 3 dC) (exU 6) ∧ (W0.heap.size ≤ bF ∧ w.heap[bF]? = some (.cells #[.slice none 0 0, .slice none 0 0, .slice none 0 0] 25 (0, 0)))) → wpAnyH Tryz.prog .any ops (OnlyN Q) (fun V => V.cell? ⟨kb, 0, none⟩ = some (.slice (some ⟨w1, 0, none⟩) 1 1)) 5 #[true, true, true, true, true, false, true, true, true, false, false, false, true, false] { tmps := #[(.int .i64 mo), undef, .pointer (some ⟨r0, 0, none⟩), .slice none 0 0, .pointer (some ⟨kb, 0, none⟩), .pointer (some ⟨bF, 0, none⟩), .slice (some ⟨w1, 0, none⟩) 1 1, .agg #[.slice (some ⟨w1, 0, none⟩) 1 1], .agg #[.slice (some ⟨w1, 0, none⟩) 1 1], .agg #[(.int .i64 2), .slice (some ⟨w1, 0, none⟩) 1 1], .agg #[.slice (some ⟨w1, 0, none⟩) 1 1], .agg #[(.int .i64 2), .slice (some ⟨w1, 0, none⟩) 1 1], .agg #[(.int .i64 (-1)), .slice none 0 0], undef, .slice (some ⟨bB, 0, none⟩) 3 3, .slice qC 3 dC, (.int .i64 mo), undef, undef, undef, undef, undef, undef, undef, undef, undef, undef, undef, undef, undef], defers := [] } w := by
    subst hops
    intro bB qC dC bF w hS HH
    refine wpAnyH_ready (rs := [5, 9]) (by kernel_rfl) (by simp) ?_
    refine AllReadyH.cons (o := _) rfl (fun K hK => ?_) (AllReadyH.cons (o := _) rfl (fun K hK => ?_) AllReadyH.nil)
    · go_simp
      have TA := (Turned.refl (fun _ => False) w).alloc (.cells #[(.int .i64 2), .slice (some ⟨w1, 0, none⟩) 1 1, (.int .i64 2), .slice (some ⟨w1, 0, none⟩) 1 1, (.int .i64 (-1)), .slice none 0 0] 123)
      exact hK.out _ _ (cellT TA id hS) fun h => stABCF w.heap.size bB qC dC bF _ h (Lib.hid ⟨(HH.out.1.trans TA), ⟨HH.out.1.size, World.alloc_heap_new _ _⟩, ⟨HH.out.2.1.1, keepB TA HH.out.2.1.2⟩, HH.out.2.2.1.turned TA fun _ h => h.elim, ⟨HH.out.2.2.2.1, keepB TA HH.out.2.2.2.2⟩⟩)
    · go_simp
      have TA := (Turned.refl (fun _ => False) w).alloc (.cells #[(.int .i64 mo), (.int .i64 2), (.int .i64 1)] 3)
      exact hK.out _ _ (cellT TA id hS) fun h => stBCDF bB qC dC w.heap.size bF _ h (Lib.hid ⟨(HH.out.1.trans TA), ⟨HH.out.2.1.1, keepB TA HH.out.2.1.2⟩, HH.out.2.2.1.turned TA fun _ h => h.elim, ⟨HH.out.1.size, World.alloc_heap_new _ _⟩, ⟨HH.out.2.2.2.1, keepB TA HH.out.2.2.2.2⟩⟩)
  have stBDF : ∀ (bB : Nat) (bD : Nat) (bF : Nat) (w : World), w.cell? ⟨kb, 0, none⟩ = some (.slice (some ⟨w1, 0, none⟩) 1 1) → Hid (Turned (fun _ => False) W0 w ∧ (W0.heap.size ≤ bB ∧ w.heap[bB]? = some (.cells #[(.int .i64 6), (.int .i64 2), (.int .i64 1)] 3 (0, 0))) ∧ (W0.heap.size ≤ bD ∧ w.heap[bD]? = some (.cells #[(.int .i64 mo), (.int .i64 2), (.int .i64 1)] 3 (0, 0))) ∧ (W0.heap.size ≤ bF ∧ w.heap[bF]? = some (.cells #[.slice none 0 0, .slice none 0 0, .slice none 0 0] 25 (0, 0)))) → wpAnyH Tryz.prog .any ops (OnlyN Q) (fun V => V.cell? ⟨kb, 0, none⟩ = some (.slice (some ⟨w1, 0, none⟩) 1 1)) 5 #[true, true, true, true, true, false, true, false, true, true, false, false, true, false] { tmps := #[(.int .i64 mo), undef, .pointer (some ⟨r0, 0, none⟩), .slice none 0 0, .pointer (some ⟨kb, 0, none⟩), .pointer (some ⟨bF, 0, none⟩), .slice (some ⟨w1, 0, none⟩) 1 1, .agg #[.slice (some ⟨w1, 0, none⟩) 1 1], .agg #[.slice (some ⟨w1, 0, none⟩) 1 1], .agg #[(.int .i64 2), .slice (some ⟨w1, 0, none⟩) 1 1], .agg #[.slice (some ⟨w1, 0, none⟩) 1 1], .agg #[(.int .i64 2), .slice (some ⟨w1, 0, none⟩) 1 1], .agg #[(.int .i64 (-1)), .slice none 0 0], undef, .slice (some ⟨bB, 0, none⟩) 3 3, undef, (.int .i64 mo), .slice (some ⟨bD, 0, none⟩) 3 3, undef, undef, undef, undef, undef, undef, undef, undef, undef, undef, undef, undef], defers := [] } w := by
    subst hops
    intro bB bD bF w hS HH
    refine wpAnyH_ready (rs := [5, 7]) (by kernel_rfl) (by simp) ?_
    refine AllReadyH.cons (o := _) rfl (fun K hK => ?_) (AllReadyH.cons (o := _) rfl (fun K hK => ?_) AllReadyH.nil)
    · go_simp
      have TA := (Turned.refl (fun _ => False) w).alloc (.cells #[(.int .i64 2), .slice (some ⟨w1, 0, none⟩) 1 1, (.int .i64 2), .slice (some ⟨w1, 0, none⟩) 1 1, (.int .i64 (-1)), .slice none 0 0] 123)
      exact hK.out _ _ (cellT TA id hS) fun h => stABDF w.heap.size bB bD bF _ h (Lib.hid ⟨(HH.out.1.trans TA), ⟨HH.out.1.size, World.alloc_heap_new _ _⟩, ⟨HH.out.2.1.1, keepB TA HH.out.2.1.2⟩, ⟨HH.out.2.2.1.1, keepB TA HH.out.2.2.1.2⟩, ⟨HH.out.2.2.2.1, keepB TA HH.out.2.2.2.2⟩⟩)
    · go_simp
      have hl : At w.heap.size w 1 intCells ([6, 2, 1].map fun n : Nat => (n : Int)) (some ⟨bB, 0, none⟩) 3 := at3 HH.out.2.1.2
      refine (lawInts_any [6, 2, 1] (some ⟨bB, 0, none⟩) 3 _ w hl (by intro n hn; simp at hn; omega) (by simp)).mono ?_
      rintro e w' ⟨q, d, rfl, hg, TA⟩
      exact hK.out _ _ (cellT TA id hS) fun h => stBCDF bB q d bD bF _ h (Lib.hid ⟨(HH.out.1.trans TA), ⟨HH.out.2.1.1, keepB TA HH.out.2.1.2⟩, hg.low HH.out.1.size, ⟨HH.out.2.2.1.1, keepB TA HH.out.2.2.1.2⟩, ⟨HH.out.2.2.2.1, keepB TA HH.out.2.2.2.2⟩⟩)
  have stAB : ∀ (bA : Nat) (bB : Nat) (w : World), w.cell? ⟨kb, 0, none⟩ = some (.slice (some ⟨w1, 0, none⟩) 1 1) → Hid (Turned (fun _ => False) W0 w ∧ (W0.heap.size ≤ bA ∧ w.heap[bA]? = some (.cells #[(.int .i64 2), .slice (some ⟨w1, 0, none⟩) 1 1, (.int .i64 2), .slice (some ⟨w1, 0, none⟩) 1 1, (.int .i64 (-1)), .slice none 0 0] 123 (0, 0))) ∧ (W0.heap.size ≤ bB ∧ w.heap[bB]? = some (.cells #[(.int .i64 6), (.int .i64 2), (.int .i64 1)] 3 (0, 0)))) → wpAnyH Tryz.prog .any ops (OnlyN Q) (fun V => V.cell? ⟨kb, 0, none⟩ = some (.slice (some ⟨w1, 0, none⟩) 1 1)) 6 #[true, true, true, true, true, true, true, false, true, false, false, false, false, false] { tmps := #[(.int .i64 mo), undef, .pointer (some ⟨r0, 0, none⟩), .slice none 0 0, .pointer (some ⟨kb, 0, none⟩), undef, .slice (some ⟨w1, 0, none⟩) 1 1, .agg #[.slice (some ⟨w1, 0, none⟩) 1 1], .agg #[.slice (some ⟨w1, 0, none⟩) 1 1], .agg #[(.int .i64 2), .slice (some ⟨w1, 0, none⟩) 1 1], .agg #[.slice (some ⟨w1, 0, none⟩) 1 1], .agg #[(.int .i64 2), .slice (some ⟨w1, 0, none⟩) 1 1], .agg #[(.int .i64 (-1)), .slice none 0 0], .slice (some ⟨bA, 0, none⟩) 3 3, .slice (some ⟨bB, 0, none⟩) 3 3, undef, (.int .i64 mo), undef, undef, undef, undef, undef, undef, undef, undef, undef, undef, undef, undef, undef], defers := [] } w := by
    subst hops
    intro bA bB w hS HH
    refine wpAnyH_ready (rs := [7, 9, 12]) (by kernel_rfl) (by simp) ?_
    refine AllReadyH.cons (o := _) rfl (fun K hK => ?_) (AllReadyH.cons (o := _) rfl (fun K hK => ?_) (AllReadyH.cons (o := _) rfl (fun K hK => ?_) AllReadyH.nil))
    · go_simp
      have hl : At w.heap.size w 1 intCells ([6, 2, 1].map fun n : Nat => (n : Int)) (some ⟨bB, 0, none⟩) 3 := at3 HH.out.2.2.2
      refine (lawInts_any [6, 2, 1] (some ⟨bB, 0, none⟩) 3 _ w hl (by intro n hn; simp at hn; omega) (by simp)).mono ?_
      rintro e w' ⟨q, d, rfl, hg, TA⟩
      exact hK.out _ _ (cellT TA id hS) fun h => stABC bA bB q d _ h (Lib.hid ⟨(HH.out.1.trans TA), ⟨HH.out.2.1.1, keepB TA HH.out.2.1.2⟩, ⟨HH.out.2.2.1, keepB TA HH.out.2.2.2⟩, hg.low HH.out.1.size⟩)
    · go_simp
      have TA := (Turned.refl (fun _ => False) w).alloc (.cells #[(.int .i64 mo), (.int .i64 2), (.int .i64 1)] 3)
      exact hK.out _ _ (cellT TA id hS) fun h => stABD bA bB w.heap.size _ h (Lib.hid ⟨(HH.out.1.trans TA), ⟨HH.out.2.1.1, keepB TA HH.out.2.1.2⟩, ⟨HH.out.2.2.1, keepB TA HH.out.2.2.2⟩, ⟨HH.out.1.size, World.alloc_heap_new _ _⟩⟩)
    · go_simp
      have TA := (Turned.refl (fun _ => False) w).alloc (.cells #[.slice none 0 0, .slice none 0 0, .slice none 0 0] 25)
      exact hK.out _ _ (cellT TA id hS) fun h => stABF bA bB w.heap.size _ h (Lib.hid ⟨(HH.out.1.trans TA), ⟨HH.out.2.1.1, keepB TA HH.out.2.1.2⟩, ⟨HH.out.2.2.1, keepB TA HH.out.2.2.2⟩, ⟨HH.out.1.size, World.alloc_heap_new _ _⟩⟩)
  have stAD : ∀ (bA : Nat) (bD : Nat) (w : World), w.cell? ⟨kb, 0, none⟩ = some (.slice (some ⟨w1, 0, none⟩) 1 1) → Hid (Turned (fun _ => False) W0 w ∧ (W0.heap.size ≤ bA ∧ w.heap[bA]? = some (.cells #[(.int .i64 2), .slice (some ⟨w1, 0, none⟩) 1 1, (.int .i64 2), .slice (some ⟨w1, 0, none⟩) 1 1, (.int .i64 (-1)), .slice none 0 0] 123 (0, 0))) ∧ (W0.heap.size ≤ bD ∧ w.heap[bD]? = some (.cells #[(.int .i64 mo), (.int .i64 2), (.int .i64 1)] 3 (0, 0)))) → wpAnyH Tryz.prog .any ops (OnlyN Q) (fun V => V.cell? ⟨kb, 0, none⟩ = some (.slice (some ⟨w1, 0, none⟩) 1 1)) 6 #[true, true, true, true, true, true, false, false, true, true, false, false, false, false] { tmps := #[(.int .i64 mo), undef, .pointer (some ⟨r0, 0, none⟩), .slice none 0 0, .pointer (some ⟨kb, 0, none⟩), undef, .slice (some ⟨w1, 0, none⟩) 1 1, .agg #[.slice (some ⟨w1, 0, none⟩) 1 1], .agg #[.slice (some ⟨w1, 0, none⟩) 1 1], .agg #[(.int .i64 2), .slice (some ⟨w1, 0, none⟩) 1 1], .agg #[.slice (some ⟨w1, 0, none⟩) 1 1], .agg #[(.int .i64 2), .slice (some ⟨w1, 0, none⟩) 1 1], .agg #[(.int .i64 (-1)), .slice none 0 0], .slice (some ⟨bA, 0, none⟩) 3 3, undef, undef, (.int .i64 mo), .slice (some ⟨bD, 0, none⟩) 3 3, undef, undef, undef, undef, undef, undef, undef, undef, undef, undef, undef, undef], defers := [] } w := by
    subst hops
    intro bA bD w hS HH
    refine wpAnyH_ready (rs := [6, 12]) (by kernel_rfl) (by simp) ?_
    refine AllReadyH.cons (o := _) rfl (fun K hK => ?_) (AllReadyH.cons (o := _) rfl (fun K hK => ?_) AllReadyH.nil)
    · go_simp
      have TA := (Turned.refl (fun _ => False) w).alloc (.cells #[(.int .i64 6), (.int .i64 2), (.int .i64 1)] 3)
      exact hK.out _ _ (cellT TA id hS) fun h => stABD bA w.heap.size bD _ h (Lib.hid ⟨(HH.out.1.trans TA), ⟨HH.out.2.1.1, keepB TA HH.out.2.1.2⟩, ⟨HH.out.1.size, World.alloc_heap_new _ _⟩, ⟨HH.out.2.2.1, keepB TA HH.out.2.2.2⟩⟩)
    · go_simp
      have TA := (Turned.refl (fun _ => False) w).alloc (.cells #[.slice none 0 0, .slice none 0 0, .slice none 0 0] 25)
      exact hK.out _ _ (cellT TA id hS) fun h => stADF bA bD w.heap.size _ h (Lib.hid ⟨(HH.out.1.trans TA), ⟨HH.out.2.1.1, keepB TA HH.out.2.1.2⟩, ⟨HH.out.2.2.1, keepB TA HH.out.2.2.2⟩, ⟨HH.out.1.size, World.alloc_heap_new _ _⟩⟩)
  have stAF : ∀ (bA : Nat) (bF : Nat) (w : World), w.cell? ⟨kb, 0, none⟩ = some (.slice (some ⟨w1, 0, none⟩) 1 1) → Hid (Turned (fun _ => False) W0 w ∧ (W0.heap.size ≤ bA ∧ w.heap[bA]? = some (.cells #[(.int .i64 2), .slice (some ⟨w1, 0, none⟩) 1 1, (.int .i64 2), .slice (some ⟨w1, 0, none⟩) 1 1, (.int .i64 (-1)), .slice none 0 0] 123 (0, 0))) ∧ (W0.heap.size ≤ bF ∧ w.heap[bF]? = some (.cells #[.slice none 0 0, .slice none 0 0, .slice none 0 0] 25 (0, 0)))) → wpAnyH Tryz.prog .any ops (OnlyN Q) (fun V => V.cell? ⟨kb, 0, none⟩ = some (.slice (some ⟨w1, 0, none⟩) 1 1)) 6 #[true, true, true, true, true, true, false, false, true, false, false, false, true, false] { tmps := #[(.int .i64 mo), undef, .pointer (some ⟨r0, 0, none⟩), .slice none 0 0, .pointer (some ⟨kb, 0, none⟩), .pointer (some ⟨bF, 0, none⟩), .slice (some ⟨w1, 0, none⟩) 1 1, .agg #[.slice (some ⟨w1, 0, none⟩) 1 1], .agg #[.slice (some ⟨w1, 0, none⟩) 1 1], .agg #[(.int .i64 2), .slice (some ⟨w1, 0, none⟩) 1 1], .agg #[.slice (some ⟨w1, 0, none⟩) 1 1], .agg #[(.int .i64 2), .slice (some ⟨w1, 0, none⟩) 1 1], .agg #[(.int .i64 (-1)), .slice none 0 0], .slice (some ⟨bA, 0, none⟩) 3 3, undef, undef, (.int .i64 mo), undef, undef, undef, undef, undef, undef, undef, undef, undef, undef, undef, undef, undef], defers := [] } w := by
    subst hops
    intro bA bF w hS HH
    refine wpAnyH_ready (rs := [6, 9]) (by kernel_rfl) (by simp) ?_
    refine AllReadyH.cons (o := _) rfl (fun K hK => ?_) (AllReadyH.cons (o := _) rfl (fun K hK => ?_) AllReadyH.nil)
    · go_simp
      have TA := (Turned.refl (fun _ => False) w).alloc (.cells #[(.int .i64 6), (.int .i64 2), (.int .i64 1)] 3)
      exact hK.out _ _ (cellT TA id hS) fun h => stABF bA w.heap.size bF _ h (Lib.hid ⟨(HH.out.1.trans TA), ⟨HH.out.2.1.1, keepB TA HH.out.2.1.2⟩, ⟨HH.out.1.size, World.alloc_heap_new _ _⟩, ⟨HH.out.2.2.1, keepB TA HH.out.2.2.2⟩⟩)
    · go_simp
      have TA := (Turned.refl (fun _ => False) w).alloc (.cells #[(.int .i64 mo), (.int .i64 2), (.int .i64 1)] 3)
      exact hK.out _ _ (cellT TA id hS) fun h => stADF bA w.heap.size bF _ h (Lib.hid ⟨(HH.out.1.trans TA), ⟨HH.out.2.1.1, keepB TA HH.out.2.1.2⟩, ⟨HH.out.1.size, World.alloc_heap_new _ _⟩, ⟨HH.out.2.2.1, keepB TA HH.out.2.2.2⟩⟩)
  have stBC : ∀ (bB : Nat) (qC : Option Addr) (dC : Nat) (w : World), w.cell? ⟨kb, 0, none⟩ = some (.slice (some ⟨w1, 0, none⟩) 1 1) → Hid (Turned (fun _ => False) W0 w ∧ (W0.heap.size ≤ bB ∧ w.heap[bB]? = some (.cells #[(.int .i64 6), (.int .i64 2), (.int .i64 1)] 3 (0, 0))) ∧ Grown w W0.heap.size 68 3 ratCells (.slice qC 3 dC) (exU 6)) → wpAnyH Tryz.prog .any ops (OnlyN Q) (fun V => V.cell? ⟨kb, 0, none⟩ = some (.slice (some ⟨w1, 0, none⟩) 1 1)) 6 #[true, true, true, true, true, false, true, true, true, false, false, false, false, false] { tmps := #[(.int .i64 mo), undef, .pointer (some ⟨r0, 0, none⟩), .slice none 0 0, .pointer (some ⟨kb, 0, none⟩), undef, .slice (some ⟨w1, 0, none⟩) 1 1, .agg #[.slice (some ⟨w1, 0, none⟩) 1 1], .agg #[.slice (some ⟨w1, 0, none⟩) 1 1], .agg #[(.int .i64 2), .slice (some ⟨w1, 0, none⟩) 1 1], .agg #[.slice (some ⟨w1, 0, none⟩) 1 1], .agg #[(.int .i64 2), .slice (some ⟨w1, 0, none⟩) 1 1], .agg #[(.int .i64 (-1)), .slice none 0 0], undef, .slice (some ⟨bB, 0, none⟩) 3 3, .slice qC 3 dC, (.int .i64 mo), undef, undef, undef, undef, undef, undef, undef, undef, undef, undef, undef, undef, undef], defers := [] } w := by
    subst hops
    intro bB qC dC w hS HH
    refine wpAnyH_ready (rs := [5, 9, 12]) (by kernel_rfl) (by simp) ?_
    refine AllReadyH.cons (o := _) rfl (fun K hK => ?_) (AllReadyH.cons (o := _) rfl (fun K hK => ?_) (AllReadyH.cons (o := _) rfl (fun K hK => ?_) AllReadyH.nil))
    · go_simp
      have TA := (Turned.refl (fun _ => False) w).alloc (.cells #[(.int .i64 2), .slice (some ⟨w1, 0, none⟩) 1 1, (.int .i64 2), .slice (some ⟨w1, 0, none⟩) 1 1, (.int .i64 (-1)), .slice none 0 0] 123)
      exact hK.out _ _ (cellT TA id hS) fun h => stABC w.heap.size bB qC dC _ h (Lib.hid ⟨(HH.out.1.trans TA), ⟨HH.out.1.size, World.alloc_heap_new _ _⟩, ⟨HH.out.2.1.1, keepB TA HH.out.2.1.2⟩, HH.out.2.2.turned TA fun _ h => h.elim⟩)
    · go_simp
      have TA := (Turned.refl (fun _ => False) w).alloc (.cells #[(.int .i64 mo), (.int .i64 2), (.int .i64 1)] 3)
      exact hK.out _ _ (cellT TA id hS) fun h => stBCD bB qC dC w.heap.size _ h (Lib.hid ⟨(HH.out.1.trans TA), ⟨HH.out.2.1.1, keepB TA HH.out.2.1.2⟩, HH.out.2.2.turned TA fun _ h => h.elim, ⟨HH.out.1.size, World.alloc_heap_new _ _⟩⟩)
    · go_simp
      have TA := (Turned.refl (fun _ => False) w).alloc (.cells #[.slice none 0 0, .slice none 0 0, .slice none 0 0] 25)
      exact hK.out _ _ (cellT TA id hS) fun h => stBCF bB qC dC w.heap.size _ h (Lib.hid ⟨(HH.out.1.trans TA), ⟨HH.out.2.1.1, keepB TA HH.out.2.1.2⟩, HH.out.2.2.turned TA fun _ h => h.elim, ⟨HH.out.1.size, World.alloc_heap_new _ _⟩⟩)
  have stBD : ∀ (bB : Nat) (bD : Nat) (w : World), w.cell? ⟨kb, 0, none⟩ = some (.slice (some ⟨w1, 0, none⟩) 1 1) → Hid (Turned (fun _ => False) W0 w ∧ (W0.heap.size ≤ bB ∧ w.heap[bB]? = some (.cells #[(.int .i64 6), (.int .i64 2), (.int .i64 1)] 3 (0, 0))) ∧ (W0.heap.size ≤ bD ∧ w.heap[bD]? = some (.cells #[(.int .i64 mo), (.int .i64 2), (.int .i64 1)] 3 (0, 0)))) → wpAnyH Tryz.prog .any ops (OnlyN Q) (fun V => V.cell? ⟨kb, 0, none⟩ = some (.slice (some ⟨w1, 0, none⟩) 1 1)) 6 #[true, true, true, true, true, false, true, false, true, true, false, false, false, false] { tmps := #[(.int .i64 mo), undef, .pointer (some ⟨r0, 0, none⟩), .slice none 0 0, .pointer (some ⟨kb, 0, none⟩), undef, .slice (some ⟨w1, 0, none⟩) 1 1, .agg #[.slice (some ⟨w1, 0, none⟩) 1 1], .agg #[.slice (some ⟨w1, 0, none⟩) 1 1], .agg #[(.int .i64 2), .slice (some ⟨w1, 0, none⟩) 1 1], .agg #[.slice (some ⟨w1, 0, none⟩) 1 1], .agg #[(.int .i64 2), .slice (some ⟨w1, 0, none⟩) 1 1], .agg #[(.int .i64 (-1)), .slice none 0 0], undef, .slice (some ⟨bB, 0, none⟩) 3 3, undef, (.int .i64 mo), .slice (some ⟨bD, 0, none⟩) 3 3, undef, undef, undef, undef, undef, undef, undef, undef, undef, undef, undef, undef], defers := [] } w := by
    subst hops
    intro bB bD w hS HH
    refine wpAnyH_ready (rs := [5, 7, 12]) (by kernel_rfl) (by simp) ?_
    refine AllReadyH.cons (o := _) rfl (fun K hK => ?_) (AllReadyH.cons (o := _) rfl (fun K hK => ?_) (AllReadyH.cons (o := _) rfl (fun K hK => ?_) AllReadyH.nil))
    · go_simp
      have TA := (Turned.refl (fun _ => False) w).alloc (.cells #[(.int .i64 2), .slice (some ⟨w1, 0, none⟩) 1 1, (.int .i64 2), .slice (some ⟨w1, 0, none⟩) 1 1, (.int .i64 (-1)), .slice none 0 0] 123)
      exact hK.out _ _ (cellT TA id hS) fun h => stABD w.heap.size bB bD _ h (Lib.hid ⟨(HH.out.1.trans TA), ⟨HH.out.1.size, World.alloc_heap_new _ _⟩, ⟨HH.out.2.1.1, keepB TA HH.out.2.1.2⟩, ⟨HH.out.2.2.1, keepB TA HH.out.2.2.2⟩⟩)
    · go_simp
      have hl : At w.heap.size w 1 intCells ([6, 2, 1].map fun n : Nat => (n : Int)) (some ⟨bB, 0, none⟩) 3 := at3 HH.out.2.1.2
      refine (lawInts_any [6, 2, 1] (some ⟨bB, 0, none⟩) 3 _ w hl (by intro n hn; simp at hn; omega) (by simp)).mono ?_
      rintro e w' ⟨q, d, rfl, hg, TA⟩
      exact hK.out _ _ (cellT TA id hS) fun h => stBCD bB q d bD _ h (Lib.hid ⟨(HH.out.1.trans TA), ⟨HH.out.2.1.1, keepB TA HH.out.2.1.2⟩, hg.low HH.out.1.size, ⟨HH.out.2.2.1, keepB TA HH.out.2.2.2⟩⟩)
    · go_simp
      have TA := (Turned.refl (fun _ => False) w).alloc (.cells #[.slice none 0 0, .slice none 0 0, .slice none 0 0] 25)
      exact hK.out _ _ (cellT TA id hS) fun h => stBDF bB bD w.heap.size _ h (Lib.hid ⟨(HH.out.1.trans TA), ⟨HH.out.2.1.1, keepB TA HH.out.2.1.2⟩, ⟨HH.out.2.2.1, keepB TA HH.out.2.2.2⟩, ⟨HH.out.1.size, World.alloc_heap_new _ _⟩⟩)
  have stBF : ∀ (bB : Nat) (bF : Nat) (w : World), w.cell? ⟨kb, 0, none⟩ = some (.slice (some ⟨w1, 0, none⟩) 1 1) → Hid (Turned (fun _ => False) W0 w ∧ (W0.heap.size ≤ bB ∧ w.heap[bB]? = some (.cells #[(.int .i64 6), (.int .i64 2), (.int .i64 1)] 3 (0, 0))) ∧ (W0.heap.size ≤ bF ∧ w.heap[bF]? = some (.cells #[.slice none 0 0, .slice none 0 0, .slice none 0 0] 25 (0, 0)))) → wpAnyH Tryz.prog .any ops (OnlyN Q) (fun V => V.cell? ⟨kb, 0, none⟩ = some (.slice (some ⟨w1, 0, none⟩) 1 1)) 6 #[true, true, true, true, true, false, true, false, true, false, false, false, true, false] { tmps := #[(.int .i64 mo), undef, .pointer (some ⟨r0, 0, none⟩), .slice none 0 0, .pointer (some ⟨kb, 0, none⟩), .pointer (some ⟨bF, 0, none⟩), .slice (some ⟨w1, 0, none⟩) 1 1, .agg #[.slice (some ⟨w1, 0, none⟩) 1 1], .agg #[.slice (some ⟨w1, 0, none⟩) 1 1], .agg #[(.int .i64 2), .slice (some ⟨w1, 0, none⟩) 1 1], .agg #[.slice (some ⟨w1, 0, none⟩) 1 1], .agg #[(.int .i64 2), .slice (some ⟨w1, 0, none⟩) 1 1], .agg #[(.int .i64 (-1)), .slice none 0 0], undef, .slice (some ⟨bB, 0, none⟩) 3 3, undef, (.int .i64 mo), undef, undef, undef, undef, undef, undef, undef, undef, undef, undef, undef, undef, undef], defers := [] } w := by
    subst hops
    intro bB bF w hS HH
    refine wpAnyH_ready (rs := [5, 7, 9]) (by kernel_rfl) (by simp) ?_
    refine AllReadyH.cons (o := _) rfl (fun K hK => ?_) (AllReadyH.cons (o := _) rfl (fun K hK => ?_) (AllReadyH.cons (o := _) rfl (fun K hK => ?_) AllReadyH.nil))
    · go_simp
      have TA := (Turned.refl (fun _ => False) w).alloc (.cells #[(.int .i64 2), .slice (some ⟨w1, 0, none⟩) 1 1, (.int .i64 2), .slice (some ⟨w1, 0, none⟩) 1 1, (.int .i64 (-1)), .slice none 0 0] 123)
      exact hK.out _ _ (cellT TA id hS) fun h => stABF w.heap.size bB bF _ h (Lib.hid ⟨(HH.out.1.trans TA), ⟨HH.out.1.size, World.alloc_heap_new _ _⟩, ⟨HH.out.2.1.1, keepB TA HH.out.2.1.2⟩, ⟨HH.out.2.2.1, keepB TA HH.out.2.2.2⟩⟩)
    · go_simp
      have hl : At w.heap.size w 1 intCells ([6, 2, 1].map fun n : Nat => (n : Int)) (some ⟨bB, 0, none⟩) 3 := at3 HH.out.2.1.2
      refine (lawInts_any [6, 2, 1] (some ⟨bB, 0, none⟩) 3 _ w hl (by intro n hn; simp at hn; omega) (by simp)).mono ?_
      rintro e w' ⟨q, d, rfl, hg, TA⟩
      exact hK.out _ _ (cellT TA id hS) fun h => stBCF bB q d bF _ h (Lib.hid ⟨(HH.out.1.trans TA), ⟨HH.out.2.1.1, keepB TA HH.out.2.1.2⟩, hg.low HH.out.1.size, ⟨HH.out.2.2.1, keepB TA HH.out.2.2.2⟩⟩)
    · go_simp
      have TA := (Turned.refl (fun _ => False) w).alloc (.cells #[(.int .i64 mo), (.int .i64 2), (.int .i64 1)] 3)
      exact hK.out _ _ (cellT TA id hS) fun h => stBDF bB w.heap.size bF _ h (Lib.hid ⟨(HH.out.1.trans TA), ⟨HH.out.2.1.1, keepB TA HH.out.2.1.2⟩, ⟨HH.out.1.size, World.alloc_heap_new _ _⟩, ⟨HH.out.2.2.1, keepB TA HH.out.2.2.2⟩⟩)
  have stDF : ∀ (bD : Nat) (bF : Nat) (w : World), w.cell? ⟨kb, 0, none⟩ = some (.slice (some ⟨w1, 0, none⟩) 1 1) → Hid (Turned (fun _ => False) W0 w ∧ (W0.heap.size ≤ bD ∧ w.heap[bD]? = some (.cells #[(.int .i64 mo), (.int .i64 2), (.int .i64 1)] 3 (0, 0))) ∧ (W0.heap.size ≤ bF ∧ w.heap[bF]? = some (.cells #[.slice none 0 0, .slice none 0 0, .slice none 0 0] 25 (0, 0)))) → wpAnyH Tryz.prog .any ops (OnlyN Q) (fun V => V.cell? ⟨kb, 0, none⟩ = some (.slice (some ⟨w1, 0, none⟩) 1 1)) 6 #[true, true, true, true, true, false, false, false, true, true, false, false, true, false] { tmps := #[(.int .i64 mo), undef, .pointer (some ⟨r0, 0, none⟩), .slice none 0 0, .pointer (some ⟨kb, 0, none⟩), .pointer (some ⟨bF, 0, none⟩), .slice (some ⟨w1, 0, none⟩) 1 1, .agg #[.slice (some ⟨w1, 0, none⟩) 1 1], .agg #[.slice (some ⟨w1, 0, none⟩) 1 1], .agg #[(.int .i64 2), .slice (some ⟨w1, 0, none⟩) 1 1], .agg #[.slice (some ⟨w1, 0, none⟩) 1 1], .agg #[(.int .i64 2), .slice (some ⟨w1, 0, none⟩) 1 1], .agg #[(.int .i64 (-1)), .slice none 0 0], undef, undef, undef, (.int .i64 mo), .slice (some ⟨bD, 0, none⟩) 3 3, undef, undef, undef, undef, undef, undef, undef, undef, undef, undef, undef, undef], defers := [] } w := by
    subst hops
    intro bD bF w hS HH
    refine wpAnyH_ready (rs := [5, 6]) (by kernel_rfl) (by simp) ?_
    refine AllReadyH.cons (o := _) rfl (fun K hK => ?_) (AllReadyH.cons (o := _) rfl (fun K hK => ?_) AllReadyH.nil)
    · go_simp
      have TA := (Turned.refl (fun _ => False) w).alloc (.cells #[(.int .i64 2), .slice (some ⟨w1, 0, none⟩) 1 1, (.int .i64 2), .slice (some ⟨w1, 0, none⟩) 1 1, (.int .i64 (-1)), .slice none 0 0] 123)
      exact hK.out _ _ (cellT TA id hS) fun h => stADF w.heap.size bD bF _ h (Lib.hid ⟨(HH.out.1.trans TA), ⟨HH.out.1.size, World.alloc_heap_new _ _⟩, ⟨HH.out.2.1.1, keepB TA HH.out.2.1.2⟩, ⟨HH.out.2.2.1, keepB TA HH.out.2.2.2⟩⟩)
    · go_simp
      have TA := (Turned.refl (fun _ => False) w).alloc (.cells #[(.int .i64 6), (.int .i64 2), (.int .i64 1)] 3)
      exact hK.out _ _ (cellT TA id hS) fun h => stBDF w.heap.size bD bF _ h (Lib.hid ⟨(HH.out.1.trans TA), ⟨HH.out.1.size, World.alloc_heap_new _ _⟩, ⟨HH.out.2.1.1, keepB TA HH.out.2.1.2⟩, ⟨HH.out.2.2.1, keepB TA HH.out.2.2.2⟩⟩)
  have stA : ∀ (bA : Nat) (w : World), w.cell? ⟨kb, 0, none⟩ = some (.slice (some ⟨w1, 0, none⟩) 1 1) → Hid (Turned (fun _ => False) W0 w ∧ (W0.heap.size ≤ bA ∧ w.heap[bA]? = some (.cells #[(.int .i64 2), .slice (some ⟨w1, 0, none⟩) 1 1, (.int .i64 2), .slice (some ⟨w1, 0, none⟩) 1 1, (.int .i64 (-1)), .slice none 0 0] 123 (0, 0)))) → wpAnyH Tryz.prog .any ops (OnlyN Q) (fun V => V.cell? ⟨kb, 0, none⟩ = some (.slice (some ⟨w1, 0, none⟩) 1 1)) 7 #[true, true, true, true, true, true, false, false, true, false, false, false, false, false] { tmps := #[(.int .i64 mo), undef, .pointer (some ⟨r0, 0, none⟩), .slice none 0 0, .pointer (some ⟨kb, 0, none⟩), undef, .slice (some ⟨w1, 0, none⟩) 1 1, .agg #[.slice (some ⟨w1, 0, none⟩) 1 1], .agg #[.slice (some ⟨w1, 0, none⟩) 1 1], .agg #[(.int .i64 2), .slice (some ⟨w1, 0, none⟩) 1 1], .agg #[.slice (some ⟨w1, 0, none⟩) 1 1], .agg #[(.int .i64 2), .slice (some ⟨w1, 0, none⟩) 1 1], .agg #[(.int .i64 (-1)), .slice none 0 0], .slice (some ⟨bA, 0, none⟩) 3 3, undef, undef, (.int .i64 mo), undef, undef, undef, undef, undef, undef, undef, undef, undef, undef, undef, undef, undef], defers := [] } w := by
    subst hops
    intro bA w hS HH
    refine wpAnyH_ready (rs := [6, 9, 12]) (by kernel_rfl) (by simp) ?_
    refine AllReadyH.cons (o := _) rfl (fun K hK => ?_) (AllReadyH.cons (o := _) rfl (fun K hK => ?_) (AllReadyH.cons (o := _) rfl (fun K hK => ?_) AllReadyH.nil))
    · go_simp
      have TA := (Turned.refl (fun _ => False) w).alloc (.cells #[(.int .i64 6), (.int .i64 2), (.int .i64 1)] 3)
      exact hK.out _ _ (cellT TA id hS) fun h => stAB bA w.heap.size _ h (Lib.hid ⟨(HH.out.1.trans TA), ⟨HH.out.2.1, keepB TA HH.out.2.2⟩, ⟨HH.out.1.size, World.alloc_heap_new _ _⟩⟩)
    · go_simp
      have TA := (Turned.refl (fun _ => False) w).alloc (.cells #[(.int .i64 mo), (.int .i64 2), (.int .i64 1)] 3)
      exact hK.out _ _ (cellT TA id hS) fun h => stAD bA w.heap.size _ h (Lib.hid ⟨(HH.out.1.trans TA), ⟨HH.out.2.1, keepB TA HH.out.2.2⟩, ⟨HH.out.1.size, World.alloc_heap_new _ _⟩⟩)
    · go_simp
      have TA := (Turned.refl (fun _ => False) w).alloc (.cells #[.slice none 0 0, .slice none 0 0, .slice none 0 0] 25)
      exact hK.out _ _ (cellT TA id hS) fun h => stAF bA w.heap.size _ h (Lib.hid ⟨(HH.out.1.trans TA), ⟨HH.out.2.1, keepB TA HH.out.2.2⟩, ⟨HH.out.1.size, World.alloc_heap_new _ _⟩⟩)
  have stB : ∀ (bB : Nat) (w : World), w.cell? ⟨kb, 0, none⟩ = some (.slice (some ⟨w1, 0, none⟩) 1 1) → Hid (Turned (fun _ => False) W0 w ∧ (W0.heap.size ≤ bB ∧ w.heap[bB]? = some (.cells #[(.int .i64 6), (.int .i64 2), (.int .i64 1)] 3 (0, 0)))) → wpAnyH Tryz.prog .any ops (OnlyN Q) (fun V => V.cell? ⟨kb, 0, none⟩ = some (.slice (some ⟨w1, 0, none⟩) 1 1)) 7 #[true, true, true, true, true, false, true, false, true, false, false, false, false, false] { tmps := #[(.int .i64 mo), undef, .pointer (some ⟨r0, 0, none⟩), .slice none 0 0, .pointer (some ⟨kb, 0, none⟩), undef, .slice (some ⟨w1, 0, none⟩) 1 1, .agg #[.slice (some ⟨w1, 0, none⟩) 1 1], .agg #[.slice (some ⟨w1, 0, none⟩) 1 1], .agg #[(.int .i64 2), .slice (some ⟨w1, 0, none⟩) 1 1], .agg #[.slice (some ⟨w1, 0, none⟩) 1 1], .agg #[(.int .i64 2), .slice (some ⟨w1, 0, none⟩) 1 1], .agg #[(.int .i64 (-1)), .slice none 0 0], undef, .slice (some ⟨bB, 0, none⟩) 3 3, undef, (.int .i64 mo), undef, undef, undef, undef, undef, undef, undef, undef, undef, undef, undef, undef, undef], defers := [] } w := by
    subst hops
    intro bB w hS HH
    refine wpAnyH_ready (rs := [5, 7, 9, 12]) (by kernel_rfl) (by simp) ?_
    refine AllReadyH.cons (o := _) rfl (fun K hK => ?_) (AllReadyH.cons (o := _) rfl (fun K hK => ?_) (AllReadyH.cons (o := _) rfl (fun K hK => ?_) (AllReadyH.cons (o := _) rfl (fun K hK => ?_) AllReadyH.nil)))
    · go_simp
      have TA := (Turned.refl (fun _ => False) w).alloc (.cells #[(.int .i64 2), .slice (some ⟨w1, 0, none⟩) 1 1, (.int .i64 2), .slice (some ⟨w1, 0, none⟩) 1 1, (.int .i64 (-1)), .slice none 0 0] 123)
      exact hK.out _ _ (cellT TA id hS) fun h => stAB w.heap.size bB _ h (Lib.hid ⟨(HH.out.1.trans TA), ⟨HH.out.1.size, World.alloc_heap_new _ _⟩, ⟨HH.out.2.1, keepB TA HH.out.2.2⟩⟩)
    · go_simp
      have hl : At w.heap.size w 1 intCells ([6, 2, 1].map fun n : Nat => (n : Int)) (some ⟨bB, 0, none⟩) 3 := at3 HH.out.2.2
      refine (lawInts_any [6, 2, 1] (some ⟨bB, 0, none⟩) 3 _ w hl (by intro n hn; simp at hn; omega) (by simp)).mono ?_
      rintro e w' ⟨q, d, rfl, hg, TA⟩
      exact hK.out _ _ (cellT TA id hS) fun h => stBC bB q d _ h (Lib.hid ⟨(HH.out.1.trans TA), ⟨HH.out.2.1, keepB TA HH.out.2.2⟩, hg.low HH.out.1.size⟩)
    · go_simp
      have TA := (Turned.refl (fun _ => False) w).alloc (.cells #[(.int .i64 mo), (.int .i64 2), (.int .i64 1)] 3)
      exact hK.out _ _ (cellT TA id hS) fun h => stBD bB w.heap.size _ h (Lib.hid ⟨(HH.out.1.trans TA), ⟨HH.out.2.1, keepB TA HH.out.2.2⟩, ⟨HH.out.1.size, World.alloc_heap_new _ _⟩⟩)
    · go_simp
      have TA := (Turned.refl (fun _ => False) w).alloc (.cells #[.slice none 0 0, .slice none 0 0, .slice none 0 0] 25)
      exact hK.out _ _ (cellT TA id hS) fun h => stBF bB w.heap.size _ h (Lib.hid ⟨(HH.out.1.trans TA), ⟨HH.out.2.1, keepB TA HH.out.2.2⟩, ⟨HH.out.1.size, World.alloc_heap_new _ _⟩⟩)
  have stD : ∀ (bD : Nat) (w : World), w.cell? ⟨kb, 0, none⟩ = some (.slice (some ⟨w1, 0, none⟩) 1 1) → Hid (Turned (fun _ => False) W0 w ∧ (W0.heap.size ≤ bD ∧ w.heap[bD]? = some (.cells #[(.int .i64 mo), (.int .i64 2), (.int .i64 1)] 3 (0, 0)))) → wpAnyH Tryz.prog .any ops (OnlyN Q) (fun V => V.cell? ⟨kb, 0, none⟩ = some (.slice (some ⟨w1, 0, none⟩) 1 1)) 7 #[true, true, true, true, true, false, false, false, true, true, false, false, false, false] { tmps := #[(.int .i64 mo), undef, .pointer (some ⟨r0, 0, none⟩), .slice none 0 0, .pointer (some ⟨kb, 0, none⟩), undef, .slice (some ⟨w1, 0, none⟩) 1 1, .agg #[.slice (some ⟨w1, 0, none⟩) 1 1], .agg #[.slice (some ⟨w1, 0, none⟩) 1 1], .agg #[(.int .i64 2), .slice (some ⟨w1, 0, none⟩) 1 1], .agg #[.slice (some ⟨w1, 0, none⟩) 1 1], .agg #[(.int .i64 2), .slice (some ⟨w1, 0, none⟩) 1 1], .agg #[(.int .i64 (-1)), .slice none 0 0], undef, undef, undef, (.int .i64 mo), .slice (some ⟨bD, 0, none⟩) 3 3, undef, undef, undef, undef, undef, undef, undef, undef, undef, undef, undef, undef], defers := [] } w := by
    subst hops
    intro bD w hS HH
    refine wpAnyH_ready (rs := [5, 6, 12]) (by kernel_rfl) (by simp) ?_
    refine AllReadyH.cons (o := _) rfl (fun K hK => ?_) (AllReadyH.cons (o := _) rfl (fun K hK => ?_) (AllReadyH.cons (o := _) rfl (fun K hK => ?_) AllReadyH.nil))
    · go_simp
      have TA := (Turned.refl (fun _ => False) w).alloc (.cells #[(.int .i64 2), .slice (some ⟨w1, 0, none⟩) 1 1, (.int .i64 2), .slice (some ⟨w1, 0, none⟩) 1 1, (.int .i64 (-1)), .slice none 0 0] 123)
      exact hK.out _ _ (cellT TA id hS) fun h => stAD w.heap.size bD _ h (Lib.hid ⟨(HH.out.1.trans TA), ⟨HH.out.1.size, World.alloc_heap_new _ _⟩, ⟨HH.out.2.1, keepB TA HH.out.2.2⟩⟩)
    · go_simp
      have TA := (Turned.refl (fun _ => False) w).alloc (.cells #[(.int .i64 6), (.int .i64 2), (.int .i64 1)] 3)
      exact hK.out _ _ (cellT TA id hS) fun h => stBD w.heap.size bD _ h (Lib.hid ⟨(HH.out.1.trans TA), ⟨HH.out.1.size, World.alloc_heap_new _ _⟩, ⟨HH.out.2.1, keepB TA HH.out.2.2⟩⟩)
    · go_simp
      have TA := (Turned.refl (fun _ => False) w).alloc (.cells #[.slice none 0 0, .slice none 0 0, .slice none 0 0] 25)
      exact hK.out _ _ (cellT TA id hS) fun h => stDF bD w.heap.size _ h (Lib.hid ⟨(HH.out.1.trans TA), ⟨HH.out.2.1, keepB TA HH.out.2.2⟩, ⟨HH.out.1.size, World.alloc_heap_new _ _⟩⟩)
  have stF : ∀ (bF : Nat) (w : World), w.cell? ⟨kb, 0, none⟩ = some (.slice (some ⟨w1, 0, none⟩) 1 1) → Hid (Turned (fun _ => False) W0 w ∧ (W0.heap.size ≤ bF ∧ w.heap[bF]? = some (.cells #[.slice none 0 0, .slice none 0 0, .slice none 0 0] 25 (0, 0)))) → wpAnyH Tryz.prog .any ops (OnlyN Q) (fun V => V.cell? ⟨kb, 0, none⟩ = some (.slice (some ⟨w1, 0, none⟩) 1 1)) 7 #[true, true, true, true, true, false, false, false, true, false, false, false, true, false] { tmps := #[(.int .i64 mo), undef, .pointer (some ⟨r0, 0, none⟩), .slice none 0 0, .pointer (some ⟨kb, 0, none⟩), .pointer (some ⟨bF, 0, none⟩), .slice (some ⟨w1, 0, none⟩) 1 1, .agg #[.slice (some ⟨w1, 0, none⟩) 1 1], .agg #[.slice (some ⟨w1, 0, none⟩) 1 1], .agg #[(.int .i64 2), .slice (some ⟨w1, 0, none⟩) 1 1], .agg #[.slice (some ⟨w1, 0, none⟩) 1 1], .agg #[(.int .i64 2), .slice (some ⟨w1, 0, none⟩) 1 1], .agg #[(.int .i64 (-1)), .slice none 0 0], undef, undef, undef, (.int .i64 mo), undef, undef, undef, undef, undef, undef, undef, undef, undef, undef, undef, undef, undef], defers := [] } w := by
    subst hops
    intro bF w hS HH
    refine wpAnyH_ready (rs := [5, 6, 9]) (by kernel_rfl) (by simp) ?_
    refine AllReadyH.cons (o := _) rfl (fun K hK => ?_) (AllReadyH.cons (o := _) rfl (fun K hK => ?_) (AllReadyH.cons (o := _) rfl (fun K hK => ?_) AllReadyH.nil))
    · go_simp
      have TA := (Turned.refl (fun _ => False) w).alloc (.cells #[(.int .i64 2), .slice (some ⟨w1, 0, none⟩) 1 1, (.int .i64 2), .slice (some ⟨w1, 0, none⟩) 1 1, (.int .i64 (-1)), .slice none 0 0] 123)
      exact hK.out _ _ (cellT TA id hS) fun h => stAF w.heap.size bF _ h (Lib.hid ⟨(HH.out.1.trans TA), ⟨HH.out.1.size, World.alloc_heap_new _ _⟩, ⟨HH.out.2.1, keepB TA HH.out.2.2⟩⟩)
    · go_simp
      have TA := (Turned.refl (fun _ => False) w).alloc (.cells #[(.int .i64 6), (.int .i64 2), (.int .i64 1)] 3)
      exact hK.out _ _ (cellT TA id hS) fun h => stBF w.heap.size bF _ h (Lib.hid ⟨(HH.out.1.trans TA), ⟨HH.out.1.size, World.alloc_heap_new _ _⟩, ⟨HH.out.2.1, keepB TA HH.out.2.2⟩⟩)
    · go_simp
      have TA := (Turned.refl (fun _ => False) w).alloc (.cells #[(.int .i64 mo), (.int .i64 2), (.int .i64 1)] 3)
      exact hK.out _ _ (cellT TA id hS) fun h => stDF w.heap.size bF _ h (Lib.hid ⟨(HH.out.1.trans TA), ⟨HH.out.1.size, World.alloc_heap_new _ _⟩, ⟨HH.out.2.1, keepB TA HH.out.2.2⟩⟩)
  have st : ∀ (w : World), w.cell? ⟨kb, 0, none⟩ = some (.slice (some ⟨w1, 0, none⟩) 1 1) → Hid (Turned (fun _ => False) W0 w) → wpAnyH Tryz.prog .any ops (OnlyN Q) (fun V => V.cell? ⟨kb, 0, none⟩ = some (.slice (some ⟨w1, 0, none⟩) 1 1)) 8 #[true, true, true, true, true, false, false, false, true, false, false, false, false, false] { tmps := #[(.int .i64 mo), undef, .pointer (some ⟨r0, 0, none⟩), .slice none 0 0, .pointer (some ⟨kb, 0, none⟩), undef, .slice (some ⟨w1, 0, none⟩) 1 1, .agg #[.slice (some ⟨w1, 0, none⟩) 1 1], .agg #[.slice (some ⟨w1, 0, none⟩) 1 1], .agg #[(.int .i64 2), .slice (some ⟨w1, 0, none⟩) 1 1], .agg #[.slice (some ⟨w1, 0, none⟩) 1 1], .agg #[(.int .i64 2), .slice (some ⟨w1, 0, none⟩) 1 1], .agg #[(.int .i64 (-1)), .slice none 0 0], undef, undef, undef, (.int .i64 mo), undef, undef, undef, undef, undef, undef, undef, undef, undef, undef, undef, undef, undef], defers := [] } w := by
    subst hops
    intro  w hS HH
    refine wpAnyH_ready (rs := [5, 6, 9, 12]) (by kernel_rfl) (by simp) ?_
    refine AllReadyH.cons (o := _) rfl (fun K hK => ?_) (AllReadyH.cons (o := _) rfl (fun K hK => ?_) (AllReadyH.cons (o := _) rfl (fun K hK => ?_) (AllReadyH.cons (o := _) rfl (fun K hK => ?_) AllReadyH.nil)))
    · go_simp
      have TA := (Turned.refl (fun _ => False) w).alloc (.cells #[(.int .i64 2), .slice (some ⟨w1, 0, none⟩) 1 1, (.int .i64 2), .slice (some ⟨w1, 0, none⟩) 1 1, (.int .i64 (-1)), .slice none 0 0] 123)
      exact hK.out _ _ (cellT TA id hS) fun h => stA w.heap.size _ h (Lib.hid ⟨(HH.out.trans TA), ⟨HH.out.size, World.alloc_heap_new _ _⟩⟩)
    · go_simp
      have TA := (Turned.refl (fun _ => False) w).alloc (.cells #[(.int .i64 6), (.int .i64 2), (.int .i64 1)] 3)
      exact hK.out _ _ (cellT TA id hS) fun h => stB w.heap.size _ h (Lib.hid ⟨(HH.out.trans TA), ⟨HH.out.size, World.alloc_heap_new _ _⟩⟩)
    · go_simp
      have TA := (Turned.refl (fun _ => False) w).alloc (.cells #[(.int .i64 mo), (.int .i64 2), (.int .i64 1)] 3)
      exact hK.out _ _ (cellT TA id hS) fun h => stD w.heap.size _ h (Lib.hid ⟨(HH.out.trans TA), ⟨HH.out.size, World.alloc_heap_new _ _⟩⟩)
    · go_simp
      have TA := (Turned.refl (fun _ => False) w).alloc (.cells #[.slice none 0 0, .slice none 0 0, .slice none 0 0] 25)
      exact hK.out _ _ (cellT TA id hS) fun h => stF w.heap.size _ h (Lib.hid ⟨(HH.out.trans TA), ⟨HH.out.size, World.alloc_heap_new _ _⟩⟩)
  exact st
end Go.Proofs.YtanhhdndgkhcfaaGreatDoor
