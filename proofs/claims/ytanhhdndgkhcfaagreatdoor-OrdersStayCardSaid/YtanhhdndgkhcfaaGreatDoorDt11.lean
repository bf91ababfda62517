/- Part 11 of the proof of lawDue.card: OrdWalkB, OrdWalkC, OrdWalkD, HeldIn. Conditions: those of each theorem. -/
import Derived.BigQuiet
import Derived.Shelf.Abstract
import Derived.Deep.RegionHeld3
import Derived.OrdersIn
import Derived.RangeFuncCalls
import Derived.WalkKit
import Derived.Test.YtanhhdndgkhcfaaGreatDoorDt01
import Derived.Test.YtanhhdndgkhcfaaGreatDoorDt09
namespace Go.Proofs.YtanhhdndgkhcfaaGreatDoor
open Go Go.Proofs Go.RowKit
attribute [local go_sem] Oper.semAt_some
theorem eDown_any (q : Option Addr) (n c : Nat) (p : Int) (w : World) : Calls Tryz.prog 118 #[.slice q n c, (.int .i64 p)] w fun e w' =>
    e = .returned (.func (.func 141) #[] #[.pointer (some ⟨w.heap.size + 1, 0, none⟩), .pointer (some ⟨w.heap.size, 0, none⟩)]) ∧ (w.alloc (.cells #[.slice q n c] 22)).alloc (.cells #[(.int .i64 p)] 3) = w' := by
  go_enter Tryz.func118, Tryz.ntmps118
  go_wp2_with fail
  go_ret
  exact ⟨rfl, rfl⟩
theorem hDown_any (q : Option Addr) (n c : Nat) (p : Int) (w : World) : Calls Tryz.prog 66 #[.slice q n c, (.int .i64 p)] w fun e w' =>
    e = .returned (.func (.func 104) #[] #[.pointer (some ⟨w.heap.size + 1, 0, none⟩), .pointer (some ⟨w.heap.size, 0, none⟩)]) ∧ (w.alloc (.cells #[.slice q n c] 22)).alloc (.cells #[(.int .i64 p)] 3) = w' := by
  go_enter Tryz.func66, Tryz.ntmps66
  go_wp2_with fail
  go_ret
  exact ⟨rfl, rfl⟩
theorem hAt_any (q : Option Addr) (n c fI fN : Nat) (kI kN : Array Value) (w : World) : Calls Tryz.prog 61 #[.slice q n c, .func (.func fI) #[] kI, .func (.func fN) #[] kN] w fun e w' =>
    e = .returned (.func (.func 101) #[] #[.pointer (some ⟨w.heap.size, 0, none⟩), .pointer (some ⟨w.heap.size + 1, 0, none⟩), .pointer (some ⟨w.heap.size + 1 + 1, 0, none⟩)]) ∧ Turned (fun _ => False) w w' ∧
      w'.cell? ⟨w.heap.size, 0, none⟩ = some (.slice q n c) ∧ w'.cell? ⟨w.heap.size + 1, 0, none⟩ = some (.func (.func fI) #[] kI) ∧ w'.cell? ⟨w.heap.size + 1 + 1, 0, none⟩ = some (.func (.func fN) #[] kN) ∧ w'.heap.size = w.heap.size + 3 := by
  go_enter Tryz.func61, Tryz.ntmps61
  go_wp2_with fail
  go_ret
  exact ⟨rfl, (((Turned.refl _ w).alloc _).alloc _).alloc _, by go_simp, by go_simp, by go_simp, by simp⟩
theorem slAll_any (q : Option Addr) (n c : Nat) (w : World) : Calls Tryz.prog 96 #[.slice q n c] w fun e w' =>
    e = .returned (.func (.func 125) #[] #[.pointer (some ⟨w.heap.size, 0, none⟩)]) ∧ Turned (fun _ => False) w w' ∧ w'.cell? ⟨w.heap.size, 0, none⟩ = some (.slice q n c) ∧ w'.heap.size = w.heap.size + 1 := by
  go_enter Tryz.func96, Tryz.ntmps96
  go_wp2_with fail
  go_ret
  exact ⟨rfl, (Turned.refl _ w).alloc _, by go_simp, by simp⟩
def reachBad (n : Nat) (g : Nat) (x : Rc) : Int :=
  if x.down < -1 ∨ (n : Int) ≤ x.down then 3 else if x.down = g ∨ (x.down < 0 ∧ 0 < x.ws.length) ∨ (0 ≤ x.down ∧ kerE x.ws ≠ 0) then 1 else 0
def reachesE (n : Nat) : Nat → List Rc → Int
  | _, [] => 0
  | g, x :: l => if reachBad n g x = 0 then reachesE n (g + 1) l else reachBad n g x
def endsB (ds : List Int) : Bool := (List.range ds.length).all fun g => decide (stepN ds ds.length (g : Int) < 0)
def rivE (l : List Rc) : Int := if 40 < l.length then 2 else if reachesE l.length 0 l ≠ 0 then reachesE l.length 0 l else if endsB (l.map (·.down)) = true then 0 else 4
theorem reachesE_drop (n : Nat) : ∀ (l : List Rc) (k g : Nat), (∀ i x, i < k → l[i]? = some x → reachBad n (g + i) x = 0) → reachesE n g l = reachesE n (g + k) (l.drop k)
  | [], k, g, _ => by rw [List.drop_nil]; rfl
  | x :: l, 0, g, _ => rfl
  | x :: l, k + 1, g, h => by
    have h0 := h 0 x (by omega) rfl
    rw [Nat.add_zero] at h0
    rw [reachesE, if_pos h0, List.drop_succ_cons, reachesE_drop n l k (g + 1) fun i y hi hy => by
      have := h (i + 1) y (by omega) (by simpa using hy)
      rwa [show g + (i + 1) = g + 1 + i by omega] at this]
    rw [show g + 1 + k = g + (k + 1) by omega]
end Go.Proofs.YtanhhdndgkhcfaaGreatDoor
namespace Go.Proofs.YtanhhdndgkhcfaaGreatDoor
open Go Go.Proofs Go.RowKit
attribute [local go_sem] Oper.semAt_some
structure Marks (base : Nat) (W : World) (ds : List Deferred) : Prop where
  nd : ds.Pairwise (fun a b => a.target ≠ b.target)
  each : ∀ d ∈ ds, ∃ D, d = { target := .collected D, args := #[] } ∧ base ≤ D ∧ W.heap[D]? = some (.deferred (some []))
theorem Marks.nil (base : Nat) (W : World) : Marks base W [] := ⟨List.Pairwise.nil, fun _ h => by cases h⟩
theorem Marks.turned {base : Nat} {W W' : World} {ds : List Deferred} (h : Marks base W ds) {C : Nat → Prop} (ht : Turned C W W') (hC : ∀ k o, C k → W.heap[k]? = some o → (∀ x, o ≠ .deferred x)) : Marks base W' ds :=
  ⟨h.nd, fun d hd => by
    obtain ⟨D, h1, h2, h3⟩ := h.each d hd
    exact ⟨D, h1, h2, (ht.block D (getElem?_lt h3) fun hc => hC D _ hc h3 _ rfl).trans h3⟩⟩
theorem Marks.cons {base : Nat} {W : World} {ds : List Deferred} (h : Marks base W ds) {D : Nat} (hb : base ≤ D) (hD : W.heap[D]? = some (.deferred (some []))) (hn : ∀ d ∈ ds, ∀ D', d.target = .collected D' → D' ≠ D) : Marks base W ({ target := .collected D, args := #[] } :: ds) :=
  ⟨List.pairwise_cons.2 ⟨fun d hd he => by
    obtain ⟨D', h1, -, -⟩ := h.each d hd
    rw [h1] at he
    simp only [Target.collected.injEq] at he
    exact hn d hd D' (by rw [h1]) he.symm, h.nd⟩, fun d hd => by
    rcases List.mem_cons.1 hd with rfl | hd
    · exact ⟨D, rfl, hb, hD⟩
    · exact h.each d hd⟩
theorem leave_marks {F : Fence} {n : Nat} {P : Program} {fn : Func} {tmps : Array Value} {R : Ending → World → Prop} {base : Nat} : ∀ (ds : List Deferred) (W : World), Marks base W ds → (∀ W', Turned (fun k => base ≤ k ∧ ∃ x, W.heap[k]? = some (.deferred x)) W W' → LeavesIn F n P fn tmps R [] .returning W') → LeavesInM F n P fn tmps R ds .returning W
  | [], W, _, h => h W (Turned.refl _ W)
  | d :: ds, W, hm, h => by
    obtain ⟨D, rfl, hb, hD⟩ := hm.each d (by simp)
    refine ⟨by simp, .inl ⟨D, _, rfl, run_takeDeferred hD, ?_⟩⟩
    have ht : Turned (fun k => k = D) W (W.putObj D (.deferred none)) := (Turned.refl (fun k => k = D) W).putObj rfl _
    have hp := List.pairwise_cons.1 hm.nd
    refine leave_marks (base := base) ds _ ⟨hp.2, fun d hd => ?_⟩ fun W' ht' => h W' ?_
    · obtain ⟨D', h1, h2, h3⟩ := hm.each d (List.mem_cons_of_mem _ hd)
      have hne : D' ≠ D := fun e => hp.1 d hd (by rw [h1, e])
      exact ⟨D', h1, h2, (ht.block D' (getElem?_lt h3) hne).trans h3⟩
    · refine (ht.mono fun k hk => ?_).trans (ht'.mono fun k hk => ?_)
      · subst hk; exact ⟨hb, _, hD⟩
      · obtain ⟨h1, x, h2⟩ := hk
        refine ⟨h1, ?_⟩
        by_cases hkD : k = D
        · subst hkD; exact ⟨_, hD⟩
        · rw [ht.block k (by have := getElem?_lt h2; rwa [show (W.putObj D (.deferred none)).heap.size = W.heap.size by simp] at this) hkD] at h2
          exact ⟨x, h2⟩
end Go.Proofs.YtanhhdndgkhcfaaGreatDoor
namespace Go.Proofs.YtanhhdndgkhcfaaGreatDoor
open Go Go.Proofs Go.RowKit
attribute [local go_sem] Oper.semAt_some
theorem reachBad_in {n g : Nat} {x : Rc} (h1 : ¬ x.down < -1) (h2 : ¬ (n : Int) ≤ x.down) : reachBad n g x = if x.down = g ∨ (x.down < 0 ∧ 0 < x.ws.length) ∨ (0 ≤ x.down ∧ kerE x.ws ≠ 0) then 1 else 0 := by
  unfold reachBad
  rw [if_neg (by omega)]
theorem Turned.freshC {W A B : World} {C D : Nat → Prop} (h : Turned C W A) (k : Turned D A B) (hD : ∀ g, D g → W.heap.size ≤ g) : Turned C W B :=
  ⟨k.os.trans h.os, k.tape.trans h.tape, k.output.trans h.output, Nat.le_trans h.size k.size, fun i hi hn => (k.block i (Nat.lt_of_lt_of_le hi h.size) (fun c => by have := hD i c; omega)).trans (h.block i hi hn)⟩
theorem way_short {d : List Int} {p : Int} (h : stepN d d.length p < 0) : (way d p).length ≤ d.length := by
  have h1 := way_drop (p := p) (show d.length ≤ d.length + 1 by omega)
  rw [show d.length + 1 - d.length = 1 by omega, wayN, if_pos h] at h1
  exact List.drop_eq_nil_iff.1 h1
theorem results_cellE (tmps : Array Value) (w : World) (g : Nat) (v : Int) (hp : tmps.getD 2 undef = .pointer (some ⟨g, 0, none⟩)) (hg : w.cell? ⟨g, 0, none⟩ = some (.int .i64 v)) :
    (results Tryz.f86 tmps).run Tryz.prog w = .ok (.int .i64 v) w := by
  have hp' : tmps[2]?.getD undef = .pointer (some ⟨g, 0, none⟩) := by simpa using hp
  have hl : (loadVar 33 ⟨g, 0, none⟩).run Tryz.prog w = .ok (.int .i64 v) w := by
    have := Tryz.underlying33
    go_simp
  simp [results, hp', asAddr, hl]
set_option maxRecDepth 100000 in
set_option maxHeartbeats 8000000 in
theorem eCheck_any (rs : List Rc) (pp : Option Addr) (cc : Nat) (W : World) (hriv : RivAt W.heap.size W rs pp cc) :
    Calls Tryz.prog 86 #[.slice pp rs.length cc] W fun e w' => e = .returned (.int .i64 (rivE rs)) ∧ Turned (fun _ => False) W w' := by
  refine callsIn_wide (n := 0).1 ?_
  refine callsIn_of_wp_marks Tryz.func86 rfl trivial ?_ rfl
  simp only [Tryz.ntmps86, List.size_toArray, List.length_cons, List.length_nil, Nat.reduceAdd, Nat.reduceSub, Array.replicate_succ, Array.replicate_zero, List.push_toArray, List.append_toArray, List.nil_append, List.cons_append]
  have hmx : (rs.length : Int) ≤ 9223372036854775807 := by have := hriv.at_.len; unfold maxLen at this; omega
  obtain ⟨n, hn⟩ : ∃ n, rs.length = n := ⟨_, rfl⟩
  have HN := Lib.hid hn
  have HE : Hid (rivE rs = if 40 < n then 2 else if reachesE n 0 rs ≠ 0 then reachesE n 0 rs else if endsB (rs.map (·.down)) = true then 0 else 4) := Lib.hid (by unfold rivE; rw [hn])
  have HR := Lib.hid hriv
  have LV : ∀ (tmps : Array Value) (v : Int) (ds : List Deferred) (A : World), tmps.getD 2 undef = .pointer (some ⟨W.heap.size + 1, 0, none⟩) → rivE rs = v → Marks (W.heap.size + 2) A ds → A.cell? ⟨W.heap.size + 1, 0, none⟩ = some (.int .i64 v) → Turned (fun _ => False) W A →
      LeavesInM Fence.wide 0 Tryz.prog Tryz.f86 tmps (fun e w' => e = .returned (.int .i64 (rivE rs)) ∧ Turned (fun _ => False) W w') ds .returning A := by
    intro tmps v ds A h1 h2 h3 h4 h5
    refine leave_marks (base := W.heap.size + 2) ds A h3 fun W' ht => ?_
    have h6 := cellT ht (fun hc => by have := hc.1; omega) h4
    refine ⟨_, results_cellE tmps W' _ v h1 h6, by rw [h2], ?_⟩
    exact h5.fresh ht fun g hg => by have := hg.1; omega
  have HLV := Lib.hid LV
  clear LV
  rw [hn] at hmx ⊢
  clear hn hriv
  by_cases h40 : 40 < n
  · have HE2 : Hid (rivE rs = 2) := Lib.hid (by rw [HE.out, if_pos h40])
    have h40' : (40 : Int) < n := by omega
    clear HE
    gi_wp2_with fail
    have n1 := new_second W (.cells #[.slice pp n cc] 22) (.cells #[(.int .i64 2)] 33)
    refine HLV.out _ 2 [] _ ?_ HE2.out (Marks.nil _ _) (cell_of_box n1) (((Turned.refl (fun _ => False) W).alloc _).alloc _)
    rfl
  have h40' : ¬ (40 : Int) < n := by omega
  replace HE := Lib.hid (HE.out.trans (if_neg h40))
  gi_wp2_with fail
  have T0 := ((Turned.refl (fun _ => False) W).alloc (.cells #[.slice pp n cc] 22)).alloc (.cells #[(.int .i64 0)] 33)
  have n0 := new_first W (.cells #[.slice pp n cc] 22) (.cells #[(.int .i64 0)] 33)
  have n1 := new_second W (.cells #[.slice pp n cc] 22) (.cells #[(.int .i64 0)] 33)
  have hz0 : ((W.alloc (.cells #[.slice pp n cc] 22)).alloc (.cells #[(.int .i64 0)] 33)).heap.size = W.heap.size + 2 := by simp
  obtain ⟨w0, hw0⟩ : ∃ w0, w0 = (W.alloc (.cells #[.slice pp n cc] 22)).alloc (.cells #[(.int .i64 0)] 33) := ⟨_, rfl⟩
  rw [← hw0] at T0 n0 n1 hz0 ⊢
  clear hw0
  have HT0 := Lib.hid T0
  have HB0 := Lib.hid (And.intro n0 (And.intro n1 hz0))
  clear T0 n0 n1 hz0
  have SET : ∀ (A : World) (v : Int), Turned (fun _ => False) w0 A → (A.setCell ⟨W.heap.size + 1, 0, none⟩ (.int .i64 v)).cell? ⟨W.heap.size + 1, 0, none⟩ = some (.int .i64 v) ∧ Turned (fun k => k = W.heap.size + 1) A (A.setCell ⟨W.heap.size + 1, 0, none⟩ (.int .i64 v)) ∧ Turned (fun _ => False) W (A.setCell ⟨W.heap.size + 1, 0, none⟩ (.int .i64 v)) := fun A v hA => by
    have ht : Turned (fun k => k = W.heap.size + 1) A (A.setCell ⟨W.heap.size + 1, 0, none⟩ (.int .i64 v)) := (Turned.refl (fun k => k = W.heap.size + 1) _).setCell (p := ⟨W.heap.size + 1, 0, none⟩) rfl _
    exact ⟨cell_of_box (box_setCell _ (keepB hA HB0.out.2.1)), ht, (HT0.out.trans hA).fresh ht fun g hg => by omega⟩
  have HSET := Lib.hid SET
  clear SET
  gi_loopw [12] (fun i wr => ∃ k : Nat, k ≤ n ∧ i = (.int .i64 k) ∧ Hid (Turned (fun _ => False) w0 wr ∧ ∀ i x, i < k → rs[i]? = some x → reachBad n i x = 0)) (fun i _ => n - (intOf i).toNat)
  case atStart => exact ⟨0, Nat.zero_le _, rfl, Lib.hid ⟨Turned.refl _ _, fun i x h => by omega⟩⟩
  case round =>
    obtain ⟨k, hk, rfl, HH⟩ := hrel
    have d1 := cell_of_box (keepB HH.out.1 HB0.out.1)
    have d2 := cell_of_box (keepB HH.out.1 HB0.out.2.1)
    have d3 := free_of_box (keepB HH.out.1 HB0.out.2.1) 0
    by_cases hlt : k < n
    · have hx : rs[k]? = some (rs[k]'(by rw [HN.out]; exact hlt)) := List.getElem?_eq_getElem _
      obtain ⟨⟨dn, ws, wp, wc⟩, hxe⟩ : ∃ x, rs[k]'(by rw [HN.out]; exact hlt) = x := ⟨_, rfl⟩
      rw [hxe] at hx
      have HX := Lib.hid hx
      have hrw := HR.out.turned (HT0.out.trans HH.out.1)
      have HWS := Lib.hid (hrw.ws _ (List.mem_of_getElem? hx))
      obtain ⟨b, a, rfl, hbN, e0, e1⟩ := hrw.at_.reaches hx
      have hwl : (ws.length : Int) ≤ 9223372036854775807 := by have := HWS.out.len; unfold maxLen at this; simp at this; omega
      have TA := (Turned.refl (fun _ => False) wr).alloc (.cells #[(.int .i64 dn), .slice wp ws.length wc] 123)
      have nA := World.alloc_heap_new wr (.cells #[(.int .i64 dn), .slice wp ws.length wc] 123)
      have f1 := cellT TA id d1
      have f2 := cellT TA id d2
      have f3 := free_of_box (keepB TA (keepB HH.out.1 HB0.out.2.1)) 0
      obtain ⟨w1, hw1⟩ : ∃ w1, w1 = wr.alloc (.cells #[(.int .i64 dn), .slice wp ws.length wc] 123) := ⟨_, rfl⟩
      rw [← hw1] at TA nA
      have HTA := Lib.hid (HH.out.1.trans TA)
      have HF2 := Lib.hid (cellT TA id d2)
      have a0 : w1.cell? ⟨wr.heap.size, 0, none⟩ = some (.int .i64 dn) := by simp [World.cell?, nA]
      have a1 : w1.cell? ⟨wr.heap.size, 1, none⟩ = some (.slice wp ws.length wc) := by simp [World.cell?, nA]
      clear a0 a1
      have HK := Lib.hid (kCheck_any ws wp wc W.heap.size w1 (HWS.out.turned TA))
      have HRB : Hid (reachesE n 0 rs = if reachBad n k ⟨dn, ws, wp, wc⟩ = 0 then reachesE n (k + 1) (rs.drop (k + 1)) else reachBad n k ⟨dn, ws, wp, wc⟩) := Lib.hid (by
        have h1 := reachesE_drop n rs k 0 fun i x hi hxi => by rw [Nat.zero_add]; exact HH.out.2 i x hi hxi
        rw [Nat.zero_add] at h1
        have h2 : rs.drop k = ⟨dn, ws, wp, wc⟩ :: rs.drop (k + 1) := by
          have hlt2 : k < rs.length := by rw [HN.out]; exact hlt
          rw [List.drop_eq_getElem_cons hlt2, hxe]
        rw [h1, h2, reachesE])
      have HST := Lib.hid (HSET.out w1 · HTA.out)
      have HNX : Hid (reachBad n k ⟨dn, ws, wp, wc⟩ = 0 → ∀ i x, i < k + 1 → rs[i]? = some x → reachBad n i x = 0) := Lib.hid fun h0 i x hi hxi => by
        rcases Nat.lt_or_ge i k with h1 | h1
        · exact HH.out.2 i x h1 hxi
        · obtain rfl : i = k := by omega
          rw [HX.out] at hxi
          cases hxi
          exact h0
      clear hx hxe hrw TA nA
      have bad : ∀ v, reachBad n k ⟨dn, ws, wp, wc⟩ = v → v ≠ 0 → rivE rs = v := fun v h1 h2 => by
        rw [HE.out, if_pos (by rw [HRB.out, if_neg (by rw [h1]; exact h2), h1]; exact h2), HRB.out, if_neg (by rw [h1]; exact h2), h1]
      have HBAD := Lib.hid bad
      clear bad
      by_cases g1 : dn < -1 ∨ (n : Int) ≤ dn
      · have HV : Hid (rivE rs = 3) := Lib.hid (HBAD.out 3 (by unfold reachBad; rw [if_pos g1]) (by decide))
        rcases g1 with g1 | g1
        all_goals
          (try have g2 : ¬ dn < -1 := by omega)
          gi_wp2_with (refine wide_skip (fun _ => trivial) rfl ?_)
          (try rw [← hw1])
          refine HLV.out _ 3 [] _ ?_ HV.out (Marks.nil _ _) (HST.out 3).1 (HST.out 3).2.2
          rfl
      have g2 : ¬ dn < -1 := by omega
      have g3 : ¬ (n : Int) ≤ dn := by omega
      have HRI := Lib.hid (reachBad_in (n := n) (g := k) (x := ⟨dn, ws, wp, wc⟩) g2 g3)
      clear g1
      have HRF := Lib.hid (HBAD.out 1)
      by_cases c1 : dn = (k : Int)
      · have HV : Hid (rivE rs = 1) := Lib.hid (HRF.out (by rw [HRI.out, if_pos (.inl c1)]) (by decide))
        subst c1
        gi_wp2_with (refine wide_skip (fun _ => trivial) rfl ?_)
        (try rw [← hw1])
        refine HLV.out _ 1 [] _ ?_ HV.out (Marks.nil _ _) (HST.out 1).1 (HST.out 1).2.2
        rfl
      have c1' : (dn == (k : Int)) = false := by simpa using c1
      by_cases c2 : dn < 0
      · have c2' : ¬ (0 : Int) ≤ dn := by omega
        by_cases c3 : 0 < ws.length
        · have HV : Hid (rivE rs = 1) := Lib.hid (HRF.out (by rw [HRI.out, if_pos (.inr (.inl ⟨c2, c3⟩))]) (by decide))
          have c3' : (0 : Int) < ws.length := by omega
          gi_wp2_with (refine wide_skip (fun _ => trivial) rfl ?_)
          (try rw [← hw1])
          refine HLV.out _ 1 [] _ ?_ HV.out (Marks.nil _ _) (HST.out 1).1 (HST.out 1).2.2
          rfl
        · have c3' : ¬ (0 : Int) < ws.length := by omega
          have HG : Hid (Turned (fun _ => False) w0 w1 ∧ ∀ i x, i < k + 1 → rs[i]? = some x → reachBad n i x = 0) := Lib.hid ⟨HTA.out, HNX.out (by rw [HRI.out, if_neg]; rintro (h | h | h); exact c1 h; exact c3 h.2; exact c2' h.1)⟩
          gi_wp2_with (refine wide_skip (fun _ => trivial) rfl ?_)
          (try rw [← hw1])
          go_roundw
          case rel => exact ⟨k + 1, by omega, by go_num, HG⟩
          case measure => simp [intOf]; omega
      · have c2' : (0 : Int) ≤ dn := by omega
        have c4 : ¬ ((0 : Int) < ws.length ∧ dn < 0) := fun h => c2 h.2
        obtain ⟨ke, hke⟩ : ∃ ke, kerE ws = ke := ⟨_, rfl⟩
        rw [hke] at HK
        by_cases c3 : ke = 0
        · have HG : ∀ A, Turned (fun _ => False) w1 A → Hid (Turned (fun _ => False) w0 A ∧ ∀ i x, i < k + 1 → rs[i]? = some x → reachBad n i x = 0) := fun A hA => Lib.hid ⟨HTA.out.trans hA, HNX.out (by rw [HRI.out, if_neg]; rintro (h | h | h); exact c1 h; exact c2 h.1; exact h.2 (by rw [hke]; exact c3))⟩
          have HGG := Lib.hid HG
          subst c3
          clear HG hke
          gi_wp2_with (first | (refine wide_skip (fun _ => trivial) rfl ?_) | (rw [← hw1]; refine ⟨trivial, rfl, (callsIn_wide.2 HK.out).mono ?_⟩; rintro e w2 ⟨rfl, t2⟩; have T2 := Lib.hid t2; clear t2))
          go_roundw
          case rel => exact ⟨k + 1, by omega, by go_num, HGG.out _ T2.out⟩
          case measure => simp [intOf]; omega
        · have HV : Hid (rivE rs = 1) := Lib.hid (HRF.out (by rw [HRI.out, if_pos (.inr (.inr ⟨c2', by show kerE ws ≠ 0; rw [hke]; exact c3⟩))]) (by decide))
          have c3' : (ke == 0) = false := by simpa using c3
          clear hke c3
          gi_wp2_with (first | (refine wide_skip (fun _ => trivial) rfl ?_) | (rw [← hw1]; refine ⟨trivial, rfl, (callsIn_wide.2 HK.out).mono ?_⟩; rintro e w2 ⟨rfl, t2⟩; have f2' := cellT t2 id HF2.out; have f3' := free_of_box (keepB t2 (keepB HTA.out HB0.out.2.1)) 0; have T2 := Lib.hid t2; clear t2))
          refine HLV.out _ 1 [] _ ?_ HV.out (Marks.nil _ _) (HSET.out w2 1 (HTA.out.trans T2.out)).1 (HSET.out w2 1 (HTA.out.trans T2.out)).2.2
          rfl
    · obtain rfl : k = n := by omega
      have h00 : reachesE k 0 rs = 0 := by
        rw [reachesE_drop k rs k 0 fun i x hi hxi => by rw [Nat.zero_add]; exact HH.out.2 i x hi hxi, List.drop_eq_nil_of_le (by rw [HN.out]; exact Nat.le_refl _)]
        rfl
      replace HE := Lib.hid (HE.out.trans (if_neg (by rw [h00]; simp)))
      have hdn : ∀ x : Int, x ∈ rs.map (·.down) → -1 ≤ x ∧ x < (rs.map (·.down)).length := fun x hx => by
        obtain ⟨y, hy, rfl⟩ := List.mem_map.1 hx
        obtain ⟨i, hi⟩ := List.mem_iff_getElem?.1 hy
        have hik : i < k := by have := (List.getElem?_eq_some_iff.1 hi).1; rw [HN.out] at this; exact this
        have h1 := HH.out.2 i y hik hi
        rw [List.length_map, HN.out]
        unfold reachBad at h1
        split at h1
        · omega
        · omega
      have HDN := Lib.hid hdn
      have HT := Lib.hid HH.out.1
      clear hdn h00 HH
      obtain ⟨dsn, hds⟩ : ∃ d, rs.map (·.down) = d := ⟨_, rfl⟩
      rw [hds] at HE HDN
      have HDS := Lib.hid hds.symm
      have hdl : dsn.length = k := by rw [← hds, List.length_map, HN.out]
      have HDL := Lib.hid hdl
      clear hds hdl
      gi_wp2_with fail
      clear d1 d2 d3
      refine wpIn_loop (fun a w' => ∃ (g : Nat) (ds : List Deferred) (v5 v6 v58 v59 v60 v61 v62 v63 v64 v65 v66 v67 v68 v69 v70 : Value), (g ≤ k ∧ Hid (Turned (fun _ => False) w0 w' ∧ Marks (W.heap.size + 2) w' ds ∧ ∀ i : Nat, i < g → stepN dsn k i < 0)) ∧ a = { tmps := #[.slice pp k cc, .pointer (some ⟨W.heap.size, 0, none⟩), .pointer (some ⟨W.heap.size + 1, 0, none⟩), u3, u4, v5, v6, .slice pp k cc, (.int .i64 k), .bool false, .slice pp k cc, (.int .i64 k), (.int .i64 k), .bool false, u14, u15, u16, u17, u18, u19, u20, u21, u22, u23, u24, u25, u26, u27, u28, u29, u30, u31, u32, u33, u34, u35, u36, u37, u38, u39, u40, u41, u42, u43, u44, u45, u46, u47, u48, u49, u50, u51, u52, u53, u54, .slice pp k cc, (.int .i64 k), (.int .i64 g), v58, v59, v60, v61, v62, v63, v64, v65, v66, v67, v68, v69, v70], defers := ds }) (fun a _ => k - (intOf (a.tmps.getD 57 undef)).toNat) ?_ ?_
      · exact ⟨0, [], _, _, _, _, _, _, _, _, _, _, _, _, _, _, _, ⟨Nat.zero_le _, Lib.hid ⟨HT.out, Marks.nil _ _, fun i h => by omega⟩⟩, rfl⟩
      · clear HT
        rintro a wr ⟨g, ds, v5, v6, v58, v59, v60, v61, v62, v63, v64, v65, v66, v67, v68, v69, v70, ⟨hg, HH⟩, rfl⟩
        have d1 := cell_of_box (keepB HH.out.1 HB0.out.1)
        have d2 := cell_of_box (keepB HH.out.1 HB0.out.2.1)
        have d3 := free_of_box (keepB HH.out.1 HB0.out.2.1) 0
        by_cases hlt : g < k
        · have TA := (Turned.refl (fun _ => False) wr).alloc (.cells #[(.int .i64 0)] 3)
          have f1 := cellT TA id d1
          gi_wp2_with fail
          refine ⟨trivial, rfl, (callsIn_wide.2 (eDown_any pp k cc g _)).mono ?_⟩
          rintro e w2 ⟨rfl, rfl⟩
          gi_wp2_with fail
          have B3 := new3 wr (.cells #[(.int .i64 0)] 3) (.cells #[.slice pp k cc] 22) (.cells #[(.int .i64 g)] 3)
          have T3 := (((Turned.refl (fun _ => False) wr).alloc (.cells #[(.int .i64 0)] 3)).alloc (.cells #[.slice pp k cc] 22)).alloc (.cells #[(.int .i64 g)] 3)
          have hz3 : ((((wr.alloc (.cells #[(.int .i64 0)] 3)).alloc (.cells #[.slice pp k cc] 22)).alloc (.cells #[(.int .i64 g)] 3))).heap.size = wr.heap.size + 3 := by simp
          obtain ⟨w3, hw3⟩ : ∃ w3, w3 = (((wr.alloc (.cells #[(.int .i64 0)] 3)).alloc (.cells #[.slice pp k cc] 22)).alloc (.cells #[(.int .i64 g)] 3)) := ⟨_, rfl⟩
          rw [← hw3] at B3 T3 hz3 ⊢
          have z3 := Nat.le_of_eq hz3
          have z3' := Nat.le_of_eq hz3.symm
          clear hz3
          clear hw3 TA f1 d1 d2 d3
          have hwz : W.heap.size + 2 ≤ wr.heap.size := by have := HH.out.1.size; rw [HB0.out.2.2] at this; exact this
          have HT3 := Lib.hid (HH.out.1.trans T3)
          have HM3 := Lib.hid (HH.out.2.1.turned T3 fun _ _ h => h.elim)
          have HB3 := Lib.hid B3
          have hrv := HR.out.turned (HT0.out.trans HT3.out)
          have hbs : ∀ x ∈ dsn, x < dsn.length := fun x hx => (HDN.out x hx).2
          have hgl : g < dsn.length := by rw [HDL.out]; exact hlt
          have hit := eDown_iter rs dsn pp cc W.heap.size (wr.heap.size + 1 + 1) (wr.heap.size + 1) g w3 HDS.out hrv hgl hbs (cell_of_box B3.2.2) (by rw [HN.out]; exact cell_of_box B3.2.1)
          have hwl := way_len dsn g
          have HWF := Lib.hid (fun h => way_full (d := dsn) (p := g) h)
          have HGL := Lib.hid hgl
          rw [HDL.out] at hwl HWF
          clear hbs hrv B3 T3 hgl
          have MK : ∀ A, Turned (fun i => i = wr.heap.size ∨ i = W.heap.size + 1) w3 A → A.heap[w3.heap.size]? = some (.deferred (some [])) → Marks (W.heap.size + 2) A ({ target := .collected w3.heap.size, args := #[] } :: ds) := fun A ht hD => by
            refine (HM3.out.turned ht fun i o hi ho x hx => ?_).cons (by omega) hD fun d hd D' hD' => ?_
            · rcases hi with hi | hi
              · rw [hi, HB3.out.1] at ho; cases ho; cases hx
              · rw [hi, keepB HT3.out HB0.out.2.1] at ho; cases ho; cases hx
            · obtain ⟨D2, h1, h2, h3⟩ := HM3.out.each d hd
              rw [h1] at hD'
              cases hD'
              exact Nat.ne_of_lt (getElem?_lt h3)
          have HMK := Lib.hid MK
          clear MK
          refine range_lawE (rfl : _ = Value.func (.func 141) #[] #[.pointer (some ⟨wr.heap.size + 1 + 1, 0, none⟩), .pointer (some ⟨wr.heap.size + 1, 0, none⟩)]) (enters_of Tryz.func141 (by kernel_rfl) rfl) hit (fun _ => rfl) (by
              intro j hj
              rcases hj with (h | h | h) | h
              · exact Nat.lt_of_lt_of_le h (by omega)
              · rw [h]; omega
              · rw [h]; omega
              · exact h.elim)
            (fun j N A => j ≤ k ∧ A.heap[wr.heap.size]? = some (.cells #[(.int .i64 j)] 3 (0, 0)) ∧ Turned (fun i => i = wr.heap.size) w3 A ∧ w3.heap.size ≤ N) (fun c A => c = .ret ∧ k < (way dsn g).length ∧ A.cell? ⟨W.heap.size + 1, 0, none⟩ = some (.int .i64 4) ∧ Turned (fun i => i = wr.heap.size ∨ i = W.heap.size + 1) w3 A)
            (fun _ _ _ _ h hN => ⟨h.1, h.2.1, h.2.2.1, Nat.le_trans h.2.2.2 hN⟩) ?stab ?stabx ?hends ⟨Nat.zero_le _, HB3.out.1, Turned.refl _ _, Nat.le_refl _⟩
            (fun (x : Nat) => #[.slice pp k cc, .pointer (some ⟨W.heap.size, 0, none⟩), .pointer (some ⟨W.heap.size + 1, 0, none⟩), u3, u4, (.int .i64 g), .pointer (some ⟨wr.heap.size, 0, none⟩), .slice pp k cc, (.int .i64 k), .bool false, .slice pp k cc, (.int .i64 k), (.int .i64 k), .bool false, u14, u15, u16, u17, u18, u19, u20, u21, u22, u23, u24, u25, u26, u27, u28, u29, u30, u31, u32, u33, u34, u35, u36, u37, u38, u39, u40, u41, u42, u43, u44, u45, u46, u47, u48, u49, u50, u51, u52, u53, u54, .slice pp k cc, (.int .i64 k), (.int .i64 g), .bool true, (.int .i64 g), .slice pp k cc, (.int .i64 g), .func (.func 141) #[] #[.pointer (some ⟨wr.heap.size + 1 + 1, 0, none⟩), .pointer (some ⟨wr.heap.size + 1, 0, none⟩)], (.int .i64 x), v64, v65, v66, v67, v68, v69, v70]) (fun x => by simp [gEncs])
            (fun j N _ x a' A => w3.heap.size ≤ N ∧ a' = { tmps := #[.slice pp k cc, .pointer (some ⟨W.heap.size, 0, none⟩), .pointer (some ⟨W.heap.size + 1, 0, none⟩), u3, u4, (.int .i64 g), .pointer (some ⟨wr.heap.size, 0, none⟩), .slice pp k cc, (.int .i64 k), .bool false, .slice pp k cc, (.int .i64 k), (.int .i64 k), .bool false, u14, u15, u16, u17, u18, u19, u20, u21, u22, u23, u24, u25, u26, u27, u28, u29, u30, u31, u32, u33, u34, u35, u36, u37, u38, u39, u40, u41, u42, u43, u44, u45, u46, u47, u48, u49, u50, u51, u52, u53, u54, .slice pp k cc, (.int .i64 k), (.int .i64 g), .bool true, (.int .i64 g), .slice pp k cc, (.int .i64 g), .func (.func 141) #[] #[.pointer (some ⟨wr.heap.size + 1 + 1, 0, none⟩), .pointer (some ⟨wr.heap.size + 1, 0, none⟩)], (.int .i64 x), v64, v65, v66, v67, v68, v69, v70], defers := [] } ∧ j ≤ k ∧ A.heap[wr.heap.size]? = some (.cells #[(.int .i64 j)] 3 (0, 0)) ∧ Turned (fun i => i = wr.heap.size) w3 A)
            ?stabA ?assign ?body ?done ?stop
          case stab =>
            rintro j N A B ⟨h1, h2, h3, h4⟩ hN ht
            refine ⟨h1, (ht.block _ (getElem?_lt h2) (by rintro (h | h | h); exact h; omega; omega)).trans h2, h3.freshC ht (fun i hi => ?_), h4⟩
            rcases hi with hi | hi | hi
            · exact hi.elim
            · omega
            · omega
          case stabx =>
            rintro c A B ⟨h0, h1, h2, h3⟩ ht
            refine ⟨h0, h1, cellT ht (by rintro (h | h | h); exact h; omega; omega) h2, h3.freshC ht (fun i hi => ?_)⟩
            rcases hi with hi | hi | hi
            · exact hi.elim
            · omega
            · omega
          case hends =>
            rintro he N A ⟨h1, -⟩
            have := HWF.out (by rw [← HDL.out]; exact he)
            omega
          case stabA =>
            rintro j N M x a' A B ⟨h0, rfl, h1, h2, h3⟩ ht
            exact ⟨h0, rfl, h1, (ht.block _ (getElem?_lt h2) (by omega)).trans h2, h3.freshC ht fun i hi => by omega⟩
          case assign =>
            rintro j N x A hx ⟨h1, h2, h3, h4⟩ hN hsz
            have HQ := Lib.hid (And.intro h1 (And.intro h2 (And.intro h3 h4)))
            clear h1 h2 h3 h4
            gi_wp2
            exact ⟨⟨HQ.out.2.2.2, HQ.out.1, HQ.out.2.1, HQ.out.2.2.1⟩, Kept.refl _ _⟩
          case body =>
            rintro j N M x a' A hx ⟨h0, rfl, h1, h2, h3⟩ hNM hMA hsz hrec
            have hjl : j < (way dsn g).length := (List.getElem?_eq_some_iff.1 hx).1
            have hb0 : A.heap[W.heap.size]? = some (.cells #[.slice pp k cc] 22 (0, 0)) := (h3.block _ (by omega) (by omega)).trans (keepB HT3.out HB0.out.1)
            have hb2 : A.heap[W.heap.size + 1]? = some (.cells #[(.int .i64 0)] 33 (0, 0)) := (h3.block _ (by omega) (by omega)).trans (keepB HT3.out HB0.out.2.1)
            have d0 := cell_of_box hb0
            have d2 := cell_of_box hb2
            have d3 := free_of_box hb2 0
            have e0 := cell_of_box h2
            have e1 := free_of_box h2 0
            have hs1 := box_setCell (.int .i64 (j + 1)) h2
            have ht1 : Turned (fun i => i = wr.heap.size) A (A.setCell ⟨wr.heap.size, 0, none⟩ (.int .i64 (j + 1))) := (Turned.refl (fun i => i = wr.heap.size) _).setCell (p := ⟨wr.heap.size, 0, none⟩) rfl _
            have hk40 : (k : Int) ≤ 40 := by omega
            have KEEP : ∀ B, Turned (fun i => i = wr.heap.size ∨ i = W.heap.size + 1) A B → Kept (fun i => ((i < W.heap.size ∨ i = wr.heap.size + 1 + 1 ∨ i = wr.heap.size + 1) ∨ (N ≤ i ∧ i < M)) ∨ i = w3.heap.size ∨ i = w3.heap.size + 1) A B := fun B hB => hB.kept fun i hi => by
              show i < A.heap.size ∧ ¬ (i = wr.heap.size ∨ i = W.heap.size + 1)
              clear hx e0 e1 d0 d2 d3 hs1 ht1 hwl
              omega
            have HKP := Lib.hid KEEP
            have HS1 := Lib.hid (And.intro hs1 (And.intro ht1 h3))
            have HB2 := Lib.hid (And.intro hb2 hjl)
            clear KEEP hs1 ht1 h3 h2 hb0 hb2
            by_cases hjk : j < k
            · have hj1 : ¬ (k : Int) < (j : Int) + 1 := by omega
              gi_wp2_with fail
              refine ⟨HKP.out _ (HS1.out.2.1.mono fun i hi => Or.inl hi), by omega, by simpa using HS1.out.1, ?_, ?_⟩
              · exact HS1.out.2.2.trans HS1.out.2.1
              · have := HS1.out.2.1.size; omega
            · obtain rfl : j = k := by omega
              have hj1 : (j : Int) < (j : Int) + 1 := by omega
              gi_wp2_with fail
              have ht2 : Turned (fun i => i = W.heap.size + 1) (A.setCell ⟨wr.heap.size, 0, none⟩ (.int .i64 (j + 1))) ((A.setCell ⟨wr.heap.size, 0, none⟩ (.int .i64 (j + 1))).setCell ⟨W.heap.size + 1, 0, none⟩ (.int .i64 4)) := (Turned.refl (fun i => i = W.heap.size + 1) _).setCell (p := ⟨W.heap.size + 1, 0, none⟩) rfl _
              have hc4 := cell_of_box (box_setCell (.int .i64 4) ((HS1.out.2.1.block (W.heap.size + 1) (by have := getElem?_lt HB2.out.1; exact this) (by omega)).trans HB2.out.1))
              have htt := (HS1.out.2.1.mono (C' := fun i => i = wr.heap.size ∨ i = W.heap.size + 1) fun i hi => Or.inl hi).trans (ht2.mono fun i hi => Or.inr hi)
              exact ⟨HKP.out _ htt, rfl, hc4, (HS1.out.2.2.mono fun i hi => Or.inl hi).trans htt⟩
          case done =>
            rintro A ⟨h1, h2, h3, h4⟩ hD hsz
            have hst : stepN dsn k (g : Int) < 0 := by
              by_cases h : stepN dsn k (g : Int) < 0
              · exact h
              · have := (way_next (p := g) (Nat.le_of_eq HDL.out.symm) h).2
                omega
            have HMD : Hid (Turned (fun _ => False) w0 A ∧ Marks (W.heap.size + 2) A ({ target := .collected w3.heap.size, args := #[] } :: ds) ∧ ∀ i : Nat, i < g + 1 → stepN dsn k i < 0) := Lib.hid ⟨HT3.out.fresh h3 fun i hi => by rw [hi]; exact HH.out.1.size, HMK.out A (h3.mono fun i hi => Or.inl hi) hD, fun i hi => by
              rcases Nat.lt_or_ge i g with h | h
              · exact HH.out.2.2 i h
              · obtain rfl : i = g := by omega
                exact hst⟩
            clear h1 h2 h3 h4 hst hD
            gi_wp2_with fail
            refine ⟨⟨g + 1, ⟨by omega, HMD⟩, by simp⟩, ?_⟩
            simp [intOf]
            omega
          case stop =>
            rintro c A ⟨rfl, h1, h2, h3⟩ hD hsz
            have HV : Hid (rivE rs = 4) := Lib.hid (by
              rw [HE.out, if_neg]
              unfold endsB
              rw [List.all_eq_true]
              intro h
              have := of_decide_eq_true (h g (List.mem_range.2 (by rw [HDL.out]; exact hlt)))
              have := way_short this
              rw [HDL.out] at this
              omega)
            gi_wp2_with fail
            refine HLV.out _ 4 _ _ ?_ HV.out (HMK.out A h3 hD) h2 ((HT0.out.trans HT3.out).fresh h3 fun i hi => by omega)
            rfl
        · obtain rfl : g = k := by omega
          have HV : Hid (rivE rs = 0) := Lib.hid (by
            rw [HE.out, if_pos]
            unfold endsB
            rw [List.all_eq_true]
            intro i hi
            rw [HDL.out] at hi ⊢
            exact decide_eq_true (HH.out.2.2 i (List.mem_range.1 hi)))
          gi_wp2_with fail
          refine HLV.out _ 0 ds _ ?_ HV.out (HH.out.2.1.turned (HSET.out wr 0 HH.out.1).2.1 ?_) (HSET.out wr 0 HH.out.1).1 (HSET.out wr 0 HH.out.1).2.2
          · rfl
          · intro i o hi ho x hx
            subst hi
            rw [keepB HH.out.1 HB0.out.2.1] at ho
            cases ho
            cases hx
end Go.Proofs.YtanhhdndgkhcfaaGreatDoor
namespace Go.Proofs.YtanhhdndgkhcfaaGreatDoor
open Go Go.Proofs Go.RowKit
def OnlyN (Q : Exit → Act → World → Prop) : Exit → Act → World → Prop
  | .normal, a, w => Q .normal a w
  | _, _, _ => False
theorem onlyN_lets {Q : Exit → Act → World → Prop} (h : LetsOut (OnlyN Q)) : False := by
  obtain ⟨a, w, h⟩ := h
  exact h
section
variable {P : Program} {Q : Exit → Act → World → Prop} {l : Nat}
theorem oper_round {o : Oper} (hdef : ∀ c, o.op ≠ .defer c) {K : Act → World → Prop} {a : Act} {w : World} (h : o.wp P a w K (OnlyN Q)) : o.wpIn (Fence.wide.inRound l) 0 P a w K Q := by
  unfold Oper.wp at h
  unfold Oper.wpIn
  refine ⟨fun _ _ => trivial, ?_⟩
  rw [Oper.semAt_eq _ _ _ hdef]
  generalize (execOp a.eval o).run P w = r at h ⊢
  cases r with
  | ok x w' =>
    cases x
    case value v => exact h
    case skip => exact h
    case defer d => exact h
    case enter f args =>
      refine ⟨fun h => (by cases h), CallsIn.inRound l (callsIn_wide.2 (Calls.mono h fun e w'' he => ?_))⟩
      cases e with
      | returned v => exact he
      | panicked c => exact he.elim
      | outgrown => exact (onlyN_lets he).elim
    case row row args =>
      refine ⟨fun h => (by cases h), fun c cs _ => ?_⟩
      obtain ⟨v, w', h1, h2⟩ := h c cs
      exact ⟨v, w', h1, stepsIn_wide.2 h2⟩
    all_goals exact h.elim
  | halt x w' =>
    cases x
    case panic v => exact h.elim
    all_goals exact h.elim
theorem wpOp_round {ops : Array Oper} (hdef : ∀ (j : Nat) (o : Oper), ops[j]? = some o → ∀ c, o.op ≠ .defer c) {i : Nat} {K K' : Act → World → Prop} (hK : ∀ a w, K a w → K' a w) {a : Act} {w : World} (h : wpOp P ops (OnlyN Q) i K a w) :
    wpOpIn (Fence.wide.inRound l) 0 P ops Q i K' a w := by
  unfold wpOp at h
  unfold wpOpIn
  cases ho : ops[i]? with
  | none => rw [ho] at h; exact hK _ _ h
  | some o =>
    rw [ho] at h
    simp only at h ⊢
    split
    · rename_i hw
      rw [if_pos hw] at h
      rcases h with h | ⟨-, h⟩
      · exact Oper.wpIn_mono hK (oper_round (hdef i o ho) h)
      · exact (onlyN_lets h).elim
    · rename_i hw
      rw [if_neg hw] at h
      exact ⟨fun _ _ => trivial, hK _ _ h⟩
theorem wpAny_round {md : Region.Mode} {ops : Array Oper} (hdef : ∀ (j : Nat) (o : Oper), ops[j]? = some o → ∀ c, o.op ≠ .defer c) : ∀ (fuel : Nat) (listed : Array Bool) (a : Act) (w : World), wpAny P md ops (OnlyN Q) fuel listed a w →
    wpAnyIn (Fence.wide.inRound l) 0 P md ops Q fuel listed a w
  | 0, _, _, _, h => h
  | fuel + 1, _, _, _, h => ⟨h.1, fun i hi => wpOp_round hdef (wpAny_round hdef fuel _) (h.2 i hi)⟩
def noDefer (ops : Array Oper) : Bool := ops.all fun o => match o.op with | .defer _ => false | _ => true
theorem wpIn_region_round {S : World → Prop} {id : Nat} {ops : Array Oper} {a : Act} {w : World} (hm : P.follows .mixedOrders = true) (hd : noDefer ops = true)
    (h : wpAnyH P .any ops (OnlyN Q) S ops.size (Array.replicate ops.size false) a w.drew) : (Code.region id ops true).wpIn (Fence.wide.inRound l) 0 P Q a w := by
  refine wpIn_region_any hm (wpAny_round (fun j o ho c hc => ?_) _ _ _ _ (wpAny_of_held _ _ _ _ h))
  have := (Array.all_eq_true'.1 hd) o (Array.mem_of_getElem? ho)
  rw [hc] at this
  cases this
end
end Go.Proofs.YtanhhdndgkhcfaaGreatDoor
