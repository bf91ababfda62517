/- Part 23 of the proof of lawDue.card: OrdExE, OrdExW, OrdCopy. Conditions: those of each theorem. -/
import Derived.Lib.SlBuf
import Derived.Test.YtanhhdndgkhcfaaGreatDoorDt01
import Derived.Test.YtanhhdndgkhcfaaGreatDoorDt20
import Derived.Test.YtanhhdndgkhcfaaGreatDoorDt22
namespace Go.Proofs.YtanhhdndgkhcfaaGreatDoor
open Go Go.Proofs Go.RowKit
theorem at_block {α : Type} {W : World} {g s e : Nat} {enc : α → List Value} {l : List α} (henc : ∀ x, (enc x).length = s) (h : W.heap[g]? = some (.cells (l.flatMap enc).toArray e (0, 0))) {N : Nat} (hN : W.heap.size ≤ N) (hm : l.length ≤ maxLen) : At N W s enc l (some ⟨g, 0, none⟩) l.length :=
  ⟨Nat.le_refl _, hm, fun i u hi => ⟨g, 0, rfl, by have := getElem?_lt h; omega, fun j v hj => by
    have hjs : j < s := by have := (List.getElem?_eq_some_iff.1 hj).1; rwa [henc] at this
    obtain ⟨hlt, hu⟩ := List.getElem?_eq_some_iff.1 hi
    have := flatMap_at enc s henc l i j hlt hjs
    rw [hu, hj] at this
    rw [Nat.zero_add]
    simp only [World.cell?, h]
    simpa using this⟩⟩
theorem exN_size {n : Nat} (hn : n ≤ 1000) : SzR (exN n) 20 := by
  refine SzR.rep (BytesQ.mono (k := 2) ⟨?_, ?_⟩ (by decide))
  · rw [Rat.num_natCast, Int.natAbs_natCast]; exact Nat.lt_of_le_of_lt hn (by decide)
  · rw [Rat.den_natCast]; decide
theorem ex_end (w8 : World) (mo bA w1 G b C D : Nat) (qC qE : Option Addr) (an bn cn : Bool) (ax ad bx bd cx cd : ByteArray) (hmo : mo ≤ 1000)
    (ha : exN 5 = ⟨an, ax, ad⟩) (hb : exN 4 = ⟨bn, bx, bd⟩) (hc : exN 3 = ⟨cn, cx, cd⟩)
    (hw : w8.heap[w1]? = some (.cells #[(.int .i64 1)] 3 (0, 0)))
    (hA : w8.heap[bA]? = some (.cells #[(.int .i64 2), .slice (some ⟨w1, 0, none⟩) 1 1, (.int .i64 2), .slice (some ⟨w1, 0, none⟩) 1 1, (.int .i64 (-1)), .slice none 0 0] 123 (0, 0)))
    (hC : Grown w8 b 68 3 ratCells (.slice qC 3 C) (exU 6)) (hE : Grown w8 b 68 3 ratCells (.slice qE 3 D) (exU mo))
    (hG : w8.heap[G]? = some (.cells #[(.int .i64 2), (.int .i64 1), .bool an, .string ax, .string ad, (.int .i64 0), (.int .i64 2), .bool bn, .string bx, .string bd, (.int .i64 1), (.int .i64 2), .bool bn, .string bx, .string bd, (.int .i64 0), (.int .i64 3), .bool cn, .string cx, .string cd] 75 (0, 0))) :
    OIn w8 (exR (some ⟨w1, 0, none⟩) (some ⟨w1, 0, none⟩) none 1 1 0) (exU 6) (exU mo) exC (some ⟨bA, 0, none⟩) qC qE (some ⟨G, 0, none⟩) 3 C D 4 := by
  have hU : ∀ n, n ≤ 1000 → ∀ u ∈ exU n, SzR u 20 := by
    intro n hn u hu
    simp only [exU, List.mem_cons, List.not_mem_nil, or_false] at hu
    rcases hu with rfl | rfl | rfl
    · exact exN_size hn
    · exact exN_size (by decide)
    · exact exN_size (by decide)
  have hW : At w8.heap.size w8 1 intCells [1] (some ⟨w1, 0, none⟩) 1 := at_block (l := [(1 : Int)]) (enc := intCells) (fun _ => rfl) hw (Nat.le_refl _) (by decide)
  refine ⟨⟨⟨?_, ?_⟩, ?_, ?_⟩, ?_, hU 6 (by decide), hU mo hmo, ?_⟩
  · exact at_block (l := exR (some ⟨w1, 0, none⟩) (some ⟨w1, 0, none⟩) none 1 1 0) (enc := reachCells) (fun _ => rfl) hA (Nat.le_refl _) (by simp [exR, maxLen])
  · intro x hx
    simp only [exR, List.mem_cons, List.not_mem_nil, or_false] at hx
    rcases hx with rfl | rfl | rfl
    · exact hW
    · exact hW
    · exact At.nil _ _ _ _
  · exact Grown.at_ (l := exU 6) hC (fun _ => rfl) (Nat.le_refl _)
  · exact Grown.at_ (l := exU mo) hE (fun _ => rfl) (Nat.le_refl _)
  · refine at_block (l := exC) (enc := claimCells) (fun _ => rfl) (e := 75) ?_ (Nat.le_refl _) (by simp [exC, maxLen])
    rw [hG]
    simp only [exC, List.flatMap_cons, List.flatMap_nil, claimCells, ha, hb, hc, List.cons_append, List.nil_append, List.append_nil]
  · intro c hcc
    simp only [exC, List.mem_cons, List.not_mem_nil, or_false] at hcc
    rcases hcc with rfl | rfl | rfl | rfl <;> exact exN_size (by decide)
end Go.Proofs.YtanhhdndgkhcfaaGreatDoor
namespace Go.Proofs.YtanhhdndgkhcfaaGreatDoor
open Go Go.Proofs Go.RowKit
attribute [local go_sem] Oper.semAt_some
attribute [local go_sem ↓] run_eql_rat' run_neq_rat'
theorem results_ex (tmps : Array Value) (w : World) (g : Nat) (a b c v : Value) (hp : tmps.getD 2 undef = .pointer (some ⟨g, 0, none⟩)) (hv : tmps.getD 3 undef = v) (hg : w.heap[g]? = some (.cells #[a, b, c] 25 (0, 0))) :
    (results Tryz.f37 tmps).run Tryz.prog w = .ok (.tuple #[.agg #[a, b, c], v]) w := by
  have hp' : tmps[2]?.getD undef = .pointer (some ⟨g, 0, none⟩) := by simpa using hp
  have hv' : tmps[3]?.getD undef = v := by simpa using hv
  have hl : (loadVar 25 ⟨g, 0, none⟩).run Tryz.prog w = .ok (.agg #[a, b, c]) w := by
    have := Tryz.underlying25
    obtain ⟨h0, h1, h2, -, -, -⟩ := box3 hg
    go_simp
  simp [results, hp', hv', asAddr, hl]
set_option maxRecDepth 20000 in
set_option maxHeartbeats 4000000 in
theorem lawExample_any (mo : Nat) (W : World) (hmo : mo ≤ 1000) : Calls Tryz.prog 37 #[(.int .i64 mo)] W fun e w' => ∃ (rp lp hp cp : Option Addr) (rc lc hc cc : Nat) (w1 : Nat),
    e = .returned (.tuple #[.agg #[.slice rp 3 rc, .slice lp 3 lc, .slice hp 3 hc], .slice cp 4 cc]) ∧
    OIn w' (exR (some ⟨w1, 0, none⟩) (some ⟨w1, 0, none⟩) none 1 1 0) (exU 6) (exU mo) exC rp lp hp cp rc lc hc cc ∧ Turned (fun _ => False) W w' := by
  have T3 := (((Turned.refl (fun _ => False) W).alloc (.cells #[.slice none 0 0, .slice none 0 0, .slice none 0 0] 25)).alloc (.cells #[(.int .i64 1)] 3)).alloc (.cells #[.slice (some ⟨W.heap.size + 1, 0, none⟩) 1 1] 121)
  have n2 := World.alloc_heap_new ((W.alloc (.cells #[.slice none 0 0, .slice none 0 0, .slice none 0 0] 25)).alloc (.cells #[(.int .i64 1)] 3)) (.cells #[.slice (some ⟨W.heap.size + 1, 0, none⟩) 1 1] 121)
  have n1 := keepB ((Turned.refl (fun _ => False) _).alloc (.cells #[.slice (some ⟨W.heap.size + 1, 0, none⟩) 1 1] 121)) (new_second W (.cells #[.slice none 0 0, .slice none 0 0, .slice none 0 0] 25) (.cells #[(.int .i64 1)] 3))
  have n0 := keepB ((Turned.refl (fun _ => False) _).alloc (.cells #[.slice (some ⟨W.heap.size + 1, 0, none⟩) 1 1] 121)) (new_first W (.cells #[.slice none 0 0, .slice none 0 0, .slice none 0 0] 25) (.cells #[(.int .i64 1)] 3))
  have n3 : ((W.alloc (.cells #[.slice none 0 0, .slice none 0 0, .slice none 0 0] 25)).alloc (.cells #[(.int .i64 1)] 3)).heap.size = W.heap.size + 1 + 1 := by simp
  rw [n3] at n2
  go_enter Tryz.func37, Tryz.ntmps37
  go_wp2_with fail
  obtain ⟨w0, hw0⟩ : ∃ w, w = ((W.alloc (.cells #[.slice none 0 0, .slice none 0 0, .slice none 0 0] 25)).alloc (.cells #[(.int .i64 1)] 3)).alloc (.cells #[.slice (some ⟨W.heap.size + 1, 0, none⟩) 1 1] 121) := ⟨_, rfl⟩
  rw [← hw0] at T3 n0 n1 n2 ⊢
  have HB := Lib.hid (And.intro n0 (And.intro n1 (And.intro n2 T3)))
  clear hw0 n0 n1 n2 n3 T3
  refine wp_region_plain (S := fun V => V.cell? ⟨W.heap.size + 1 + 1, 0, none⟩ = some (.slice (some ⟨W.heap.size + 1, 0, none⟩) 1 1)) (by kernel_rfl) ?_
  have hS0 : w0.drew.cell? ⟨W.heap.size + 1 + 1, 0, none⟩ = some (.slice (some ⟨W.heap.size + 1, 0, none⟩) 1 1) := cellT (Turned.refl (fun _ => False) w0).drew id (cell_of_box HB.out.2.2.1)
  refine wpAnyH_take (i := 0) (oi := _) (v := .agg #[.slice (some ⟨W.heap.size + 1, 0, none⟩) 1 1]) rfl (by kernel_rfl) (by kernel_rfl) (by kernel_rfl) (fun _ _ _ h => h) (Or.inl ⟨by kernel_rfl, fun V hV => ?_⟩) hS0 ?_
  · have h1 := hV
    go_simp
  refine wpAnyH_take (i := 1) (oi := _) (v := .agg #[(.int .i64 2), .slice (some ⟨W.heap.size + 1, 0, none⟩) 1 1]) rfl (by kernel_rfl) (by kernel_rfl) (by kernel_rfl) (fun _ _ _ h => h) (Or.inl ⟨by kernel_rfl, fun V hV => ?_⟩) hS0 ?_
  · have h1 := hV
    go_simp
  refine wpAnyH_take (i := 2) (oi := _) (v := .agg #[.slice (some ⟨W.heap.size + 1, 0, none⟩) 1 1]) rfl (by kernel_rfl) (by kernel_rfl) (by kernel_rfl) (fun _ _ _ h => h) (Or.inl ⟨by kernel_rfl, fun V hV => ?_⟩) hS0 ?_
  · have h1 := hV
    go_simp
  refine wpAnyH_take (i := 3) (oi := _) (v := .agg #[(.int .i64 2), .slice (some ⟨W.heap.size + 1, 0, none⟩) 1 1]) rfl (by kernel_rfl) (by kernel_rfl) (by kernel_rfl) (fun _ _ _ h => h) (Or.inl ⟨by kernel_rfl, fun V hV => ?_⟩) hS0 ?_
  · have h1 := hV
    go_simp
  refine wpAnyH_take (i := 4) (oi := _) (v := .agg #[(.int .i64 (-1)), .slice none 0 0]) rfl (by kernel_rfl) (by kernel_rfl) (by kernel_rfl) (fun _ _ _ h => h) (Or.inl ⟨by kernel_rfl, fun V hV => ?_⟩) hS0 ?_
  · have h1 := hV
    go_simp
  refine wpAnyH_take (i := 8) (oi := _) (v := (.int .i64 mo)) rfl (by kernel_rfl) (by kernel_rfl) (by kernel_rfl) (fun _ _ _ h => h) (Or.inl ⟨by kernel_rfl, fun V hV => ?_⟩) hS0 ?_
  · have h1 := hV
    go_simp
  simp only [List.getElem_toArray, List.getElem_cons_zero, List.getElem_cons_succ, Act.put, List.setIfInBounds_toArray, List.set_cons_zero, List.set_cons_succ]
  refine ex_region mo W.heap.size (W.heap.size + 1 + 1) (W.heap.size + 1) w0.drew hmo _ (getElem?_lt (keepB (Turned.refl (fun _ => False) w0).drew HB.out.2.2.1)) ?_ w0.drew hS0 (Lib.hid (Turned.refl _ _))
  intro bA bB qC dC bD qE dE bF w2 HH
  have HT2 : Hid (Turned (fun _ => False) w0 w2) := Lib.hid ((Turned.refl (fun _ => False) w0).drew.trans HH.out.1)
  obtain ⟨⟨an, ax, ad⟩, ha⟩ : ∃ v, exN 5 = v := ⟨_, rfl⟩
  obtain ⟨⟨bn, bx, bd⟩, hb⟩ : ∃ v, exN 4 = v := ⟨_, rfl⟩
  obtain ⟨⟨cn, cx, cd⟩, hc⟩ : ∃ v, exN 3 = v := ⟨_, rfl⟩
  have H5 := Lib.hid (fun W => qInt_any 5 W (by decide))
  have H4 := Lib.hid (fun W => qInt_any 4 W (by decide))
  have H3 := Lib.hid (fun W => qInt_any 3 W (by decide))
  rw [show repR ((5 : Nat) : Rat) = ⟨an, ax, ad⟩ from ha] at H5
  rw [show repR ((4 : Nat) : Rat) = ⟨bn, bx, bd⟩ from hb] at H4
  rw [show repR ((3 : Nat) : Rat) = ⟨cn, cx, cd⟩ from hc] at H3
  have HV := Lib.hid (And.intro ha (And.intro hb hc))
  obtain ⟨f0, f1, f2, -, -, -⟩ := box3 HH.out.2.2.2.2
  clear hS0 ha hb hc
  go_wp2_with fail
  have hS0 : w2.drew.cell? ⟨bF, 0, none⟩ = some (.slice (some ⟨bA, 0, none⟩) 3 3) ∧ w2.drew.cell? ⟨bF, 1, none⟩ = some (.slice qC 3 dC) ∧ w2.drew.cell? ⟨bF, 2, none⟩ = some (.slice qE 3 dE) := ⟨cellT (Turned.refl (fun _ => False) w2).drew id f0, cellT (Turned.refl (fun _ => False) w2).drew id f1, cellT (Turned.refl (fun _ => False) w2).drew id f2⟩
  have HD := Lib.hid ((Turned.refl (fun _ => False) w2).drew)
  clear f0 f1 f2
  refine wp_region_plain (S := fun V => V.cell? ⟨bF, 0, none⟩ = some (.slice (some ⟨bA, 0, none⟩) 3 3) ∧ V.cell? ⟨bF, 1, none⟩ = some (.slice qC 3 dC) ∧ V.cell? ⟨bF, 2, none⟩ = some (.slice qE 3 dE)) (by kernel_rfl) ?_
  refine wpAnyH_take (i := 0) (oi := _) (v := .agg #[.slice (some ⟨bA, 0, none⟩) 3 3, .slice qC 3 dC, .slice qE 3 dE]) rfl (by kernel_rfl) (by kernel_rfl) (by kernel_rfl) (fun _ _ _ h => h) (Or.inl ⟨by kernel_rfl, fun V hV => ?_⟩) hS0 ?_
  · obtain ⟨a0, a1, a2⟩ := hV
    go_simp
  simp only [List.getElem_toArray, List.getElem_cons_zero, Act.put, List.setIfInBounds_toArray, List.set_cons_zero, List.set_cons_succ]
  refine wpAnyH_ready (rs := [1]) (by kernel_rfl) (by simp) ?_
  refine AllReadyH.cons (o := _) rfl (fun K hK => ?_) AllReadyH.nil
  go_simp
  refine (H5.out _).mono ?_
  rintro e w3 ⟨rfl, t3⟩
  have hT1 := Lib.hid (HD.out.trans t3)
  have hS1 : w3.cell? ⟨bF, 0, none⟩ = some (.slice (some ⟨bA, 0, none⟩) 3 3) ∧ w3.cell? ⟨bF, 1, none⟩ = some (.slice qC 3 dC) ∧ w3.cell? ⟨bF, 2, none⟩ = some (.slice qE 3 dE) := ⟨cellT t3 id hS0.1, cellT t3 id hS0.2.1, cellT t3 id hS0.2.2⟩
  refine hK.out _ _ hS1 (fun _ => ?_)
  clear hK t3 hS0
  refine wpAnyH_take (i := 2) (oi := _) (v := .agg #[(.int .i64 2), (.int .i64 1), .bool an, .string ax, .string ad]) rfl (by kernel_rfl) (by kernel_rfl) (by kernel_rfl) (fun _ _ _ h => h) (Or.inl ⟨by kernel_rfl, fun V hV => ?_⟩) hS1 ?_
  · obtain ⟨a0, a1, a2⟩ := hV
    go_simp
  simp only [List.getElem_toArray, List.getElem_cons_zero, List.getElem_cons_succ, Act.put, List.setIfInBounds_toArray, List.set_cons_zero, List.set_cons_succ]
  refine wpAnyH_ready (rs := [3]) (by kernel_rfl) (by simp) ?_
  refine AllReadyH.cons (o := _) rfl (fun K hK => ?_) AllReadyH.nil
  go_simp
  refine (H4.out _).mono ?_
  rintro e w4 ⟨rfl, t3⟩
  have hT2 := Lib.hid (hT1.out.trans t3)
  have hS2 : w4.cell? ⟨bF, 0, none⟩ = some (.slice (some ⟨bA, 0, none⟩) 3 3) ∧ w4.cell? ⟨bF, 1, none⟩ = some (.slice qC 3 dC) ∧ w4.cell? ⟨bF, 2, none⟩ = some (.slice qE 3 dE) := ⟨cellT t3 id hS1.1, cellT t3 id hS1.2.1, cellT t3 id hS1.2.2⟩
  refine hK.out _ _ hS2 (fun _ => ?_)
  clear hK t3 hS1
  refine wpAnyH_take (i := 4) (oi := _) (v := .agg #[(.int .i64 0), (.int .i64 2), .bool bn, .string bx, .string bd]) rfl (by kernel_rfl) (by kernel_rfl) (by kernel_rfl) (fun _ _ _ h => h) (Or.inl ⟨by kernel_rfl, fun V hV => ?_⟩) hS2 ?_
  · obtain ⟨a0, a1, a2⟩ := hV
    go_simp
  simp only [List.getElem_toArray, List.getElem_cons_zero, List.getElem_cons_succ, Act.put, List.setIfInBounds_toArray, List.set_cons_zero, List.set_cons_succ]
  refine wpAnyH_ready (rs := [5]) (by kernel_rfl) (by simp) ?_
  refine AllReadyH.cons (o := _) rfl (fun K hK => ?_) AllReadyH.nil
  go_simp
  refine (H4.out _).mono ?_
  rintro e w5 ⟨rfl, t3⟩
  have hT3 := Lib.hid (hT2.out.trans t3)
  have hS3 : w5.cell? ⟨bF, 0, none⟩ = some (.slice (some ⟨bA, 0, none⟩) 3 3) ∧ w5.cell? ⟨bF, 1, none⟩ = some (.slice qC 3 dC) ∧ w5.cell? ⟨bF, 2, none⟩ = some (.slice qE 3 dE) := ⟨cellT t3 id hS2.1, cellT t3 id hS2.2.1, cellT t3 id hS2.2.2⟩
  refine hK.out _ _ hS3 (fun _ => ?_)
  clear hK t3 hS2
  refine wpAnyH_take (i := 6) (oi := _) (v := .agg #[(.int .i64 1), (.int .i64 2), .bool bn, .string bx, .string bd]) rfl (by kernel_rfl) (by kernel_rfl) (by kernel_rfl) (fun _ _ _ h => h) (Or.inl ⟨by kernel_rfl, fun V hV => ?_⟩) hS3 ?_
  · obtain ⟨a0, a1, a2⟩ := hV
    go_simp
  simp only [List.getElem_toArray, List.getElem_cons_zero, List.getElem_cons_succ, Act.put, List.setIfInBounds_toArray, List.set_cons_zero, List.set_cons_succ]
  refine wpAnyH_ready (rs := [7]) (by kernel_rfl) (by simp) ?_
  refine AllReadyH.cons (o := _) rfl (fun K hK => ?_) AllReadyH.nil
  go_simp
  refine (H3.out _).mono ?_
  rintro e w6 ⟨rfl, t3⟩
  have hT4 := Lib.hid (hT3.out.trans t3)
  have hS4 : w6.cell? ⟨bF, 0, none⟩ = some (.slice (some ⟨bA, 0, none⟩) 3 3) ∧ w6.cell? ⟨bF, 1, none⟩ = some (.slice qC 3 dC) ∧ w6.cell? ⟨bF, 2, none⟩ = some (.slice qE 3 dE) := ⟨cellT t3 id hS3.1, cellT t3 id hS3.2.1, cellT t3 id hS3.2.2⟩
  refine hK.out _ _ hS4 (fun _ => ?_)
  clear hK t3 hS3
  refine wpAnyH_take (i := 8) (oi := _) (v := .agg #[(.int .i64 0), (.int .i64 3), .bool cn, .string cx, .string cd]) rfl (by kernel_rfl) (by kernel_rfl) (by kernel_rfl) (fun _ _ _ h => h) (Or.inl ⟨by kernel_rfl, fun V hV => ?_⟩) hS4 ?_
  · obtain ⟨a0, a1, a2⟩ := hV
    go_simp
  simp only [List.getElem_toArray, List.getElem_cons_zero, List.getElem_cons_succ, Act.put, List.setIfInBounds_toArray, List.set_cons_zero, List.set_cons_succ]
  have hne : ¬ bF = W.heap.size := by
    intro he
    have h1 := HH.out.2.2.2.2
    rw [he, keepB HT2.out HB.out.1] at h1
    simp at h1
  have hTW2 : Turned (fun _ => False) W w2 := HB.out.2.2.2.trans HT2.out
  have FIN : ∀ (G : Nat) (w8 : World), Turned (fun k => k = W.heap.size) w6 w8 → w8.heap[W.heap.size]? = some (.cells #[.slice (some ⟨bA, 0, none⟩) 3 3, .slice qC 3 dC, .slice qE 3 dE] 25 (0, 0)) →
      w8.heap[G]? = some (.cells #[(.int .i64 2), (.int .i64 1), .bool an, .string ax, .string ad, (.int .i64 0), (.int .i64 2), .bool bn, .string bx, .string bd, (.int .i64 1), (.int .i64 2), .bool bn, .string bx, .string bd, (.int .i64 0), (.int .i64 3), .bool cn, .string cx, .string cd] 75 (0, 0)) →
      ∃ (rp lp hp cp : Option Addr) (rc lc hc cc : Nat) (w1 : Nat),
        Ending.returned (.tuple #[.agg #[.slice (some ⟨bA, 0, none⟩) 3 3, .slice qC 3 dC, .slice qE 3 dE], .slice (some ⟨G, 0, none⟩) 4 4]) = .returned (.tuple #[.agg #[.slice rp 3 rc, .slice lp 3 lc, .slice hp 3 hc], .slice cp 4 cc]) ∧
        OIn w8 (exR (some ⟨w1, 0, none⟩) (some ⟨w1, 0, none⟩) none 1 1 0) (exU 6) (exU mo) exC rp lp hp cp rc lc hc cc ∧ Turned (fun _ => False) W w8 := by
    intro G w8 ht hf hg
    have t28 : Turned (fun k => k = W.heap.size) w2 w8 := (hT4.out.mono (fun _ h => h.elim)).trans ht
    have hlt : W.heap.size < w0.drew.heap.size := getElem?_lt (keepB (Turned.refl (fun _ => False) w0).drew HB.out.1)
    have hA := HH.out.2.1
    have hneA : ¬ bA = W.heap.size := by have := hA.1; omega
    have hA8 := (t28.block bA (getElem?_lt hA.2) hneA).trans hA.2
    have hw1 : w2.heap[W.heap.size + 1]? = some (.cells #[(.int .i64 1)] 3 (0, 0)) := keepB HT2.out HB.out.2.1
    have hw8 := (t28.block (W.heap.size + 1) (getElem?_lt hw1) (by omega)).trans hw1
    have hC8 := HH.out.2.2.1.turned t28 (fun k hk => by omega)
    have hE8 := HH.out.2.2.2.1.turned t28 (fun k hk => by omega)
    refine ⟨_, _, _, _, _, _, _, _, _, rfl, ex_end w8 mo bA (W.heap.size + 1) G _ dC dE qC qE an bn cn ax ad bx bd cx cd hmo HV.out.1 HV.out.2.1 HV.out.2.2 hw8 hA8 hC8 hE8 hg, ?_⟩
    exact Turned.freshC hTW2 t28 (fun g hg => by omega)
  have HFIN := Lib.hid FIN
  have hr6 := keepB (HT2.out.trans hT4.out) HB.out.1
  clear FIN hTW2
  refine wpAnyH_ready (rs := [9, 10]) (by kernel_rfl) (by simp) ?_
  refine AllReadyH.cons (o := _) rfl (fun K hK => ?_) (AllReadyH.cons (o := _) rfl (fun K hK => ?_) AllReadyH.nil)
  · go_simp
    have TA := (Turned.refl (fun _ => False) w6).alloc (.cells #[(.int .i64 2), (.int .i64 1), .bool an, .string ax, .string ad, (.int .i64 0), (.int .i64 2), .bool bn, .string bx, .string bd, (.int .i64 1), (.int .i64 2), .bool bn, .string bx, .string bd, (.int .i64 0), (.int .i64 3), .bool cn, .string cx, .string cd] 75)
    have z1 := World.alloc_heap_new w6 (.cells #[(.int .i64 2), (.int .i64 1), .bool an, .string ax, .string ad, (.int .i64 0), (.int .i64 2), .bool bn, .string bx, .string bd, (.int .i64 1), (.int .i64 2), .bool bn, .string bx, .string bd, (.int .i64 0), (.int .i64 3), .bool cn, .string cx, .string cd] 75)
    obtain ⟨G, hG⟩ : ∃ G, w6.heap.size = G := ⟨_, rfl⟩
    obtain ⟨w7, hw⟩ : ∃ w, w = w6.alloc (.cells #[(.int .i64 2), (.int .i64 1), .bool an, .string ax, .string ad, (.int .i64 0), (.int .i64 2), .bool bn, .string bx, .string bd, (.int .i64 1), (.int .i64 2), .bool bn, .string bx, .string bd, (.int .i64 0), (.int .i64 3), .bool cn, .string cx, .string cd] 75) := ⟨_, rfl⟩
    rw [← hw] at TA z1 ⊢
    rw [hG] at z1 ⊢
    have hS7 : w7.cell? ⟨bF, 0, none⟩ = some (.slice (some ⟨bA, 0, none⟩) 3 3) ∧ w7.cell? ⟨bF, 1, none⟩ = some (.slice qC 3 dC) ∧ w7.cell? ⟨bF, 2, none⟩ = some (.slice qE 3 dE) := ⟨cellT TA id hS4.1, cellT TA id hS4.2.1, cellT TA id hS4.2.2⟩
    have hr0 := keepB TA hr6
    have hst := set3 hr0 (.slice (some ⟨bA, 0, none⟩) 3 3) (.slice qC 3 dC) (.slice qE 3 dE)
    have hGn : ¬ G = W.heap.size := by have := getElem?_lt hr6; omega
    have HF := Lib.hid (And.intro hst.1 (And.intro ((hst.2.block G (getElem?_lt z1) hGn).trans z1) ((TA.mono (fun _ h => h.elim)).trans hst.2)))
    have hS9 : (((w7.setCell ⟨W.heap.size, 0, none⟩ (.slice (some ⟨bA, 0, none⟩) 3 3)).setCell ⟨W.heap.size, 1, none⟩ (.slice qC 3 dC)).setCell ⟨W.heap.size, 2, none⟩ (.slice qE 3 dE)).cell? ⟨bF, 0, none⟩ = some (.slice (some ⟨bA, 0, none⟩) 3 3) ∧ (((w7.setCell ⟨W.heap.size, 0, none⟩ (.slice (some ⟨bA, 0, none⟩) 3 3)).setCell ⟨W.heap.size, 1, none⟩ (.slice qC 3 dC)).setCell ⟨W.heap.size, 2, none⟩ (.slice qE 3 dE)).cell? ⟨bF, 1, none⟩ = some (.slice qC 3 dC) ∧ (((w7.setCell ⟨W.heap.size, 0, none⟩ (.slice (some ⟨bA, 0, none⟩) 3 3)).setCell ⟨W.heap.size, 1, none⟩ (.slice qC 3 dC)).setCell ⟨W.heap.size, 2, none⟩ (.slice qE 3 dE)).cell? ⟨bF, 2, none⟩ = some (.slice qE 3 dE) := ⟨cellT hst.2 hne hS7.1, cellT hst.2 hne hS7.2.1, cellT hst.2 hne hS7.2.2⟩
    obtain ⟨d0, d1, d2, d3, d4, d5⟩ := box3 hr0
    clear hw hG TA z1 hst hr0 hGn
    refine hK.out _ _ hS7 (fun _ => ?_)
    clear hK hS4 hS7 hr6
    refine wpAnyH_ready (rs := [10]) (by kernel_rfl) (by simp) ?_
    refine AllReadyH.cons (o := _) rfl (fun K hK => ?_) AllReadyH.nil
    go_simp
    refine hK.out _ _ hS9 (fun _ => ?_)
    clear hK d0 d1 d2 d3 d4 d5
    refine wpAnyH_take (i := 11) (oi := _) (v := .slice (some ⟨G, 0, none⟩) 4 4) rfl (by kernel_rfl) (by kernel_rfl) (by kernel_rfl) (fun _ _ _ h => h) (Or.inl ⟨by kernel_rfl, fun V hV => ?_⟩) hS9 ?_
    · obtain ⟨a0, a1, a2⟩ := hV
      go_simp
    simp only [List.getElem_toArray, List.getElem_cons_zero, List.getElem_cons_succ, Act.put, List.setIfInBounds_toArray, List.set_cons_zero, List.set_cons_succ]
    refine wpAnyH_done (by kernel_rfl) ?_ _
    unfold OnlyN
    clear hS9
    go_wp2_with fail
    exact bodyPost_ret (results_ex _ _ W.heap.size _ _ _ _ rfl rfl HF.out.1) rfl (HFIN.out G _ HF.out.2.2 HF.out.1 HF.out.2.1)
  · obtain ⟨d0, d1, d2, d3, d4, d5⟩ := box3 hr6
    go_simp
    have hst := set3 hr6 (.slice (some ⟨bA, 0, none⟩) 3 3) (.slice qC 3 dC) (.slice qE 3 dE)
    have hS7 : (((w6.setCell ⟨W.heap.size, 0, none⟩ (.slice (some ⟨bA, 0, none⟩) 3 3)).setCell ⟨W.heap.size, 1, none⟩ (.slice qC 3 dC)).setCell ⟨W.heap.size, 2, none⟩ (.slice qE 3 dE)).cell? ⟨bF, 0, none⟩ = some (.slice (some ⟨bA, 0, none⟩) 3 3) ∧ (((w6.setCell ⟨W.heap.size, 0, none⟩ (.slice (some ⟨bA, 0, none⟩) 3 3)).setCell ⟨W.heap.size, 1, none⟩ (.slice qC 3 dC)).setCell ⟨W.heap.size, 2, none⟩ (.slice qE 3 dE)).cell? ⟨bF, 1, none⟩ = some (.slice qC 3 dC) ∧ (((w6.setCell ⟨W.heap.size, 0, none⟩ (.slice (some ⟨bA, 0, none⟩) 3 3)).setCell ⟨W.heap.size, 1, none⟩ (.slice qC 3 dC)).setCell ⟨W.heap.size, 2, none⟩ (.slice qE 3 dE)).cell? ⟨bF, 2, none⟩ = some (.slice qE 3 dE) := ⟨cellT hst.2 hne hS4.1, cellT hst.2 hne hS4.2.1, cellT hst.2 hne hS4.2.2⟩
    refine hK.out _ _ hS7 (fun _ => ?_)
    clear hK hS4 hr6 d0 d1 d2 d3 d4 d5
    obtain ⟨w7, hw7⟩ : ∃ w, w = (((w6.setCell ⟨W.heap.size, 0, none⟩ (.slice (some ⟨bA, 0, none⟩) 3 3)).setCell ⟨W.heap.size, 1, none⟩ (.slice qC 3 dC)).setCell ⟨W.heap.size, 2, none⟩ (.slice qE 3 dE)) := ⟨_, rfl⟩
    rw [← hw7] at hst hS7 ⊢
    clear hw7
    refine wpAnyH_ready (rs := [9]) (by kernel_rfl) (by simp) ?_
    refine AllReadyH.cons (o := _) rfl (fun K hK => ?_) AllReadyH.nil
    go_simp
    have TA := (Turned.refl (fun _ => False) w7).alloc (.cells #[(.int .i64 2), (.int .i64 1), .bool an, .string ax, .string ad, (.int .i64 0), (.int .i64 2), .bool bn, .string bx, .string bd, (.int .i64 1), (.int .i64 2), .bool bn, .string bx, .string bd, (.int .i64 0), (.int .i64 3), .bool cn, .string cx, .string cd] 75)
    have z1 := World.alloc_heap_new w7 (.cells #[(.int .i64 2), (.int .i64 1), .bool an, .string ax, .string ad, (.int .i64 0), (.int .i64 2), .bool bn, .string bx, .string bd, (.int .i64 1), (.int .i64 2), .bool bn, .string bx, .string bd, (.int .i64 0), (.int .i64 3), .bool cn, .string cx, .string cd] 75)
    obtain ⟨G, hG⟩ : ∃ G, w7.heap.size = G := ⟨_, rfl⟩
    obtain ⟨w8, hw⟩ : ∃ w, w = w7.alloc (.cells #[(.int .i64 2), (.int .i64 1), .bool an, .string ax, .string ad, (.int .i64 0), (.int .i64 2), .bool bn, .string bx, .string bd, (.int .i64 1), (.int .i64 2), .bool bn, .string bx, .string bd, (.int .i64 0), (.int .i64 3), .bool cn, .string cx, .string cd] 75) := ⟨_, rfl⟩
    rw [← hw] at TA z1 ⊢
    rw [hG] at z1 ⊢
    have hS9 : w8.cell? ⟨bF, 0, none⟩ = some (.slice (some ⟨bA, 0, none⟩) 3 3) ∧ w8.cell? ⟨bF, 1, none⟩ = some (.slice qC 3 dC) ∧ w8.cell? ⟨bF, 2, none⟩ = some (.slice qE 3 dE) := ⟨cellT TA id hS7.1, cellT TA id hS7.2.1, cellT TA id hS7.2.2⟩
    have HF := Lib.hid (And.intro (keepB TA hst.1) (And.intro z1 (hst.2.trans (TA.mono (fun _ h => h.elim)))))
    clear hw hG TA z1 hst
    refine hK.out _ _ hS9 (fun _ => ?_)
    clear hK hS7
    refine wpAnyH_take (i := 11) (oi := _) (v := .slice (some ⟨G, 0, none⟩) 4 4) rfl (by kernel_rfl) (by kernel_rfl) (by kernel_rfl) (fun _ _ _ h => h) (Or.inl ⟨by kernel_rfl, fun V hV => ?_⟩) hS9 ?_
    · obtain ⟨a0, a1, a2⟩ := hV
      go_simp
    simp only [List.getElem_toArray, List.getElem_cons_zero, List.getElem_cons_succ, Act.put, List.setIfInBounds_toArray, List.set_cons_zero, List.set_cons_succ]
    refine wpAnyH_done (by kernel_rfl) ?_ _
    unfold OnlyN
    clear hS9
    go_wp2_with fail
    exact bodyPost_ret (results_ex _ _ W.heap.size _ _ _ _ rfl rfl HF.out.1) rfl (HFIN.out G _ HF.out.2.2 HF.out.1 HF.out.2.1)
end Go.Proofs.YtanhhdndgkhcfaaGreatDoor
namespace Go.Proofs.YtanhhdndgkhcfaaGreatDoor
open Go Go.Proofs Go.RowKit
theorem at_flat {α : Type} {N s c : Nat} {W : World} {enc : α → List Value} (henc : ∀ x, (enc x).length = s) {l : List α} {b a : Nat} (h : At N W s enc l (some ⟨b, a, none⟩) c) {j : Nat} {v : Value} (hj : (l.flatMap enc)[j]? = some v) (hs : 0 < s) : W.cell? ⟨b, a + j, none⟩ = some v := by
  have hlt : j < l.length * s := by
    have := (List.getElem?_eq_some_iff.1 hj).1
    rwa [flat_len enc s henc] at this
  have h1 : j / s < l.length := by
    rw [Nat.div_lt_iff_lt_mul hs]
    exact hlt
  have h2 : j % s < s := Nat.mod_lt _ hs
  have h3 := flatMap_at enc s henc l (j / s) (j % s) h1 h2
  have h4 : j / s * s + j % s = j := by rw [Nat.mul_comm]; exact Nat.div_add_mod j s
  rw [h4, hj] at h3
  obtain ⟨b', a', he, -, h5⟩ := h.cel (j / s) (l[j / s]) (List.getElem?_eq_getElem h1)
  cases he
  have h6 := h5 (j % s) v h3.symm
  rwa [h4] at h6
theorem run_copy_rats (w : World) {ty g N : Nat} {l us : List Rv} {ps : Option Addr} {sc : Nat} (hg : OwnR w g l) (hl : l.length = us.length) (hs : At N w 3 ratCells us ps sc) :
    ∃ w', (Builtin.copy_ #[23, 23] ty #[.slice (some ⟨g, 0, none⟩) us.length us.length, .slice ps us.length sc]).run Tryz.prog w = .ok (.int .i64 (us.length)) w' ∧ OwnR w' g us ∧ Turned (fun k => k = g) w w' := by
  obtain ⟨i0, hif, hz0, hz1, hz2⟩ := info_parts infoRat
  have hu : Tryz.prog.underlying 23 = some (.slice 68) := Tryz.underlying23
  have hfl : (us.flatMap ratCells).length = us.length * 3 := flat_len ratCells 3 (fun _ => rfl) us
  have hfg : (l.flatMap ratCells).length = us.length * 3 := by rw [flat_len ratCells 3 (fun _ => rfl) l, hl]
  have h1 : ∀ v ∈ us.flatMap ratCells, v.oneCell' = true := fun v hv => by
    obtain ⟨u, -, h⟩ := List.mem_flatMap.1 hv
    simp at h
    rcases h with rfl | rfl | rfl <;> rfl
  have hst := run_storeCells_at Tryz.prog g 0 68 (us.flatMap ratCells) 0 (l.flatMap ratCells).toArray w hg (by simp [hfl, hfg]) h1
  have he : ((l.flatMap ratCells).toArray.toList.take (0 + 0) ++ us.flatMap ratCells ++ (l.flatMap ratCells).toArray.toList.drop (0 + 0 + (us.flatMap ratCells).length)).toArray = (us.flatMap ratCells).toArray := by
    simp [hfl, hfg]
  rw [he] at hst
  have key : ∀ (n : Nat) (cs : List Value) (p : Addr) (w' : World), (loadCells p (n * 3)).run Tryz.prog w = .ok cs.toArray w → (storeCells ⟨g, 0, none⟩ cs).run Tryz.prog w = .ok () w' →
      (Builtin.copy_ #[23, 23] ty #[.slice (some ⟨g, 0, none⟩) n n, .slice (some p) n sc]).run Tryz.prog w = .ok (.int .i64 n) w' := fun n cs p w' h2 h3 => by
    simp [Builtin.copy_, run_underlying hu, Builtin.lenOf, Builtin.firstCells, sizeOf, typeInfo, hif, hz1, h2, h3, goInt]
  refine ⟨w.setRow g (us.flatMap ratCells).toArray, ?_, setRow_heap _ _ _ _ _ _ hg, setRow_turned _ _ _⟩
  cases ps with
  | none =>
    have hus : us = [] := by
      cases us with
      | nil => rfl
      | cons x us =>
        obtain ⟨b, a, h2, -, -⟩ := hs.cel 0 x rfl
        cases h2
    subst hus
    have hls : l = [] := List.eq_nil_of_length_eq_zero (by simpa using hl)
    subst hls
    simp [Builtin.copy_, run_underlying hu, Builtin.lenOf, Builtin.firstCells, sizeOf, typeInfo, hif, storeCells, goInt]
    exact (setRow_self w g #[] 68 (0, 0) hg).symm
  | some p =>
    obtain ⟨b, a, q⟩ := p
    refine key us.length (us.flatMap ratCells) _ _ ?_ hst
    rw [← hfl]
    refine run_loadCells_list (P := Tryz.prog) w ⟨b, a, q⟩ (us.flatMap ratCells) (fun j v hj => ?_)
    cases us with
    | nil => simp at hj
    | cons x us =>
      obtain ⟨b', a', h2, -, -⟩ := hs.cel 0 x rfl
      cases h2
      have := at_flat (enc := ratCells) (s := 3) (fun _ => rfl) hs hj (by decide)
      have h2 : (⟨b, a, none⟩ : Addr).add j = ⟨b, a + j, none⟩ := by
        unfold Addr.add
        split
        · rename_i h3
          rw [h3, Nat.add_zero]
        · rfl
      rw [h2]
      exact this
end Go.Proofs.YtanhhdndgkhcfaaGreatDoor
