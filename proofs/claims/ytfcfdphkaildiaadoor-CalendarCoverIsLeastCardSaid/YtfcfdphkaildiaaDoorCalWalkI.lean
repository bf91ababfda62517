/- Walks of the calendar: Blocks. Conditions: TabOK. -/
import Derived.Test.YtfcfdphkaildiaaDoorCalWalkH
namespace Go.Proofs.YtfcfdphkaildiaaDoor
open Go Go.Proofs Go.RowKit
attribute [local go_sem] Oper.semAt_some

theorem interval_eq (f t : Int) (b : Bool) (w : World) (h : ivB f t = b) : Calls Tryd.prog 42 #[(.int .i64 f), (.int .i64 t)] w fun e w' => e = .returned (.bool b) ∧ w' = w :=
  (interval_any f t w).mono fun _ _ h' => ⟨by rw [h'.1, h], h'.2.symm⟩
theorem ivB_iff {f t : Int} : ivB f t = true ↔ 0 ≤ f ∧ f ≤ t ∧ t ≤ 1402560 := by simp [ivB, and_assoc]

theorem reads_boxed {W : World} {b1 b2 T1 T2 : Nat} {v : Value} {n : Int} (h1 : W.heap[b1]? = some (.cells #[v] T1 (0, 0))) (h2 : W.heap[b2]? = some (.cells #[(.int .i64 n)] T2 (0, 0))) : W.cell? ⟨b1, 0, none⟩ = some v ∧ W.cell? ⟨b2, 0, none⟩ = some (.int .i64 n) := ⟨cell_of_box h1, cell_of_box h2⟩

def RetBlocks (xs : List (Int × Int × Int)) (w : World) : Ending → World → Prop := if xs.length ≤ 4000 then RetBins xs 0 w else RetBins [] 2 w
theorem retBlocks_few {xs : List (Int × Int × Int)} {w w' : World} {e : Ending} (h : xs.length ≤ 4000) (hr : RetBins xs 0 w e w') : RetBlocks xs w e w' := by unfold RetBlocks; rw [if_pos h]; exact hr
theorem retBlocks_many {xs : List (Int × Int × Int)} {w w' : World} {e : Ending} (h : 4000 < xs.length) (hr : RetBins [] 2 w e w') : RetBlocks xs w e w' := by unfold RetBlocks; rw [if_neg (by omega)]; exact hr

set_option maxHeartbeats 1000000 in
theorem blocks_yes (l f t : Int) (w : World) (hT : Hid (TabOK w)) (l0 : 0 ≤ l) (l1 : l ≤ 4) (h : ivB f t = true) :
    Calls Tryd.prog 26 #[(.int .i64 l), (.int .i64 f), (.int .i64 t)] w (RetBlocks (insL l f t) w) := by
  refine callsIn_wide (n := 0).1 ?_
  refine callsIn_of_wp_marks Tryd.func26 rfl trivial ?_ rfl
  simp only [Tryd.ntmps26, List.size_toArray, List.length_cons, List.length_nil, Nat.reduceAdd, Nat.reduceSub, Array.replicate_succ, Array.replicate_zero, List.push_toArray, List.append_toArray, List.nil_append, List.cons_append]
  have HL : Hid (∀ W, Calls Tryd.prog 37 #[(.int .i64 l)] W fun e w' => e = .returned (.bool true) ∧ w' = W) := fun W => level_eq l true W (by simp; omega)
  have HI : Hid (∀ W, Calls Tryd.prog 42 #[(.int .i64 f), (.int .i64 t)] W fun e w' => e = .returned (.bool true) ∧ w' = W) := fun W => interval_eq f t true W h
  obtain ⟨f0, ft, tb⟩ := ivB_iff.1 h
  clear h
  gi_wp2_with fail
  refine ⟨trivial, rfl, (callsIn_wide.2 (HL.out _)).mono ?_⟩
  rintro e w1 ⟨rfl, rfl⟩
  gi_wp2_with fail
  refine ⟨trivial, rfl, (callsIn_wide.2 (HI.out _)).mono ?_⟩
  rintro e w1 ⟨rfl, rfl⟩
  gi_wp2_with fail
  refine ⟨trivial, rfl, (callsIn_wide.2 (inside_any l f t _)).mono ?_⟩
  rintro e w2 ⟨rfl, rfl⟩
  gi_wp2_with fail
  obtain ⟨W3, hW3⟩ : ∃ W3, W3 = (((((w.alloc (.cells #[.slice none 0 0] 46)).alloc (.cells #[(.int .i64 0)] 23)).alloc (.cells #[.slice none 0 0] 46)).alloc (.cells #[(.int .i64 l)] 3)).alloc (.cells #[(.int .i64 f)] 3)).alloc (.cells #[(.int .i64 t)] 3) := ⟨_, rfl⟩
  have sz3 : W3.heap.size = w.heap.size + 6 := by rw [hW3]; simp
  have hB3 : Below w.heap.size w W3 := by rw [hW3]; exact ((((((Turned.refl (fun _ => False) _).alloc _).alloc _).alloc _).alloc _).alloc _).alloc _ |>.below (Nat.le_refl _) (fun _ h => h.elim)
  have box6 : W3.heap[w.heap.size]? = some (.cells #[.slice none 0 0] 46 (0, 0)) := by
    rw [hW3]
    exact ((((((Turned.refl (fun _ => False) _).alloc _).alloc _).alloc _).alloc _).alloc _ |>.block _ (by simp) id).trans (World.alloc_heap_new _ _)
  have box7 : W3.heap[w.heap.size + 1]? = some (.cells #[(.int .i64 0)] 23 (0, 0)) := by
    rw [hW3]
    have := World.alloc_heap_new (w.alloc (.cells #[.slice none 0 0] 46)) (.cells #[(.int .i64 0)] 23)
    rw [World.size_alloc] at this
    exact (((((Turned.refl (fun _ => False) _).alloc _).alloc _).alloc _).alloc _ |>.block _ (by simp) id).trans this
  have box8 : W3.heap[w.heap.size + 2]? = some (.cells #[.slice none 0 0] 46 (0, 0)) := by
    rw [hW3]
    have := World.alloc_heap_new ((w.alloc (.cells #[.slice none 0 0] 46)).alloc (.cells #[(.int .i64 0)] 23)) (.cells #[.slice none 0 0] 46)
    rw [World.size_alloc, World.size_alloc] at this
    exact ((((Turned.refl (fun _ => False) _).alloc _).alloc _).alloc _ |>.block _ (by simp) id).trans this
  have c3 : W3.cell? ⟨w.heap.size + 3, 0, none⟩ = some (.int .i64 l) ∧ W3.cell? ⟨w.heap.size + 4, 0, none⟩ = some (.int .i64 f) ∧ W3.frozen? ⟨w.heap.size + 4, 0, none⟩ = false ∧ W3.cell? ⟨w.heap.size + 5, 0, none⟩ = some (.int .i64 t) := by
    rw [hW3]; exact ⟨by go_simp, by go_simp, by go_simp, by go_simp⟩
  have hT3 : TabOK W3 := hT.out.below hB3
  have hw0 := hT.out.pos
  have hit := inside_iter l f t (w.heap.size + 4) (w.heap.size + 5) (w.heap.size + 3) W3 l0 l1 f0 tb hT3 c3.2.1 c3.2.2.1 c3.2.2.2 c3.1 (by omega)
  have hlen := insL_len (l := l) (f := f) (t := t) l0 l1 f0 tb
  have hO3 : Out W3 (w.heap.size + 2) 46 (W3.heap.size + 2) W3.heap.size 38 3 binCells ((insL l f t).take 0) := Out.start box8 (by omega)
  rw [← hW3]
  have sz3a : W3.heap.size ≤ w.heap.size + 6 := by omega
  have sz3b : w.heap.size + 6 ≤ W3.heap.size := by omega
  have BX6 := Lib.hid box6
  have BX7 := Lib.hid box7
  clear hW3 sz3 box6 box7 box8 HL HI
  generalize hxs : insL l f t = xs at *
  clear hxs
  refine range_law (rfl : _ = Value.func (.func 45) #[] #[.pointer (some ⟨w.heap.size + 4, 0, none⟩), .pointer (some ⟨w.heap.size + 5, 0, none⟩), .pointer (some ⟨w.heap.size + 3, 0, none⟩)]) (enters_of Tryd.func45 (by kernel_rfl) rfl) hit (fun _ => rfl) (by intro k hk; omega)
    (fun k N W => k ≤ 4000 ∧ Out W (w.heap.size + 2) 46 (W3.heap.size + 2) N 38 3 binCells (xs.take k) ∧ Below w.heap.size w W ∧ W.heap[w.heap.size]? = some (.cells #[.slice none 0 0] 46 (0, 0)) ∧ W.heap[w.heap.size + 1]? = some (.cells #[(.int .i64 0)] 23 (0, 0)))
    (fun c W => c = .ret ∧ 4000 < xs.length ∧ Below w.heap.size w W ∧ W.heap[w.heap.size]? = some (.cells #[.slice none 0 0] 46 (0, 0)) ∧ W.heap[w.heap.size + 1]? = some (.cells #[(.int .i64 2)] 23 (0, 0)))
    ?monoN ?stab ?stabx ⟨by omega, hO3, hB3, BX6.out, BX7.out⟩
    (fun x => #[(.int .i64 l), (.int .i64 f), (.int .i64 t), undef, undef, undef, .pointer (some ⟨w.heap.size, 0, none⟩), .pointer (some ⟨w.heap.size + 1, 0, none⟩), .pointer (some ⟨w.heap.size + 1 + 1, 0, none⟩), undef, (.int .i64 l), .bool true, .bool false, .bool false, (.int .i64 f), (.int .i64 t), .bool true, .bool false, .bool false, (.int .i64 l), (.int .i64 f), (.int .i64 t), .func (.func 45) #[] #[.pointer (some ⟨w.heap.size + 1 + 1 + 1 + 1, 0, none⟩), .pointer (some ⟨w.heap.size + 1 + 1 + 1 + 2, 0, none⟩), .pointer (some ⟨w.heap.size + 1 + 1 + 1, 0, none⟩)], .agg #[(.int .i64 (x.1)), (.int .i64 (x.2.1)), (.int .i64 (x.2.2))], undef, undef, undef, undef, undef, undef, undef, undef]) (fun x => by simp [binEncs])
    (fun k N M x a' W => ∃ Bx, a' = { tmps := #[(.int .i64 l), (.int .i64 f), (.int .i64 t), undef, undef, undef, .pointer (some ⟨w.heap.size, 0, none⟩), .pointer (some ⟨w.heap.size + 1, 0, none⟩), .pointer (some ⟨w.heap.size + 1 + 1, 0, none⟩), .pointer (some ⟨Bx, 0, none⟩), (.int .i64 l), .bool true, .bool false, .bool false, (.int .i64 f), (.int .i64 t), .bool true, .bool false, .bool false, (.int .i64 l), (.int .i64 f), (.int .i64 t), .func (.func 45) #[] #[.pointer (some ⟨w.heap.size + 1 + 1 + 1 + 1, 0, none⟩), .pointer (some ⟨w.heap.size + 1 + 1 + 1 + 2, 0, none⟩), .pointer (some ⟨w.heap.size + 1 + 1 + 1, 0, none⟩)], .agg #[(.int .i64 (x.1)), (.int .i64 (x.2.1)), (.int .i64 (x.2.2))], undef, undef, undef, undef, undef, undef, undef, undef], defers := [] } ∧
      W.heap[Bx]? = some (.cells #[(.int .i64 (x.1)), (.int .i64 (x.2.1)), (.int .i64 (x.2.2))] 38 (0, 0)) ∧ M ≤ Bx ∧ W3.heap.size + 2 ≤ Bx ∧ k ≤ 4000 ∧ Out W (w.heap.size + 2) 46 (W3.heap.size + 2) N 38 3 binCells (xs.take k) ∧ Below w.heap.size w W ∧ W.heap[w.heap.size]? = some (.cells #[.slice none 0 0] 46 (0, 0)) ∧ W.heap[w.heap.size + 1]? = some (.cells #[(.int .i64 0)] 23 (0, 0)))
    ?stabA ?assign ?body ?done ?stop
  case monoN => exact fun k N N' A h hN => ⟨h.1, h.2.1.mono hN, h.2.2⟩
  case stab => exact fun k N A B h hN ht => ⟨h.1, h.2.1.turned ht (by intro k hk; omega), h.2.2.1.trans (ht.below (by have := h.2.2.1.size; omega) (by intro k hk; omega)), (ht.block _ (getElem?_lt h.2.2.2.1) (by omega)).trans h.2.2.2.1, (ht.block _ (getElem?_lt h.2.2.2.2) (by omega)).trans h.2.2.2.2⟩
  case stabx => exact fun c A B h ht => ⟨h.1, h.2.1, h.2.2.1.trans (ht.below (by have := h.2.2.1.size; omega) (by intro k hk; omega)), (ht.block _ (getElem?_lt h.2.2.2.1) (by omega)).trans h.2.2.2.1, (ht.block _ (getElem?_lt h.2.2.2.2) (by omega)).trans h.2.2.2.2⟩
  case stabA =>
    rintro k N M x a' A B ⟨Bx, h1, h2, h3, h4, h5, h6, h7, h8, h9⟩ ht
    exact ⟨Bx, h1, (ht.block Bx (getElem?_lt h2) (by omega)).trans h2, h3, h4, h5, h6.turned ht (by intro k hk; omega), h7.trans (ht.below (by have := h7.size; omega) (by intro k hk; omega)), (ht.block _ (getElem?_lt h8) (by omega)).trans h8, (ht.block _ (getElem?_lt h9) (by omega)).trans h9⟩
  case assign =>
    rintro k N x W hx ⟨h1, h2, h3, h4, h5⟩ hN hsz
    have HH := Lib.hid (And.intro h1 (And.intro h2 (And.intro h3 (And.intro h4 h5))))
    clear h1 h2 h3 h4 h5
    gi_wp2
    obtain ⟨h1, h2, h3, h4, h5⟩ := HH.out
    have ht := (Turned.refl (fun _ => False) W).alloc (.cells #[(.int .i64 (x.1)), (.int .i64 (x.2.1)), (.int .i64 (x.2.2))] 38)
    exact ⟨⟨W.heap.size, rfl, World.alloc_heap_new _ _, Nat.le_refl _, hsz, h1, h2.turned ht (fun k h => h.elim), h3.alloc (by have := h3.size; omega) _, (ht.block _ (getElem?_lt h4) id).trans h4, (ht.block _ (getElem?_lt h5) id).trans h5⟩,
      ht.kept (by intro k hk; exact ⟨by omega, id⟩)⟩
  case body =>
    rintro k N M x a' W hx ⟨Bx, rfl, hbx, hM, hsB, hk4, ⟨v, hbox, hown, hvN, hBN⟩, hBW, h6, h7⟩ hNM hMW hsz
    obtain ⟨hcx0, hcx1, hcx2⟩ := cells_of_three hbx
    have hcb := cell_of_box hbox
    have hfb := free_of_box hbox 0
    have hk : k < xs.length := (List.getElem?_eq_some_iff.1 hx).1
    have hlk : (xs.take k).length = k := List.length_take_of_le (by omega)
    have htk : xs.take (k + 1) = xs.take k ++ [x] := by
      rw [List.take_succ_eq_append_getElem hk]; rw [List.getElem?_eq_getElem hk] at hx; simp at hx; rw [hx]
    generalize hbs : xs.take k = bs at *
    clear hbs
    obtain ⟨i0, hi, hz0, hz1, hz2⟩ := info_parts infoBin
    have c6 := cell_of_box h6
    have f6 := free_of_box h6 0
    have c7 := cell_of_box h7
    have f7 := free_of_box h7 0
    have H6 := Lib.hid h6
    have H7 := Lib.hid h7
    have HO := Lib.hid hown
    have HX := Lib.hid htk
    have HB := Lib.hid hbox
    obtain ⟨va, vc, hv⟩ := owns_shape hown
    subst hv
    have hle1 : bs.length ≤ k := by omega
    have hle2 : k ≤ bs.length := by omega
    clear hown htk hbox hbx hx hlk h6 h7
    by_cases h4 : bs.length = 4000
    · have b4 : ((bs.length : Int) == 4000) = true := by simp; omega
      have t1 : Turned (fun k => k = w.heap.size) W (W.setCell ⟨w.heap.size, 0, none⟩ (.slice none 0 0)) := (Turned.refl (fun k => k = w.heap.size) W).setCell (p := ⟨w.heap.size, 0, none⟩) rfl _
      have t2 : Turned (fun k => k = w.heap.size + 1) (W.setCell ⟨w.heap.size, 0, none⟩ (.slice none 0 0)) ((W.setCell ⟨w.heap.size, 0, none⟩ (.slice none 0 0)).setCell ⟨w.heap.size + 1, 0, none⟩ (.int .i64 2)) := (Turned.refl (fun k => k = w.heap.size + 1) _).setCell (p := ⟨w.heap.size + 1, 0, none⟩) rfl _
      have t3 : Turned (fun k => k = w.heap.size ∨ k = w.heap.size + 1) W ((W.setCell ⟨w.heap.size, 0, none⟩ (.slice none 0 0)).setCell ⟨w.heap.size + 1, 0, none⟩ (.int .i64 2)) := (t1.mono fun _ h => .inl h).trans (t2.mono fun _ h => .inr h)
      have T1 := Lib.hid t1
      have T2 := Lib.hid t2
      have T3 := Lib.hid t3
      have HBW := Lib.hid hBW
      clear t1 t2 t3 hBW
      gi_wp2
      refine ⟨T3.out.kept ?_, rfl, by omega, HBW.out.trans (T3.out.below (by have := HBW.out.size; omega) (by intro k hk; omega)), ?_, ?_⟩
      · intro j hj
        refine ⟨by omega, ?_⟩
        rintro (h | h) <;> omega
      · rw [T2.out.block _ (by have := T1.out.size; omega) (by omega)]
        exact box_setCell _ H6.out
      · exact box_setCell (v := (.int .i64 0)) _ ((T1.out.block _ (getElem?_lt H7.out) (by omega)).trans H7.out)
    · have b4 : ((bs.length : Int) == 4000) = false := by simp; omega
      gi_wp2_with (gi_at_builtin; refine wpListIn_append_own _ rfl _ _ 46 rfl (W3.heap.size + 2) 38 i0 (.agg #[(.int .i64 0), (.int .i64 0), (.int .i64 0)]) 3 24 Tryd.underlying46 hi hz0 hz1 hz2 rfl (by decide) _ _ _ rfl (ownsRow_turned ((Turned.refl (fun _ => False) W).alloc _) (fun _ h => h.elim) HO.out) ⟨W.heap.size, 0, none⟩ 1 1 [(.int .i64 (x.1)), (.int .i64 (x.2.1)), (.int .i64 (x.2.2))] rfl rfl (cells_three _ _ _ _ _) (by simp [Value.oneCell']) (by unfold maxLen; omega) (by omega) (by simp; omega) ?_; intro v' w4 hown' hgrow _; obtain ⟨hO2, hT2, hb4, hs4⟩ := Out.appended HB.out HO.out (by omega) rfl hown' hgrow; obtain ⟨g', cap', rfl⟩ := ownsRow_succ hown'; have hc4 := cell_of_box hb4; have hf4 := free_of_box hb4 0; have HO2 := Lib.hid hO2; have HT2 := Lib.hid hT2; clear hO2 hT2 hb4 hown' hgrow)
      have hbl := ownsRow_block HO.out
      refine ⟨HT2.out.kept ?_, by omega, ?_, ?_, (HT2.out.block _ (getElem?_lt H6.out) ?_).trans H6.out, (HT2.out.block _ (getElem?_lt H7.out) ?_).trans H7.out⟩
      · intro j hj
        have hW := HT2.out.size
        refine ⟨by omega, ?_⟩
        rintro (rfl | hv)
        · omega
        · have := hbl j hv; have := hvN j hv; omega
      · have := HO2.out
        rw [← HX.out] at this
        exact this
      · refine hBW.trans (HT2.out.below (by have := hBW.size; omega) ?_)
        rintro j (rfl | hv)
        · omega
        · have := hbl j hv; omega
      · rintro (h | hv)
        · omega
        · have := hbl _ hv; omega
      · rintro (h | hv)
        · omega
        · have := hbl _ hv; omega
  case done =>
    rintro W ⟨hk, hO, hBW, h6, h7⟩ hD hsz
    rw [List.take_length] at hO
    obtain ⟨v, hbox, hown, hvN, -⟩ := hO
    have hcb := cell_of_box hbox
    obtain ⟨va, vc, hv⟩ := owns_shape hown
    subst hv
    have c6 := cell_of_box h6
    have f6 := free_of_box h6 0
    have c7 := cell_of_box h7
    have f7 := free_of_box h7 0
    have t1 : Turned (fun k => k = w.heap.size) W (W.setCell ⟨w.heap.size, 0, none⟩ (.slice va xs.length vc)) := (Turned.refl (fun k => k = w.heap.size) W).setCell (p := ⟨w.heap.size, 0, none⟩) rfl _
    have t2 : Turned (fun k => k = w.heap.size + 1) (W.setCell ⟨w.heap.size, 0, none⟩ (.slice va xs.length vc)) ((W.setCell ⟨w.heap.size, 0, none⟩ (.slice va xs.length vc)).setCell ⟨w.heap.size + 1, 0, none⟩ (.int .i64 0)) := (Turned.refl (fun k => k = w.heap.size + 1) _).setCell (p := ⟨w.heap.size + 1, 0, none⟩) rfl _
    have t3 : Turned (fun k => k = w.heap.size ∨ k = w.heap.size + 1 ∨ k = W3.heap.size) W ((W.setCell ⟨w.heap.size, 0, none⟩ (.slice va xs.length vc)).setCell ⟨w.heap.size + 1, 0, none⟩ (.int .i64 0)) := (t1.mono fun _ h => .inl h).trans (t2.mono fun _ h => .inr (.inl h))
    have h6' : ((W.setCell ⟨w.heap.size, 0, none⟩ (.slice va xs.length vc)).setCell ⟨w.heap.size + 1, 0, none⟩ (.int .i64 0)).heap[w.heap.size]? = some (.cells #[.slice va xs.length vc] 46 (0, 0)) := by
      rw [t2.block _ (by have := t1.size; omega) (by omega)]; exact box_setCell _ h6
    have h7' : ((W.setCell ⟨w.heap.size, 0, none⟩ (.slice va xs.length vc)).setCell ⟨w.heap.size + 1, 0, none⟩ (.int .i64 0)).heap[w.heap.size + 1]? = some (.cells #[(.int .i64 0)] 23 (0, 0)) :=
      box_setCell (v := (.int .i64 0)) _ ((t1.block _ (getElem?_lt h7) (by omega)).trans h7)
    have hD' : ((W.setCell ⟨w.heap.size, 0, none⟩ (.slice va xs.length vc)).setCell ⟨w.heap.size + 1, 0, none⟩ (.int .i64 0)).heap[W3.heap.size]? = some (.deferred (some [])) := by
      rw [t2.block _ (by have := t1.size; omega) (by omega), t1.block _ (by omega) (by omega)]; exact hD
    have hBW' := hBW.trans (t3.below (by have := hBW.size; omega) (by intro k hk; omega))
    have hown' := ownsRow_turned t3 (by intro k hk; omega) hown
    have F := Lib.hid (And.intro h6' (And.intro h7' (And.intro hD' (And.intro hBW' hown'))))
    clear h6 h7 hD t1 t2 t3 h6' h7' hD' hBW' hown' hown hbox hBW
    gi_wp2
    obtain ⟨h6, h7, hD, hBW, hown⟩ := F.out
    refine ⟨by simp, .inl ⟨_, _, rfl, run_takeDeferred hD, ?_⟩⟩
    generalize (W.setCell ⟨w.heap.size, 0, none⟩ (.slice va xs.length vc)).setCell ⟨w.heap.size + 1, 0, none⟩ (.int .i64 0) = Wf at *
    have t4 : Turned (fun k => k = W3.heap.size) Wf (Wf.putObj W3.heap.size (.deferred none)) := (Turned.refl (fun k => k = W3.heap.size) Wf).putObj rfl _
    have c6' := cell_of_box ((t4.block _ (getElem?_lt h6) (by omega)).trans h6)
    have c7' := cell_of_box ((t4.block _ (getElem?_lt h7) (by omega)).trans h7)
    refine ⟨.tuple #[.slice va xs.length vc, (.int .i64 0)], by simp [results, Tryd.results26, go_sem, c6', c7'], retBlocks_few hk ⟨_, rfl, reads_of_owns (ownsRow_turned t4 (by intro k hk; omega) hown), hBW.trans (t4.below (by have := hBW.size; omega) (by intro k hk; omega))⟩⟩
  case stop =>
    rintro c W ⟨rfl, hlt, hBW, h6, h7⟩ hD hsz
    have t4 : Turned (fun k => k = W3.heap.size) W (W.putObj W3.heap.size (.deferred none)) := (Turned.refl (fun k => k = W3.heap.size) W).putObj rfl _
    have c6' := cell_of_box ((t4.block _ (getElem?_lt h6) (by omega)).trans h6)
    have c7' := cell_of_box ((t4.block _ (getElem?_lt h7) (by omega)).trans h7)
    have F := Lib.hid (And.intro hD (And.intro t4 (And.intro c6' (And.intro c7' hBW))))
    clear h6 h7 hD t4 c6' c7' hBW
    gi_wp2
    obtain ⟨hD, t4, c6', c7', hBW⟩ := F.out
    refine ⟨by simp, .inl ⟨_, _, rfl, run_takeDeferred hD, ?_⟩⟩
    exact ⟨.tuple #[.slice none 0 0, (.int .i64 2)], by simp [results, Tryd.results26, go_sem, c6', c7'], retBlocks_many hlt ⟨_, rfl, .inl ⟨rfl, rfl⟩, hBW.trans (t4.below (by have := hBW.size; omega) (by intro k hk; omega))⟩⟩

theorem blocks_no (l f t : Int) (w : World) (h : ¬ (0 ≤ l ∧ l ≤ 4 ∧ ivB f t = true)) : Calls Tryd.prog 26 #[(.int .i64 l), (.int .i64 f), (.int .i64 t)] w (RetBins [] 3 w) := by
  have fin : ∀ a b : Bool, (decide (0 ≤ l) && decide (l ≤ 4)) = a → ivB f t = b → (a = false ∨ a = true ∧ b = false) → Calls Tryd.prog 26 #[(.int .i64 l), (.int .i64 f), (.int .i64 t)] w (RetBins [] 3 w) := by
    intro a b ha hb hab
    have HL : Hid (∀ W, Calls Tryd.prog 37 #[(.int .i64 l)] W fun e w' => e = .returned (.bool a) ∧ w' = W) := fun W => level_eq l a W ha
    have HI : Hid (∀ W, Calls Tryd.prog 42 #[(.int .i64 f), (.int .i64 t)] W fun e w' => e = .returned (.bool b) ∧ w' = W) := fun W => interval_eq f t b W hb
    clear ha hb h
    refine callsIn_wide (n := 0).1 ?_
    refine callsIn_of_wp_marks Tryd.func26 rfl trivial ?_ rfl
    simp only [Tryd.ntmps26, List.size_toArray, List.length_cons, List.length_nil, Nat.reduceAdd, Nat.reduceSub, Array.replicate_succ, Array.replicate_zero, List.push_toArray, List.append_toArray, List.nil_append, List.cons_append]
    rcases hab with rfl | ⟨rfl, rfl⟩
    · gi_wp2_with fail
      refine ⟨trivial, rfl, (callsIn_wide.2 (HL.out _)).mono ?_⟩
      rintro e w1 ⟨rfl, rfl⟩
      gi_wp2_with (refine wide_skip (fun _ => trivial) rfl ?_)
      exact ⟨.tuple #[.slice none 0 0, (.int .i64 3)], by simp [results, Tryd.results26, go_sem], _, rfl, .inl ⟨rfl, rfl⟩, ((Below.refl _ _).alloc (Nat.le_refl _) _).alloc (by simp) _⟩
    · gi_wp2_with fail
      refine ⟨trivial, rfl, (callsIn_wide.2 (HL.out _)).mono ?_⟩
      rintro e w1 ⟨rfl, rfl⟩
      gi_wp2_with fail
      refine ⟨trivial, rfl, (callsIn_wide.2 (HI.out _)).mono ?_⟩
      rintro e w1 ⟨rfl, rfl⟩
      gi_wp2_with (refine wide_skip (fun _ => trivial) rfl ?_)
      exact ⟨.tuple #[.slice none 0 0, (.int .i64 3)], by simp [results, Tryd.results26, go_sem], _, rfl, .inl ⟨rfl, rfl⟩, ((Below.refl _ _).alloc (Nat.le_refl _) _).alloc (by simp) _⟩
  refine fin _ _ rfl rfl ?_
  cases hi : ivB f t
  · cases hl : (decide (0 ≤ l) && decide (l ≤ 4)) <;> simp
  · left
    have : ¬ (0 ≤ l ∧ l ≤ 4) := fun h' => h ⟨h'.1, h'.2, hi⟩
    simp only [Bool.and_eq_false_iff, decide_eq_false_iff_not]
    omega
end Go.Proofs.YtfcfdphkaildiaaDoor
