/- Walks of the calendar's statements: dated, bin, sanity. Conditions: TabOK. -/
import Derived.Test.YtfcfdphkaildiaaDoorCalCoverB
import Derived.Test.YtfcfdphkaildiaaDoorCalPlainS
import Derived.Test.YtfcfdphkaildiaaDoorCalWalkG
namespace Go.Proofs.YtfcfdphkaildiaaDoor
open Go Go.Proofs Go.RowKit
attribute [local go_sem] Oper.semAt_some

theorem date_is {day y m d : Int} (w : World) (hT : Hid (TabOK w)) (h : IsDate day y m d) (h0 : 0 ≤ day) (h1 : day ≤ 14609) : Calls Tryd.prog 9 #[(.int .i64 day)] w fun e w' => e = .returned (.tuple #[(.int .i64 y), (.int .i64 m), (.int .i64 d), (.int .i64 0)]) ∧ w = w' := by
  have := date_any day w hT
  obtain ⟨a, b, c⟩ := h.fns
  unfold dateV at this
  rwa [if_pos ⟨h0, h1⟩, a, b, c] at this
theorem day_is {day y m d : Int} (w : World) (hT : Hid (TabOK w)) (h : IsDate day y m d) : Calls Tryd.prog 11 #[(.int .i64 y), (.int .i64 m), (.int .i64 d)] w fun e w' => e = .returned (.tuple #[(.int .i64 day), (.int .i64 0)]) ∧ w = w' := by
  have := day_any y m d w hT
  obtain ⟨a, b⟩ := day_yes ⟨h.y1, h.y2, h.m1, h.m2, h.d1, h.d2⟩
  rwa [a, b, show ys y + ms y m + d - 1 = day from by have := h.eq; omega] at this

theorem dated_yes (day y m d : Int) (w : World) (hT : Hid (TabOK w)) (h : IsDate day y m d) (h0 : 0 ≤ day) (h1 : day ≤ 14609) : Calls Tryd.prog 35 #[(.int .i64 day), (.int .i64 y), (.int .i64 m), (.int .i64 d)] w fun e w' => e = .returned (.bool true) ∧ w = w' := by
  have HA := Lib.hid (date_is w hT h h0 h1)
  have HB := Lib.hid (day_is w hT h)
  clear h
  have by_ : (y == y) = true := by simp
  have bm : (m == m) = true := by simp
  have bd : (d == d) = true := by simp
  have bday : (day == day) = true := by simp
  go_enter Tryd.func35, Tryd.ntmps35
  go_wp2_with (first | (go_at_call 9; refine HA.out.mono ?_; rintro e w' ⟨rfl, rfl⟩) | (go_at_call 11; refine HB.out.mono ?_; rintro e w' ⟨rfl, rfl⟩))
  go_ret
  exact ⟨rfl, rfl⟩

theorem bin_any (l f t : Int) (w : World) : Calls Tryd.prog 36 #[(.int .i64 l), (.int .i64 f), (.int .i64 t)] w fun e w' => e = .returned (.agg #[(.int .i64 l), (.int .i64 f), (.int .i64 t)]) ∧ Below w.heap.size w w' := by
  go_enter Tryd.func36, Tryd.ntmps36
  go_wp2
  exact bodyPost_ret (v := (.agg #[(.int .i64 l), (.int .i64 f), (.int .i64 t)])) (by simp [results, Tryd.results36, go_sem]) rfl ⟨rfl, (Below.refl _ _).alloc (Nat.le_refl _) _⟩
theorem CellsAt.below {w W : World} {b off : Nat} {xs : List (Int × Int × Int)} (h : CellsAt w b off xs) (hb : Below w.heap.size w W) : CellsAt W b off xs := fun i hi => by
  obtain ⟨h1, h2, h3⟩ := h i hi
  have hlt : b < w.heap.size := by
    rcases Nat.lt_or_ge b w.heap.size with h' | h'
    · exact h'
    · simp [World.cell?, Array.getElem?_eq_none h'] at h1
  obtain ⟨hc, -⟩ := bcell hb
  exact ⟨(hc _ _ hlt).trans h1, (hc _ _ hlt).trans h2, (hc _ _ hlt).trans h3⟩
theorem Reads.below {w W : World} {v : Value} {xs : List (Int × Int × Int)} (h : Reads w v xs) (hb : Below w.heap.size w W) : Reads W v xs := by
  rcases h with h | ⟨b, off, cap, h1, h2, h3, h4⟩
  · exact .inl h
  · exact .inr ⟨b, off, cap, h1, h2, h3, h4.below hb⟩
/-- a box that holds a block -/
def BoxAt (W : World) (b : Nat) (x : Int × Int × Int) : Prop := W.heap[b]? = some (.cells #[(.int .i64 (x.1)), (.int .i64 (x.2.1)), (.int .i64 (x.2.2))] 38 (0, 0))
theorem BoxAt.below {w W : World} {b : Nat} {x : Int × Int × Int} (h : BoxAt w b x) (hb : Below w.heap.size w W) : BoxAt W b x := (hb.block b (getElem?_lt h)).trans h
theorem BoxAt.new (w : World) (x : Int × Int × Int) : BoxAt (w.alloc (.cells #[(.int .i64 (x.1)), (.int .i64 (x.2.1)), (.int .i64 (x.2.2))] 38)) w.heap.size x := World.alloc_heap_new _ _
theorem below_new (w : World) (o : Obj) : Below w.heap.size w (w.alloc o) := (Below.refl _ _).alloc (Nat.le_refl _) _
theorem TabOK.below' {w W : World} (h : Hid (TabOK w)) (hb : Below w.heap.size w W) : Hid (TabOK W) := h.out.below hb

theorem wpOp_wanted {P : Program} {ops : Array Oper} {Q : Exit → Act → World → Prop} {i : Nat} {o : Oper} {K : Act → World → Prop} {a : Act} {w : World} (ho : ops[i]? = some o) (hg : Region.wanted o (yielded ops a.tmps) = true) (h : o.wp P a w K Q) : wpOp P ops Q i K a w := by
  unfold wpOp
  simp only [ho]
  rw [if_pos hg]
  exact .inl h
theorem below_step {n : Nat} {w W V : World} (h : Hid (Below n w W)) (hn : n ≤ w.heap.size) (hb : Below W.heap.size W V) : Hid (Below n w V) := h.out.trans (hb.mono (Nat.le_trans hn h.out.size))
theorem BoxAt.cells {w V : World} {b : Nat} {x : Int × Int × Int} (h : Hid (BoxAt w b x)) (hb : Below w.heap.size w V) : V.cell? ⟨b, 0, none⟩ = some (.int .i64 (x.1)) ∧ V.cell? ⟨b, 1, none⟩ = some (.int .i64 (x.2.1)) ∧ V.cell? ⟨b, 2, none⟩ = some (.int .i64 (x.2.2)) := cells_of_three (h.out.below hb)

theorem same_true (va vb : Value) (xs : List (Int × Int × Int)) (w : World) (ha : Reads w va xs) (hb : Reads w vb xs) : Calls Tryd.prog 24 #[va, vb] w fun e w' => e = .returned (.bool true) ∧ Below w.heap.size w w' := by
  have := same_any va vb xs xs w ha hb
  rwa [decide_eq_true rfl] at this
theorem binCells_len (xs : List (Int × Int × Int)) : (xs.flatMap binCells).length = xs.length * 3 := by
  induction xs with
  | nil => rfl
  | cons x xs ih => rw [List.flatMap_cons, List.length_append, ih]; simp [binCells]; omega
theorem reads_new (W : World) (xs : List (Int × Int × Int)) (h : xs.length ≤ 4611686018427387904) : Reads (W.alloc (.cells (xs.flatMap binCells).toArray 38)) (.slice (some ⟨W.heap.size, 0, none⟩) xs.length xs.length) xs :=
  reads_of_owns (base := 0) ⟨binCells_len xs, .inr ⟨W.heap.size, xs.length, (xs.flatMap binCells).toArray, rfl, Nat.zero_le _, World.alloc_heap_new _ _, Nat.le_refl _, by unfold maxLen; omega, by rw [List.size_toArray]; exact binCells_len xs, List.take_of_length_le (Nat.le_of_eq (binCells_len xs))⟩⟩

theorem san_one {V : World} {b o : Nat} (h : CellsAt V b o sanM) (i : Nat) (x : Int × Int × Int) (hi : i < sanM.length) (hx : sanM.getD i (0, 0, 0) = x) :
    V.cell? ⟨b, o + i * 3, none⟩ = some (.int .i64 (x.1)) ∧ V.cell? ⟨b, o + i * 3 + 1, none⟩ = some (.int .i64 (x.2.1)) ∧ V.cell? ⟨b, o + i * 3 + 2, none⟩ = some (.int .i64 (x.2.2)) := by
  have := h i hi
  rwa [hx] at this
theorem san_at {V : World} {b o : Nat} (h : CellsAt V b o sanM) :
    (V.cell? ⟨b, o, none⟩ = some (.int .i64 0) ∧ V.cell? ⟨b, o + 1, none⟩ = some (.int .i64 3) ∧ V.cell? ⟨b, o + 2, none⟩ = some (.int .i64 4)) ∧
    (V.cell? ⟨b, o + 3, none⟩ = some (.int .i64 1) ∧ V.cell? ⟨b, o + 3 + 1, none⟩ = some (.int .i64 4) ∧ V.cell? ⟨b, o + 3 + 2, none⟩ = some (.int .i64 8)) ∧
    (V.cell? ⟨b, o + 69, none⟩ = some (.int .i64 1) ∧ V.cell? ⟨b, o + 69 + 1, none⟩ = some (.int .i64 92) ∧ V.cell? ⟨b, o + 69 + 2, none⟩ = some (.int .i64 96)) ∧
    (V.cell? ⟨b, o + 72, none⟩ = some (.int .i64 0) ∧ V.cell? ⟨b, o + 72 + 1, none⟩ = some (.int .i64 96) ∧ V.cell? ⟨b, o + 72 + 2, none⟩ = some (.int .i64 97)) :=
  ⟨san_one h 0 (0, 3, 4) (by decide) (by decide +kernel), san_one h 1 (1, 4, 8) (by decide) (by decide +kernel), san_one h 23 (1, 92, 96) (by decide) (by decide +kernel), san_one h 24 (0, 96, 97) (by decide) (by decide +kernel)⟩

set_option maxRecDepth 8000 in
set_option maxHeartbeats 1000000 in
theorem sanity_any (w : World) (hT : Hid (TabOK w)) : Calls Tryd.prog 13 #[] w fun e w' => e = .returned (.bool true) ∧ Below w.heap.size w w' := by
  have H1 : Hid (∀ W, Hid (TabOK W) → Calls Tryd.prog 11 #[(.int .i64 2001), (.int .i64 2), (.int .i64 29)] W fun e w' => e = .returned (.tuple #[(.int .i64 0), (.int .i64 3)]) ∧ W = w') := fun W hT => by
    have := day_any 2001 2 29 W hT
    obtain ⟨a, b⟩ := day_no (y := 2001) (m := 2) (d := 29) (by decide)
    rwa [a, b] at this
  have HD : Hid (∀ day y m d W, Hid (TabOK W) → IsDate day y m d → 0 ≤ day → day ≤ 14609 → Calls Tryd.prog 35 #[(.int .i64 day), (.int .i64 y), (.int .i64 m), (.int .i64 d)] W fun e w' => e = .returned (.bool true) ∧ W = w') := fun day y m d W h1 h2 h3 h4 => dated_yes day y m d W h1 h2 h3 h4
  have HL : Hid (∀ y b W, leapB y = b → Calls Tryd.prog 14 #[(.int .i64 y)] W fun e w' => e = .returned (.bool b) ∧ W = w') := fun y b W h => by rw [← h]; exact leap_any y W
  go_enter Tryd.func13, Tryd.ntmps13
  go_wp2_with (first
    | (go_at_call 11; with_reducible refine (H1.out _ hT).mono ?_; rintro e w' ⟨rfl, rfl⟩)
    | (go_at_call 35; with_reducible refine (HD.out 0 2000 1 1 _ hT sd1 (by decide) (by decide)).mono ?_; rintro e w' ⟨rfl, rfl⟩)
    | (go_at_call 35; with_reducible refine (HD.out 59 2000 2 29 _ hT sd2 (by decide) (by decide)).mono ?_; rintro e w' ⟨rfl, rfl⟩)
    | (go_at_call 35; with_reducible refine (HD.out 60 2000 3 1 _ hT sd3 (by decide) (by decide)).mono ?_; rintro e w' ⟨rfl, rfl⟩)
    | (go_at_call 35; with_reducible refine (HD.out 365 2000 12 31 _ hT sd4 (by decide) (by decide)).mono ?_; rintro e w' ⟨rfl, rfl⟩)
    | (go_at_call 35; with_reducible refine (HD.out 1520 2004 2 29 _ hT sd5 (by decide) (by decide)).mono ?_; rintro e w' ⟨rfl, rfl⟩)
    | (go_at_call 35; with_reducible refine (HD.out 14609 2039 12 31 _ hT sd6 (by decide) (by decide)).mono ?_; rintro e w' ⟨rfl, rfl⟩)
    | (go_at_call 14; with_reducible refine (HL.out 2000 true _ sl1.1).mono ?_; rintro e w' ⟨rfl, rfl⟩)
    | (go_at_call 14; with_reducible refine (HL.out 1900 false _ sl1.2.1).mono ?_; rintro e w' ⟨rfl, rfl⟩)
    | (go_at_call 14; with_reducible refine (HL.out 2001 false _ sl1.2.2).mono ?_; rintro e w' ⟨rfl, rfl⟩))
  have hb0 : Below w.heap.size w w := Below.refl _ _
  refine (show Calls Tryd.prog 16 #[(.int .i64 1), (.int .i64 7)] w fun e w' => e = .returned (.tuple #[(.agg #[(.int .i64 1), (.int .i64 4), (.int .i64 8)]), (.int .i64 0)]) ∧ Below w.heap.size w w' from by have := block_yes 1 7 w hT (by decide) (by decide) (by decide) (by decide); rwa [sv1.1, sv1.2] at this).mono ?_
  rintro e w1 ⟨rfl, hb1⟩
  go_wp2_with fail
  obtain ⟨W1, hW1⟩ : ∃ W1, W1 = w1.alloc (.cells #[(.int .i64 1), (.int .i64 4), (.int .i64 8)] 38) := ⟨_, rfl⟩
  obtain ⟨b4, hb4⟩ : ∃ b, b = w1.heap.size := ⟨_, rfl⟩
  have A4 : BoxAt W1 b4 (1, 4, 8) := by rw [hW1, hb4]; exact BoxAt.new w1 (1, 4, 8)
  have hb1' : Below w.heap.size w W1 := by rw [hW1]; exact hb1.trans ((below_new w1 _).mono hb1.size)
  rw [← hW1, ← hb4]
  clear hW1 hb4 hb1 w1
  have hT1 := TabOK.below' hT hb1'
  refine (show Calls Tryd.prog 16 #[(.int .i64 3), (.int .i64 3000)] W1 fun e w' => e = .returned (.tuple #[(.agg #[(.int .i64 3), (.int .i64 2976), (.int .i64 5760)]), (.int .i64 0)]) ∧ Below W1.heap.size W1 w' from by have := block_yes 3 3000 W1 hT1 (by decide) (by decide) (by decide) (by decide); rwa [sv2.1, sv2.2] at this).mono ?_
  rintro e w1 ⟨rfl, hb1⟩
  have A4' := A4.below hb1
  obtain ⟨c1, c2, c3⟩ := cells_of_three A4'
  have hz4 : b4 < w1.heap.size := getElem?_lt A4'
  have HA := Lib.hid (And.intro A4' (And.intro hb1 hb1'))
  clear A4' A4 hb1 hb1' hT1 hb0
  go_wp2_with fail
  obtain ⟨A4', hb1, hb1'⟩ := HA.out
  clear c1 c2 c3 HA
  obtain ⟨W2, hW2⟩ : ∃ W2, W2 = w1.alloc (.cells #[(.int .i64 3), (.int .i64 2976), (.int .i64 5760)] 38) := ⟨_, rfl⟩
  obtain ⟨b6, hb6⟩ : ∃ b, b = w1.heap.size := ⟨_, rfl⟩
  have A6 : BoxAt W2 b6 (3, 2976, 5760) := by rw [hW2, hb6]; exact BoxAt.new w1 (3, 2976, 5760)
  have hbn : Below w1.heap.size w1 W2 := by rw [hW2]; exact below_new w1 _
  have hb2' : Below w.heap.size w W2 := hb1'.trans ((hb1.mono hb1'.size).trans (hbn.mono (Nat.le_trans hb1'.size hb1.size)))
  have A4 := A4'.below hbn
  rw [← hW2, ← hb6]
  clear hW2 hb6 hb1 hb1' hbn A4' hz4 w1 W1
  have hT2 := TabOK.below' hT hb2'
  refine (show Calls Tryd.prog 18 #[(.agg #[(.int .i64 1), (.int .i64 4), (.int .i64 8)])] W2 fun e w' => e = .returned (.tuple #[(.agg #[(.int .i64 2), (.int .i64 0), (.int .i64 96)]), (.int .i64 0)]) ∧ Below W2.heap.size W2 w' from by have := parent_yes 1 4 8 W2 hT2 (by decide) (by decide); rwa [show lo (1 + 1) 4 = 0 from sv3.1, show hi (1 + 1) 4 = 96 from sv3.2] at this).mono ?_
  rintro e w1 ⟨rfl, hb1⟩
  have A4' := A4.below hb1
  have A6' := A6.below hb1
  obtain ⟨c1, c2, c3⟩ := cells_of_three A4'
  have hz4 : b4 < w1.heap.size := getElem?_lt A4'
  have HA := Lib.hid (And.intro A4' (And.intro A6' (And.intro hb1 hb2')))
  clear A4' A6' A4 A6 hb1 hb2' hT2
  go_wp2_with fail
  obtain ⟨A4', A6', hb1, hb2'⟩ := HA.out
  clear c1 c2 c3 HA
  obtain ⟨W3, hW3⟩ : ∃ W3, W3 = w1.alloc (.cells #[(.int .i64 2), (.int .i64 0), (.int .i64 96)] 38) := ⟨_, rfl⟩
  obtain ⟨b8, hb8⟩ : ∃ b, b = w1.heap.size := ⟨_, rfl⟩
  have A8 : BoxAt W3 b8 (2, 0, 96) := by rw [hW3, hb8]; exact BoxAt.new w1 (2, 0, 96)
  have hbn : Below w1.heap.size w1 W3 := by rw [hW3]; exact below_new w1 _
  have hb3' : Below w.heap.size w W3 := hb2'.trans ((hb1.mono hb2'.size).trans (hbn.mono (Nat.le_trans hb2'.size hb1.size)))
  have A4 := A4'.below hbn
  have A6 := A6'.below hbn
  rw [← hW3, ← hb8]
  clear hW3 hb8 hb1 hb2' hbn A4' A6' hz4 w1 W2
  have hT3 := TabOK.below' hT hb3'
  refine (show Calls Tryd.prog 20 #[(.agg #[(.int .i64 1), (.int .i64 4), (.int .i64 8)])] W3 (RetBins [(0, 4, 5), (0, 5, 6), (0, 6, 7), (0, 7, 8)] 0 W3) from by have := children_yes 1 4 8 W3 hT3 (by decide) (by decide); rwa [show insL (1 - 1) 4 8 = _ from sv4] at this).mono ?_
  rintro e w1 ⟨v10, rfl, hR10, hb1⟩
  have HA := Lib.hid (And.intro (A4.below hb1) (And.intro (A6.below hb1) (And.intro (A8.below hb1) (And.intro hR10 (hb3'.trans (hb1.mono hb3'.size))))))
  clear A4 A6 A8 hR10 hb1 hb3' hT3 W3
  go_wp2_with fail
  obtain ⟨A4, A6, A8, R10, hb4⟩ := HA.out
  clear HA
  have hT4 := TabOK.below' hT hb4
  refine (show Calls Tryd.prog 26 #[(.int .i64 2), (.int .i64 90), (.int .i64 300)] w1 (RetBins [(2, 96, 192), (2, 192, 288)] 0 w1) from by
    have := blocks_yes 2 90 300 w1 hT4 (by decide) (by decide) (by decide)
    unfold RetBlocks at this
    rwa [sv5, if_pos (by decide)] at this).mono ?_
  rintro e w2 ⟨v12, rfl, hR12, hb1⟩
  have HA := Lib.hid (And.intro (A4.below hb1) (And.intro (A6.below hb1) (And.intro (A8.below hb1) (And.intro (R10.below hb1) (And.intro hR12 (hb4.trans (hb1.mono hb4.size)))))))
  clear A4 A6 A8 R10 hR12 hb1 hb4 hT4 w1
  go_wp2_with fail
  obtain ⟨A4, A6, A8, R10, R12, hb4⟩ := HA.out
  clear HA
  have hT4 := TabOK.below' hT hb4
  refine (show Calls Tryd.prog 28 #[(.int .i64 3), (.int .i64 97)] w2 (RetBins sanM 0 w2) from by have := cover_yes 3 97 w2 hT4 (by decide); rwa [sv6] at this).mono ?_
  rintro e w1 ⟨v14, rfl, hR14, hb1⟩
  have HA := Lib.hid (And.intro (A4.below hb1) (And.intro (A6.below hb1) (And.intro (A8.below hb1) (And.intro (R10.below hb1) (And.intro (R12.below hb1) (And.intro hR14 (hb4.trans (hb1.mono hb4.size))))))))
  clear A4 A6 A8 R10 R12 hR14 hb1 hb4 hT4 w2
  go_wp2_with fail
  obtain ⟨A4, A6, A8, R10, R12, R14, hb4⟩ := HA.out
  clear HA
  have hT4 := TabOK.below' hT hb4
  refine (show Calls Tryd.prog 28 #[(.int .i64 0), (.int .i64 35136)] w1 (RetBins [(4, 0, 35136)] 0 w1) from by have := cover_yes 0 35136 w1 hT4 (by decide); rwa [sv7] at this).mono ?_
  rintro e w2 ⟨v16, rfl, hR16, hb1⟩
  have HA := Lib.hid (And.intro (A4.below hb1) (And.intro (A6.below hb1) (And.intro (A8.below hb1) (And.intro (R10.below hb1) (And.intro (R12.below hb1) (And.intro (R14.below hb1) (And.intro hR16 (hb4.trans (hb1.mono hb4.size)))))))))
  clear A4 A6 A8 R10 R12 R14 hR16 hb1 hb4 hT4 w1
  go_wp2_with fail
  obtain ⟨A4, A6, A8, R10, R12, R14, R16, hb4⟩ := HA.out
  have H4 := Lib.hid A4
  have H6 := Lib.hid A6
  have H8 := Lib.hid A8
  have HR10 := Lib.hid R10
  have HR12 := Lib.hid R12
  have HR16 := Lib.hid R16
  have HB4 := Lib.hid hb4
  have HT4 := TabOK.below' hT hb4
  obtain ⟨b14, o14, cap14, hv14, hcap14, hmax14, H14⟩ : ∃ b off cap, v14 = .slice (some ⟨b, off, none⟩) 25 cap ∧ 25 ≤ cap ∧ cap ≤ 9223372036854775807 ∧ Hid (CellsAt w2 b off sanM) := by
    rcases R14 with ⟨-, h⟩ | ⟨b, off, cap, h1, h2, h3, h4⟩
    · cases h
    · exact ⟨b, off, cap, h1, h2, h3, h4⟩
  subst hv14
  have HK : Hid (Below w2.heap.size w2 w2.drew) := (Below.refl _ _).drew
  clear A4 A6 A8 R10 R12 R14 R16 hb4
  refine region_R (R := fun _ V => Below w2.heap.size w2 V) (by kernel_rfl) ?_
  refine wpAnyR_take (S := (fun V => Below w2.heap.size w2 V)) (early := fun _ => true) (i := 0) (v := (.agg #[(.int .i64 1), (.int .i64 4), (.int .i64 8)])) rfl (by kernel_rfl) (by kernel_rfl) (by kernel_rfl) (by kernel_rfl) (fun _ _ _ h => h) (fun _ h => h) (fun _ _ _ h => h) (Or.inl ⟨by rfl, ?_⟩) HK.out ?_
  · intro V hV
    obtain ⟨v1, v2, v3⟩ := BoxAt.cells H4 hV
    go_simp
  simp only [List.getElem_toArray, List.getElem_cons_zero, Act.put, List.setIfInBounds_toArray, List.set_cons_zero, List.set_cons_succ]
  refine wpAnyR_all (rs := [1]) (by kernel_rfl) (by simp) (fun j hj => ?_)
  obtain rfl : j = 1 := by simpa using hj
  clear hj
  refine wpOp_wanted rfl (by kernel_rfl) ?_
  simp only [List.getElem_toArray, List.getElem_cons_zero, List.getElem_cons_succ]
  go_simp
  refine (bin_any 1 4 8 _).mono ?_
  rintro e V1 ⟨rfl, hb⟩
  replace HK := below_step HK (Nat.le_refl _) hb
  clear hb
  refine ⟨HK.out, ?_⟩
  refine wpAnyR_all (rs := [2]) (by kernel_rfl) (by simp) (fun j hj => ?_)
  obtain rfl : j = 2 := by simpa using hj
  clear hj
  refine wpOp_wanted rfl (by kernel_rfl) ?_
  simp only [List.getElem_toArray, List.getElem_cons_zero, List.getElem_cons_succ]
  go_simp
  refine ⟨HK.out, ?_⟩
  refine wpAnyR_all (rs := [3]) (by kernel_rfl) (by simp) (fun j hj => ?_)
  obtain rfl : j = 3 := by simpa using hj
  clear hj
  refine wpOp_wanted rfl (by kernel_rfl) ?_
  simp only [List.getElem_toArray, List.getElem_cons_zero, List.getElem_cons_succ]
  go_simp
  refine ⟨HK.out, ?_⟩
  refine wpAnyR_take (S := (fun V => Below w2.heap.size w2 V)) (early := fun _ => true) (i := 4) (v := (.agg #[(.int .i64 3), (.int .i64 2976), (.int .i64 5760)])) rfl (by kernel_rfl) (by kernel_rfl) (by kernel_rfl) (by kernel_rfl) (fun _ _ _ h => h) (fun _ h => h) (fun _ _ _ h => h) (Or.inl ⟨by rfl, ?_⟩) HK.out ?_
  · intro V hV
    obtain ⟨v1, v2, v3⟩ := BoxAt.cells H6 hV
    go_simp
  simp only [List.getElem_toArray, List.getElem_cons_zero, List.getElem_cons_succ, Act.put, List.setIfInBounds_toArray, List.set_cons_zero, List.set_cons_succ]
  refine wpAnyR_all (rs := [5]) (by kernel_rfl) (by simp) (fun j hj => ?_)
  obtain rfl : j = 5 := by simpa using hj
  clear hj
  refine wpOp_wanted rfl (by kernel_rfl) ?_
  simp only [List.getElem_toArray, List.getElem_cons_zero, List.getElem_cons_succ]
  go_simp
  refine (bin_any 3 2976 5760 _).mono ?_
  rintro e V2 ⟨rfl, hb⟩
  replace HK := below_step HK (Nat.le_refl _) hb
  clear hb V1
  refine ⟨HK.out, ?_⟩
  refine wpAnyR_all (rs := [6]) (by kernel_rfl) (by simp) (fun j hj => ?_)
  obtain rfl : j = 6 := by simpa using hj
  clear hj
  refine wpOp_wanted rfl (by kernel_rfl) ?_
  simp only [List.getElem_toArray, List.getElem_cons_zero, List.getElem_cons_succ]
  go_simp
  refine ⟨HK.out, ?_⟩
  refine wpAnyR_all (rs := [7]) (by kernel_rfl) (by simp) (fun j hj => ?_)
  obtain rfl : j = 7 := by simpa using hj
  clear hj
  refine wpOp_wanted rfl (by kernel_rfl) ?_
  simp only [List.getElem_toArray, List.getElem_cons_zero, List.getElem_cons_succ]
  go_simp
  refine ⟨HK.out, ?_⟩
  refine wpAnyR_all (rs := [8]) (by kernel_rfl) (by simp) (fun j hj => ?_)
  obtain rfl : j = 8 := by simpa using hj
  clear hj
  refine wpOp_wanted rfl (by kernel_rfl) ?_
  simp only [List.getElem_toArray, List.getElem_cons_zero, List.getElem_cons_succ]
  go_simp
  refine ⟨HK.out, ?_⟩
  refine wpAnyR_take (S := (fun V => Below w2.heap.size w2 V)) (early := fun _ => true) (i := 9) (v := (.agg #[(.int .i64 2), (.int .i64 0), (.int .i64 96)])) rfl (by kernel_rfl) (by kernel_rfl) (by kernel_rfl) (by kernel_rfl) (fun _ _ _ h => h) (fun _ h => h) (fun _ _ _ h => h) (Or.inl ⟨by rfl, ?_⟩) HK.out ?_
  · intro V hV
    obtain ⟨v1, v2, v3⟩ := BoxAt.cells H8 hV
    go_simp
  simp only [List.getElem_toArray, List.getElem_cons_zero, List.getElem_cons_succ, Act.put, List.setIfInBounds_toArray, List.set_cons_zero, List.set_cons_succ]
  refine wpAnyR_all (rs := [10]) (by kernel_rfl) (by simp) (fun j hj => ?_)
  obtain rfl : j = 10 := by simpa using hj
  clear hj
  refine wpOp_wanted rfl (by kernel_rfl) ?_
  simp only [List.getElem_toArray, List.getElem_cons_zero, List.getElem_cons_succ]
  go_simp
  refine (bin_any 2 0 96 _).mono ?_
  rintro e V1 ⟨rfl, hb⟩
  replace HK := below_step HK (Nat.le_refl _) hb
  clear hb V2
  refine ⟨HK.out, ?_⟩
  refine wpAnyR_all (rs := [11]) (by kernel_rfl) (by simp) (fun j hj => ?_)
  obtain rfl : j = 11 := by simpa using hj
  clear hj
  refine wpOp_wanted rfl (by kernel_rfl) ?_
  simp only [List.getElem_toArray, List.getElem_cons_zero, List.getElem_cons_succ]
  go_simp
  refine ⟨HK.out, ?_⟩
  refine wpAnyR_all (rs := [12]) (by kernel_rfl) (by simp) (fun j hj => ?_)
  obtain rfl : j = 12 := by simpa using hj
  clear hj
  refine wpOp_wanted rfl (by kernel_rfl) ?_
  simp only [List.getElem_toArray, List.getElem_cons_zero, List.getElem_cons_succ]
  go_simp
  refine ⟨HK.out, ?_⟩
  refine wpAnyR_all (rs := [13]) (by kernel_rfl) (by simp) (fun j hj => ?_)
  obtain rfl : j = 13 := by simpa using hj
  clear hj
  refine wpOp_wanted rfl (by kernel_rfl) ?_
  simp only [List.getElem_toArray, List.getElem_cons_zero, List.getElem_cons_succ]
  go_simp
  refine ⟨HK.out, ?_⟩
  refine wpAnyR_take (S := (fun V => Below w2.heap.size w2 V)) (early := fun _ => true) (i := 14) (v := v10) rfl (by kernel_rfl) (by kernel_rfl) (by kernel_rfl) (by kernel_rfl) (fun _ _ _ h => h) (fun _ h => h) (fun _ _ _ h => h) (Or.inl ⟨by rfl, ?_⟩) HK.out ?_
  · intro V hV
    go_simp
  simp only [List.getElem_toArray, List.getElem_cons_zero, List.getElem_cons_succ, Act.put, List.setIfInBounds_toArray, List.set_cons_zero, List.set_cons_succ]
  refine wpAnyR_all (rs := [15]) (by kernel_rfl) (by simp) (fun j hj => ?_)
  obtain rfl : j = 15 := by simpa using hj
  clear hj
  refine wpOp_wanted rfl (by kernel_rfl) ?_
  simp only [List.getElem_toArray, List.getElem_cons_zero, List.getElem_cons_succ]
  go_simp
  refine (bin_any 0 4 5 _).mono ?_
  rintro e V2 ⟨rfl, hb⟩
  replace HK := below_step HK (Nat.le_refl _) hb
  clear hb V1
  refine ⟨HK.out, ?_⟩
  refine wpAnyR_all (rs := [16]) (by kernel_rfl) (by simp) (fun j hj => ?_)
  obtain rfl : j = 16 := by simpa using hj
  clear hj
  refine wpOp_wanted rfl (by kernel_rfl) ?_
  simp only [List.getElem_toArray, List.getElem_cons_zero, List.getElem_cons_succ]
  go_simp
  refine (bin_any 0 5 6 _).mono ?_
  rintro e V1 ⟨rfl, hb⟩
  replace HK := below_step HK (Nat.le_refl _) hb
  clear hb V2
  refine ⟨HK.out, ?_⟩
  refine wpAnyR_all (rs := [17]) (by kernel_rfl) (by simp) (fun j hj => ?_)
  obtain rfl : j = 17 := by simpa using hj
  clear hj
  refine wpOp_wanted rfl (by kernel_rfl) ?_
  simp only [List.getElem_toArray, List.getElem_cons_zero, List.getElem_cons_succ]
  go_simp
  refine (bin_any 0 6 7 _).mono ?_
  rintro e V2 ⟨rfl, hb⟩
  replace HK := below_step HK (Nat.le_refl _) hb
  clear hb V1
  refine ⟨HK.out, ?_⟩
  refine wpAnyR_all (rs := [18]) (by kernel_rfl) (by simp) (fun j hj => ?_)
  obtain rfl : j = 18 := by simpa using hj
  clear hj
  refine wpOp_wanted rfl (by kernel_rfl) ?_
  simp only [List.getElem_toArray, List.getElem_cons_zero, List.getElem_cons_succ]
  go_simp
  refine (bin_any 0 7 8 _).mono ?_
  rintro e V1 ⟨rfl, hb⟩
  replace HK := below_step HK (Nat.le_refl _) hb
  clear hb V2
  refine ⟨HK.out, ?_⟩
  refine wpAnyR_all (rs := [19]) (by kernel_rfl) (by simp) (fun j hj => ?_)
  obtain rfl : j = 19 := by simpa using hj
  clear hj
  refine wpOp_wanted rfl (by kernel_rfl) ?_
  simp only [List.getElem_toArray, List.getElem_cons_zero, List.getElem_cons_succ]
  go_simp
  obtain ⟨V2, hV2⟩ : ∃ V2, V2 = V1.alloc (.cells #[(.int .i64 0), (.int .i64 4), (.int .i64 5), (.int .i64 0), (.int .i64 5), (.int .i64 6), (.int .i64 0), (.int .i64 6), (.int .i64 7), (.int .i64 0), (.int .i64 7), (.int .i64 8)] 38) := ⟨_, rfl⟩
  have RX : Hid (Reads V2 (.slice (some ⟨V1.heap.size, 0, none⟩) 4 4) [(0, 4, 5), (0, 5, 6), (0, 6, 7), (0, 7, 8)]) := by rw [hV2]; exact reads_new V1 [(0, 4, 5), (0, 5, 6), (0, 6, 7), (0, 7, 8)] (by decide)
  rw [← hV2]
  replace HK := below_step HK (Nat.le_refl _) (by rw [hV2]; exact below_new V1 _ : Below V1.heap.size V1 V2)
  generalize V1.heap.size = bn at *
  clear hV2 V1
  refine ⟨HK.out, ?_⟩
  refine wpAnyR_all (rs := [20]) (by kernel_rfl) (by simp) (fun j hj => ?_)
  obtain rfl : j = 20 := by simpa using hj
  clear hj
  refine wpOp_wanted rfl (by kernel_rfl) ?_
  simp only [List.getElem_toArray, List.getElem_cons_zero, List.getElem_cons_succ]
  go_simp
  refine (same_true v10 _ _ _ (HR10.out.below HK.out) RX.out).mono ?_
  rintro e V1 ⟨rfl, hb⟩
  replace HK := below_step HK (Nat.le_refl _) hb
  clear hb RX V2
  refine ⟨HK.out, ?_⟩
  refine wpAnyR_all (rs := [21]) (by kernel_rfl) (by simp) (fun j hj => ?_)
  obtain rfl : j = 21 := by simpa using hj
  clear hj
  refine wpOp_wanted rfl (by kernel_rfl) ?_
  simp only [List.getElem_toArray, List.getElem_cons_zero, List.getElem_cons_succ]
  go_simp
  refine ⟨HK.out, ?_⟩
  refine wpAnyR_all (rs := [22]) (by kernel_rfl) (by simp) (fun j hj => ?_)
  obtain rfl : j = 22 := by simpa using hj
  clear hj
  refine wpOp_wanted rfl (by kernel_rfl) ?_
  simp only [List.getElem_toArray, List.getElem_cons_zero, List.getElem_cons_succ]
  go_simp
  refine ⟨HK.out, ?_⟩
  refine wpAnyR_done (by kernel_rfl) ?_ _
  go_wp2_with fail
  refine (bin_any 2 96 192 _).mono ?_
  rintro e V2 ⟨rfl, hb⟩
  replace HK := below_step HK (Nat.le_refl _) hb
  clear hb V1
  go_wp2_with fail
  refine (bin_any 2 192 288 _).mono ?_
  rintro e V1 ⟨rfl, hb⟩
  replace HK := below_step HK (Nat.le_refl _) hb
  clear hb V2
  go_wp2_with fail
  obtain ⟨V2, hV2⟩ : ∃ V2, V2 = V1.alloc (.cells #[(.int .i64 2), (.int .i64 96), (.int .i64 192), (.int .i64 2), (.int .i64 192), (.int .i64 288)] 38) := ⟨_, rfl⟩
  have RX : Hid (Reads V2 (.slice (some ⟨V1.heap.size, 0, none⟩) 2 2) [(2, 96, 192), (2, 192, 288)]) := by rw [hV2]; exact reads_new V1 [(2, 96, 192), (2, 192, 288)] (by decide)
  rw [← hV2]
  replace HK := below_step HK (Nat.le_refl _) (by rw [hV2]; exact below_new V1 _ : Below V1.heap.size V1 V2)
  generalize V1.heap.size = bn at *
  clear hV2 V1
  refine (same_true v12 _ _ _ (HR12.out.below HK.out) RX.out).mono ?_
  rintro e V1 ⟨rfl, hb⟩
  replace HK := below_step HK (Nat.le_refl _) hb
  clear hb RX V2
  go_wp2_with fail
  refine (bin_any 4 0 35136 _).mono ?_
  rintro e V2 ⟨rfl, hb⟩
  replace HK := below_step HK (Nat.le_refl _) hb
  clear hb V1
  go_wp2_with fail
  obtain ⟨V1, hV1⟩ : ∃ V1, V1 = V2.alloc (.cells #[(.int .i64 4), (.int .i64 0), (.int .i64 35136)] 38) := ⟨_, rfl⟩
  have RX : Hid (Reads V1 (.slice (some ⟨V2.heap.size, 0, none⟩) 1 1) [(4, 0, 35136)]) := by rw [hV1]; exact reads_new V2 [(4, 0, 35136)] (by decide)
  rw [← hV1]
  replace HK := below_step HK (Nat.le_refl _) (by rw [hV1]; exact below_new V2 _ : Below V2.heap.size V2 V1)
  generalize V2.heap.size = bn at *
  clear hV1 V2
  refine (same_true v16 _ _ _ (HR16.out.below HK.out) RX.out).mono ?_
  rintro e V2 ⟨rfl, hb⟩
  replace HK := below_step HK (Nat.le_refl _) hb
  clear hb RX V1
  obtain ⟨c1, c2, c3⟩ := BoxAt.cells H4 HK.out
  have hz4 : b4 < V2.heap.size := getElem?_lt (H4.out.below HK.out)
  go_wp2_with fail
  clear c1 c2 c3 hz4
  refine (show Calls Tryd.prog 22 #[(.agg #[(.int .i64 1), (.int .i64 4), (.int .i64 8)])] V2 fun e w' => e = .returned (.bool true) ∧ Below V2.heap.size V2 w' from by have := valid_any 1 4 8 V2 (TabOK.below' HT4 HK.out); rwa [show validB 1 4 8 = true from by decide] at this).mono ?_
  rintro e V1 ⟨rfl, hb⟩
  replace HK := below_step HK (Nat.le_refl _) hb
  clear hb V2
  go_wp2_with fail
  refine (bin_any 1 5 9 _).mono ?_
  rintro e V2 ⟨rfl, hb⟩
  replace HK := below_step HK (Nat.le_refl _) hb
  clear hb V1
  go_wp2_with fail
  refine (show Calls Tryd.prog 22 #[(.agg #[(.int .i64 1), (.int .i64 5), (.int .i64 9)])] V2 fun e w' => e = .returned (.bool false) ∧ Below V2.heap.size V2 w' from by have := valid_any 1 5 9 V2 (TabOK.below' HT4 HK.out); rwa [show validB 1 5 9 = false from by decide] at this).mono ?_
  rintro e V1 ⟨rfl, hb⟩
  replace HK := below_step HK (Nat.le_refl _) hb
  clear hb V2
  go_wp2_with fail
  replace HK : Hid (Below w2.heap.size w2 V1.drew) := HK.out.drew
  refine region_R (R := fun _ V => Below w2.heap.size w2 V) (by kernel_rfl) ?_
  refine wpAnyR_all (rs := [0]) (by kernel_rfl) (by simp) (fun j hj => ?_)
  obtain rfl : j = 0 := by simpa using hj
  clear hj
  refine wpOp_wanted rfl (by kernel_rfl) ?_
  simp only [List.getElem_toArray, List.getElem_cons_zero]
  go_simp
  refine ⟨HK.out, ?_⟩
  refine wpAnyR_all (rs := [1]) (by kernel_rfl) (by simp) (fun j hj => ?_)
  obtain rfl : j = 1 := by simpa using hj
  clear hj
  refine wpOp_wanted rfl (by kernel_rfl) ?_
  simp only [List.getElem_toArray, List.getElem_cons_zero, List.getElem_cons_succ]
  go_simp
  refine ⟨HK.out, ?_⟩
  refine wpAnyR_all (rs := [2]) (by kernel_rfl) (by simp) (fun j hj => ?_)
  obtain rfl : j = 2 := by simpa using hj
  clear hj
  refine wpOp_wanted rfl (by kernel_rfl) ?_
  simp only [List.getElem_toArray, List.getElem_cons_zero, List.getElem_cons_succ]
  go_simp
  refine ⟨HK.out, ?_⟩
  refine wpAnyR_all (rs := [3]) (by kernel_rfl) (by simp) (fun j hj => ?_)
  obtain rfl : j = 3 := by simpa using hj
  clear hj
  refine wpOp_wanted rfl (by kernel_rfl) ?_
  simp only [List.getElem_toArray, List.getElem_cons_zero, List.getElem_cons_succ]
  go_simp
  refine ⟨HK.out, ?_⟩
  refine wpAnyR_all (rs := [4]) (by kernel_rfl) (by simp) (fun j hj => ?_)
  obtain rfl : j = 4 := by simpa using hj
  clear hj
  refine wpOp_wanted rfl (by kernel_rfl) ?_
  simp only [List.getElem_toArray, List.getElem_cons_zero, List.getElem_cons_succ]
  go_simp
  refine ⟨HK.out, ?_⟩
  refine wpAnyR_all (rs := [5]) (by kernel_rfl) (by simp) (fun j hj => ?_)
  obtain rfl : j = 5 := by simpa using hj
  clear hj
  refine wpOp_wanted rfl (by kernel_rfl) ?_
  simp only [List.getElem_toArray, List.getElem_cons_zero, List.getElem_cons_succ]
  go_simp
  refine ⟨HK.out, ?_⟩
  refine wpAnyR_all (rs := [6]) (by kernel_rfl) (by simp) (fun j hj => ?_)
  obtain rfl : j = 6 := by simpa using hj
  clear hj
  refine wpOp_wanted rfl (by kernel_rfl) ?_
  simp only [List.getElem_toArray, List.getElem_cons_zero, List.getElem_cons_succ]
  go_simp
  refine ⟨HK.out, ?_⟩
  refine wpAnyR_all (rs := [7]) (by kernel_rfl) (by simp) (fun j hj => ?_)
  obtain rfl : j = 7 := by simpa using hj
  clear hj
  refine wpOp_wanted rfl (by kernel_rfl) ?_
  simp only [List.getElem_toArray, List.getElem_cons_zero, List.getElem_cons_succ]
  go_simp
  refine ⟨HK.out, ?_⟩
  refine wpAnyR_take (S := (fun V => Below w2.heap.size w2 V)) (early := fun _ => true) (i := 8) (v := .slice (some ⟨b14, o14, none⟩) 25 cap14) rfl (by kernel_rfl) (by kernel_rfl) (by kernel_rfl) (by kernel_rfl) (fun _ _ _ h => h) (fun _ h => h) (fun _ _ _ h => h) (Or.inl ⟨by rfl, ?_⟩) HK.out ?_
  · intro V hV
    go_simp
  simp only [List.getElem_toArray, List.getElem_cons_zero, List.getElem_cons_succ, Act.put, List.setIfInBounds_toArray, List.set_cons_zero, List.set_cons_succ]
  refine wpAnyR_take (S := (fun V => Below w2.heap.size w2 V)) (early := fun _ => true) (i := 9) (v := .pointer (some ⟨b14, o14, none⟩)) rfl (by kernel_rfl) (by kernel_rfl) (by kernel_rfl) (by kernel_rfl) (fun _ _ _ h => h) (fun _ h => h) (fun _ _ _ h => h) (Or.inl ⟨by rfl, ?_⟩) HK.out ?_
  · intro V hV
    go_simp
  simp only [List.getElem_toArray, List.getElem_cons_zero, List.getElem_cons_succ, Act.put, List.setIfInBounds_toArray, List.set_cons_zero, List.set_cons_succ]
  refine wpAnyR_take (S := (fun V => Below w2.heap.size w2 V)) (early := fun _ => true) (i := 10) (v := (.agg #[(.int .i64 0), (.int .i64 3), (.int .i64 4)])) rfl (by kernel_rfl) (by kernel_rfl) (by kernel_rfl) (by kernel_rfl) (fun _ _ _ h => h) (fun _ h => h) (fun _ _ _ h => h) (Or.inl ⟨by rfl, ?_⟩) HK.out ?_
  · intro V hV
    obtain ⟨v1, v2, v3⟩ := (san_at (H14.out.below hV)).1
    go_simp
  simp only [List.getElem_toArray, List.getElem_cons_zero, List.getElem_cons_succ, Act.put, List.setIfInBounds_toArray, List.set_cons_zero, List.set_cons_succ]
  refine wpAnyR_all (rs := [11]) (by kernel_rfl) (by simp) (fun j hj => ?_)
  obtain rfl : j = 11 := by simpa using hj
  clear hj
  refine wpOp_wanted rfl (by kernel_rfl) ?_
  simp only [List.getElem_toArray, List.getElem_cons_zero, List.getElem_cons_succ]
  go_simp
  refine (bin_any 0 3 4 _).mono ?_
  rintro e V2 ⟨rfl, hb⟩
  replace HK := below_step HK (Nat.le_refl _) hb
  clear hb V1
  refine ⟨HK.out, ?_⟩
  refine wpAnyR_all (rs := [12]) (by kernel_rfl) (by simp) (fun j hj => ?_)
  obtain rfl : j = 12 := by simpa using hj
  clear hj
  refine wpOp_wanted rfl (by kernel_rfl) ?_
  simp only [List.getElem_toArray, List.getElem_cons_zero, List.getElem_cons_succ]
  go_simp
  refine ⟨HK.out, ?_⟩
  refine wpAnyR_all (rs := [13]) (by kernel_rfl) (by simp) (fun j hj => ?_)
  obtain rfl : j = 13 := by simpa using hj
  clear hj
  refine wpOp_wanted rfl (by kernel_rfl) ?_
  simp only [List.getElem_toArray, List.getElem_cons_zero, List.getElem_cons_succ]
  go_simp
  refine ⟨HK.out, ?_⟩
  refine wpAnyR_all (rs := [14]) (by kernel_rfl) (by simp) (fun j hj => ?_)
  obtain rfl : j = 14 := by simpa using hj
  clear hj
  refine wpOp_wanted rfl (by kernel_rfl) ?_
  simp only [List.getElem_toArray, List.getElem_cons_zero, List.getElem_cons_succ]
  go_simp
  refine ⟨HK.out, ?_⟩
  refine wpAnyR_take (S := (fun V => Below w2.heap.size w2 V)) (early := fun _ => true) (i := 15) (v := .slice (some ⟨b14, o14, none⟩) 25 cap14) rfl (by kernel_rfl) (by kernel_rfl) (by kernel_rfl) (by kernel_rfl) (fun _ _ _ h => h) (fun _ h => h) (fun _ _ _ h => h) (Or.inl ⟨by rfl, ?_⟩) HK.out ?_
  · intro V hV
    go_simp
  simp only [List.getElem_toArray, List.getElem_cons_zero, List.getElem_cons_succ, Act.put, List.setIfInBounds_toArray, List.set_cons_zero, List.set_cons_succ]
  refine wpAnyR_take (S := (fun V => Below w2.heap.size w2 V)) (early := fun _ => true) (i := 16) (v := .pointer (some ⟨b14, o14 + 3, none⟩)) rfl (by kernel_rfl) (by kernel_rfl) (by kernel_rfl) (by kernel_rfl) (fun _ _ _ h => h) (fun _ h => h) (fun _ _ _ h => h) (Or.inl ⟨by rfl, ?_⟩) HK.out ?_
  · intro V hV
    go_simp
  simp only [List.getElem_toArray, List.getElem_cons_zero, List.getElem_cons_succ, Act.put, List.setIfInBounds_toArray, List.set_cons_zero, List.set_cons_succ]
  refine wpAnyR_take (S := (fun V => Below w2.heap.size w2 V)) (early := fun _ => true) (i := 17) (v := (.agg #[(.int .i64 1), (.int .i64 4), (.int .i64 8)])) rfl (by kernel_rfl) (by kernel_rfl) (by kernel_rfl) (by kernel_rfl) (fun _ _ _ h => h) (fun _ h => h) (fun _ _ _ h => h) (Or.inl ⟨by rfl, ?_⟩) HK.out ?_
  · intro V hV
    obtain ⟨v1, v2, v3⟩ := (san_at (H14.out.below hV)).2.1
    go_simp
  simp only [List.getElem_toArray, List.getElem_cons_zero, List.getElem_cons_succ, Act.put, List.setIfInBounds_toArray, List.set_cons_zero, List.set_cons_succ]
  refine wpAnyR_all (rs := [18]) (by kernel_rfl) (by simp) (fun j hj => ?_)
  obtain rfl : j = 18 := by simpa using hj
  clear hj
  refine wpOp_wanted rfl (by kernel_rfl) ?_
  simp only [List.getElem_toArray, List.getElem_cons_zero, List.getElem_cons_succ]
  go_simp
  refine (bin_any 1 4 8 _).mono ?_
  rintro e V1 ⟨rfl, hb⟩
  replace HK := below_step HK (Nat.le_refl _) hb
  clear hb V2
  refine ⟨HK.out, ?_⟩
  refine wpAnyR_all (rs := [19]) (by kernel_rfl) (by simp) (fun j hj => ?_)
  obtain rfl : j = 19 := by simpa using hj
  clear hj
  refine wpOp_wanted rfl (by kernel_rfl) ?_
  simp only [List.getElem_toArray, List.getElem_cons_zero, List.getElem_cons_succ]
  go_simp
  refine ⟨HK.out, ?_⟩
  refine wpAnyR_all (rs := [20]) (by kernel_rfl) (by simp) (fun j hj => ?_)
  obtain rfl : j = 20 := by simpa using hj
  clear hj
  refine wpOp_wanted rfl (by kernel_rfl) ?_
  simp only [List.getElem_toArray, List.getElem_cons_zero, List.getElem_cons_succ]
  go_simp
  refine ⟨HK.out, ?_⟩
  refine wpAnyR_all (rs := [21]) (by kernel_rfl) (by simp) (fun j hj => ?_)
  obtain rfl : j = 21 := by simpa using hj
  clear hj
  refine wpOp_wanted rfl (by kernel_rfl) ?_
  simp only [List.getElem_toArray, List.getElem_cons_zero, List.getElem_cons_succ]
  go_simp
  refine ⟨HK.out, ?_⟩
  refine wpAnyR_take (S := (fun V => Below w2.heap.size w2 V)) (early := fun _ => true) (i := 22) (v := .slice (some ⟨b14, o14, none⟩) 25 cap14) rfl (by kernel_rfl) (by kernel_rfl) (by kernel_rfl) (by kernel_rfl) (fun _ _ _ h => h) (fun _ h => h) (fun _ _ _ h => h) (Or.inl ⟨by rfl, ?_⟩) HK.out ?_
  · intro V hV
    go_simp
  simp only [List.getElem_toArray, List.getElem_cons_zero, List.getElem_cons_succ, Act.put, List.setIfInBounds_toArray, List.set_cons_zero, List.set_cons_succ]
  refine wpAnyR_take (S := (fun V => Below w2.heap.size w2 V)) (early := fun _ => true) (i := 23) (v := .pointer (some ⟨b14, o14 + 69, none⟩)) rfl (by kernel_rfl) (by kernel_rfl) (by kernel_rfl) (by kernel_rfl) (fun _ _ _ h => h) (fun _ h => h) (fun _ _ _ h => h) (Or.inl ⟨by rfl, ?_⟩) HK.out ?_
  · intro V hV
    go_simp
  simp only [List.getElem_toArray, List.getElem_cons_zero, List.getElem_cons_succ, Act.put, List.setIfInBounds_toArray, List.set_cons_zero, List.set_cons_succ]
  refine wpAnyR_take (S := (fun V => Below w2.heap.size w2 V)) (early := fun _ => true) (i := 24) (v := (.agg #[(.int .i64 1), (.int .i64 92), (.int .i64 96)])) rfl (by kernel_rfl) (by kernel_rfl) (by kernel_rfl) (by kernel_rfl) (fun _ _ _ h => h) (fun _ h => h) (fun _ _ _ h => h) (Or.inl ⟨by rfl, ?_⟩) HK.out ?_
  · intro V hV
    obtain ⟨v1, v2, v3⟩ := (san_at (H14.out.below hV)).2.2.1
    go_simp
  simp only [List.getElem_toArray, List.getElem_cons_zero, List.getElem_cons_succ, Act.put, List.setIfInBounds_toArray, List.set_cons_zero, List.set_cons_succ]
  refine wpAnyR_all (rs := [25]) (by kernel_rfl) (by simp) (fun j hj => ?_)
  obtain rfl : j = 25 := by simpa using hj
  clear hj
  refine wpOp_wanted rfl (by kernel_rfl) ?_
  simp only [List.getElem_toArray, List.getElem_cons_zero, List.getElem_cons_succ]
  go_simp
  refine (bin_any 1 92 96 _).mono ?_
  rintro e V2 ⟨rfl, hb⟩
  replace HK := below_step HK (Nat.le_refl _) hb
  clear hb V1
  refine ⟨HK.out, ?_⟩
  refine wpAnyR_all (rs := [26]) (by kernel_rfl) (by simp) (fun j hj => ?_)
  obtain rfl : j = 26 := by simpa using hj
  clear hj
  refine wpOp_wanted rfl (by kernel_rfl) ?_
  simp only [List.getElem_toArray, List.getElem_cons_zero, List.getElem_cons_succ]
  go_simp
  refine ⟨HK.out, ?_⟩
  refine wpAnyR_all (rs := [27]) (by kernel_rfl) (by simp) (fun j hj => ?_)
  obtain rfl : j = 27 := by simpa using hj
  clear hj
  refine wpOp_wanted rfl (by kernel_rfl) ?_
  simp only [List.getElem_toArray, List.getElem_cons_zero, List.getElem_cons_succ]
  go_simp
  refine ⟨HK.out, ?_⟩
  refine wpAnyR_all (rs := [28]) (by kernel_rfl) (by simp) (fun j hj => ?_)
  obtain rfl : j = 28 := by simpa using hj
  clear hj
  refine wpOp_wanted rfl (by kernel_rfl) ?_
  simp only [List.getElem_toArray, List.getElem_cons_zero, List.getElem_cons_succ]
  go_simp
  refine ⟨HK.out, ?_⟩
  refine wpAnyR_take (S := (fun V => Below w2.heap.size w2 V)) (early := fun _ => true) (i := 29) (v := .slice (some ⟨b14, o14, none⟩) 25 cap14) rfl (by kernel_rfl) (by kernel_rfl) (by kernel_rfl) (by kernel_rfl) (fun _ _ _ h => h) (fun _ h => h) (fun _ _ _ h => h) (Or.inl ⟨by rfl, ?_⟩) HK.out ?_
  · intro V hV
    go_simp
  simp only [List.getElem_toArray, List.getElem_cons_zero, List.getElem_cons_succ, Act.put, List.setIfInBounds_toArray, List.set_cons_zero, List.set_cons_succ]
  refine wpAnyR_take (S := (fun V => Below w2.heap.size w2 V)) (early := fun _ => true) (i := 30) (v := .pointer (some ⟨b14, o14 + 72, none⟩)) rfl (by kernel_rfl) (by kernel_rfl) (by kernel_rfl) (by kernel_rfl) (fun _ _ _ h => h) (fun _ h => h) (fun _ _ _ h => h) (Or.inl ⟨by rfl, ?_⟩) HK.out ?_
  · intro V hV
    go_simp
  simp only [List.getElem_toArray, List.getElem_cons_zero, List.getElem_cons_succ, Act.put, List.setIfInBounds_toArray, List.set_cons_zero, List.set_cons_succ]
  refine wpAnyR_take (S := (fun V => Below w2.heap.size w2 V)) (early := fun _ => true) (i := 31) (v := (.agg #[(.int .i64 0), (.int .i64 96), (.int .i64 97)])) rfl (by kernel_rfl) (by kernel_rfl) (by kernel_rfl) (by kernel_rfl) (fun _ _ _ h => h) (fun _ h => h) (fun _ _ _ h => h) (Or.inl ⟨by rfl, ?_⟩) HK.out ?_
  · intro V hV
    obtain ⟨v1, v2, v3⟩ := (san_at (H14.out.below hV)).2.2.2
    go_simp
  simp only [List.getElem_toArray, List.getElem_cons_zero, List.getElem_cons_succ, Act.put, List.setIfInBounds_toArray, List.set_cons_zero, List.set_cons_succ]
  refine wpAnyR_all (rs := [32]) (by kernel_rfl) (by simp) (fun j hj => ?_)
  obtain rfl : j = 32 := by simpa using hj
  clear hj
  refine wpOp_wanted rfl (by kernel_rfl) ?_
  simp only [List.getElem_toArray, List.getElem_cons_zero, List.getElem_cons_succ]
  go_simp
  refine (bin_any 0 96 97 _).mono ?_
  rintro e V1 ⟨rfl, hb⟩
  replace HK := below_step HK (Nat.le_refl _) hb
  clear hb V2
  refine ⟨HK.out, ?_⟩
  refine wpAnyR_all (rs := [33]) (by kernel_rfl) (by simp) (fun j hj => ?_)
  obtain rfl : j = 33 := by simpa using hj
  clear hj
  refine wpOp_wanted rfl (by kernel_rfl) ?_
  simp only [List.getElem_toArray, List.getElem_cons_zero, List.getElem_cons_succ]
  go_simp
  refine ⟨HK.out, ?_⟩
  refine wpAnyR_all (rs := [34]) (by kernel_rfl) (by simp) (fun j hj => ?_)
  obtain rfl : j = 34 := by simpa using hj
  clear hj
  refine wpOp_wanted rfl (by kernel_rfl) ?_
  simp only [List.getElem_toArray, List.getElem_cons_zero, List.getElem_cons_succ]
  go_simp
  refine ⟨HK.out, ?_⟩
  refine wpAnyR_all (rs := [35]) (by kernel_rfl) (by simp) (fun j hj => ?_)
  obtain rfl : j = 35 := by simpa using hj
  clear hj
  refine wpOp_wanted rfl (by kernel_rfl) ?_
  simp only [List.getElem_toArray, List.getElem_cons_zero, List.getElem_cons_succ]
  go_simp
  refine ⟨HK.out, ?_⟩
  refine wpAnyR_done (by kernel_rfl) ?_ _
  go_wp2_with fail
  go_ret
  exact ⟨rfl, HB4.out.trans (HK.out.mono HB4.out.size)⟩
end Go.Proofs.YtfcfdphkaildiaaDoor
