/- Walk of the calendar's statement CalendarBlocksAsSpecified. Conditions: TabOK. Printed by gen_lawc.py. -/
import Derived.Test.YtfcfdphkaildiaaDoorCalWalkR
import Derived.Test.YtfcfdphkaildiaaDoorLays
namespace Go.Proofs.YtfcfdphkaildiaaDoor
open Go Go.Proofs Go.RowKit
attribute [local go_sem] Oper.semAt_some

theorem blk_agree (l t : Int) : ∃ a b c e, (∀ W, Hid (TabOK W) → Calls Tryd.prog 16 #[(.int .i64 l), (.int .i64 t)] W fun r w' => r = .returned (.tuple #[(.agg #[(.int .i64 a), (.int .i64 b), (.int .i64 c)]), (.int .i64 e)]) ∧ Below W.heap.size W w') ∧ ∀ W, Calls Tryd.prog 17 #[(.int .i64 l), (.int .i64 t)] W fun r w' => r = .returned (.agg #[(.int .i64 a), (.int .i64 b), (.int .i64 c), (.int .i64 e)]) ∧ Below W.heap.size W w' := by
  by_cases h : 0 ≤ l ∧ l ≤ 4 ∧ 0 ≤ t ∧ t < 1402560
  · exact ⟨_, _, _, _, fun W hT => block_yes l t W hT h.1 h.2.1 h.2.2.1 h.2.2.2, fun W => rblock_yes l t W h.1 h.2.1 h.2.2.1 h.2.2.2⟩
  · exact ⟨_, _, _, _, fun W _ => block_no l t W h, fun W => rblock_no l t W h⟩
theorem par_agree (l f t : Int) : ∃ a b c e, (∀ W, Hid (TabOK W) → Calls Tryd.prog 18 #[(.agg #[(.int .i64 l), (.int .i64 f), (.int .i64 t)])] W fun r w' => r = .returned (.tuple #[(.agg #[(.int .i64 a), (.int .i64 b), (.int .i64 c)]), (.int .i64 e)]) ∧ Below W.heap.size W w') ∧ ∀ W, Calls Tryd.prog 19 #[(.agg #[(.int .i64 l), (.int .i64 f), (.int .i64 t)])] W fun r w' => r = .returned (.agg #[(.int .i64 a), (.int .i64 b), (.int .i64 c), (.int .i64 e)]) ∧ Below W.heap.size W w' := by
  by_cases h : validB l f t = true ∧ l ≠ 4
  · exact ⟨_, _, _, _, fun W hT => parent_yes l f t W hT h.1 h.2, fun W => rparent_yes l f t W h.1 h.2⟩
  · have h' : validB l f t = false ∨ validB l f t = true ∧ l = 4 := by
      rcases Bool.eq_false_or_eq_true (validB l f t) with c | c
      · exact .inr ⟨c, by rcases Int.lt_trichotomy l 4 with d | d | d; exact absurd ⟨c, by omega⟩ h; exact d; exact absurd ⟨c, by omega⟩ h⟩
      · exact .inl c
    exact ⟨_, _, _, _, fun W hT => parent_no l f t W hT h', fun W => rparent_no l f t W h'⟩
theorem chi_agree (l f t : Int) : ∃ xs e, (∀ W, Hid (TabOK W) → Calls Tryd.prog 20 #[(.agg #[(.int .i64 l), (.int .i64 f), (.int .i64 t)])] W (RetBins xs e W)) ∧ ∀ W, Calls Tryd.prog 21 #[(.agg #[(.int .i64 l), (.int .i64 f), (.int .i64 t)])] W (RetListed xs e W) := by
  by_cases h : validB l f t = true ∧ l ≠ 0
  · exact ⟨_, _, fun W hT => children_yes l f t W hT h.1 h.2, fun W => rchildren_yes l f t W h.1 h.2⟩
  · have h' : validB l f t = false ∨ validB l f t = true ∧ l = 0 := by
      rcases Bool.eq_false_or_eq_true (validB l f t) with c | c
      · exact .inr ⟨c, by rcases Int.lt_trichotomy l 0 with d | d | d; exact absurd ⟨c, by omega⟩ h; exact d; exact absurd ⟨c, by omega⟩ h⟩
      · exact .inl c
    exact ⟨_, _, fun W hT => children_no l f t W hT h', fun W => rchildren_no l f t W h'⟩
theorem blks_agree (l f t : Int) : ∃ xs e, (∀ W, Hid (TabOK W) → Calls Tryd.prog 26 #[(.int .i64 l), (.int .i64 f), (.int .i64 t)] W (RetBins xs e W)) ∧ ∀ W, Calls Tryd.prog 27 #[(.int .i64 l), (.int .i64 f), (.int .i64 t)] W (RetListed xs e W) := by
  by_cases h : 0 ≤ l ∧ l ≤ 4 ∧ ivB f t = true
  · by_cases hn : (insL l f t).length ≤ 4000
    · refine ⟨insL l f t, 0, fun W hT => ?_, fun W => ?_⟩
      · have := blocks_yes l f t W hT h.1 h.2.1 h.2.2
        unfold RetBlocks at this; rwa [if_pos hn] at this
      · have := rblocks_yes l f t W h.1 h.2.1 h.2.2
        unfold RetBlocksL at this; rwa [if_pos hn] at this
    · refine ⟨[], 2, fun W hT => ?_, fun W => ?_⟩
      · have := blocks_yes l f t W hT h.1 h.2.1 h.2.2
        unfold RetBlocks at this; rwa [if_neg hn] at this
      · have := rblocks_yes l f t W h.1 h.2.1 h.2.2
        unfold RetBlocksL at this; rwa [if_neg hn] at this
  · exact ⟨[], 3, fun W _ => blocks_no l f t W h, fun W => rblocks_no l f t W h⟩
theorem stays_tab : Stays TabOK := fun _ _ h hb => h.below hb
theorem stays_reads (v : Value) (xs : List Bn) : Stays (fun W => Reads W v xs) := fun _ _ h hb => h.below hb
theorem neq_self (a b c : Int) (W : World) : (binOp .neq 38 (.agg #[(.int .i64 a), (.int .i64 b), (.int .i64 c)]) (.agg #[(.int .i64 a), (.int .i64 b), (.int .i64 c)])).run Tryd.prog W = .ok (.bool false) W := by
  rw [bin_neq]; simp
theorem validr_any (l f t : Int) : ∃ b, (∀ W, Hid (TabOK W) → Calls Tryd.prog 22 #[(.agg #[(.int .i64 l), (.int .i64 f), (.int .i64 t)])] W fun e w' => e = .returned (.bool b) ∧ Below W.heap.size W w') ∧ ∀ W, Calls Tryd.prog 23 #[(.agg #[(.int .i64 l), (.int .i64 f), (.int .i64 t)])] W fun e w' => e = .returned (.bool b) ∧ Below W.heap.size W w' := ⟨_, fun W hT => valid_any l f t W hT, fun W => rvalid_any l f t W⟩


set_option maxRecDepth 20000 in
set_option maxHeartbeats 4000000 in
theorem blocks_any (l f t lev n0 n1 n2 : Int) (w : World) (hT : Hid (TabOK w)) (hn1 : -9223372036854775808 ≤ n1 ∧ n1 ≤ 9223372036854775807) (hn2 : -9223372036854775808 ≤ n2 ∧ n2 ≤ 9223372036854775807) :
    Calls Tryd.prog 4 #[(.agg #[(.int .i64 l), (.int .i64 f), (.int .i64 t)]), (.int .i64 lev), (.agg #[(.int .i64 n0), (.int .i64 n1), (.int .i64 n2)])] w fun e w' => e = .returned (.bool true) ∧ Below w.heap.size w w' := by
  obtain ⟨x1, x2, x3, xe, hXA, hXB⟩ := blk_agree lev n0
  obtain ⟨y1, y2, y3, ye, hYA, hYB⟩ := par_agree l f t
  obtain ⟨cs, ce, hCA, hCB⟩ := chi_agree l f t
  obtain ⟨ms, me, hMA, hMB⟩ := blks_agree lev n1 n2
  obtain ⟨vb, hVA, hVB⟩ := validr_any l f t
  have XA := Lib.hid hXA; have XB := Lib.hid hXB; have YA := Lib.hid hYA; have YB := Lib.hid hYB
  have CA := Lib.hid hCA; have CB := Lib.hid hCB; have MA := Lib.hid hMA; have MB := Lib.hid hMB
  have VA := Lib.hid hVA; have VB := Lib.hid hVB
  clear hXA hXB hYA hYB hCA hCB hMA hMB hVA hVB
  have HSA : Hid (∀ W, Hid (TabOK W) → Calls Tryd.prog 13 #[] W fun e w' => e = .returned (.bool true) ∧ Below W.heap.size W w') := fun W h => sanity_any W h
  have bxe : (xe != xe) = false := by simp
  have bye : (ye != ye) = false := by simp
  have bce : (ce != ce) = false := by simp
  have bme : (me == me) = true := by simp
  have bvb : (vb != vb) = false := by simp
  have nX := fun W => neq_self x1 x2 x3 W
  have nY := fun W => neq_self y1 y2 y3 W
  have ST := St.start hT.out stays_tab
  go_enter Tryd.func4, Tryd.ntmps4
  go_wp2_with fail
  have ST0 := ST
  clear ST
  obtain ⟨WA, B3, hWA, hBA, -, ST1⟩ := St.box ST0 (.cells #[(.int .i64 l), (.int .i64 f), (.int .i64 t)] 38)
  obtain ⟨W0, B5, hW, hB, -, ST2⟩ := St.box ST1 (.cells #[(.int .i64 n0), (.int .i64 n1), (.int .i64 n2)] 22)
  have hBB : B5 = B3 + 1 := by rw [hB, hWA, hBA]; simp
  rw [← hWA, ← hW, ← hBA, ← hBB]
  clear ST0 ST1 hW hB hWA hBB hBA WA
  obtain ⟨cB50, cB51, cB52⟩ := St.cells3 ST2 0 rfl
  have zB5 := St.lt ST2 0 rfl
  clear cB50 cB51 cB52 zB5
  refine (XA.out _ (Lib.hid ST2.out.tab)).mono ?_
  rintro e W1 ⟨rfl, hb⟩
  have ST3 := St.call ST2 hb
  clear hb ST2 W0
  obtain ⟨cB50, cB51, cB52⟩ := St.cells3 ST3 0 rfl
  have zB5 := St.lt ST3 0 rfl
  go_wp2_with fail
  clear cB50 cB51 cB52 zB5
  obtain ⟨W2, B7, hW, hB, -, ST4⟩ := St.box ST3 (.cells #[(.int .i64 x1), (.int .i64 x2), (.int .i64 x3)] 38)
  rw [← hW, ← hB]
  clear ST3 hW hB W1
  refine (XB.out _).mono ?_
  rintro e W1 ⟨rfl, hb⟩
  have ST5 := St.call ST4 hb
  clear hb ST4 W2
  obtain ⟨cB30, cB31, cB32⟩ := St.cells3 ST5 2 rfl
  have zB3 := St.lt ST5 2 rfl
  go_wp2_with fail
  clear cB30 cB31 cB32 zB3
  obtain ⟨W2, B9, hW, hB, -, ST6⟩ := St.box ST5 (.cells #[(.int .i64 x1), (.int .i64 x2), (.int .i64 x3), (.int .i64 xe)] 42)
  rw [← hW, ← hB]
  clear ST5 hW hB W1
  refine (YA.out _ (Lib.hid ST6.out.tab)).mono ?_
  rintro e W1 ⟨rfl, hb⟩
  have ST7 := St.call ST6 hb
  clear hb ST6 W2
  obtain ⟨cB30, cB31, cB32⟩ := St.cells3 ST7 3 rfl
  have zB3 := St.lt ST7 3 rfl
  go_wp2_with fail
  clear cB30 cB31 cB32 zB3
  obtain ⟨W2, B10, hW, hB, -, ST8⟩ := St.box ST7 (.cells #[(.int .i64 y1), (.int .i64 y2), (.int .i64 y3)] 38)
  rw [← hW, ← hB]
  clear ST7 hW hB W1
  refine (YB.out _).mono ?_
  rintro e W1 ⟨rfl, hb⟩
  have ST9 := St.call ST8 hb
  clear hb ST8 W2
  obtain ⟨cB30, cB31, cB32⟩ := St.cells3 ST9 4 rfl
  have zB3 := St.lt ST9 4 rfl
  go_wp2_with fail
  clear cB30 cB31 cB32 zB3
  obtain ⟨W2, B12, hW, hB, -, ST10⟩ := St.box ST9 (.cells #[(.int .i64 y1), (.int .i64 y2), (.int .i64 y3), (.int .i64 ye)] 42)
  rw [← hW, ← hB]
  clear ST9 hW hB W1
  refine (CA.out _ (Lib.hid ST10.out.tab)).mono ?_
  rintro e W1 ⟨v13, rfl, hR, hb⟩
  have ST11 := St.call ST10 hb
  clear hb ST10 W2
  have ST12 := St.more ST11 hR (stays_reads v13 cs)
  clear ST11
  clear hR
  obtain ⟨cB30, cB31, cB32⟩ := St.cells3 ST12 5 rfl
  have zB3 := St.lt ST12 5 rfl
  go_wp2_with fail
  clear cB30 cB31 cB32 zB3
  refine (CB.out _).mono ?_
  rintro e W2 ⟨v15, rfl, hR, hb⟩
  have ST13 := St.call ST12 hb
  clear hb ST12 W1
  obtain ⟨a15, k15, rfl⟩ := reads_shape hR
  have ST14 := St.more ST13 hR (stays_reads _ cs)
  clear ST13
  clear hR
  go_wp2_with fail
  obtain ⟨W1, B15, hW, hB, -, ST15⟩ := St.box ST14 (.cells #[.slice a15 cs.length k15, (.int .i64 ce)] 50)
  rw [← hW, ← hB]
  clear ST14 hW hB W2
  have HC : Hid (∀ W, Below W1.heap.size W1 W → (W.cell? ⟨B3, 0, none⟩ = some (.int .i64 l) ∧ W.cell? ⟨B3, 1, none⟩ = some (.int .i64 f) ∧ W.cell? ⟨B3, 2, none⟩ = some (.int .i64 t) ∧ W.cell? ⟨B7, 0, none⟩ = some (.int .i64 x1) ∧ W.cell? ⟨B7, 1, none⟩ = some (.int .i64 x2) ∧ W.cell? ⟨B7, 2, none⟩ = some (.int .i64 x3) ∧ W.cell? ⟨B9, 0, none⟩ = some (.int .i64 x1) ∧ W.cell? ⟨B9, 1, none⟩ = some (.int .i64 x2) ∧ W.cell? ⟨B9, 2, none⟩ = some (.int .i64 x3) ∧ W.cell? ⟨B9, 3, none⟩ = some (.int .i64 xe) ∧ W.cell? ⟨B10, 0, none⟩ = some (.int .i64 y1) ∧ W.cell? ⟨B10, 1, none⟩ = some (.int .i64 y2) ∧ W.cell? ⟨B10, 2, none⟩ = some (.int .i64 y3) ∧ W.cell? ⟨B12, 0, none⟩ = some (.int .i64 y1) ∧ W.cell? ⟨B12, 1, none⟩ = some (.int .i64 y2) ∧ W.cell? ⟨B12, 2, none⟩ = some (.int .i64 y3) ∧ W.cell? ⟨B12, 3, none⟩ = some (.int .i64 ye) ∧ W.cell? ⟨B15, 0, none⟩ = some (.slice a15 cs.length k15) ∧ W.cell? ⟨B15, 1, none⟩ = some (.int .i64 ce))) := by
    intro W hb
    have S := St.call ST15 hb
    obtain ⟨dB30, dB31, dB32⟩ := St.cells3 S 6 rfl
    obtain ⟨dB70, dB71, dB72⟩ := St.cells3 S 4 rfl
    obtain ⟨dB90, dB91, dB92, dB93⟩ := St.cells4 S 3 rfl
    obtain ⟨dB100, dB101, dB102⟩ := St.cells3 S 2 rfl
    obtain ⟨dB120, dB121, dB122, dB123⟩ := St.cells4 S 1 rfl
    obtain ⟨dB150, dB151⟩ := St.cells2 S 0 rfl
    exact ⟨dB30, dB31, dB32, dB70, dB71, dB72, dB90, dB91, dB92, dB93, dB100, dB101, dB102, dB120, dB121, dB122, dB123, dB150, dB151⟩
  have B0 := Lib.hid (Below.drew (Below.refl W1.heap.size W1))
  have TA := Lib.hid (fun W (hb : Below W1.heap.size W1 W) => (St.call ST15 hb).out.tab)
  go_region_held3 (fun W => W.cell? ⟨B3, 0, none⟩ = some (.int .i64 l) ∧ W.cell? ⟨B3, 1, none⟩ = some (.int .i64 f) ∧ W.cell? ⟨B3, 2, none⟩ = some (.int .i64 t) ∧ W.cell? ⟨B7, 0, none⟩ = some (.int .i64 x1) ∧ W.cell? ⟨B7, 1, none⟩ = some (.int .i64 x2) ∧ W.cell? ⟨B7, 2, none⟩ = some (.int .i64 x3) ∧ W.cell? ⟨B9, 0, none⟩ = some (.int .i64 x1) ∧ W.cell? ⟨B9, 1, none⟩ = some (.int .i64 x2) ∧ W.cell? ⟨B9, 2, none⟩ = some (.int .i64 x3) ∧ W.cell? ⟨B9, 3, none⟩ = some (.int .i64 xe) ∧ W.cell? ⟨B10, 0, none⟩ = some (.int .i64 y1) ∧ W.cell? ⟨B10, 1, none⟩ = some (.int .i64 y2) ∧ W.cell? ⟨B10, 2, none⟩ = some (.int .i64 y3) ∧ W.cell? ⟨B12, 0, none⟩ = some (.int .i64 y1) ∧ W.cell? ⟨B12, 1, none⟩ = some (.int .i64 y2) ∧ W.cell? ⟨B12, 2, none⟩ = some (.int .i64 y3) ∧ W.cell? ⟨B12, 3, none⟩ = some (.int .i64 ye) ∧ W.cell? ⟨B15, 0, none⟩ = some (.slice a15 cs.length k15) ∧ W.cell? ⟨B15, 1, none⟩ = some (.int .i64 ce))
    (first | exact HC.out _ B0.out | exact HC.out _ B1.out | exact HC.out _ B2.out | exact HC.out _ B3'.out | go_keep)
    (first | (go_at_call 22; refine (VA.out _ (Lib.hid (TA.out _ B0.out).1.1)).mono ?_; rintro e V1 ⟨rfl, hb⟩; have B1 := Lib.hid (B0.out.trans (hb.mono B0.out.size)); clear hb) | (go_at_call 23; refine (VB.out _).mono ?_; rintro e V2 ⟨rfl, hb⟩; have B2 := Lib.hid (B1.out.trans (hb.mono B1.out.size)); clear hb) | (go_at_call 24; refine (same_true _ _ cs _ (TA.out _ B2.out).1.2 (TA.out _ B2.out).2).mono ?_; rintro e V3 ⟨rfl, hb⟩; have B3' := Lib.hid (B2.out.trans (hb.mono B2.out.size)); clear hb))
  have ST16 := St.call ST15 B3'.out
  clear HC TA B0 B1 B2 B3' ST15 XA XB YA YB CA CB VA VB nX nY
  obtain ⟨cB50, cB51, cB52⟩ := St.cells3 ST16 5 rfl
  have zB5 := St.lt ST16 5 rfl
  go_wp2_with fail
  clear cB50 cB51 cB52 zB5
  obtain ⟨iv, hiv⟩ : ∃ iv, ivB n1 n2 = iv := ⟨_, rfl⟩
  have hd : (iv = true ∧ 0 ≤ n1 ∧ n1 ≤ n2 ∧ n2 ≤ 1402560) ∨ iv = false := by
    cases iv
    · exact .inr rfl
    · exact .inl ⟨rfl, ivB_iff.1 hiv⟩
  have RI := Lib.hid (fun W => rinterval_eq n1 n2 iv W hiv)
  clear hiv
  refine (RI.out _).mono ?_
  rintro e V4 ⟨rfl, rfl⟩
  clear RI
  rcases hd with ⟨rfl, e1, e2, e3⟩ | rfl
  · by_cases h5 : 5000 < n2 - n1
    ·
      have b5 : decide (5000 < n2 - n1) = true := by simpa using h5
      obtain ⟨cB50, cB51, cB52⟩ := St.cells3 ST16 5 rfl
      have zB5 := St.lt ST16 5 rfl
      go_wp2_with fail
      clear cB50 cB51 cB52 zB5
      refine (HSA.out _ (Lib.hid ST16.out.tab.1.1)).mono ?_
      rintro e U1 ⟨rfl, hb⟩
      have ST17 := St.call ST16 hb
      clear hb ST16 
      go_wp2_with fail
      go_ret
      exact ⟨rfl, ST17.out.bel⟩
    ·
      have b5 : decide (5000 < n2 - n1) = false := by simp; omega
      obtain ⟨cB50, cB51, cB52⟩ := St.cells3 ST16 5 rfl
      have zB5 := St.lt ST16 5 rfl
      go_wp2_with fail
      clear cB50 cB51 cB52 zB5
      refine (MA.out _ (Lib.hid ST16.out.tab.1.1)).mono ?_
      rintro e U1 ⟨v17, rfl, hR, hb⟩
      have ST17 := St.call ST16 hb
      clear hb ST16 
      have ST18 := St.more ST17 hR (stays_reads v17 ms)
      clear ST17
      clear hR
      obtain ⟨cB50, cB51, cB52⟩ := St.cells3 ST18 5 rfl
      have zB5 := St.lt ST18 5 rfl
      go_wp2_with fail
      clear cB50 cB51 cB52 zB5
      refine (MB.out _).mono ?_
      rintro e U2 ⟨v19, rfl, hR, hb⟩
      have ST19 := St.call ST18 hb
      clear hb ST18 U1
      obtain ⟨a19, k19, rfl⟩ := reads_shape hR
      have ST20 := St.more ST19 hR (stays_reads _ ms)
      clear ST19
      clear hR
      go_wp2_with fail
      obtain ⟨U3, B19, hW, hB, -, ST21⟩ := St.box ST20 (.cells #[.slice a19 ms.length k19, (.int .i64 me)] 50)
      rw [← hW, ← hB]
      clear ST20 hW hB U2
      refine (HSA.out _ (Lib.hid ST21.out.tab.1.1.1.1)).mono ?_
      rintro e U4 ⟨rfl, hb⟩
      have ST22 := St.call ST21 hb
      clear hb ST21 U3
      obtain ⟨cB190, cB191⟩ := St.cells2 ST22 0 rfl
      have zB19 := St.lt ST22 0 rfl
      go_wp2_with fail
      clear cB190 cB191 zB19
      refine (same_true _ _ ms _ ST22.out.tab.1.2 ST22.out.tab.2).mono ?_
      rintro e U5 ⟨rfl, hb⟩
      have ST23 := St.call ST22 hb
      clear hb ST22 U4
      obtain ⟨cB190, cB191⟩ := St.cells2 ST23 0 rfl
      have zB19 := St.lt ST23 0 rfl
      go_wp2_with fail
      go_ret
      exact ⟨rfl, ST23.out.bel⟩
  ·
    obtain ⟨cB50, cB51, cB52⟩ := St.cells3 ST16 5 rfl
    have zB5 := St.lt ST16 5 rfl
    go_wp2_with fail
    clear cB50 cB51 cB52 zB5
    refine (MA.out _ (Lib.hid ST16.out.tab.1.1)).mono ?_
    rintro e U1 ⟨v17, rfl, hR, hb⟩
    have ST17 := St.call ST16 hb
    clear hb ST16 
    have ST18 := St.more ST17 hR (stays_reads v17 ms)
    clear ST17
    clear hR
    obtain ⟨cB50, cB51, cB52⟩ := St.cells3 ST18 5 rfl
    have zB5 := St.lt ST18 5 rfl
    go_wp2_with fail
    clear cB50 cB51 cB52 zB5
    refine (MB.out _).mono ?_
    rintro e U2 ⟨v19, rfl, hR, hb⟩
    have ST19 := St.call ST18 hb
    clear hb ST18 U1
    obtain ⟨a19, k19, rfl⟩ := reads_shape hR
    have ST20 := St.more ST19 hR (stays_reads _ ms)
    clear ST19
    clear hR
    go_wp2_with fail
    obtain ⟨U3, B19, hW, hB, -, ST21⟩ := St.box ST20 (.cells #[.slice a19 ms.length k19, (.int .i64 me)] 50)
    rw [← hW, ← hB]
    clear ST20 hW hB U2
    refine (HSA.out _ (Lib.hid ST21.out.tab.1.1.1.1)).mono ?_
    rintro e U4 ⟨rfl, hb⟩
    have ST22 := St.call ST21 hb
    clear hb ST21 U3
    obtain ⟨cB190, cB191⟩ := St.cells2 ST22 0 rfl
    have zB19 := St.lt ST22 0 rfl
    go_wp2_with fail
    clear cB190 cB191 zB19
    refine (same_true _ _ ms _ ST22.out.tab.1.2 ST22.out.tab.2).mono ?_
    rintro e U5 ⟨rfl, hb⟩
    have ST23 := St.call ST22 hb
    clear hb ST22 U4
    obtain ⟨cB190, cB191⟩ := St.cells2 ST23 0 rfl
    have zB19 := St.lt ST23 0 rfl
    go_wp2_with fail
    go_ret
    exact ⟨rfl, ST23.out.bel⟩
end Go.Proofs.YtfcfdphkaildiaaDoor
