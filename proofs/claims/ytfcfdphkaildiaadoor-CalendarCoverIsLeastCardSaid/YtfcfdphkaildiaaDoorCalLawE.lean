/- Walk of the calendar's statement CalendarNests. Conditions: TabOK. Printed by gen_lawe.py. -/
import Derived.Test.YtfcfdphkaildiaaDoorCalLawC
import Derived.Test.YtfcfdphkaildiaaDoorCalPlainF
namespace Go.Proofs.YtfcfdphkaildiaaDoor
open Go Go.Proofs Go.RowKit
attribute [local go_sem] Oper.semAt_some

theorem stays_cells (b off : Nat) (xs : List Bn) : Stays (fun W => CellsAt W b off xs) := fun _ _ h hb => h.below hb
theorem int_emod_self (n m : Int) (h0 : 0 ≤ n) (h1 : n < m) : n % m = n := Int.emod_eq_of_lt h0 h1
theorem gt_no {a b : Int} (h : a ≤ b) : decide (b < a) = false := by simp; omega
theorem le_no {a b : Int} (h : a < b) : decide (b ≤ a) = false := by simp; omega


set_option maxRecDepth 20000 in
set_option maxHeartbeats 4000000 in
theorem nests_4 (lev tick n at_ : Int) (w : World) (hT : Hid (TabOK w)) (p0 : 0 ≤ lev) (p1 : lev < 256) (q0 : 0 ≤ tick) (q1 : tick < 4294967296) (hn : lev % 5 = n) (hat : tick % 1402560 = at_) (hn4 : n = 4) :
    Calls Tryd.prog 7 #[.int .u8 lev, .int .u32 tick] w fun e w' => e = .returned (.bool true) ∧ Below w.heap.size w w' := by
  have n0 : 0 ≤ n := by omega
  have n4 : n ≤ 4 := by omega
  have t0 : 0 ≤ at_ := by omega
  have t1 : at_ < 1402560 := by omega
  have hl := lh n at_ n0 n4 t0 t1
  obtain ⟨v1, v2, v3, v4⟩ := valid_block n0 n4 t0 t1
  have BA := Lib.hid (fun (W : World) (h : TabOK W) => block_yes n at_ W h n0 n4 t0 t1)
  have PA : Hid (∀ W, TabOK W → Calls Tryd.prog 18 #[(.agg #[(.int .i64 n), (.int .i64 (lo n at_)), (.int .i64 (hi n at_))])] W fun e w' => e = .returned (.tuple #[(.agg #[(.int .i64 0), (.int .i64 0), (.int .i64 0)]), (.int .i64 8)]) ∧ Below W.heap.size W w') := fun W h => by
    have hv : validB n (lo n at_) (hi n at_) = true := validB_iff.2 ⟨n0, n4, v1, v2, v3, v4⟩
    have := parent_no n (lo n at_) (hi n at_) W (Lib.hid h) (.inr ⟨hv, hn4⟩)
    rwa [show parE n (lo n at_) (hi n at_) = 8 from by unfold parE; rw [if_pos hv, if_pos hn4]] at this
  have k4 : (n == 4) = true := by simp [hn4]
  have k0 : (n == 0) = false := by simp [hn4]
  have n1 : 1 ≤ n := by omega
  clear hn4
  have KA : Hid (∃ xs : List Bn, xs ≠ [] ∧ xs.length ≤ 1402560 ∧ Proofs.YtfcfdphkaildiaaDoor.atEnd (lo n at_) (xs.take xs.length) = hi n at_ ∧ (∀ W, TabOK W → Calls Tryd.prog 20 #[(.agg #[(.int .i64 n), (.int .i64 (lo n at_)), (.int .i64 (hi n at_))])] W (RetBins xs 0 W)) ∧
      ∀ (k : Nat) (x : Bn), xs[k]? = some x → x.1 = n - 1 ∧ Proofs.YtfcfdphkaildiaaDoor.atEnd (lo n at_) (xs.take k) = x.2.1 ∧ Proofs.YtfcfdphkaildiaaDoor.atEnd (lo n at_) (xs.take (k + 1)) = x.2.2 ∧
        (∀ W, TabOK W → Calls Tryd.prog 18 #[(.agg #[(.int .i64 (n - 1)), (.int .i64 (x.2.1)), (.int .i64 (x.2.2))])] W fun e w' => e = .returned (.tuple #[(.agg #[(.int .i64 n), (.int .i64 (lo n at_)), (.int .i64 (hi n at_))]), (.int .i64 0)]) ∧ Below W.heap.size W w') ∧
        (∀ W, TabOK W → Calls Tryd.prog 22 #[(.agg #[(.int .i64 (n - 1)), (.int .i64 (x.2.1)), (.int .i64 (x.2.2))])] W fun e w' => e = .returned (.bool true) ∧ Below W.heap.size W w')) := by
    have hv : validB n (lo n at_) (hi n at_) = true := validB_iff.2 ⟨n0, n4, v1, v2, v3, v4⟩
    have en : n - 1 + 1 = n := by omega
    obtain ⟨c1, c2, c3⟩ := children_chain (l := n - 1) (a := lo n at_) (b := hi n at_) (by omega) (by omega) v1 v2 (by rw [en]; exact v3) (by rw [en]; exact v4)
    refine ⟨insL (n - 1) (lo n at_) (hi n at_), c1, insL_len (by omega) (by omega) v1 hl.b1, ?_, fun W h => children_yes n _ _ W (Lib.hid h) hv (by omega), fun k x hx => ?_⟩
    · rw [List.take_length]; exact c2.atEnd _ (fun h => absurd h c1)
    · obtain ⟨d1, d2, d3, d4, d5⟩ := c2.at_ hx
      obtain ⟨b1, b2, b3, b4, b5⟩ := c3 x (List.mem_of_getElem? hx)
      have hvx : validB (n - 1) x.2.1 x.2.2 = true := validB_iff.2 ⟨by omega, by omega, b2, b3, b4, b5⟩
      have bs := block_same (l := n) (t := at_) (x := x.2.1) n0 n4 t0 t1 d2 (by omega)
      refine ⟨b1, d1, d5, fun W h => ?_, fun W h => ?_⟩
      · have := parent_yes (n - 1) x.2.1 x.2.2 W (Lib.hid h) hvx (by omega)
        rwa [en, bs.1, bs.2] at this
      · have := valid_any (n - 1) x.2.1 x.2.2 W (Lib.hid h)
        rwa [hvx] at this
  have e1 := hl.lo
  have e2 := hl.hi
  have e3 := hl.b1
  clear hl
  generalize ha : lo n at_ = a at *
  generalize hb : hi n at_ = b at *
  have HAB := Lib.hid (And.intro ha hb)
  clear ha hb
  have VA : Hid (∀ W, TabOK W → Calls Tryd.prog 22 #[(.agg #[(.int .i64 n), (.int .i64 a), (.int .i64 b)])] W fun e w' => e = .returned (.bool true) ∧ Below W.heap.size W w') := fun W h => by
    have := valid_any n a b W (Lib.hid h)
    rwa [show validB n a b = true from validB_iff.2 ⟨n0, n4, v1, v2, v3, v4⟩] at this
  have BN : Hid (b < 1402560 → ∃ c, ∀ W, TabOK W → Calls Tryd.prog 16 #[(.int .i64 n), (.int .i64 b)] W fun e w' => e = .returned (.tuple #[(.agg #[(.int .i64 n), (.int .i64 b), (.int .i64 c)]), (.int .i64 0)]) ∧ Below W.heap.size W w') := fun h => by
    have hh := lo_hi (l := n) (t := at_) n0 n4 t0 t1 (by rw [HAB.out.2]; exact h)
    rw [HAB.out.2] at hh
    refine ⟨hi n b, fun W hw => ?_⟩
    have := block_yes n b W (Lib.hid hw) n0 n4 (by omega) h
    rwa [hh] at this
  have HSA : Hid (∀ W, Hid (TabOK W) → Calls Tryd.prog 13 #[] W fun e w' => e = .returned (.bool true) ∧ Below W.heap.size W w') := fun W h => sanity_any W h
  have V3 := Lib.hid v3
  have V4 := Lib.hid v4
  clear v3 v4 HAB
  have k1 : (n != n) = false := by simp
  have k2 : decide (at_ < a) = false := gt_no e1
  have k3 : decide (b ≤ at_) = false := le_no e2
  have kb : (b != b) = false := by simp
  have nP := fun x y z (W : World) => neq_self x y z W
  have ST0 := St.start hT.out stays_tab
  go_enter Tryd.func7, Tryd.ntmps7
  go_wp2_with fail
  refine (BA.out _ ST0.out.tab).mono ?_
  rintro e W1 ⟨rfl, hb⟩
  have ST1 := St.call ST0 hb
  clear hb ST0 
  go_wp2_with fail
  obtain ⟨W2, B7, hW, hB, -, ST2⟩ := St.box ST1 (.cells #[(.int .i64 n), (.int .i64 a), (.int .i64 b)] 38)
  rw [← hW, ← hB]
  clear ST1 hW hB W1
  refine (VA.out _ ST2.out.tab).mono ?_
  rintro e W1 ⟨rfl, hb⟩
  have ST3 := St.call ST2 hb
  clear hb ST2 W2
  by_cases hbm : b < 1402560
  ·
    have kbm : decide (b < 1402560) = true := by simpa using hbm
    obtain ⟨c, hc⟩ := BN.out hbm
    have HCN := Lib.hid hc
    clear hc BN hbm
    obtain ⟨cB70, cB71, cB72⟩ := St.cells3 ST3 0 rfl
    have zB7 := St.lt ST3 0 rfl
    go_wp2_with fail
    clear cB70 cB71 cB72 zB7
    refine (HCN.out _ ST3.out.tab).mono ?_
    rintro e W2 ⟨rfl, hb⟩
    have ST4 := St.call ST3 hb
    clear hb ST3 W1
    obtain ⟨cB70, cB71, cB72⟩ := St.cells3 ST4 0 rfl
    have zB7 := St.lt ST4 0 rfl
    go_wp2_with fail
    clear cB70 cB71 cB72 zB7
    obtain ⟨W1, B9, hW, hB, -, ST5⟩ := St.box ST4 (.cells #[(.int .i64 n), (.int .i64 b), (.int .i64 c)] 38)
    rw [← hW, ← hB]
    clear ST4 hW hB W2
    refine (PA.out _ ST5.out.tab).mono ?_
    rintro e W2 ⟨rfl, hb⟩
    have ST6 := St.call ST5 hb
    clear hb ST5 W1
    obtain ⟨cB70, cB71, cB72⟩ := St.cells3 ST6 1 rfl
    have zB7 := St.lt ST6 1 rfl
    go_wp2_with fail
    clear cB70 cB71 cB72 zB7
    obtain ⟨W1, B11, hW, hB, -, ST7⟩ := St.box ST6 (.cells #[(.int .i64 0), (.int .i64 0), (.int .i64 0)] 38)
    rw [← hW, ← hB]
    clear ST6 hW hB W2
    obtain ⟨xs, x1, x2, x3, x4, x5⟩ := KA.out
    have KC := Lib.hid x4
    have KX := Lib.hid x5
    have KE := Lib.hid x3
    clear KA x3 x4 x5
    refine (KC.out _ ST7.out.tab).mono ?_
    rintro e V1 ⟨v15, rfl, hR, hb⟩
    have ST8 := St.call ST7 hb
    clear hb ST7 
    obtain ⟨bb, off, cap, hv15, hcap, hmax, hcells⟩ : ∃ b off cap, v15 = .slice (some ⟨b, off, none⟩) xs.length cap ∧ xs.length ≤ cap ∧ cap ≤ 9223372036854775807 ∧ CellsAt V1 b off xs := by
      rcases hR with ⟨-, h⟩ | ⟨b, off, cap, h1, h2, h3, h4⟩
      · exact absurd h x1
      · exact ⟨b, off, cap, h1, h2, h3, h4⟩
    subst hv15
    have ST9 := St.more ST8 hcells (stays_cells bb off xs)
    clear ST8
    clear hcells hR x1 hmax KC
    obtain ⟨cB70, cB71, cB72⟩ := St.cells3 ST9 2 rfl
    have zB7 := St.lt ST9 2 rfl
    go_wp2_with fail
    clear cB70 cB71 cB72 zB7
    have HL := Lib.hid (show Proofs.YtfcfdphkaildiaaDoor.atEnd a (xs.take 0) = a from by simp [Proofs.YtfcfdphkaildiaaDoor.atEnd])
    go_loopw [140, 17] (fun i u wr => ∃ k : Nat, k ≤ xs.length ∧ i = (.int .i64 k) ∧ u = (.int .i64 (Proofs.YtfcfdphkaildiaaDoor.atEnd a (xs.take k))) ∧ Hid (St (fun W => TabOK W ∧ CellsAt W bb off xs) w wr [(B11, .cells #[(.int .i64 0), (.int .i64 0), (.int .i64 0)] 38), (B9, .cells #[(.int .i64 n), (.int .i64 b), (.int .i64 c)] 38), (B7, .cells #[(.int .i64 n), (.int .i64 a), (.int .i64 b)] 38)])) (fun i _ _ => xs.length - (intOf i).toNat)
    case atStart => exact ⟨0, Nat.zero_le _, rfl, by rw [HL.out], ST9⟩
    case round =>
      clear ST9 HL
      obtain ⟨k, hk, rfl, rfl, ST9⟩ := hrel
      by_cases hlt : k < xs.length
      ·
        obtain ⟨x, hx⟩ : ∃ x, xs[k]? = some x := ⟨xs[k], List.getElem?_eq_getElem hlt⟩
        obtain ⟨y1, y2, y3, y4, y5⟩ := KX.out k x hx
        have YP := Lib.hid y4
        have YV := Lib.hid y5
        have YE := Lib.hid y3
        have YB := Lib.hid y2
        obtain ⟨d0, d1, d2⟩ := ST9.out.tab.2 k hlt
        rw [show xs.getD k (0, 0, 0) = x from by rw [List.getD_eq_getElem?_getD, hx]; rfl] at d0 d1 d2
        obtain ⟨z1, z2, z3⟩ := x
        simp only at y1 d0 d1 d2
        subst y1
        rw [y2]
        clear y2 y3 y4 y5 hx
        have kl : (n - 1 != n - 1) = false := by simp
        have kz : (z2 != z2) = false := by simp
        go_wp2_with fail
        clear d0 d1 d2
        obtain ⟨X1, B19, hW, hB, -, ST10⟩ := St.box ST9 (.cells #[(.int .i64 (n - 1)), (.int .i64 z2), (.int .i64 z3)] 38)
        rw [← hW, ← hB]
        clear ST9 hW hB
        refine (YP.out _ ST10.out.tab.1).mono ?_
        rintro e X2 ⟨rfl, hb⟩
        have ST11 := St.call ST10 hb
        clear hb ST10 X1
        obtain ⟨cB190, cB191, cB192⟩ := St.cells3 ST11 0 rfl
        have zB19 := St.lt ST11 0 rfl
        go_wp2_with fail
        clear cB190 cB191 cB192 zB19
        obtain ⟨X1, B20, hW, hB, -, ST12⟩ := St.box ST11 (.cells #[(.int .i64 n), (.int .i64 a), (.int .i64 b)] 38)
        rw [← hW, ← hB]
        clear ST11 hW hB X2
        refine (YV.out _ ST12.out.tab.1).mono ?_
        rintro e X2 ⟨rfl, hb⟩
        have ST13 := St.call ST12 hb
        clear hb ST12 X1
        obtain ⟨cB190, cB191, cB192⟩ := St.cells3 ST13 1 rfl
        have zB19 := St.lt ST13 1 rfl
        obtain ⟨cB200, cB201, cB202⟩ := St.cells3 ST13 0 rfl
        have zB20 := St.lt ST13 0 rfl
        obtain ⟨cB70, cB71, cB72⟩ := St.cells3 ST13 4 rfl
        have zB7 := St.lt ST13 4 rfl
        go_wp2_with fail
        clear cB190 cB191 cB192 zB19 cB200 cB201 cB202 zB20 cB70 cB71 cB72 zB7
        go_roundw
        case rel => exact ⟨k + 1, hlt, by go_num, by rw [YE.out], Lib.hid (St.mk (fun p hp => ST13.out.lays p (List.mem_cons_of_mem _ (List.mem_cons_of_mem _ hp))) ST13.out.bel ST13.out.tab ST13.out.stays)⟩
        case measure => simp [intOf]; omega
      ·
        obtain rfl : k = xs.length := by omega
        rw [KE.out]
        have kbb : (b == b) = true := by simp
        go_wp2_with fail
        refine (HSA.out _ (Lib.hid ST9.out.tab.1)).mono ?_
        rintro e X1 ⟨rfl, hb⟩
        have ST10 := St.call ST9 hb
        clear hb ST9 
        obtain ⟨cB70, cB71, cB72⟩ := St.cells3 ST10 2 rfl
        have zB7 := St.lt ST10 2 rfl
        go_wp2_with fail
        go_ret
        exact ⟨rfl, ST10.out.bel⟩
  ·
    have kbm : decide (b < 1402560) = false := by simpa using hbm
    clear BN hbm
    obtain ⟨cB70, cB71, cB72⟩ := St.cells3 ST3 0 rfl
    have zB7 := St.lt ST3 0 rfl
    go_wp2_with fail
    clear cB70 cB71 cB72 zB7
    refine (PA.out _ ST3.out.tab).mono ?_
    rintro e W2 ⟨rfl, hb⟩
    have ST4 := St.call ST3 hb
    clear hb ST3 W1
    obtain ⟨cB70, cB71, cB72⟩ := St.cells3 ST4 0 rfl
    have zB7 := St.lt ST4 0 rfl
    go_wp2_with fail
    clear cB70 cB71 cB72 zB7
    obtain ⟨W1, B11, hW, hB, -, ST5⟩ := St.box ST4 (.cells #[(.int .i64 0), (.int .i64 0), (.int .i64 0)] 38)
    rw [← hW, ← hB]
    clear ST4 hW hB W2
    obtain ⟨xs, x1, x2, x3, x4, x5⟩ := KA.out
    have KC := Lib.hid x4
    have KX := Lib.hid x5
    have KE := Lib.hid x3
    clear KA x3 x4 x5
    refine (KC.out _ ST5.out.tab).mono ?_
    rintro e V1 ⟨v15, rfl, hR, hb⟩
    have ST6 := St.call ST5 hb
    clear hb ST5 
    obtain ⟨bb, off, cap, hv15, hcap, hmax, hcells⟩ : ∃ b off cap, v15 = .slice (some ⟨b, off, none⟩) xs.length cap ∧ xs.length ≤ cap ∧ cap ≤ 9223372036854775807 ∧ CellsAt V1 b off xs := by
      rcases hR with ⟨-, h⟩ | ⟨b, off, cap, h1, h2, h3, h4⟩
      · exact absurd h x1
      · exact ⟨b, off, cap, h1, h2, h3, h4⟩
    subst hv15
    have ST7 := St.more ST6 hcells (stays_cells bb off xs)
    clear ST6
    clear hcells hR x1 hmax KC
    obtain ⟨cB70, cB71, cB72⟩ := St.cells3 ST7 1 rfl
    have zB7 := St.lt ST7 1 rfl
    go_wp2_with fail
    clear cB70 cB71 cB72 zB7
    have HL := Lib.hid (show Proofs.YtfcfdphkaildiaaDoor.atEnd a (xs.take 0) = a from by simp [Proofs.YtfcfdphkaildiaaDoor.atEnd])
    go_loopw [140, 17] (fun i u wr => ∃ k : Nat, k ≤ xs.length ∧ i = (.int .i64 k) ∧ u = (.int .i64 (Proofs.YtfcfdphkaildiaaDoor.atEnd a (xs.take k))) ∧ Hid (St (fun W => TabOK W ∧ CellsAt W bb off xs) w wr [(B11, .cells #[(.int .i64 0), (.int .i64 0), (.int .i64 0)] 38), (B7, .cells #[(.int .i64 n), (.int .i64 a), (.int .i64 b)] 38)])) (fun i _ _ => xs.length - (intOf i).toNat)
    case atStart => exact ⟨0, Nat.zero_le _, rfl, by rw [HL.out], ST7⟩
    case round =>
      clear ST7 HL
      obtain ⟨k, hk, rfl, rfl, ST7⟩ := hrel
      by_cases hlt : k < xs.length
      ·
        obtain ⟨x, hx⟩ : ∃ x, xs[k]? = some x := ⟨xs[k], List.getElem?_eq_getElem hlt⟩
        obtain ⟨y1, y2, y3, y4, y5⟩ := KX.out k x hx
        have YP := Lib.hid y4
        have YV := Lib.hid y5
        have YE := Lib.hid y3
        have YB := Lib.hid y2
        obtain ⟨d0, d1, d2⟩ := ST7.out.tab.2 k hlt
        rw [show xs.getD k (0, 0, 0) = x from by rw [List.getD_eq_getElem?_getD, hx]; rfl] at d0 d1 d2
        obtain ⟨z1, z2, z3⟩ := x
        simp only at y1 d0 d1 d2
        subst y1
        rw [y2]
        clear y2 y3 y4 y5 hx
        have kl : (n - 1 != n - 1) = false := by simp
        have kz : (z2 != z2) = false := by simp
        go_wp2_with fail
        clear d0 d1 d2
        obtain ⟨X1, B19, hW, hB, -, ST8⟩ := St.box ST7 (.cells #[(.int .i64 (n - 1)), (.int .i64 z2), (.int .i64 z3)] 38)
        rw [← hW, ← hB]
        clear ST7 hW hB
        refine (YP.out _ ST8.out.tab.1).mono ?_
        rintro e X2 ⟨rfl, hb⟩
        have ST9 := St.call ST8 hb
        clear hb ST8 X1
        obtain ⟨cB190, cB191, cB192⟩ := St.cells3 ST9 0 rfl
        have zB19 := St.lt ST9 0 rfl
        go_wp2_with fail
        clear cB190 cB191 cB192 zB19
        obtain ⟨X1, B20, hW, hB, -, ST10⟩ := St.box ST9 (.cells #[(.int .i64 n), (.int .i64 a), (.int .i64 b)] 38)
        rw [← hW, ← hB]
        clear ST9 hW hB X2
        refine (YV.out _ ST10.out.tab.1).mono ?_
        rintro e X2 ⟨rfl, hb⟩
        have ST11 := St.call ST10 hb
        clear hb ST10 X1
        obtain ⟨cB190, cB191, cB192⟩ := St.cells3 ST11 1 rfl
        have zB19 := St.lt ST11 1 rfl
        obtain ⟨cB200, cB201, cB202⟩ := St.cells3 ST11 0 rfl
        have zB20 := St.lt ST11 0 rfl
        obtain ⟨cB70, cB71, cB72⟩ := St.cells3 ST11 3 rfl
        have zB7 := St.lt ST11 3 rfl
        go_wp2_with fail
        clear cB190 cB191 cB192 zB19 cB200 cB201 cB202 zB20 cB70 cB71 cB72 zB7
        go_roundw
        case rel => exact ⟨k + 1, hlt, by go_num, by rw [YE.out], Lib.hid (St.mk (fun p hp => ST11.out.lays p (List.mem_cons_of_mem _ (List.mem_cons_of_mem _ hp))) ST11.out.bel ST11.out.tab ST11.out.stays)⟩
        case measure => simp [intOf]; omega
      ·
        obtain rfl : k = xs.length := by omega
        rw [KE.out]
        have kbb : (b == b) = true := by simp
        go_wp2_with fail
        refine (HSA.out _ (Lib.hid ST7.out.tab.1)).mono ?_
        rintro e X1 ⟨rfl, hb⟩
        have ST8 := St.call ST7 hb
        clear hb ST7 
        obtain ⟨cB70, cB71, cB72⟩ := St.cells3 ST8 1 rfl
        have zB7 := St.lt ST8 1 rfl
        go_wp2_with fail
        go_ret
        exact ⟨rfl, ST8.out.bel⟩

set_option maxRecDepth 20000 in
set_option maxHeartbeats 4000000 in
theorem nests_m (lev tick n at_ : Int) (w : World) (hT : Hid (TabOK w)) (p0 : 0 ≤ lev) (p1 : lev < 256) (q0 : 0 ≤ tick) (q1 : tick < 4294967296) (hn : lev % 5 = n) (hat : tick % 1402560 = at_) (n1 : 1 ≤ n) (hn3 : n ≤ 3) :
    Calls Tryd.prog 7 #[.int .u8 lev, .int .u32 tick] w fun e w' => e = .returned (.bool true) ∧ Below w.heap.size w w' := by
  have n0 : 0 ≤ n := by omega
  have n4 : n ≤ 4 := by omega
  have t0 : 0 ≤ at_ := by omega
  have t1 : at_ < 1402560 := by omega
  have hl := lh n at_ n0 n4 t0 t1
  obtain ⟨v1, v2, v3, v4⟩ := valid_block n0 n4 t0 t1
  have BA := Lib.hid (fun (W : World) (h : TabOK W) => block_yes n at_ W h n0 n4 t0 t1)
  have KA : Hid (∃ xs : List Bn, xs ≠ [] ∧ xs.length ≤ 1402560 ∧ Proofs.YtfcfdphkaildiaaDoor.atEnd (lo n at_) (xs.take xs.length) = hi n at_ ∧ (∀ W, TabOK W → Calls Tryd.prog 20 #[(.agg #[(.int .i64 n), (.int .i64 (lo n at_)), (.int .i64 (hi n at_))])] W (RetBins xs 0 W)) ∧
      ∀ (k : Nat) (x : Bn), xs[k]? = some x → x.1 = n - 1 ∧ Proofs.YtfcfdphkaildiaaDoor.atEnd (lo n at_) (xs.take k) = x.2.1 ∧ Proofs.YtfcfdphkaildiaaDoor.atEnd (lo n at_) (xs.take (k + 1)) = x.2.2 ∧
        (∀ W, TabOK W → Calls Tryd.prog 18 #[(.agg #[(.int .i64 (n - 1)), (.int .i64 (x.2.1)), (.int .i64 (x.2.2))])] W fun e w' => e = .returned (.tuple #[(.agg #[(.int .i64 n), (.int .i64 (lo n at_)), (.int .i64 (hi n at_))]), (.int .i64 0)]) ∧ Below W.heap.size W w') ∧
        (∀ W, TabOK W → Calls Tryd.prog 22 #[(.agg #[(.int .i64 (n - 1)), (.int .i64 (x.2.1)), (.int .i64 (x.2.2))])] W fun e w' => e = .returned (.bool true) ∧ Below W.heap.size W w')) := by
    have hv : validB n (lo n at_) (hi n at_) = true := validB_iff.2 ⟨n0, n4, v1, v2, v3, v4⟩
    have en : n - 1 + 1 = n := by omega
    obtain ⟨c1, c2, c3⟩ := children_chain (l := n - 1) (a := lo n at_) (b := hi n at_) (by omega) (by omega) v1 v2 (by rw [en]; exact v3) (by rw [en]; exact v4)
    refine ⟨insL (n - 1) (lo n at_) (hi n at_), c1, insL_len (by omega) (by omega) v1 hl.b1, ?_, fun W h => children_yes n _ _ W (Lib.hid h) hv (by omega), fun k x hx => ?_⟩
    · rw [List.take_length]; exact c2.atEnd _ (fun h => absurd h c1)
    · obtain ⟨d1, d2, d3, d4, d5⟩ := c2.at_ hx
      obtain ⟨b1, b2, b3, b4, b5⟩ := c3 x (List.mem_of_getElem? hx)
      have hvx : validB (n - 1) x.2.1 x.2.2 = true := validB_iff.2 ⟨by omega, by omega, b2, b3, b4, b5⟩
      have bs := block_same (l := n) (t := at_) (x := x.2.1) n0 n4 t0 t1 d2 (by omega)
      refine ⟨b1, d1, d5, fun W h => ?_, fun W h => ?_⟩
      · have := parent_yes (n - 1) x.2.1 x.2.2 W (Lib.hid h) hvx (by omega)
        rwa [en, bs.1, bs.2] at this
      · have := valid_any (n - 1) x.2.1 x.2.2 W (Lib.hid h)
        rwa [hvx] at this
  have k0 : (n == 0) = false := by simp; omega
  have np := nest_parent n0 hn3 t0 t1
  have nl := nest_le n0 hn3 t0 t1
  have k4 : (n == 4) = false := by simp; omega
  have PA : Hid (∀ W, TabOK W → Calls Tryd.prog 18 #[(.agg #[(.int .i64 n), (.int .i64 (lo n at_)), (.int .i64 (hi n at_))])] W fun e w' => e = .returned (.tuple #[(.agg #[(.int .i64 (n + 1)), (.int .i64 (lo (n + 1) at_)), (.int .i64 (hi (n + 1) at_))]), (.int .i64 0)]) ∧ Below W.heap.size W w') := fun W h => by
    have := parent_yes n (lo n at_) (hi n at_) W (Lib.hid h) (validB_iff.2 ⟨n0, n4, v1, v2, v3, v4⟩) (by omega)
    rwa [np.1, np.2] at this
  have UA := Lib.hid (fun (W : World) (h : TabOK W) => block_yes (n + 1) at_ W h (by omega) (by omega) t0 t1)
  have k5 : decide (lo n at_ < lo (n + 1) at_) = false := gt_no nl.1
  have k6 : decide (hi (n + 1) at_ < hi n at_) = false := gt_no nl.2
  clear np nl
  generalize lo (n + 1) at_ = pa at *
  generalize hi (n + 1) at_ = pb at *
  have e1 := hl.lo
  have e2 := hl.hi
  have e3 := hl.b1
  clear hl
  generalize ha : lo n at_ = a at *
  generalize hb : hi n at_ = b at *
  have HAB := Lib.hid (And.intro ha hb)
  clear ha hb
  have VA : Hid (∀ W, TabOK W → Calls Tryd.prog 22 #[(.agg #[(.int .i64 n), (.int .i64 a), (.int .i64 b)])] W fun e w' => e = .returned (.bool true) ∧ Below W.heap.size W w') := fun W h => by
    have := valid_any n a b W (Lib.hid h)
    rwa [show validB n a b = true from validB_iff.2 ⟨n0, n4, v1, v2, v3, v4⟩] at this
  have BN : Hid (b < 1402560 → ∃ c, ∀ W, TabOK W → Calls Tryd.prog 16 #[(.int .i64 n), (.int .i64 b)] W fun e w' => e = .returned (.tuple #[(.agg #[(.int .i64 n), (.int .i64 b), (.int .i64 c)]), (.int .i64 0)]) ∧ Below W.heap.size W w') := fun h => by
    have hh := lo_hi (l := n) (t := at_) n0 n4 t0 t1 (by rw [HAB.out.2]; exact h)
    rw [HAB.out.2] at hh
    refine ⟨hi n b, fun W hw => ?_⟩
    have := block_yes n b W (Lib.hid hw) n0 n4 (by omega) h
    rwa [hh] at this
  have HSA : Hid (∀ W, Hid (TabOK W) → Calls Tryd.prog 13 #[] W fun e w' => e = .returned (.bool true) ∧ Below W.heap.size W w') := fun W h => sanity_any W h
  have V3 := Lib.hid v3
  have V4 := Lib.hid v4
  clear v3 v4 HAB
  have k1 : (n != n) = false := by simp
  have k2 : decide (at_ < a) = false := gt_no e1
  have k3 : decide (b ≤ at_) = false := le_no e2
  have kb : (b != b) = false := by simp
  have nP := fun x y z (W : World) => neq_self x y z W
  have ST0 := St.start hT.out stays_tab
  go_enter Tryd.func7, Tryd.ntmps7
  go_wp2_with fail
  refine (BA.out _ ST0.out.tab).mono ?_
  rintro e W1 ⟨rfl, hb⟩
  have ST1 := St.call ST0 hb
  clear hb ST0 
  go_wp2_with fail
  obtain ⟨W2, B7, hW, hB, -, ST2⟩ := St.box ST1 (.cells #[(.int .i64 n), (.int .i64 a), (.int .i64 b)] 38)
  rw [← hW, ← hB]
  clear ST1 hW hB W1
  refine (VA.out _ ST2.out.tab).mono ?_
  rintro e W1 ⟨rfl, hb⟩
  have ST3 := St.call ST2 hb
  clear hb ST2 W2
  by_cases hbm : b < 1402560
  ·
    have kbm : decide (b < 1402560) = true := by simpa using hbm
    obtain ⟨c, hc⟩ := BN.out hbm
    have HCN := Lib.hid hc
    clear hc BN hbm
    obtain ⟨cB70, cB71, cB72⟩ := St.cells3 ST3 0 rfl
    have zB7 := St.lt ST3 0 rfl
    go_wp2_with fail
    clear cB70 cB71 cB72 zB7
    refine (HCN.out _ ST3.out.tab).mono ?_
    rintro e W2 ⟨rfl, hb⟩
    have ST4 := St.call ST3 hb
    clear hb ST3 W1
    obtain ⟨cB70, cB71, cB72⟩ := St.cells3 ST4 0 rfl
    have zB7 := St.lt ST4 0 rfl
    go_wp2_with fail
    clear cB70 cB71 cB72 zB7
    obtain ⟨W1, B9, hW, hB, -, ST5⟩ := St.box ST4 (.cells #[(.int .i64 n), (.int .i64 b), (.int .i64 c)] 38)
    rw [← hW, ← hB]
    clear ST4 hW hB W2
    refine (PA.out _ ST5.out.tab).mono ?_
    rintro e W2 ⟨rfl, hb⟩
    have ST6 := St.call ST5 hb
    clear hb ST5 W1
    obtain ⟨cB70, cB71, cB72⟩ := St.cells3 ST6 1 rfl
    have zB7 := St.lt ST6 1 rfl
    go_wp2_with fail
    clear cB70 cB71 cB72 zB7
    obtain ⟨W1, B11, hW, hB, -, ST7⟩ := St.box ST6 (.cells #[(.int .i64 (n + 1)), (.int .i64 pa), (.int .i64 pb)] 38)
    rw [← hW, ← hB]
    clear ST6 hW hB W2
    refine (UA.out _ ST7.out.tab).mono ?_
    rintro e W2 ⟨rfl, hb⟩
    have ST8 := St.call ST7 hb
    clear hb ST7 W1
    obtain ⟨cB70, cB71, cB72⟩ := St.cells3 ST8 2 rfl
    have zB7 := St.lt ST8 2 rfl
    obtain ⟨cB110, cB111, cB112⟩ := St.cells3 ST8 0 rfl
    have zB11 := St.lt ST8 0 rfl
    go_wp2_with fail
    clear cB70 cB71 cB72 zB7 cB110 cB111 cB112 zB11
    obtain ⟨W1, B13, hW, hB, -, ST9⟩ := St.box ST8 (.cells #[(.int .i64 (n + 1)), (.int .i64 pa), (.int .i64 pb)] 38)
    rw [← hW, ← hB]
    clear ST8 hW hB W2
    obtain ⟨xs, x1, x2, x3, x4, x5⟩ := KA.out
    have KC := Lib.hid x4
    have KX := Lib.hid x5
    have KE := Lib.hid x3
    clear KA x3 x4 x5
    refine (KC.out _ ST9.out.tab).mono ?_
    rintro e V1 ⟨v15, rfl, hR, hb⟩
    have ST10 := St.call ST9 hb
    clear hb ST9 
    obtain ⟨bb, off, cap, hv15, hcap, hmax, hcells⟩ : ∃ b off cap, v15 = .slice (some ⟨b, off, none⟩) xs.length cap ∧ xs.length ≤ cap ∧ cap ≤ 9223372036854775807 ∧ CellsAt V1 b off xs := by
      rcases hR with ⟨-, h⟩ | ⟨b, off, cap, h1, h2, h3, h4⟩
      · exact absurd h x1
      · exact ⟨b, off, cap, h1, h2, h3, h4⟩
    subst hv15
    have ST11 := St.more ST10 hcells (stays_cells bb off xs)
    clear ST10
    clear hcells hR x1 hmax KC
    obtain ⟨cB70, cB71, cB72⟩ := St.cells3 ST11 3 rfl
    have zB7 := St.lt ST11 3 rfl
    go_wp2_with fail
    clear cB70 cB71 cB72 zB7
    have HL := Lib.hid (show Proofs.YtfcfdphkaildiaaDoor.atEnd a (xs.take 0) = a from by simp [Proofs.YtfcfdphkaildiaaDoor.atEnd])
    go_loopw [140, 17] (fun i u wr => ∃ k : Nat, k ≤ xs.length ∧ i = (.int .i64 k) ∧ u = (.int .i64 (Proofs.YtfcfdphkaildiaaDoor.atEnd a (xs.take k))) ∧ Hid (St (fun W => TabOK W ∧ CellsAt W bb off xs) w wr [(B13, .cells #[(.int .i64 (n + 1)), (.int .i64 pa), (.int .i64 pb)] 38), (B11, .cells #[(.int .i64 (n + 1)), (.int .i64 pa), (.int .i64 pb)] 38), (B9, .cells #[(.int .i64 n), (.int .i64 b), (.int .i64 c)] 38), (B7, .cells #[(.int .i64 n), (.int .i64 a), (.int .i64 b)] 38)])) (fun i _ _ => xs.length - (intOf i).toNat)
    case atStart => exact ⟨0, Nat.zero_le _, rfl, by rw [HL.out], ST11⟩
    case round =>
      clear ST11 HL
      obtain ⟨k, hk, rfl, rfl, ST11⟩ := hrel
      by_cases hlt : k < xs.length
      ·
        obtain ⟨x, hx⟩ : ∃ x, xs[k]? = some x := ⟨xs[k], List.getElem?_eq_getElem hlt⟩
        obtain ⟨y1, y2, y3, y4, y5⟩ := KX.out k x hx
        have YP := Lib.hid y4
        have YV := Lib.hid y5
        have YE := Lib.hid y3
        have YB := Lib.hid y2
        obtain ⟨d0, d1, d2⟩ := ST11.out.tab.2 k hlt
        rw [show xs.getD k (0, 0, 0) = x from by rw [List.getD_eq_getElem?_getD, hx]; rfl] at d0 d1 d2
        obtain ⟨z1, z2, z3⟩ := x
        simp only at y1 d0 d1 d2
        subst y1
        rw [y2]
        clear y2 y3 y4 y5 hx
        have kl : (n - 1 != n - 1) = false := by simp
        have kz : (z2 != z2) = false := by simp
        go_wp2_with fail
        clear d0 d1 d2
        obtain ⟨X1, B19, hW, hB, -, ST12⟩ := St.box ST11 (.cells #[(.int .i64 (n - 1)), (.int .i64 z2), (.int .i64 z3)] 38)
        rw [← hW, ← hB]
        clear ST11 hW hB
        refine (YP.out _ ST12.out.tab.1).mono ?_
        rintro e X2 ⟨rfl, hb⟩
        have ST13 := St.call ST12 hb
        clear hb ST12 X1
        obtain ⟨cB190, cB191, cB192⟩ := St.cells3 ST13 0 rfl
        have zB19 := St.lt ST13 0 rfl
        go_wp2_with fail
        clear cB190 cB191 cB192 zB19
        obtain ⟨X1, B20, hW, hB, -, ST14⟩ := St.box ST13 (.cells #[(.int .i64 n), (.int .i64 a), (.int .i64 b)] 38)
        rw [← hW, ← hB]
        clear ST13 hW hB X2
        refine (YV.out _ ST14.out.tab.1).mono ?_
        rintro e X2 ⟨rfl, hb⟩
        have ST15 := St.call ST14 hb
        clear hb ST14 X1
        obtain ⟨cB190, cB191, cB192⟩ := St.cells3 ST15 1 rfl
        have zB19 := St.lt ST15 1 rfl
        obtain ⟨cB200, cB201, cB202⟩ := St.cells3 ST15 0 rfl
        have zB20 := St.lt ST15 0 rfl
        obtain ⟨cB70, cB71, cB72⟩ := St.cells3 ST15 5 rfl
        have zB7 := St.lt ST15 5 rfl
        go_wp2_with fail
        clear cB190 cB191 cB192 zB19 cB200 cB201 cB202 zB20 cB70 cB71 cB72 zB7
        go_roundw
        case rel => exact ⟨k + 1, hlt, by go_num, by rw [YE.out], Lib.hid (St.mk (fun p hp => ST15.out.lays p (List.mem_cons_of_mem _ (List.mem_cons_of_mem _ hp))) ST15.out.bel ST15.out.tab ST15.out.stays)⟩
        case measure => simp [intOf]; omega
      ·
        obtain rfl : k = xs.length := by omega
        rw [KE.out]
        have kbb : (b == b) = true := by simp
        go_wp2_with fail
        refine (HSA.out _ (Lib.hid ST11.out.tab.1)).mono ?_
        rintro e X1 ⟨rfl, hb⟩
        have ST12 := St.call ST11 hb
        clear hb ST11 
        obtain ⟨cB70, cB71, cB72⟩ := St.cells3 ST12 3 rfl
        have zB7 := St.lt ST12 3 rfl
        go_wp2_with fail
        go_ret
        exact ⟨rfl, ST12.out.bel⟩
  ·
    have kbm : decide (b < 1402560) = false := by simpa using hbm
    clear BN hbm
    obtain ⟨cB70, cB71, cB72⟩ := St.cells3 ST3 0 rfl
    have zB7 := St.lt ST3 0 rfl
    go_wp2_with fail
    clear cB70 cB71 cB72 zB7
    refine (PA.out _ ST3.out.tab).mono ?_
    rintro e W2 ⟨rfl, hb⟩
    have ST4 := St.call ST3 hb
    clear hb ST3 W1
    obtain ⟨cB70, cB71, cB72⟩ := St.cells3 ST4 0 rfl
    have zB7 := St.lt ST4 0 rfl
    go_wp2_with fail
    clear cB70 cB71 cB72 zB7
    obtain ⟨W1, B11, hW, hB, -, ST5⟩ := St.box ST4 (.cells #[(.int .i64 (n + 1)), (.int .i64 pa), (.int .i64 pb)] 38)
    rw [← hW, ← hB]
    clear ST4 hW hB W2
    refine (UA.out _ ST5.out.tab).mono ?_
    rintro e W2 ⟨rfl, hb⟩
    have ST6 := St.call ST5 hb
    clear hb ST5 W1
    obtain ⟨cB70, cB71, cB72⟩ := St.cells3 ST6 1 rfl
    have zB7 := St.lt ST6 1 rfl
    obtain ⟨cB110, cB111, cB112⟩ := St.cells3 ST6 0 rfl
    have zB11 := St.lt ST6 0 rfl
    go_wp2_with fail
    clear cB70 cB71 cB72 zB7 cB110 cB111 cB112 zB11
    obtain ⟨W1, B13, hW, hB, -, ST7⟩ := St.box ST6 (.cells #[(.int .i64 (n + 1)), (.int .i64 pa), (.int .i64 pb)] 38)
    rw [← hW, ← hB]
    clear ST6 hW hB W2
    obtain ⟨xs, x1, x2, x3, x4, x5⟩ := KA.out
    have KC := Lib.hid x4
    have KX := Lib.hid x5
    have KE := Lib.hid x3
    clear KA x3 x4 x5
    refine (KC.out _ ST7.out.tab).mono ?_
    rintro e V1 ⟨v15, rfl, hR, hb⟩
    have ST8 := St.call ST7 hb
    clear hb ST7 
    obtain ⟨bb, off, cap, hv15, hcap, hmax, hcells⟩ : ∃ b off cap, v15 = .slice (some ⟨b, off, none⟩) xs.length cap ∧ xs.length ≤ cap ∧ cap ≤ 9223372036854775807 ∧ CellsAt V1 b off xs := by
      rcases hR with ⟨-, h⟩ | ⟨b, off, cap, h1, h2, h3, h4⟩
      · exact absurd h x1
      · exact ⟨b, off, cap, h1, h2, h3, h4⟩
    subst hv15
    have ST9 := St.more ST8 hcells (stays_cells bb off xs)
    clear ST8
    clear hcells hR x1 hmax KC
    obtain ⟨cB70, cB71, cB72⟩ := St.cells3 ST9 2 rfl
    have zB7 := St.lt ST9 2 rfl
    go_wp2_with fail
    clear cB70 cB71 cB72 zB7
    have HL := Lib.hid (show Proofs.YtfcfdphkaildiaaDoor.atEnd a (xs.take 0) = a from by simp [Proofs.YtfcfdphkaildiaaDoor.atEnd])
    go_loopw [140, 17] (fun i u wr => ∃ k : Nat, k ≤ xs.length ∧ i = (.int .i64 k) ∧ u = (.int .i64 (Proofs.YtfcfdphkaildiaaDoor.atEnd a (xs.take k))) ∧ Hid (St (fun W => TabOK W ∧ CellsAt W bb off xs) w wr [(B13, .cells #[(.int .i64 (n + 1)), (.int .i64 pa), (.int .i64 pb)] 38), (B11, .cells #[(.int .i64 (n + 1)), (.int .i64 pa), (.int .i64 pb)] 38), (B7, .cells #[(.int .i64 n), (.int .i64 a), (.int .i64 b)] 38)])) (fun i _ _ => xs.length - (intOf i).toNat)
    case atStart => exact ⟨0, Nat.zero_le _, rfl, by rw [HL.out], ST9⟩
    case round =>
      clear ST9 HL
      obtain ⟨k, hk, rfl, rfl, ST9⟩ := hrel
      by_cases hlt : k < xs.length
      ·
        obtain ⟨x, hx⟩ : ∃ x, xs[k]? = some x := ⟨xs[k], List.getElem?_eq_getElem hlt⟩
        obtain ⟨y1, y2, y3, y4, y5⟩ := KX.out k x hx
        have YP := Lib.hid y4
        have YV := Lib.hid y5
        have YE := Lib.hid y3
        have YB := Lib.hid y2
        obtain ⟨d0, d1, d2⟩ := ST9.out.tab.2 k hlt
        rw [show xs.getD k (0, 0, 0) = x from by rw [List.getD_eq_getElem?_getD, hx]; rfl] at d0 d1 d2
        obtain ⟨z1, z2, z3⟩ := x
        simp only at y1 d0 d1 d2
        subst y1
        rw [y2]
        clear y2 y3 y4 y5 hx
        have kl : (n - 1 != n - 1) = false := by simp
        have kz : (z2 != z2) = false := by simp
        go_wp2_with fail
        clear d0 d1 d2
        obtain ⟨X1, B19, hW, hB, -, ST10⟩ := St.box ST9 (.cells #[(.int .i64 (n - 1)), (.int .i64 z2), (.int .i64 z3)] 38)
        rw [← hW, ← hB]
        clear ST9 hW hB
        refine (YP.out _ ST10.out.tab.1).mono ?_
        rintro e X2 ⟨rfl, hb⟩
        have ST11 := St.call ST10 hb
        clear hb ST10 X1
        obtain ⟨cB190, cB191, cB192⟩ := St.cells3 ST11 0 rfl
        have zB19 := St.lt ST11 0 rfl
        go_wp2_with fail
        clear cB190 cB191 cB192 zB19
        obtain ⟨X1, B20, hW, hB, -, ST12⟩ := St.box ST11 (.cells #[(.int .i64 n), (.int .i64 a), (.int .i64 b)] 38)
        rw [← hW, ← hB]
        clear ST11 hW hB X2
        refine (YV.out _ ST12.out.tab.1).mono ?_
        rintro e X2 ⟨rfl, hb⟩
        have ST13 := St.call ST12 hb
        clear hb ST12 X1
        obtain ⟨cB190, cB191, cB192⟩ := St.cells3 ST13 1 rfl
        have zB19 := St.lt ST13 1 rfl
        obtain ⟨cB200, cB201, cB202⟩ := St.cells3 ST13 0 rfl
        have zB20 := St.lt ST13 0 rfl
        obtain ⟨cB70, cB71, cB72⟩ := St.cells3 ST13 4 rfl
        have zB7 := St.lt ST13 4 rfl
        go_wp2_with fail
        clear cB190 cB191 cB192 zB19 cB200 cB201 cB202 zB20 cB70 cB71 cB72 zB7
        go_roundw
        case rel => exact ⟨k + 1, hlt, by go_num, by rw [YE.out], Lib.hid (St.mk (fun p hp => ST13.out.lays p (List.mem_cons_of_mem _ (List.mem_cons_of_mem _ hp))) ST13.out.bel ST13.out.tab ST13.out.stays)⟩
        case measure => simp [intOf]; omega
      ·
        obtain rfl : k = xs.length := by omega
        rw [KE.out]
        have kbb : (b == b) = true := by simp
        go_wp2_with fail
        refine (HSA.out _ (Lib.hid ST9.out.tab.1)).mono ?_
        rintro e X1 ⟨rfl, hb⟩
        have ST10 := St.call ST9 hb
        clear hb ST9 
        obtain ⟨cB70, cB71, cB72⟩ := St.cells3 ST10 2 rfl
        have zB7 := St.lt ST10 2 rfl
        go_wp2_with fail
        go_ret
        exact ⟨rfl, ST10.out.bel⟩

set_option maxRecDepth 20000 in
set_option maxHeartbeats 4000000 in
theorem nests_0 (lev tick n at_ : Int) (w : World) (hT : Hid (TabOK w)) (p0 : 0 ≤ lev) (p1 : lev < 256) (q0 : 0 ≤ tick) (q1 : tick < 4294967296) (hn : lev % 5 = n) (hat : tick % 1402560 = at_) (hn0 : n = 0) :
    Calls Tryd.prog 7 #[.int .u8 lev, .int .u32 tick] w fun e w' => e = .returned (.bool true) ∧ Below w.heap.size w w' := by
  have n0 : 0 ≤ n := by omega
  have n4 : n ≤ 4 := by omega
  have t0 : 0 ≤ at_ := by omega
  have t1 : at_ < 1402560 := by omega
  have hl := lh n at_ n0 n4 t0 t1
  obtain ⟨v1, v2, v3, v4⟩ := valid_block n0 n4 t0 t1
  have BA := Lib.hid (fun (W : World) (h : TabOK W) => block_yes n at_ W h n0 n4 t0 t1)
  have hn3 : n ≤ 3 := by omega
  have np := nest_parent n0 hn3 t0 t1
  have nl := nest_le n0 hn3 t0 t1
  have k4 : (n == 4) = false := by simp; omega
  have PA : Hid (∀ W, TabOK W → Calls Tryd.prog 18 #[(.agg #[(.int .i64 n), (.int .i64 (lo n at_)), (.int .i64 (hi n at_))])] W fun e w' => e = .returned (.tuple #[(.agg #[(.int .i64 (n + 1)), (.int .i64 (lo (n + 1) at_)), (.int .i64 (hi (n + 1) at_))]), (.int .i64 0)]) ∧ Below W.heap.size W w') := fun W h => by
    have := parent_yes n (lo n at_) (hi n at_) W (Lib.hid h) (validB_iff.2 ⟨n0, n4, v1, v2, v3, v4⟩) (by omega)
    rwa [np.1, np.2] at this
  have UA := Lib.hid (fun (W : World) (h : TabOK W) => block_yes (n + 1) at_ W h (by omega) (by omega) t0 t1)
  have k5 : decide (lo n at_ < lo (n + 1) at_) = false := gt_no nl.1
  have k6 : decide (hi (n + 1) at_ < hi n at_) = false := gt_no nl.2
  clear np nl
  generalize lo (n + 1) at_ = pa at *
  generalize hi (n + 1) at_ = pb at *
  have KA : Hid (∀ W, TabOK W → Calls Tryd.prog 20 #[(.agg #[(.int .i64 n), (.int .i64 (lo n at_)), (.int .i64 (hi n at_))])] W (RetBins [] 8 W)) := fun W h => by
    have hv : validB n (lo n at_) (hi n at_) = true := validB_iff.2 ⟨n0, n4, v1, v2, v3, v4⟩
    have := children_no n (lo n at_) (hi n at_) W (Lib.hid h) (.inr ⟨hv, hn0⟩)
    rwa [show chE n (lo n at_) (hi n at_) = 8 from by unfold chE; rw [if_pos hv, if_pos hn0]] at this
  have k0 : (n == 0) = true := by simp [hn0]
  have k4 : (n == 4) = false := by simp [hn0]
  clear hn0
  have e1 := hl.lo
  have e2 := hl.hi
  have e3 := hl.b1
  clear hl
  generalize ha : lo n at_ = a at *
  generalize hb : hi n at_ = b at *
  have HAB := Lib.hid (And.intro ha hb)
  clear ha hb
  have VA : Hid (∀ W, TabOK W → Calls Tryd.prog 22 #[(.agg #[(.int .i64 n), (.int .i64 a), (.int .i64 b)])] W fun e w' => e = .returned (.bool true) ∧ Below W.heap.size W w') := fun W h => by
    have := valid_any n a b W (Lib.hid h)
    rwa [show validB n a b = true from validB_iff.2 ⟨n0, n4, v1, v2, v3, v4⟩] at this
  have BN : Hid (b < 1402560 → ∃ c, ∀ W, TabOK W → Calls Tryd.prog 16 #[(.int .i64 n), (.int .i64 b)] W fun e w' => e = .returned (.tuple #[(.agg #[(.int .i64 n), (.int .i64 b), (.int .i64 c)]), (.int .i64 0)]) ∧ Below W.heap.size W w') := fun h => by
    have hh := lo_hi (l := n) (t := at_) n0 n4 t0 t1 (by rw [HAB.out.2]; exact h)
    rw [HAB.out.2] at hh
    refine ⟨hi n b, fun W hw => ?_⟩
    have := block_yes n b W (Lib.hid hw) n0 n4 (by omega) h
    rwa [hh] at this
  have HSA : Hid (∀ W, Hid (TabOK W) → Calls Tryd.prog 13 #[] W fun e w' => e = .returned (.bool true) ∧ Below W.heap.size W w') := fun W h => sanity_any W h
  have V3 := Lib.hid v3
  have V4 := Lib.hid v4
  clear v3 v4 HAB
  have k1 : (n != n) = false := by simp
  have k2 : decide (at_ < a) = false := gt_no e1
  have k3 : decide (b ≤ at_) = false := le_no e2
  have kb : (b != b) = false := by simp
  have nP := fun x y z (W : World) => neq_self x y z W
  have ST0 := St.start hT.out stays_tab
  go_enter Tryd.func7, Tryd.ntmps7
  go_wp2_with fail
  refine (BA.out _ ST0.out.tab).mono ?_
  rintro e W1 ⟨rfl, hb⟩
  have ST1 := St.call ST0 hb
  clear hb ST0 
  go_wp2_with fail
  obtain ⟨W2, B7, hW, hB, -, ST2⟩ := St.box ST1 (.cells #[(.int .i64 n), (.int .i64 a), (.int .i64 b)] 38)
  rw [← hW, ← hB]
  clear ST1 hW hB W1
  refine (VA.out _ ST2.out.tab).mono ?_
  rintro e W1 ⟨rfl, hb⟩
  have ST3 := St.call ST2 hb
  clear hb ST2 W2
  by_cases hbm : b < 1402560
  ·
    have kbm : decide (b < 1402560) = true := by simpa using hbm
    obtain ⟨c, hc⟩ := BN.out hbm
    have HCN := Lib.hid hc
    clear hc BN hbm
    obtain ⟨cB70, cB71, cB72⟩ := St.cells3 ST3 0 rfl
    have zB7 := St.lt ST3 0 rfl
    go_wp2_with fail
    clear cB70 cB71 cB72 zB7
    refine (HCN.out _ ST3.out.tab).mono ?_
    rintro e W2 ⟨rfl, hb⟩
    have ST4 := St.call ST3 hb
    clear hb ST3 W1
    obtain ⟨cB70, cB71, cB72⟩ := St.cells3 ST4 0 rfl
    have zB7 := St.lt ST4 0 rfl
    go_wp2_with fail
    clear cB70 cB71 cB72 zB7
    obtain ⟨W1, B9, hW, hB, -, ST5⟩ := St.box ST4 (.cells #[(.int .i64 n), (.int .i64 b), (.int .i64 c)] 38)
    rw [← hW, ← hB]
    clear ST4 hW hB W2
    refine (PA.out _ ST5.out.tab).mono ?_
    rintro e W2 ⟨rfl, hb⟩
    have ST6 := St.call ST5 hb
    clear hb ST5 W1
    obtain ⟨cB70, cB71, cB72⟩ := St.cells3 ST6 1 rfl
    have zB7 := St.lt ST6 1 rfl
    go_wp2_with fail
    clear cB70 cB71 cB72 zB7
    obtain ⟨W1, B11, hW, hB, -, ST7⟩ := St.box ST6 (.cells #[(.int .i64 (n + 1)), (.int .i64 pa), (.int .i64 pb)] 38)
    rw [← hW, ← hB]
    clear ST6 hW hB W2
    refine (UA.out _ ST7.out.tab).mono ?_
    rintro e W2 ⟨rfl, hb⟩
    have ST8 := St.call ST7 hb
    clear hb ST7 W1
    obtain ⟨cB70, cB71, cB72⟩ := St.cells3 ST8 2 rfl
    have zB7 := St.lt ST8 2 rfl
    obtain ⟨cB110, cB111, cB112⟩ := St.cells3 ST8 0 rfl
    have zB11 := St.lt ST8 0 rfl
    go_wp2_with fail
    clear cB70 cB71 cB72 zB7 cB110 cB111 cB112 zB11
    obtain ⟨W1, B13, hW, hB, -, ST9⟩ := St.box ST8 (.cells #[(.int .i64 (n + 1)), (.int .i64 pa), (.int .i64 pb)] 38)
    rw [← hW, ← hB]
    clear ST8 hW hB W2
    refine (KA.out _ ST9.out.tab).mono ?_
    rintro e V1 ⟨v15, rfl, hR, hb⟩
    have ST10 := St.call ST9 hb
    clear hb ST9 
    obtain ⟨a15, k15, rfl⟩ := reads_shape hR
    clear hR
    go_wp2_with fail
    refine (HSA.out _ (Lib.hid ST10.out.tab)).mono ?_
    rintro e X1 ⟨rfl, hb⟩
    have ST11 := St.call ST10 hb
    clear hb ST10 
    go_wp2_with fail
    go_ret
    exact ⟨rfl, ST11.out.bel⟩
  ·
    have kbm : decide (b < 1402560) = false := by simpa using hbm
    clear BN hbm
    obtain ⟨cB70, cB71, cB72⟩ := St.cells3 ST3 0 rfl
    have zB7 := St.lt ST3 0 rfl
    go_wp2_with fail
    clear cB70 cB71 cB72 zB7
    refine (PA.out _ ST3.out.tab).mono ?_
    rintro e W2 ⟨rfl, hb⟩
    have ST4 := St.call ST3 hb
    clear hb ST3 W1
    obtain ⟨cB70, cB71, cB72⟩ := St.cells3 ST4 0 rfl
    have zB7 := St.lt ST4 0 rfl
    go_wp2_with fail
    clear cB70 cB71 cB72 zB7
    obtain ⟨W1, B11, hW, hB, -, ST5⟩ := St.box ST4 (.cells #[(.int .i64 (n + 1)), (.int .i64 pa), (.int .i64 pb)] 38)
    rw [← hW, ← hB]
    clear ST4 hW hB W2
    refine (UA.out _ ST5.out.tab).mono ?_
    rintro e W2 ⟨rfl, hb⟩
    have ST6 := St.call ST5 hb
    clear hb ST5 W1
    obtain ⟨cB70, cB71, cB72⟩ := St.cells3 ST6 1 rfl
    have zB7 := St.lt ST6 1 rfl
    obtain ⟨cB110, cB111, cB112⟩ := St.cells3 ST6 0 rfl
    have zB11 := St.lt ST6 0 rfl
    go_wp2_with fail
    clear cB70 cB71 cB72 zB7 cB110 cB111 cB112 zB11
    obtain ⟨W1, B13, hW, hB, -, ST7⟩ := St.box ST6 (.cells #[(.int .i64 (n + 1)), (.int .i64 pa), (.int .i64 pb)] 38)
    rw [← hW, ← hB]
    clear ST6 hW hB W2
    refine (KA.out _ ST7.out.tab).mono ?_
    rintro e V1 ⟨v15, rfl, hR, hb⟩
    have ST8 := St.call ST7 hb
    clear hb ST7 
    obtain ⟨a15, k15, rfl⟩ := reads_shape hR
    clear hR
    go_wp2_with fail
    refine (HSA.out _ (Lib.hid ST8.out.tab)).mono ?_
    rintro e X1 ⟨rfl, hb⟩
    have ST9 := St.call ST8 hb
    clear hb ST8 
    go_wp2_with fail
    go_ret
    exact ⟨rfl, ST9.out.bel⟩
end Go.Proofs.YtfcfdphkaildiaaDoor
