/- Walk of the calendar's statement CalendarCoverIsLeast. Conditions: TabOK; the list can be read. Printed by gen_lawf.py. -/
import Derived.Test.YtfcfdphkaildiaaDoorCalLawE
import Derived.Test.YtfcfdphkaildiaaDoorCalPlainG
import Derived.WalkLawsBesides
import Derived.Deep.QuietTactic
import Derived.BigQuiet
namespace Go.Proofs.YtfcfdphkaildiaaDoor
open Go Go.Proofs Go.RowKit
attribute [local go_sem] Oper.semAt_some

def folB : Int → List Bn → Int → Bool
  | f, [], t => f == t
  | f, x :: xs, t => (x.2.1 == f) && (validB x.1 x.2.1 x.2.2 && folB x.2.2 xs t)
theorem folB_iff : ∀ {xs : List Bn} {f t : Int}, folB f xs t = true ↔ Fol f xs t
  | [], f, t => by simp [folB, Fol]
  | x :: xs, f, t => by
    simp only [folB, Fol, Bool.and_eq_true, beq_iff_eq, folB_iff (xs := xs), validB_iff, OkB]

theorem follows_zero (a : Option Addr) (c : Nat) (f t : Int) (w : World) : Calls Tryd.prog 30 #[.slice a 0 c, (.int .i64 f), (.int .i64 t)] w fun e w' => e = .returned (.bool (f == t)) ∧ Below w.heap.size w w' := by
  go_enter Tryd.func30, Tryd.ntmps30
  go_wp2_with fail
  go_loopw [11, 1] (fun i u wr => i = (.int .i64 0) ∧ u = (.int .i64 f) ∧ wr = w) (fun i _ _ => 0)
  case atStart => exact ⟨rfl, rfl, rfl⟩
  case round =>
    obtain ⟨rfl, rfl, rfl⟩ := hrel
    go_wp2_with fail
    go_ret
    exact ⟨rfl, Below.refl _ _⟩

set_option maxHeartbeats 2000000 in
theorem follows_cells (b off cap : Nat) (xs : List Bn) (f t : Int) (w : World) (hT : Hid (TabOK w)) (hm : xs.length ≤ 9223372036854775807) (hc : CellsAt w b off xs) :
    Calls Tryd.prog 30 #[.slice (some ⟨b, off, none⟩) xs.length cap, (.int .i64 f), (.int .i64 t)] w fun e w' => e = .returned (.bool (folB f xs t)) ∧ Below w.heap.size w w' := by
  have ST0 := St.more (St.start hT.out stays_tab) hc (stays_cells b off xs)
  clear hc
  obtain ⟨fv, hfv⟩ : ∃ v, folB f xs t = v := ⟨_, rfl⟩
  have HF : Hid (folB f (xs.drop 0) t = fv) := by rw [List.drop_zero]; exact hfv
  rw [hfv]
  clear hfv
  go_enter Tryd.func30, Tryd.ntmps30
  go_wp2_with fail
  go_loopw [11, 1] (fun i u wr => ∃ (k : Nat) (g : Int), k ≤ xs.length ∧ i = (.int .i64 k) ∧ u = (.int .i64 g) ∧ Hid (folB g (xs.drop k) t = fv) ∧ Hid (St (fun W => TabOK W ∧ CellsAt W b off xs) w wr [])) (fun i _ _ => xs.length - (intOf i).toNat)
  case atStart => exact ⟨0, f, Nat.zero_le _, rfl, rfl, HF, ST0⟩
  case round =>
    clear ST0 HF
    obtain ⟨k, g, hk, rfl, rfl, HF, ST0⟩ := hrel
    by_cases hlt : k < xs.length
    · obtain ⟨x, hx⟩ : ∃ x, xs[k]? = some x := ⟨xs[k], List.getElem?_eq_getElem hlt⟩
      have hdrop : xs.drop k = x :: xs.drop (k + 1) := by
        rw [List.drop_eq_getElem_cons hlt]
        rw [List.getElem?_eq_getElem hlt] at hx
        injection hx with hx
        rw [hx]
      obtain ⟨d0, d1, d2⟩ := ST0.out.tab.2 k hlt
      rw [show xs.getD k (0, 0, 0) = x from by rw [List.getD_eq_getElem?_getD, hx]; rfl] at d0 d1 d2
      obtain ⟨z1, z2, z3⟩ := x
      simp only at d0 d1 d2
      have hval := HF.out
      rw [hdrop] at hval
      simp only [folB] at hval
      have HV := Lib.hid hval
      clear hval hdrop hx HF
      by_cases hz : z2 = g
      · have kz : (z2 != g) = false := by simp [hz]
        have HZ := Lib.hid hz
        clear hz
        cases hv : validB z1 z2 z3
        · have VA : Hid (∀ W, TabOK W → Calls Tryd.prog 22 #[(.agg #[(.int .i64 z1), (.int .i64 z2), (.int .i64 z3)])] W fun e w' => e = .returned (.bool false) ∧ Below W.heap.size W w') := fun W h => by
            have := valid_any z1 z2 z3 W (Lib.hid h); rwa [hv] at this
          have HR : Hid (fv = false) := by have := HV.out; rw [hv] at this; simp at this; show _ = _; first | exact this | exact this.symm
          clear hv HV
          go_wp2_with fail
          clear d0 d1 d2
          obtain ⟨X1, B8, hW, hB, -, ST1⟩ := St.box ST0 (.cells #[(.int .i64 z1), (.int .i64 z2), (.int .i64 z3)] 38)
          rw [← hW, ← hB]
          clear ST0 hW hB 
          refine (VA.out _ ST1.out.tab.1).mono ?_
          rintro e X2 ⟨rfl, hb⟩
          have ST2 := St.call ST1 hb
          clear hb ST1 X1
          go_wp2_with fail
          go_ret
          exact ⟨by rw [HR.out]; rfl, ST2.out.bel⟩
        · have VA : Hid (∀ W, TabOK W → Calls Tryd.prog 22 #[(.agg #[(.int .i64 z1), (.int .i64 z2), (.int .i64 z3)])] W fun e w' => e = .returned (.bool true) ∧ Below W.heap.size W w') := fun W h => by
            have := valid_any z1 z2 z3 W (Lib.hid h); rwa [hv] at this
          have HR : Hid (folB z3 (xs.drop (k + 1)) t = fv) := by have := HV.out; rw [hv, HZ.out, beq_self_eq_true, Bool.true_and, Bool.true_and] at this; exact this
          clear hv HV
          go_wp2_with fail
          clear d0 d1 d2
          obtain ⟨X1, B8, hW, hB, -, ST1⟩ := St.box ST0 (.cells #[(.int .i64 z1), (.int .i64 z2), (.int .i64 z3)] 38)
          rw [← hW, ← hB]
          clear ST0 hW hB 
          refine (VA.out _ ST1.out.tab.1).mono ?_
          rintro e X2 ⟨rfl, hb⟩
          have ST2 := St.call ST1 hb
          clear hb ST1 X1
          obtain ⟨cB80, cB81, cB82⟩ := St.cells3 ST2 0 rfl
          have zB8 := St.lt ST2 0 rfl
          go_wp2_with fail
          clear cB80 cB81 cB82 zB8
          go_roundw
          case rel => exact ⟨k + 1, z3, hlt, by go_num, rfl, HR, Lib.hid (St.mk (fun p hp => ST2.out.lays p (List.mem_cons_of_mem _ hp)) ST2.out.bel ST2.out.tab ST2.out.stays)⟩
          case measure => simp [intOf]; omega
      · have kz : (z2 != g) = true := by simpa using hz
        have HR : Hid (fv = false) := by
          have := HV.out
          have e : (z2 == g) = false := by simpa using hz
          rw [e] at this; simp at this; show _ = _; first | exact this | exact this.symm
        clear hz HV
        go_wp2_with fail
        clear d0 d1 d2
        go_ret
        exact ⟨by rw [HR.out]; rfl, (St.call ST0 (below_new _ _)).out.bel⟩
    · obtain rfl : k = xs.length := by omega
      have HR : Hid (fv = (g == t)) := by have := HF.out; rw [List.drop_length] at this; exact this.symm
      clear HF
      go_wp2_with fail
      go_ret
      exact ⟨by rw [HR.out]; rfl, ST0.out.bel⟩

theorem follows_reads (v : Value) (xs : List Bn) (f t : Int) (w : World) (hT : Hid (TabOK w)) (h : Reads w v xs) : Calls Tryd.prog 30 #[v, (.int .i64 f), (.int .i64 t)] w fun e w' => e = .returned (.bool (folB f xs t)) ∧ Below w.heap.size w w' := by
  rcases h with ⟨rfl, rfl⟩ | ⟨b, off, cap, rfl, h2, h3, h4⟩
  · exact follows_zero none 0 f t w
  · exact follows_cells b off cap xs f t w hT (by omega) h4

theorem chain_around : ∀ {ys : List Bn} {f t p : Int}, Chain f ys t → f ≤ p → p < t → ∃ y ∈ ys, y.2.1 ≤ p ∧ p < y.2.2
  | [], f, t, p, h, h1, h2 => by simp only [Chain] at h; omega
  | y :: ys, f, t, p, ⟨h1, h2, h3⟩, e1, e2 => by
    by_cases c : p < y.2.2
    · exact ⟨y, List.mem_cons_self .., by omega, c⟩
    · obtain ⟨z, hz, k⟩ := chain_around h3 (by omega) e2
      exact ⟨z, List.mem_cons_of_mem _ hz, k⟩


set_option maxRecDepth 20000 in
set_option maxHeartbeats 4000000 in
theorem least_zero (u0 u1 : Int) (a1 : Option Addr) (c1 : Nat) (w : World) (hT : Hid (TabOK w)) (p0 : 0 ≤ u0) (p1 : u0 < 4294967296) (q0 : 0 ≤ u1) (q1 : u1 < 4294967296) :
    Calls Tryd.prog 8 #[.agg #[.int .u32 u0, .int .u32 u1], .slice a1 0 c1] w fun e w' => e = .returned (.bool true) ∧ Below w.heap.size w w' := by
  obtain ⟨a, ha⟩ : ∃ a, u0 % 1402561 = a := ⟨_, rfl⟩
  obtain ⟨b, hb⟩ : ∃ a, u1 % 1402561 = a := ⟨_, rfl⟩
  obtain ⟨f, hmn⟩ : ∃ f, (if b < a then b else a) = f := ⟨_, rfl⟩
  obtain ⟨t, hmx⟩ : ∃ t, (if a < b then b else a) = t := ⟨_, rfl⟩
  have f0 : 0 ≤ f := by rw [← hmn]; split <;> omega
  have t1 : t ≤ 1402560 := by rw [← hmx]; split <;> omega
  have hft : f ≤ t := by rw [← hmn, ← hmx]; split <;> split <;> omega
  have hiv : ivB f t = true := ivB_iff.2 ⟨f0, hft, t1⟩
  have CA := Lib.hid (fun (W : World) (h : TabOK W) => cover_yes f t W (Lib.hid h) hiv)
  have HG := Lib.hid (gre_cov 4 f t (by omega) f0 t1)
  have hs180 := cov_short f t f0 t1
  generalize hbest : covN 4 f t = best at *
  clear hbest hiv
  have HSA : Hid (∀ W, Hid (TabOK W) → Calls Tryd.prog 13 #[] W fun e w' => e = .returned (.bool true) ∧ Below W.heap.size W w') := fun W h => sanity_any W h
  have fb : folB f best t = true := folB_iff.2 (gre_fol best f t f0 hft t1 HG.out)
  have FB := Lib.hid fb
  clear fb
  have k180 : decide ((180 : Int) < best.length) = false := by simp; omega
  have ST0 := St.start hT.out stays_tab
  have HMN := Lib.hid hmn
  have HMX := Lib.hid hmx
  have hw0 : IntKind.i64.wrap u0 = u0 := IntWalk.i64_in _ (by omega)
  have hw1 : IntKind.i64.wrap u1 = u1 := IntWalk.i64_in _ (by omega)
  have ht0 : u0.tmod 1402561 = a := by rw [Int.tmod_eq_emod_of_nonneg p0]; exact ha
  have ht1 : u1.tmod 1402561 = b := by rw [Int.tmod_eq_emod_of_nonneg q0]; exact hb
  have hwa : IntKind.i64.wrap a = a := IntWalk.i64_in _ (by omega)
  have hwb : IntKind.i64.wrap b = b := IntWalk.i64_in _ (by omega)
  clear ha hb hmn hmx
  go_enter Tryd.func8, Tryd.ntmps8
  go_wp2_with fail
  obtain ⟨W1, B2, hW, hB, -, ST1⟩ := St.box ST0 (.cells #[.int .u32 u0, .int .u32 u1] 64)
  rw [← hW, ← hB]
  clear ST0 hW hB 
  obtain ⟨cB20, cB21⟩ := St.cells2 ST1 0 rfl
  have zB2 := St.lt ST1 0 rfl
  go_quiet (fail)
  clear cB20 cB21 zB2
  clear hw0 hw1 ht0 ht1 hwa hwb
  have hmn := HMN.out
  have hmx := HMX.out
  have ST2 := St.call ST1 (below_drewN (Below.refl _ _) nq)
  clear ST1
  generalize W1.drewN nq = W2 at *
  clear W1 nq
  go_wp2_with fail
  clear hmn hmx HMN HMX
  refine (CA.out _ ST2.out.tab).mono ?_
  rintro e W1 ⟨v9, rfl, hR, hb⟩
  have ST3 := St.call ST2 hb
  clear hb ST2 
  obtain ⟨a9, k9, hv9⟩ := reads_shape hR
  subst hv9
  have ST4 := St.more ST3 hR (stays_reads _ best)
  clear ST3
  clear hR
  go_wp2_with fail
  refine (follows_reads _ best f t _ (Lib.hid ST4.out.tab.1) ST4.out.tab.2).mono ?_
  rintro e W2 ⟨rfl, hb⟩
  have ST5 := St.call ST4 hb
  clear hb ST4 W1
  rw [FB.out]
  have hl0 : decide ((400 : Int) < 0) = false := by decide
  go_wp2_with fail
  refine (follows_zero a1 c1 f t _).mono ?_
  rintro e W1 ⟨rfl, hb⟩
  have ST6 := St.call ST5 hb
  clear hb ST5 W2
  by_cases hft2 : f = t
  ·
    have kft : (f == t) = true := by simpa using hft2
    rw [kft]
    have hb0 : best = [] := by
      have h1 : IsGre 4 f t [] := by show t ≤ f; omega
      exact HG.out.unique h1
    subst hb0
    go_wp2_with fail
    go_loopw [61, 11] (fun i u wr => i = (.int .i64 0) ∧ u = (.int .i64 0) ∧ Hid (St (fun W => TabOK W ∧ Reads W (.slice a9 0 k9) []) w wr [(B2, .cells #[.int .u32 u0, .int .u32 u1] 64)])) (fun i _ _ => 0)
    case atStart => exact ⟨rfl, rfl, ST6⟩
    case round =>
      clear ST6
      obtain ⟨rfl, rfl, ST6⟩ := hrel
      go_wp2_with fail
      refine (HSA.out _ (Lib.hid ST6.out.tab.1)).mono ?_
      rintro e X1 ⟨rfl, hb⟩
      have ST7 := St.call ST6 hb
      clear hb ST6 
      go_wp2_with fail
      go_ret
      exact ⟨rfl, ST7.out.bel⟩
  ·
    have kft : (f == t) = false := by simpa using hft2
    rw [kft]
    go_wp2_with fail
    refine (HSA.out _ (Lib.hid ST6.out.tab.1)).mono ?_
    rintro e X1 ⟨rfl, hb⟩
    have ST7 := St.call ST6 hb
    clear hb ST6 
    go_wp2_with fail
    go_ret
    exact ⟨rfl, ST7.out.bel⟩

set_option maxRecDepth 20000 in
set_option maxHeartbeats 4000000 in
theorem least_cells (u0 u1 : Int) (b1 o1 cap1 : Nat) (ls : List Bn) (w : World) (hT : Hid (TabOK w)) (p0 : 0 ≤ u0) (p1 : u0 < 4294967296) (q0 : 0 ≤ u1) (q1 : u1 < 4294967296) (hm : ls.length ≤ 9223372036854775807) (hne : ls ≠ []) (hcl : CellsAt w b1 o1 ls) :
    Calls Tryd.prog 8 #[.agg #[.int .u32 u0, .int .u32 u1], .slice (some ⟨b1, o1, none⟩) ls.length cap1] w fun e w' => e = .returned (.bool true) ∧ Below w.heap.size w w' := by
  obtain ⟨a, ha⟩ : ∃ a, u0 % 1402561 = a := ⟨_, rfl⟩
  obtain ⟨b, hb⟩ : ∃ a, u1 % 1402561 = a := ⟨_, rfl⟩
  obtain ⟨f, hmn⟩ : ∃ f, (if b < a then b else a) = f := ⟨_, rfl⟩
  obtain ⟨t, hmx⟩ : ∃ t, (if a < b then b else a) = t := ⟨_, rfl⟩
  have f0 : 0 ≤ f := by rw [← hmn]; split <;> omega
  have t1 : t ≤ 1402560 := by rw [← hmx]; split <;> omega
  have hft : f ≤ t := by rw [← hmn, ← hmx]; split <;> split <;> omega
  have hiv : ivB f t = true := ivB_iff.2 ⟨f0, hft, t1⟩
  have CA := Lib.hid (fun (W : World) (h : TabOK W) => cover_yes f t W (Lib.hid h) hiv)
  have HG := Lib.hid (gre_cov 4 f t (by omega) f0 t1)
  have hs180 := cov_short f t f0 t1
  generalize hbest : covN 4 f t = best at *
  clear hbest hiv
  have HSA : Hid (∀ W, Hid (TabOK W) → Calls Tryd.prog 13 #[] W fun e w' => e = .returned (.bool true) ∧ Below W.heap.size W w') := fun W h => sanity_any W h
  have fb : folB f best t = true := folB_iff.2 (gre_fol best f t f0 hft t1 HG.out)
  have FB := Lib.hid fb
  clear fb
  have k180 : decide ((180 : Int) < best.length) = false := by simp; omega
  have ST0 := St.more (St.start hT.out stays_tab) hcl (stays_cells b1 o1 ls)
  clear hcl
  have HMN := Lib.hid hmn
  have HMX := Lib.hid hmx
  have hw0 : IntKind.i64.wrap u0 = u0 := IntWalk.i64_in _ (by omega)
  have hw1 : IntKind.i64.wrap u1 = u1 := IntWalk.i64_in _ (by omega)
  have ht0 : u0.tmod 1402561 = a := by rw [Int.tmod_eq_emod_of_nonneg p0]; exact ha
  have ht1 : u1.tmod 1402561 = b := by rw [Int.tmod_eq_emod_of_nonneg q0]; exact hb
  have hwa : IntKind.i64.wrap a = a := IntWalk.i64_in _ (by omega)
  have hwb : IntKind.i64.wrap b = b := IntWalk.i64_in _ (by omega)
  clear ha hb hmn hmx
  go_enter Tryd.func8, Tryd.ntmps8
  go_wp2_with fail
  obtain ⟨W1, B2, hW, hB, -, ST1⟩ := St.box ST0 (.cells #[.int .u32 u0, .int .u32 u1] 64)
  rw [← hW, ← hB]
  clear ST0 hW hB 
  obtain ⟨cB20, cB21⟩ := St.cells2 ST1 0 rfl
  have zB2 := St.lt ST1 0 rfl
  go_quiet (fail)
  clear cB20 cB21 zB2
  clear hw0 hw1 ht0 ht1 hwa hwb
  have hmn := HMN.out
  have hmx := HMX.out
  have ST2 := St.call ST1 (below_drewN (Below.refl _ _) nq)
  clear ST1
  generalize W1.drewN nq = W2 at *
  clear W1 nq
  go_wp2_with fail
  clear hmn hmx HMN HMX
  refine (CA.out _ ST2.out.tab.1).mono ?_
  rintro e W1 ⟨v9, rfl, hR, hb⟩
  have ST3 := St.call ST2 hb
  clear hb ST2 
  obtain ⟨a9, k9, hv9⟩ := reads_shape hR
  subst hv9
  have ST4 := St.more ST3 hR (stays_reads _ best)
  clear ST3
  clear hR
  go_wp2_with fail
  refine (follows_reads _ best f t _ (Lib.hid ST4.out.tab.1.1) ST4.out.tab.2).mono ?_
  rintro e W2 ⟨rfl, hb⟩
  have ST5 := St.call ST4 hb
  clear hb ST4 W1
  rw [FB.out]
  by_cases h400 : 400 < ls.length
  ·
    have k400 : decide ((400 : Int) < ls.length) = true := by simp; omega
    go_wp2_with fail
    refine (HSA.out _ (Lib.hid ST5.out.tab.1.1)).mono ?_
    rintro e X1 ⟨rfl, hb⟩
    have ST6 := St.call ST5 hb
    clear hb ST5 
    go_wp2_with fail
    go_ret
    exact ⟨rfl, ST6.out.bel⟩
  ·
    have k400 : decide ((400 : Int) < ls.length) = false := by simp; omega
    go_wp2_with fail
    refine (follows_cells b1 o1 cap1 ls f t _ (Lib.hid ST5.out.tab.1.1) hm ST5.out.tab.1.2).mono ?_
    rintro e W1 ⟨rfl, hb⟩
    have ST6 := St.call ST5 hb
    clear hb ST5 W2
    cases hfl : folB f ls t
    ·
      clear hfl
      go_wp2_with fail
      refine (HSA.out _ (Lib.hid ST6.out.tab.1.1)).mono ?_
      rintro e X1 ⟨rfl, hb⟩
      have ST7 := St.call ST6 hb
      clear hb ST6 
      go_wp2_with fail
      go_ret
      exact ⟨rfl, ST7.out.bel⟩
    ·
      have hfol := folB_iff.1 hfl
      have hch := hfol.chain
      have hlen := hch.le
      have hpos : 0 < ls.length := by
        rcases Nat.eq_zero_or_pos ls.length with h | h
        · exact absurd (List.length_eq_zero_iff.1 h) hne
        · exact h
      have hft2 : f < t := by omega
      have gch := (folB_iff.1 FB.out).chain
      have hbne : best ≠ [] := by
        rintro rfl
        have := HG.out
        simp only [IsGre] at this
        omega
      have KF := Lib.hid (fun (k : Nat) (x : Bn) (h : ls[k]? = some x) => hch.at_ h)
      have KB := Lib.hid (fun (j : Nat) (y : Bn) (h : best[j]? = some y) => gch.at_ h)
      have KI : Hid (∀ (k j : Nat) (x y : Bn), ls[k]? = some x → best[j]? = some y → y.2.1 ≤ x.2.1 → x.2.1 < y.2.2 → x.2.2 ≤ y.2.2) := fun k j x y hx hy h1 h2 =>
        contain f0 t1 HG.out (List.mem_of_getElem? hy) (hfol.ok x (List.mem_of_getElem? hx)) (hch.at_ hx).2.2.2.1 h1 h2
      have KE : Hid (Proofs.YtfcfdphkaildiaaDoor.atEnd f (best.take best.length) = t) := by
        show _ = _
        rw [List.take_length]; exact gch.atEnd f (fun h => absurd h hbne)
      have KL : Hid (best.length ≤ ls.length) := least ls best f t hch gch (fun x hx => by
        obtain ⟨k, hk⟩ := List.getElem?_of_mem hx
        obtain ⟨c1, c2, c3, c4, c5⟩ := hch.at_ hk
        -- the block of the cover around its beginning
        obtain ⟨y, hy, e1, e2⟩ : ∃ y ∈ best, y.2.1 ≤ x.2.1 ∧ x.2.1 < y.2.2 := chain_around gch (by omega) (by omega)
        exact ⟨y, hy, e1, contain f0 t1 HG.out hy (hfol.ok x hx) c4 e1 e2⟩)
      clear hfl hfol hch hlen gch hne
      obtain ⟨b9, o9, hv9, hc9⟩ : ∃ b9 o9, a9 = some ⟨b9, o9, none⟩ ∧ CellsAt W1 b9 o9 best := by
        rcases ST6.out.tab.2 with ⟨-, h⟩ | ⟨b, off, cap, h1, h2, h3, h4⟩
        · exact absurd h hbne
        · injection h1 with h1 _ _
          exact ⟨b, off, h1, h4⟩
      subst hv9
      clear hbne
      have ST7 := St.more ST6 hc9 (stays_cells b9 o9 best)
      clear ST6
      clear hc9
      go_wp2_with fail
      have H0 : Hid (Proofs.YtfcfdphkaildiaaDoor.atEnd f (best.take 0) ≤ Proofs.YtfcfdphkaildiaaDoor.atEnd f (ls.take 0)) := by show _ ≤ _; simp [Proofs.YtfcfdphkaildiaaDoor.atEnd]
      go_loopw [61, 11] (fun i u wr => ∃ k j : Nat, k ≤ ls.length ∧ j ≤ best.length ∧ i = (.int .i64 k) ∧ u = (.int .i64 j) ∧ Hid (Proofs.YtfcfdphkaildiaaDoor.atEnd f (best.take j) ≤ Proofs.YtfcfdphkaildiaaDoor.atEnd f (ls.take k)) ∧ Hid (St (fun W => ((TabOK W ∧ CellsAt W b1 o1 ls) ∧ Reads W (.slice (some ⟨b9, o9, none⟩) best.length k9) best) ∧ CellsAt W b9 o9 best) w wr [(B2, .cells #[.int .u32 u0, .int .u32 u1] 64)])) (fun i _ _ => ls.length - (intOf i).toNat)
      case atStart => exact ⟨0, 0, Nat.zero_le _, Nat.zero_le _, rfl, rfl, H0, ST7⟩
      case round =>
        clear ST7 H0
        obtain ⟨k, j0, hk, hj0, rfl, rfl, HP, ST7⟩ := hrel
        by_cases hlt : k < ls.length
        ·
          obtain ⟨x, hx⟩ : ∃ x, ls[k]? = some x := ⟨ls[k], List.getElem?_eq_getElem hlt⟩
          obtain ⟨e1, e2, e3, e4, e5⟩ := KF.out k x hx
          have HPX : Hid (Proofs.YtfcfdphkaildiaaDoor.atEnd f (best.take j0) ≤ x.2.1) := by have := HP.out; rw [e1] at this; exact this
          have HE5 := Lib.hid e5
          have HX := Lib.hid hx
          obtain ⟨d0, d1, d2⟩ := ST7.out.tab.1.1.2 k hlt
          rw [show ls.getD k (0, 0, 0) = x from by rw [List.getD_eq_getElem?_getD, hx]; rfl] at d0 d1 d2
          clear hx e1 e5 HP
          obtain ⟨z1, z2, z3⟩ := x
          simp only at d0 d1 d2 e2 e3 e4
          go_wp2_with fail
          clear d0 d1 d2
          obtain ⟨X1, B13, hW, hB, -, ST8⟩ := St.box ST7 (.cells #[(.int .i64 z1), (.int .i64 z2), (.int .i64 z3)] 38)
          rw [← hW, ← hB]
          clear ST7 hW hB 
          go_loopw [11] (fun u wr => ∃ j : Nat, j ≤ best.length ∧ u = (.int .i64 j) ∧ Hid (Proofs.YtfcfdphkaildiaaDoor.atEnd f (best.take j) ≤ z2) ∧ Hid (St (fun W => ((TabOK W ∧ CellsAt W b1 o1 ls) ∧ Reads W (.slice (some ⟨b9, o9, none⟩) best.length k9) best) ∧ CellsAt W b9 o9 best) w wr [(B13, .cells #[(.int .i64 z1), (.int .i64 z2), (.int .i64 z3)] 38), (B2, .cells #[.int .u32 u0, .int .u32 u1] 64)])) (fun u _ => best.length - (intOf u).toNat)
          case atStart => exact ⟨j0, hj0, rfl, HPX, ST8⟩
          case round =>
            clear ST8 HPX hj0
            obtain ⟨j, hj, rfl, HJ, ST8⟩ := hrel
            have hjl : j < best.length := by
              rcases Nat.lt_or_ge j best.length with h | h
              · exact h
              · exfalso
                have h1 := HJ.out
                have h2 := KE.out
                rw [show j = best.length from by omega, h2] at h1
                omega
            obtain ⟨y, hy⟩ : ∃ y, best[j]? = some y := ⟨best[j], List.getElem?_eq_getElem hjl⟩
            obtain ⟨q1, q2, q3, q4, q5⟩ := KB.out j y hy
            have HQ1 : Hid (y.2.1 ≤ z2) := by have := HJ.out; rw [q1] at this; exact this
            have HQ5 := Lib.hid q5
            have HI := Lib.hid (KI.out k j _ y HX.out hy)
            have HCY := Lib.hid (fun (W : World) (h : CellsAt W b9 o9 best) => by
              have := h j hjl
              rw [show best.getD j (0, 0, 0) = y from by rw [List.getD_eq_getElem?_getD, hy]; rfl] at this
              exact this)
            have HY := Lib.hid hy
            clear hy q1 q5 HJ
            obtain ⟨y1, y2, y3⟩ := y
            have kj : decide (j < best.length) = true := by simpa using hjl
            have kj2 : decide ((j : Int) < best.length) = true := by simpa using hjl
            have kn : decide (best.length ≤ j) = false := by simp; omega
            have kn2 : decide ((best.length : Int) ≤ j) = false := by simp; omega
            have HQ1' := HQ1.out
            simp only at HQ1' q2 q3 q4
            obtain ⟨d0, d1, d2⟩ := HCY.out _ ST8.out.tab.2
            simp only at d0 d1 d2
            by_cases hto : y3 ≤ z2
            ·
              obtain ⟨cB130, cB131, cB132⟩ := St.cells3 ST8 0 rfl
              have zB13 := St.lt ST8 0 rfl
              have kto : decide (y3 ≤ z2) = true := by simpa using hto
              go_wp2_with fail
              go_quiet (fail)
              clear d0 d1 d2
              clear cB130 cB131 cB132 zB13
              go_wp2_with fail
              go_roundw
              case rel => exact ⟨j + 1, hjl, by go_num, by have := HQ5.out; rw [this]; exact hto, St.call ST8 (below_drewN (Below.refl _ _) _)⟩
              case measure => simp [intOf]; omega
            ·
              obtain ⟨cB130, cB131, cB132⟩ := St.cells3 ST8 0 rfl
              have zB13 := St.lt ST8 0 rfl
              have kto : decide (y3 ≤ z2) = false := by simp; omega
              go_wp2_with fail
              go_quiet (fail)
              clear d0 d1 d2
              clear cB130 cB131 cB132 zB13
              have ST9 := St.call ST8 (below_drewN (Below.refl _ _) nq)
              clear ST8
              generalize World.drewN _ nq = V2 at *
              obtain ⟨d0, d1, d2⟩ := HCY.out _ ST9.out.tab.2
              try simp only at d0 d1 d2
              go_wp2_with fail
              obtain ⟨cB130, cB131, cB132⟩ := St.cells3 ST9 0 rfl
              have zB13 := St.lt ST9 0 rfl
              have kg1 : decide (z2 < y2) = false := by simp; omega
              have hin : z3 ≤ y3 := HI.out HQ1' (show z2 < y3 by omega)
              have kg2 : decide (y3 < z3) = false := by simp; omega
              go_quiet (fail)
              clear d0 d1 d2
              clear cB130 cB131 cB132 zB13
              go_wp2_with fail
              have HPN : Hid (Proofs.YtfcfdphkaildiaaDoor.atEnd f (best.take j) ≤ Proofs.YtfcfdphkaildiaaDoor.atEnd f (ls.take (k + 1))) := by
                show _ ≤ _
                rw [HE5.out]
                have := (KB.out j (y1, y2, y3) HY.out).1
                rw [this]
                show y2 ≤ z3
                omega
              have HSN := Lib.hid (St.mk (fun p hp => (St.call ST9 (below_drewN (Below.refl _ _) nq)).out.lays p (List.mem_cons_of_mem _ hp)) (St.call ST9 (below_drewN (Below.refl _ _) nq)).out.bel (St.call ST9 (below_drewN (Below.refl _ _) nq)).out.tab ST9.out.stays)
              go_roundw
              case rel => exact ⟨k + 1, j, hlt, hj, by go_num, rfl, HPN, HSN⟩
              case measure => simp [intOf]; omega
        ·
          have kl : decide (best.length ≤ ls.length) = true := by simpa using KL.out
          have kl2 : decide ((best.length : Int) ≤ ls.length) = true := by have := KL.out; simp; omega
          go_wp2_with fail
          refine (HSA.out _ (Lib.hid ST7.out.tab.1.1.1)).mono ?_
          rintro e X1 ⟨rfl, hb⟩
          have ST8 := St.call ST7 hb
          clear hb ST7 
          go_wp2_with fail
          go_ret
          exact ⟨rfl, ST8.out.bel⟩
end Go.Proofs.YtfcfdphkaildiaaDoor
