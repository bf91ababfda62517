/- Part 28 of the proofs about parse: ParSameR. Conditions: those of each theorem. -/
import Derived.Deep.CutBlock
import Derived.Deep.DeepCutAuto
import Derived.Test.YtjijdgkccfeeaaaGreatDoorNt01
import Derived.Test.YtjijdgkccfeeaaaGreatDoorNt06
import Derived.Test.YtjijdgkccfeeaaaGreatDoorNt07
namespace Go.Proofs.YtjijdgkccfeeaaaGreatDoor
open Go Go.Proofs Go.RowKit
attribute [local go_sem] Oper.semAt_some
theorem box_two {w w' : World} {A B : Obj} (h : Turned (fun _ => False) ((w.alloc A).alloc B) w') : w'.heap[w.heap.size]? = (w.alloc A).heap[w.heap.size]? ∧ w'.heap[w.heap.size + 1]? = ((w.alloc A).alloc B).heap[(w.alloc A).heap.size]? := by
  have s1 : (w.alloc A).heap.size = w.heap.size + 1 := by simp
  have s2 : ((w.alloc A).alloc B).heap.size = w.heap.size + 1 + 1 := by simp
  refine ⟨?_, ?_⟩
  · rw [h.block _ (by omega) id, hao _ _ (by omega)]
  · rw [s1, h.block _ (by omega) id]
def badX (o : Bool) (op op' n n' : Int) (s s' : ByteArray) (a a' : Int) : Bool := !(op == op' && (op != 1 || n == n') && (!(decide (2 ≤ op) && decide (op ≤ 4)) || s.data.toList == s'.data.toList) && (!o || a == a'))
theorem badX_ok {o : Bool} {op n n' : Int} {s s' : ByteArray} {a a' : Int} (h1 : (op != 1 || n == n') = true) (h2 : (!(decide (2 ≤ op) && decide (op ≤ 4)) || s.data.toList == s'.data.toList) = true) : badX o op op n n' s s' a a' = (o && (a != a')) := by
  unfold badX
  rw [h1, h2]
  cases o <;> simp [bne]
set_option maxRecDepth 20000 in
set_option maxHeartbeats 8000000 in
theorem rsameExpr_any : ∀ (m : Nat) (x : Ex), SizeOf.sizeOf x ≤ m → ∀ (o : Bool) (y : Ex) (a b : Value) (w : World), KidsAt w (fun _ => True) x.kids a → KidsAt w (fun _ => True) y.kids b → Calls Tryz.prog 14 #[exA x a, exA y b, .bool o] w fun e w' => e = .returned (.bool (sameX o x y)) ∧ Turned (fun _ => False) w w'
  | 0, .mk op n s ks at_, hm => by simp only [Ex.mk.sizeOf_spec] at hm; omega
  | m + 1, .mk op n s ks at_, hm => by
    intro o y a b w hx hy
    obtain ⟨op', n', s', ls, at'⟩ := y
    have HF : Hid (∀ x ∈ ks, ∀ y a b W, KidsAt W (fun _ => True) x.kids a → KidsAt W (fun _ => True) y.kids b → Calls Tryz.prog 14 #[exA x a, exA y b, .bool o] W fun e w' => e = .returned (.bool (sameX o x y)) ∧ Turned (fun _ => False) W w') :=
      Lib.hid fun x hx y a b W => rsameExpr_any m x (by have := ex_kid_lt hx op n s at_; omega) o y a b W
    simp only [Ex.kids] at hx hy
    have hlx := hx.len
    have hly := hy.len
    obtain ⟨pa, ca, rfl⟩ := hx.shape
    obtain ⟨pb, cb, rfl⟩ := hy.shape
    have HKX := Lib.hid hx
    have HKY := Lib.hid hy
    clear hx hy hm
    unfold maxLen at hlx hly
    have HX := Lib.hid (show sameX o (.mk op n s ks at_) (.mk op' n' s' ls at') = (!badX o op op' n n' s s' at_ at' && (decide (1 ≤ op) && decide (op ≤ 3) || sameXs o ks ls)) from by rw [sameX, badX, Bool.not_not])
    simp only [exA, Ex.op, Ex.n, Ex.s, Ex.at_]
    generalize sameX o (.mk op n s ks at_) (.mk op' n' s' ls at') = r at HX ⊢
    obtain ⟨W2, hW2⟩ : ∃ W2, W2 = (w.alloc (.cells #[(.int .i64 op), (.int .i64 n), .string s, .slice pa ks.length ca, (.int .i64 at_)] 31)).alloc (.cells #[(.int .i64 (op')), (.int .i64 (n')), .string s', .slice pb ls.length cb, (.int .i64 (at'))] 31) := ⟨_, rfl⟩
    have HT : Hid (Turned (fun _ => False) w W2) := Lib.hid (by rw [hW2]; exact ((Turned.refl _ _).alloc _).alloc _)
    have HB : Hid (∀ V, Turned (fun _ => False) W2 V → V.cell? ⟨w.heap.size, 0, none⟩ = some (.int .i64 op) ∧ V.cell? ⟨w.heap.size, 3, none⟩ = some (.slice pa ks.length ca) ∧ V.cell? ⟨w.heap.size + 1, 3, none⟩ = some (.slice pb ls.length cb)) := Lib.hid fun V hV => by
      rw [hW2] at hV
      obtain ⟨h1, h2⟩ := box_two hV
      rw [heap_alloc_new] at h1 h2
      simp [World.cell?, h1, h2]
    go_enter Tryz.func14, Tryz.ntmps14
    go_upto_region 1 with fail
    go_cut [52] from 9 to 52 (fun c wx => c = .bool (badX o op op' n n' s s' at_ at') ∧ wx = W2)
    case first =>
      clear HX HF HB HKX HKY
      by_cases h0 : op = op'
      · subst h0
        by_cases h1 : op = 1
        · subst h1
          by_cases hn : n = n'
          · subst hn
            have HQ := Lib.hid (badX_ok (o := o) (op := 1) (n := n) (n' := n) (s := s) (s' := s') (a := at_) (a' := at') (show _ = true from by simp) (show _ = true from by simp))
            cases o with
            | false =>
              go_wp2_with fail
              go_meet
              case rel => exact ⟨by rw [HQ.out]; rfl, hW2.symm⟩
            | true =>
              go_wp2_with fail
              go_meet
              case rel => exact ⟨by rw [HQ.out]; rfl, hW2.symm⟩
          · have hnb : (n == n') = false := by simpa using hn
            go_wp2_with fail
            go_meet
            case rel => exact ⟨by rw [badX]; simp [hn], hW2.symm⟩
        · have b1 : (op == 1) = false := by simpa using h1
          by_cases h2 : 2 ≤ op
          · by_cases h4 : op ≤ 4
            · by_cases hs : s = s'
              · subst hs
                have HQ := Lib.hid (badX_ok (o := o) (op := op) (n := n) (n' := n') (s := s) (s' := s) (a := at_) (a' := at') (show _ = true from by simp [h1]) (show _ = true from by simp))
                cases o with
                | false =>
                  go_wp2_with fail
                  go_meet
                  case rel => exact ⟨by rw [HQ.out]; rfl, hW2.symm⟩
                | true =>
                  go_wp2_with fail
                  go_meet
                  case rel => exact ⟨by rw [HQ.out]; rfl, hW2.symm⟩
              · have hsb : (s.toList == s'.toList) = false := by rw [ByteArray.toList_eq, ByteArray.toList_eq]; exact bytes_ne hs
                have hsc := bytes_ne hs
                go_wp2_with fail
                go_meet
                case rel => exact ⟨by rw [badX]; simp [h2, h4, hsc], hW2.symm⟩
            · have HQ := Lib.hid (badX_ok (o := o) (op := op) (n := n) (n' := n') (s := s) (s' := s') (a := at_) (a' := at') (show _ = true from by simp [h1]) (show _ = true from by simp [h4]))
              cases o with
              | false =>
                go_wp2_with fail
                go_meet
                case rel => exact ⟨by rw [HQ.out]; rfl, hW2.symm⟩
              | true =>
                go_wp2_with fail
                go_meet
                case rel => exact ⟨by rw [HQ.out]; rfl, hW2.symm⟩
          · have HQ := Lib.hid (badX_ok (o := o) (op := op) (n := n) (n' := n') (s := s) (s' := s') (a := at_) (a' := at') (show _ = true from by simp [h1]) (show _ = true from by simp [h2]))
            cases o with
            | false =>
              go_wp2_with fail
              go_meet
              case rel => exact ⟨by rw [HQ.out]; rfl, hW2.symm⟩
            | true =>
              go_wp2_with fail
              go_meet
              case rel => exact ⟨by rw [HQ.out]; rfl, hW2.symm⟩
      · have hb : (op == op') = false := by simpa using h0
        go_wp2_with fail
        go_meet
        case rel => exact ⟨by rw [badX]; simp [h0], hW2.symm⟩
    case rest =>
      obtain ⟨rfl, hwc⟩ := hcut
      rw [hwc]
      clear hwc hW2
      generalize badX o op op' n n' s s' at_ at' = bd at HX ⊢
      obtain ⟨c0, c3, d3⟩ := HB.out W2 (Turned.refl _ _)
      cases bd with
      | true =>
        have HR : Hid (r = false) := by show _ = _; rw [HX.out]; rfl
        clear HX HF HB HKX HKY c0 c3 d3
        go_wp2_with fail
        go_ret
        rw [HR.out]
        exact ⟨rfl, HT.out⟩
      | false =>
        go_upto_region 3 with fail
        go_cut [60] from 53 to 60 (fun c wx => c = .bool (decide (1 ≤ op) && decide (op ≤ 3)) ∧ wx = W2)
        case first =>
          clear HX HF HB HKX HKY HT
          by_cases h1 : 1 ≤ op
          · have h1d : decide (1 ≤ op) = true := decide_eq_true h1
            go_wp2_with fail
            go_meet
            case rel => exact ⟨by rw [h1d, Bool.true_and], rfl⟩
          · go_wp2_with fail
            go_meet
            case rel => exact ⟨by rw [decide_eq_false (p := 1 ≤ op) (by omega), Bool.false_and], rfl⟩
        case rest =>
          obtain ⟨rfl, hwc⟩ := hcut
          rw [hwc]
          clear hwc
          generalize (decide (1 ≤ op) && decide (op ≤ 3)) = be at HX ⊢
          cases be with
          | true =>
            have HR : Hid (r = true) := by show _ = _; rw [HX.out]; rfl
            clear HX HF HB HKX HKY
            go_wp2_with fail
            go_ret
            rw [HR.out]
            exact ⟨rfl, HT.out⟩
          | false =>
            have HR : Hid (r = sameXs o ks ls) := by show _ = _; rw [HX.out]; rfl
            clear HX
            by_cases hl : ks.length = ls.length
            · have HL := Lib.hid hl
              have hlb : ((ks.length : Int) != (ls.length : Int)) = false := by simp [hl]
              have HLI : Hid (∀ i : Nat, i < ks.length → (i : Int) < (ls.length : Int)) := Lib.hid fun i h => by omega
              clear hl
              go_wp2_with fail
              go_loopw [7] (fun c wr => ∃ i : Nat, i ≤ ks.length ∧ c = (.int .i64 i) ∧ Hid (Turned (fun _ => False) W2 wr ∧ SameTo o ks ls i)) (fun c _ => ks.length - (intOf c).toNat)
              case atStart => exact ⟨0, by omega, rfl, Lib.hid ⟨Turned.refl _ _, fun j x y hj => by omega⟩⟩
              case round =>
                clear c0 c3 d3
                obtain ⟨i, hi, rfl, HO⟩ := hrel
                obtain ⟨c0, c3, d3⟩ := HB.out wr HO.out.1
                by_cases hlt : i < ks.length
                · obtain ⟨x, hx⟩ := some_of_lt hlt
                  have hiy := HLI.out i hlt
                  obtain ⟨y, hy⟩ := some_of_lt (show i < ls.length by omega)
                  obtain ⟨bx, ax, kx, rfl, x01, HKX1⟩ := kidsAt_get (HKX.out.all (HT.out.trans HO.out.1)) hx
                  obtain ⟨by_, ay, ky, rfl, y01, HKY1⟩ := kidsAt_get (HKY.out.all (HT.out.trans HO.out.1)) hy
                  obtain ⟨pk, ck, rfl⟩ := HKX1.shape
                  obtain ⟨pl, cl, rfl⟩ := HKY1.shape
                  have HC : Hid (∀ W, Turned (fun _ => False) wr W → Calls Tryz.prog 14 #[.agg #[(.int .i64 (x.op)), (.int .i64 (x.n)), .string x.s, .slice pk x.kids.length ck, (.int .i64 (x.at_))], .agg #[(.int .i64 (y.op)), (.int .i64 (y.n)), .string y.s, .slice pl y.kids.length cl, (.int .i64 (y.at_))], .bool o] W fun e w' => e = .returned (.bool (sameX o x y)) ∧ Turned (fun _ => False) W w') :=
                    Lib.hid fun W hW => HF.out x (List.mem_of_getElem? hx) y _ _ W (HKX1.all hW) (HKY1.all hW)
                  have HT1 : Hid (sameX o x y = true → SameTo o ks ls (i + 1)) := Lib.hid fun h => HO.out.2.succ hx hy h
                  have HU : Hid (sameX o x y = false → sameXs o ks ls = false) := Lib.hid fun h => sameXs_no hx hy h
                  have X01 := Lib.hid x01
                  have Y01 := Lib.hid y01
                  clear hx hy HKX1 HKY1 x01 y01
                  generalize sameX o x y = z at HC HT1 HU
                  have hi2 : (i : Int) < (ks.length : Int) := by omega
                  go_upto_region 10 with fail
                  refine region_tail (w := wr) (Turned.refl _ _) 11 (by kernel_rfl) (by kernel_rfl) (fun V hT => ?_)
                  obtain ⟨f0, f3, g3⟩ := HB.out V (HO.out.1.trans hT)
                  obtain ⟨x0, x1, x2, x3, x4⟩ := X01.out
                  obtain ⟨y0, y1, y2, y3, y4⟩ := Y01.out
                  replace x0 := cell_turned hT id x0
                  replace x1 := cell_turned hT id x1
                  replace x2 := cell_turned hT id x2
                  replace x3 := cell_turned hT id x3
                  replace x4 := cell_turned hT id x4
                  replace y0 := cell_turned hT id y0
                  replace y1 := cell_turned hT id y1
                  replace y2 := cell_turned hT id y2
                  replace y3 := cell_turned hT id y3
                  replace y4 := cell_turned hT id y4
                  have HCV := Lib.hid (HC.out V hT)
                  have HTV := Lib.hid (HO.out.1.trans hT)
                  clear hT HC c0 c3 d3
                  simp only [List.take_succ_cons, List.take_zero, List.drop_succ_cons, List.drop_zero]
                  repeat still_step
                  refine wpStill_nil ?_
                  cases z with
                  | true =>
                    have HT2 := Lib.hid (HT1.out rfl)
                    clear HT1 HU
                    go_wp2_with (go_at_call 14; refine HCV.out.mono ?_; rintro e w' ⟨rfl, hT⟩)
                    go_roundw
                    case rel => exact ⟨i + 1, by omega, by go_num, Lib.hid ⟨HTV.out.trans hT, HT2.out⟩⟩
                    case measure => simp [intOf]; omega
                  | false =>
                    have HU2 := Lib.hid (HU.out rfl)
                    clear HT1 HU
                    go_wp2_with (go_at_call 14; refine HCV.out.mono ?_; rintro e w' ⟨rfl, hT⟩)
                    go_ret
                    rw [HR.out, HU2.out]
                    exact ⟨rfl, HT.out.trans (HTV.out.trans hT)⟩
                · obtain rfl : i = ks.length := by omega
                  have HS : Hid (sameXs o ks ls = true) := Lib.hid (SameTo.done HO.out.2 HL.out)
                  go_wp2_with fail
                  go_ret
                  rw [HR.out, HS.out]
                  exact ⟨rfl, HT.out.trans HO.out.1⟩
            · have hlb : ((ks.length : Int) != (ls.length : Int)) = true := by simp; omega
              have HS := Lib.hid (sameXs_len (o := o) hl)
              clear hl HF HB HKX HKY
              go_wp2_with fail
              go_ret
              rw [HR.out, HS.out]
              exact ⟨rfl, HT.out⟩
end Go.Proofs.YtjijdgkccfeeaaaGreatDoor
