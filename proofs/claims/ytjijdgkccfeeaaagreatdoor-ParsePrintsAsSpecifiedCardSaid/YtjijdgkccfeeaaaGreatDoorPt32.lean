/- Part 32 of the proof of card: ParSameP. Conditions: those of each theorem. -/
import Derived.Deep.QuietTactic
import Derived.Test.YtjijdgkccfeeaaaGreatDoorPt01
import Derived.Test.YtjijdgkccfeeaaaGreatDoorPt31
set_option maxRecDepth 20000
set_option maxHeartbeats 8000000
namespace Go.Proofs.YtjijdgkccfeeaaaGreatDoor
open Go Go.Proofs Go.RowKit
attribute [local go_sem] Oper.semAt_some
theorem sameF_eq (o : Bool) (x y : Fm) : sameF o x y = (x.word.data.toList == y.word.data.toList && (!o || x.at_ == y.at_) && sameAs o x.args y.args && sameFs o x.body y.body) := by
 cases x; cases y; rw [sameF]; rfl
def badF (o : Bool) (s t : ByteArray) (a b : Int) (n m : Nat) : Bool := !(s.data.toList == t.data.toList && (!o || a == b)) || ((n : Int) != (m : Int))
theorem badF_ok {o : Bool} {s : ByteArray} {a b : Int} {n m : Nat} (h : (!o || a == b) = true) : badF o s s a b n m = ((n : Int) != (m : Int)) := by
 unfold badF; rw [h]; simp
theorem badF_bad {o : Bool} {x y : Fm} (h : badF o x.word y.word x.at_ y.at_ x.args.length y.args.length = true) : sameF o x y = false := by
 rw [sameF_eq]
 unfold badF at h
 rw [Bool.or_eq_true, Bool.not_eq_true'] at h
 rcases h with h | h
 ·rw [h]; rfl
 ·rw [sameAs_len (o := o) (xs := x.args) (ys := y.args) (by intro he; rw [he] at h; simp at h)]; simp
theorem badF_good {o : Bool} {x y : Fm} (h : badF o x.word y.word x.at_ y.at_ x.args.length y.args.length = false) : sameF o x y = (sameAs o x.args y.args && sameFs o x.body y.body) /\ x.args.length = y.args.length := by
 rw [sameF_eq]
 unfold badF at h
 rw [Bool.or_eq_false_iff, Bool.not_eq_false'] at h
 refine ⟨by rw [h.1]; simp, ?_⟩
 have h2 := h.2
 rw [bne_eq_false_iff_eq] at h2
 omega
theorem rsame_any : ∀ (m : Nat) (xs : List Fm), SizeOf.sizeOf xs <= m -> ∀ (o : Bool) (ys : List Fm) (u v : Value) (w : World), FormsAt w (fun _ => True) xs u -> FormsAt w (fun _ => True) ys v -> Calls Tryz.prog 13 #[u, v, .bool o] w fun e w' => e = .returned (.bool (sameFs o xs ys)) /\ Turned (fun _ => False) w w'
 | 0, xs, hm => by cases xs <;> simp at hm
 | m + 1, xs, hm => by
  intro o ys u v w hx hy
  have HF : Hid (∀ x ∈ xs, ∀ (y : Fm) a b W, FormsAt W (fun _ => True) x.body a -> FormsAt W (fun _ => True) y.body b -> Calls Tryz.prog 13 #[a, b, .bool o] W fun e w' => e = .returned (.bool (sameFs o x.body y.body)) /\ Turned (fun _ => False) W w') :=
   Lib.hid fun x hx y a b W => rsame_any m x.body (by
    have h1 := List.sizeOf_lt_of_mem hx
    obtain ⟨s, zs, fs, at_⟩ := x
    simp only [Fm.mk.sizeOf_spec] at h1
    simp only [Fm.body]
    omega) o y.body a b W
  have hlx := hx.len
  have hly := hy.len
  obtain ⟨pu, cu, rfl⟩ := hx.shape
  obtain ⟨pv, cv, rfl⟩ := hy.shape
  have HX := Lib.hid hx
  have HY := Lib.hid hy
  unfold maxLen at hlx hly
  clear hx hy hm
  by_cases hl : xs.length = ys.length
  ·have HL := Lib.hid hl
   have HLI : Hid (∀ i : Nat, i < xs.length -> (i : Int) < (ys.length : Int)) := Lib.hid fun i h => by omega
   have hlb : ((xs.length : Int) != (ys.length : Int)) = false := by simp [hl]
   clear hl
   go_enter Tryz.func13, Tryz.ntmps13
   go_wp2_with fail
   go_loopw [7] (fun c wr => ∃ i : Nat, i <= xs.length /\ c = (.int .i64 i) /\ Hid (Turned (fun _ => False) w wr /\ SameToF o xs ys i)) (fun c _ => xs.length - (intOf c).toNat)
   case atStart => exact ⟨0, by omega, rfl, Lib.hid ⟨Turned.refl _ _, fun j x y hj => by omega⟩⟩
   case round =>
    obtain ⟨i, hi, rfl, HO⟩ := hrel
    by_cases hlt : i < xs.length
    ·obtain ⟨x, hx⟩ := some_of_lt hlt
     have hiy := HLI.out i hlt
     have hix : (i : Int) < (xs.length : Int) := by omega
     obtain ⟨y, hy⟩ := some_of_lt (show i < ys.length by omega)
     obtain ⟨bx, ax, kx, mx, rfl, ⟨x0, x1, x2, x3⟩, HAx, HBx⟩ := formsAt_get HX.out hx
     obtain ⟨by_, ay, ky, my, rfl, ⟨y0, y1, y2, y3⟩, HAy, HBy⟩ := formsAt_get HY.out hy
     have hkx := HAx.len
     have hky := HAy.len
     unfold maxLen at hkx hky
     obtain ⟨px, cx, rfl⟩ := HAx.shape
     obtain ⟨py, cy, rfl⟩ := HAy.shape
     obtain ⟨qx, dx, rfl⟩ := HBx.shape
     obtain ⟨qy, dy, rfl⟩ := HBy.shape
     have H0 : Hid (∀ V, Turned (fun _ => False) w V -> (V.cell? ⟨bx, ax + i * 4, none⟩ = some (.string x.word) /\ V.cell? ⟨bx, ax + i * 4 + 1, none⟩ = some (.slice px x.args.length cx) /\ V.cell? ⟨bx, ax + i * 4 + 2, none⟩ = some (.slice qx x.body.length dx) /\ V.cell? ⟨bx, ax + i * 4 + 3, none⟩ = some (.int .i64 x.at_)) /\ (V.cell? ⟨by_, ay + i * 4, none⟩ = some (.string y.word) /\ V.cell? ⟨by_, ay + i * 4 + 1, none⟩ = some (.slice py y.args.length cy) /\ V.cell? ⟨by_, ay + i * 4 + 2, none⟩ = some (.slice qy y.body.length dy) /\ V.cell? ⟨by_, ay + i * 4 + 3, none⟩ = some (.int .i64 y.at_))) :=
      Lib.hid fun V hV => ⟨⟨cell_turned hV id x0, cell_turned hV id x1, cell_turned hV id x2, cell_turned hV id x3⟩, ⟨cell_turned hV id y0, cell_turned hV id y1, cell_turned hV id y2, cell_turned hV id y3⟩⟩
     have HCB : Hid (∀ V, Turned (fun _ => False) w V -> Calls Tryz.prog 13 #[.slice qx x.body.length dx, .slice qy y.body.length dy, .bool o] V fun e w' => e = .returned (.bool (sameFs o x.body y.body)) /\ Turned (fun _ => False) V w') := Lib.hid fun V hV => HF.out x (List.mem_of_getElem? hx) y _ _ V (HBx.all hV) (HBy.all hV)
     have HT1 : Hid (sameF o x y = true -> SameToF o xs ys (i + 1)) := Lib.hid fun h => HO.out.2.succ hx hy h
     have HU : Hid (sameF o x y = false -> sameFs o xs ys = false) := Lib.hid fun h => sameFs_no hx hy h
     have HAX := Lib.hid HAx
     have HAY := Lib.hid HAy
     clear hx hy x0 x1 x2 x3 y0 y1 y2 y3 HBx HBy HAx HAy
     go_upto_region 6 with fail
     go_cut [63] from 22 to 63 (fun c wx => c = .bool (badF o x.word y.word x.at_ y.at_ x.args.length y.args.length) /\ Hid (Turned (fun _ => False) w wx))
     case first =>
      obtain ⟨⟨x0, x1, x2, x3⟩, ⟨y0, y1, y2, y3⟩⟩ := H0.out wr HO.out.1
      have HTO := Lib.hid HO.out.1
      clear HT1 HU HF HCB HAX HAY HX HY H0 HLI HL HO x2 y2
      generalize x.word = xw at *
      generalize y.word = yw at *
      generalize x.at_ = xa at *
      generalize y.at_ = ya at *
      by_cases hs : xw = yw
      ·subst hs
       cases o with
       | false =>
        have HQ := Lib.hid (badF_ok (o := false) (s := xw) (a := xa) (b := ya) (n := x.args.length) (m := y.args.length) rfl)
        go_quiet (fail)
        go_wp2_with fail
        go_meet
        case rel => exact ⟨by rw [HQ.out], Lib.hid (HTO.out.trans (drewN_turned _ _ _))⟩
       | true =>
        by_cases ha : xa = ya
        ·subst ha
         have HQ := Lib.hid (badF_ok (o := true) (s := xw) (a := xa) (b := xa) (n := x.args.length) (m := y.args.length) (by simp))
         have hab : (xa != xa) = false := by simp
         go_quiet (fail)
         go_wp2_with fail
         go_meet
         case rel => exact ⟨by rw [HQ.out], Lib.hid (HTO.out.trans (drewN_turned _ _ _))⟩
        ·have hab : (xa != ya) = true := by simpa using ha
         have HQ : Hid (badF true xw xw xa ya x.args.length y.args.length = true) := Lib.hid (by simp [badF, ha])
         clear ha
         go_quiet (fail)
         go_wp2_with fail
         go_meet
         case rel => exact ⟨by rw [HQ.out], Lib.hid (HTO.out.trans (drewN_turned _ _ _))⟩
      ·have hsb : (xw.toList == yw.toList) = false := by rw [ByteArray.toList_eq, ByteArray.toList_eq]; exact bytes_ne hs
       have HQ : Hid (badF o xw yw xa ya x.args.length y.args.length = true) := Lib.hid (by simp [badF, bytes_ne hs])
       clear hs
       go_quiet (fail)
       go_wp2_with fail
       go_meet
       case rel => exact ⟨by rw [HQ.out], Lib.hid (HTO.out.trans (drewN_turned _ _ _))⟩
     case rest =>
      obtain ⟨rfl, HV⟩ := hcut
      cases hbad : badF o x.word y.word x.at_ y.at_ x.args.length y.args.length with
      | true =>
       have HS := Lib.hid (HU.out (badF_bad hbad))
       clear HT1 HU HF HCB HAX HAY HX HY H0 HLI HL HO hbad
       go_wp2_with fail
       go_ret
       rw [HS.out]
       exact ⟨rfl, HV.out⟩
      | false =>
       have HG := Lib.hid (badF_good hbad)
       have HLJ : Hid (∀ j : Nat, j < x.args.length -> (j : Int) < (y.args.length : Int)) := Lib.hid fun i h => by have := HG.out.2; omega
       clear hbad HF HX HY
       obtain ⟨⟨x0, x1, x2, x3⟩, ⟨y0, y1, y2, y3⟩⟩ := H0.out wc HV.out
       go_wp2_with fail
       go_loopw [8] (fun c wr => ∃ j : Nat, j <= x.args.length /\ c = (.int .i64 j) /\ Hid (Turned (fun _ => False) w wr /\ SameToA o x.args y.args j)) (fun c _ => x.args.length - (intOf c).toNat)
       case atStart => exact ⟨0, by omega, rfl, Lib.hid ⟨HV.out, fun j x y hj => by omega⟩⟩
       case round =>
        clear x0 x1 x2 x3 y0 y1 y2 y3
        obtain ⟨j, hj, rfl, HJ⟩ := hrel
        obtain ⟨⟨x0, x1, x2, x3⟩, ⟨y0, y1, y2, y3⟩⟩ := H0.out wr HJ.out.1
        by_cases hlj : j < x.args.length
        ·obtain ⟨a, ha⟩ := some_of_lt hlj
         have hjy := HLJ.out j hlj
         have hjx : (j : Int) < (x.args.length : Int) := by omega
         obtain ⟨b, hb⟩ := some_of_lt (show j < y.args.length by omega)
         obtain ⟨ab, aa, ak, hea, A01, HKa⟩ := argsAt_get (HAX.out.all HJ.out.1) ha
         obtain ⟨bb, ba, bk, heb, B01, HKb⟩ := argsAt_get (HAY.out.all HJ.out.1) hb
         subst hea
         subst heb
         obtain ⟨pk, ck, rfl⟩ := HKa.shape
         obtain ⟨pl, cl, rfl⟩ := HKb.shape
         have HCA : Hid (∀ V, Turned (fun _ => False) wr V -> Calls Tryz.prog 35 #[arA a (.slice pk a.e.kids.length ck), arA b (.slice pl b.e.kids.length cl), .bool o] V fun e w' => e = .returned (.bool (sameA o a b)) /\ Turned (fun _ => False) V w') := Lib.hid fun V hV => rsameArg_any o a b _ _ V (HKa.all hV) (HKb.all hV)
         have HAT : Hid (sameA o a b = true -> SameToA o x.args y.args (j + 1)) := Lib.hid fun h => HJ.out.2.succ ha hb h
         have HAU : Hid (sameA o a b = false -> sameFs o xs ys = false) := Lib.hid fun h => HU.out (by rw [HG.out.1, sameAs_no ha hb h]; rfl)
         have HA0 := Lib.hid (And.intro A01 B01)
         clear ha hb HKa HKb A01 B01
         unfold arA at HCA
         generalize sameA o a b = z at HCA HAT HAU
         go_upto_region 11 with fail
         refine region_tail (w := wr) (Turned.refl _ _) 17 (by kernel_rfl) (by kernel_rfl) (fun V hT => ?_)
         clear x0 x1 x2 x3 y0 y1 y2 y3
         obtain ⟨⟨x0, x1, x2, x3⟩, ⟨y0, y1, y2, y3⟩⟩ := H0.out V (HJ.out.1.trans hT)
         obtain ⟨⟨a0, a1, a2, a3, a4, a5, a6, a7, a8⟩, ⟨b0, b1, b2, b3, b4, b5, b6, b7, b8⟩⟩ := HA0.out
         replace a0 := cell_turned hT id a0
         replace a1 := cell_turned hT id a1
         replace a2 := cell_turned hT id a2
         replace a3 := cell_turned hT id a3
         replace a4 := cell_turned hT id a4
         replace a5 := cell_turned hT id a5
         replace a6 := cell_turned hT id a6
         replace a7 := cell_turned hT id a7
         replace a8 := cell_turned hT id a8
         replace b0 := cell_turned hT id b0
         replace b1 := cell_turned hT id b1
         replace b2 := cell_turned hT id b2
         replace b3 := cell_turned hT id b3
         replace b4 := cell_turned hT id b4
         replace b5 := cell_turned hT id b5
         replace b6 := cell_turned hT id b6
         replace b7 := cell_turned hT id b7
         replace b8 := cell_turned hT id b8
         have HCV := Lib.hid (HCA.out V hT)
         have HTV := Lib.hid (HJ.out.1.trans hT)
         clear hT HCA HA0
         simp only [List.take_succ_cons, List.take_zero, List.drop_succ_cons, List.drop_zero]
         repeat still_step
         refine wpStill_nil ?_
         cases z with
         | true =>
          have HT2 := Lib.hid (HAT.out rfl)
          clear HAT HAU
          go_wp2_with (go_at_call 35; refine HCV.out.mono ?_; rintro e w' ⟨rfl, hT⟩)
          go_roundw
          case rel => exact ⟨j + 1, by omega, by go_num, Lib.hid ⟨HTV.out.trans hT, HT2.out⟩⟩
          case measure => simp [intOf]; omega
         | false =>
          have HU2 := Lib.hid (HAU.out rfl)
          clear HAT HAU
          go_wp2_with (go_at_call 35; refine HCV.out.mono ?_; rintro e w' ⟨rfl, hT⟩)
          go_ret
          rw [HU2.out]
          exact ⟨rfl, HTV.out.trans hT⟩
        ·obtain rfl : j = x.args.length := by omega
         have HSA : Hid (sameAs o x.args y.args = true) := Lib.hid (SameToA.done HJ.out.2 HG.out.2)
         have HGB : Hid (sameF o x y = sameFs o x.body y.body) := Lib.hid (by rw [HG.out.1, HSA.out]; rfl)
         go_upto_region 14 with fail
         refine region_tail (w := wr) (Turned.refl _ _) 11 (by kernel_rfl) (by kernel_rfl) (fun V hT => ?_)
         clear x0 x1 x2 x3 y0 y1 y2 y3
         obtain ⟨⟨x0, x1, x2, x3⟩, ⟨y0, y1, y2, y3⟩⟩ := H0.out V (HJ.out.1.trans hT)
         have HCV := Lib.hid (HCB.out V (HJ.out.1.trans hT))
         have HTV := Lib.hid (HJ.out.1.trans hT)
         clear hT HG HSA
         generalize sameFs o x.body y.body = z at HCV HGB
         simp only [List.take_succ_cons, List.take_zero, List.drop_succ_cons, List.drop_zero]
         repeat still_step
         refine wpStill_nil ?_
         cases z with
         | true =>
          have HT2 := Lib.hid (HT1.out HGB.out)
          clear HT1 HU
          go_wp2_with (go_at_call 13; refine HCV.out.mono ?_; rintro e w' ⟨rfl, hT⟩)
          go_roundw
          case rel => exact ⟨i + 1, by omega, by go_num, Lib.hid ⟨HTV.out.trans hT, HT2.out⟩⟩
          case measure => simp [intOf]; omega
         | false =>
          have HU2 := Lib.hid (HU.out HGB.out)
          clear HT1 HU
          go_wp2_with (go_at_call 13; refine HCV.out.mono ?_; rintro e w' ⟨rfl, hT⟩)
          go_ret
          rw [HU2.out]
          exact ⟨rfl, HTV.out.trans hT⟩
    ·obtain rfl : i = xs.length := by omega
     have HS : Hid (sameFs o xs ys = true) := Lib.hid (SameToF.done HO.out.2 HL.out)
     go_wp2_with fail
     go_ret
     rw [HS.out]
     exact ⟨rfl, HO.out.1⟩
  ·have hlb : ((xs.length : Int) != (ys.length : Int)) = true := by simp; omega
   have HS := Lib.hid (sameFs_len (o := o) hl)
   clear hl HF HX HY
   go_enter Tryz.func13, Tryz.ntmps13
   go_wp2_with fail
   go_ret
   rw [HS.out]
   exact ⟨rfl, Turned.refl _ _⟩
end Go.Proofs.YtjijdgkccfeeaaaGreatDoor
