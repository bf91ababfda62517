/- Part 31 of the proof of card: ParSameQ. Conditions: those of each theorem. -/
import Derived.Test.YtjijdgkccfeeaaaGreatDoorPt01
import Derived.Test.YtjijdgkccfeeaaaGreatDoorPt30
set_option maxRecDepth 20000
set_option maxHeartbeats 8000000
namespace Go.Proofs.YtjijdgkccfeeaaaGreatDoor
open Go Go.Proofs Go.RowKit
attribute [local go_sem] Oper.semAt_some
def badA (o : Bool) (k k' a a' n n' : Int) (s s' : ByteArray) : Bool := !(k == k' && (!o || a == a') && (!(k == 1 || k == 3) || s.data.toList == s'.data.toList) && (k != 2 || n == n'))
theorem badA_at {o : Bool} {k a a' n n' : Int} {s s' : ByteArray} (ho : o = true) (h : (a == a') = false) : badA o k k a a' n n' s s' = true := by
 unfold badA; rw [ho, h]; simp
theorem badA_ok {o : Bool} {k a a' n n' : Int} {s s' : ByteArray} {z : Bool} (h : (!o || a == a') = true) (h1 : ((!(k == 1 || k == 3) || s.data.toList == s'.data.toList) && (k != 2 || n == n')) = !z) : badA o k k a a' n n' s s' = z := by
 unfold badA; rw [h, Bool.and_true, Bool.and_assoc, h1]; simp
theorem nine_at {V : World} {N t : Nat} {a b c d e f g h i : Value} (hh : V.heap[N]? = some (.cells #[a, b, c, d, e, f, g, h, i] t (0, 0))) : V.cell? ⟨N, 0, none⟩ = some a /\ V.cell? ⟨N, 3, none⟩ = some d /\ V.cell? ⟨N, 4, none⟩ = some e /\ V.cell? ⟨N, 5, none⟩ = some f /\ V.cell? ⟨N, 6, none⟩ = some g /\ V.cell? ⟨N, 7, none⟩ = some h := by
 simp [World.cell?, hh]
theorem rsameArg_any (o : Bool) (x y : Ar) (a b : Value) (w : World) (hx : KidsAt w (fun _ => True) x.e.kids a) (hy : KidsAt w (fun _ => True) y.e.kids b) : Calls Tryz.prog 35 #[arA x a, arA y b, .bool o] w fun e w' => e = .returned (.bool (sameA o x y)) /\ Turned (fun _ => False) w w' := by
 have HE := Lib.hid (fun (W : World) (hW : Turned (fun _ => False) w W) => rsameExpr_any _ x.e (Nat.le_refl _) o y.e a b W (hx.all hW) (hy.all hW))
 obtain ⟨pa, ca, rfl⟩ := hx.shape
 obtain ⟨pb, cb, rfl⟩ := hy.shape
 clear hx hy
 have HX := Lib.hid (show sameA o x y = (!badA o x.kind y.kind x.at_ y.at_ x.n y.n x.s y.s && (x.kind != 5 || sameX o x.e y.e)) from by rw [sameA, badA, Bool.not_not])
 generalize sameA o x y = r at HX ⊢
 obtain ⟨k, n, s, e, at_⟩ := x
 obtain ⟨k', n', s', e', at'⟩ := y
 obtain ⟨op, en, es, ks, ea⟩ := e
 obtain ⟨op', en', es', ls, ea'⟩ := e'
 simp only [arA, Ex.op, Ex.n, Ex.s, Ex.at_, Ex.kids, exA] at HE HX ⊢
 generalize sameX o (.mk op en es ks ea) (.mk op' en' es' ls ea') = q at HX HE
 obtain ⟨W2, hW2⟩ : ∃ W2, W2 = (w.alloc (.cells #[.int .i64 k, .int .i64 n, .string s, .int .i64 op, .int .i64 en, .string es, .slice pa ks.length ca, .int .i64 ea, .int .i64 at_] 48)).alloc (.cells #[.int .i64 k', .int .i64 n', .string s', .int .i64 op', .int .i64 en', .string es', .slice pb ls.length cb, .int .i64 ea', .int .i64 at'] 48) := ⟨_, rfl⟩
 have HT : Hid (Turned (fun _ => False) w W2) := Lib.hid (by rw [hW2]; exact ((Turned.refl _ _).alloc _).alloc _)
 have HB : Hid (W2.heap[w.heap.size]? = some (.cells #[.int .i64 k, .int .i64 n, .string s, .int .i64 op, .int .i64 en, .string es, .slice pa ks.length ca, .int .i64 ea, .int .i64 at_] 48 (0, 0)) /\ W2.heap[w.heap.size + 1]? = some (.cells #[.int .i64 k', .int .i64 n', .string s', .int .i64 op', .int .i64 en', .string es', .slice pb ls.length cb, .int .i64 ea', .int .i64 at'] 48 (0, 0))) := Lib.hid (by
  obtain ⟨h1, h2⟩ := box_two (w := w) (w' := W2) (by rw [hW2]; exact Turned.refl _ _)
  rw [heap_alloc_new] at h1 h2
  exact ⟨h1, h2⟩)
 go_enter Tryz.func35, Tryz.ntmps35
 go_upto_region 1 with fail
 go_cut [50] from 7 to 50 (fun c wx => c = .bool (badA o k k' at_ at' n n' s s') /\ wx = W2)
 case first =>
  clear HX HB HE HT
  by_cases h0 : k = k'
  ·subst h0
   cases o with
   | false =>
    have HO : Hid ((!false || at_ == at') = true) := Lib.hid rfl
    by_cases h1 : k = 1
    ·subst h1
     have HQ : Hid (badA false 1 1 at_ at' n n' s s' = !(s.data.toList == s'.data.toList)) := Lib.hid (badA_ok HO.out (by simp))
     by_cases hs : s = s'
     ·subst hs
      go_wp2_with fail
      go_meet
      case rel => exact ⟨by rw [HQ.out]; simp, hW2.symm⟩
     ·have hsb : (s.toList == s'.toList) = false := by rw [ByteArray.toList_eq, ByteArray.toList_eq]; exact bytes_ne hs
      have HSC := Lib.hid (bytes_ne hs)
      clear hs
      go_wp2_with fail
      go_meet
      case rel => exact ⟨by rw [HQ.out, HSC.out]; rfl, hW2.symm⟩
    ·by_cases h3 : k = 3
     ·subst h3
      have HQ : Hid (badA false 3 3 at_ at' n n' s s' = !(s.data.toList == s'.data.toList)) := Lib.hid (badA_ok HO.out (by simp))
      by_cases hs : s = s'
      ·subst hs
       go_wp2_with fail
       go_meet
       case rel => exact ⟨by rw [HQ.out]; simp, hW2.symm⟩
      ·have hsb : (s.toList == s'.toList) = false := by rw [ByteArray.toList_eq, ByteArray.toList_eq]; exact bytes_ne hs
       have HSC := Lib.hid (bytes_ne hs)
       clear hs
       go_wp2_with fail
       go_meet
       case rel => exact ⟨by rw [HQ.out, HSC.out]; rfl, hW2.symm⟩
     ·by_cases h2 : k = 2
      ·subst h2
       have HQ : Hid (badA false 2 2 at_ at' n n' s s' = (n != n')) := Lib.hid (badA_ok HO.out (by simp [bne]))
       go_wp2_with fail
       go_meet
       case rel => exact ⟨by rw [HQ.out], hW2.symm⟩
      ·have b1 : (k == 1) = false := by simpa using h1
       have b2 : (k == 2) = false := by simpa using h2
       have b3 : (k == 3) = false := by simpa using h3
       have HQ : Hid (badA false k k at_ at' n n' s s' = false) := Lib.hid (badA_ok HO.out (by simp [h1, h2, h3]))
       clear h1 h2 h3
       go_wp2_with fail
       go_meet
       case rel => exact ⟨by rw [HQ.out], hW2.symm⟩
   | true =>
    by_cases ha : at_ = at'
    ·subst ha
     have HO : Hid ((!true || at_ == at_) = true) := Lib.hid (by simp)
     by_cases h1 : k = 1
     ·subst h1
      have HQ : Hid (badA true 1 1 at_ at_ n n' s s' = !(s.data.toList == s'.data.toList)) := Lib.hid (badA_ok HO.out (by simp))
      by_cases hs : s = s'
      ·subst hs
       go_wp2_with fail
       go_meet
       case rel => exact ⟨by rw [HQ.out]; simp, hW2.symm⟩
      ·have hsb : (s.toList == s'.toList) = false := by rw [ByteArray.toList_eq, ByteArray.toList_eq]; exact bytes_ne hs
       have HSC := Lib.hid (bytes_ne hs)
       clear hs
       go_wp2_with fail
       go_meet
       case rel => exact ⟨by rw [HQ.out, HSC.out]; rfl, hW2.symm⟩
     ·by_cases h3 : k = 3
      ·subst h3
       have HQ : Hid (badA true 3 3 at_ at_ n n' s s' = !(s.data.toList == s'.data.toList)) := Lib.hid (badA_ok HO.out (by simp))
       by_cases hs : s = s'
       ·subst hs
        go_wp2_with fail
        go_meet
        case rel => exact ⟨by rw [HQ.out]; simp, hW2.symm⟩
       ·have hsb : (s.toList == s'.toList) = false := by rw [ByteArray.toList_eq, ByteArray.toList_eq]; exact bytes_ne hs
        have HSC := Lib.hid (bytes_ne hs)
        clear hs
        go_wp2_with fail
        go_meet
        case rel => exact ⟨by rw [HQ.out, HSC.out]; rfl, hW2.symm⟩
      ·by_cases h2 : k = 2
       ·subst h2
        have HQ : Hid (badA true 2 2 at_ at_ n n' s s' = (n != n')) := Lib.hid (badA_ok HO.out (by simp [bne]))
        go_wp2_with fail
        go_meet
        case rel => exact ⟨by rw [HQ.out], hW2.symm⟩
       ·have b1 : (k == 1) = false := by simpa using h1
        have b2 : (k == 2) = false := by simpa using h2
        have b3 : (k == 3) = false := by simpa using h3
        have HQ : Hid (badA true k k at_ at_ n n' s s' = false) := Lib.hid (badA_ok HO.out (by simp [h1, h2, h3]))
        clear h1 h2 h3
        go_wp2_with fail
        go_meet
        case rel => exact ⟨by rw [HQ.out], hW2.symm⟩
    ·have hab : (at_ == at') = false := by simpa using ha
     have hac : (at_ != at') = true := by simpa using ha
     have HQ : Hid (badA true k k at_ at' n n' s s' = true) := Lib.hid (badA_at rfl hab)
     clear ha hab
     go_wp2_with fail
     go_meet
     case rel => exact ⟨by rw [HQ.out], hW2.symm⟩
  ·have hb : (k != k') = true := by simpa using h0
   have HQ : Hid (badA o k k' at_ at' n n' s s' = true) := Lib.hid (by simp [badA, h0])
   clear h0
   go_wp2_with fail
   go_meet
   case rel => exact ⟨by rw [HQ.out], hW2.symm⟩
 case rest =>
  obtain ⟨rfl, hwc⟩ := hcut
  rw [hwc]
  clear hwc hW2
  generalize badA o k k' at_ at' n n' s s' = bd at HX ⊢
  obtain ⟨c0, c3, c4, c5, c6, c7⟩ := nine_at HB.out.1
  obtain ⟨d0, d3, d4, d5, d6, d7⟩ := nine_at HB.out.2
  cases bd with
  | true =>
   have HR : Hid (r = false) := by show _ = _; rw [HX.out]; rfl
   clear HX HE HB c0 c3 c4 c5 c6 c7 d0 d3 d4 d5 d6 d7
   go_wp2_with fail
   go_ret
   rw [HR.out]
   exact ⟨rfl, HT.out⟩
  | false =>
   by_cases h5 : k = 5
   ·subst h5
    have HR : Hid (r = q) := by show _ = _; rw [HX.out]; rfl
    clear HX HB
    go_wp2_with (go_at_call 14; refine (HE.out _ HT.out).mono ?_; rintro e w' ⟨rfl, hT⟩)
    go_ret
    rw [HR.out]
    exact ⟨rfl, HT.out.trans hT⟩
   ·have b5 : (k != 5) = true := by simpa using h5
    have HR : Hid (r = true) := by show _ = _; rw [HX.out, b5]; rfl
    clear HX HE HB h5
    go_wp2_with fail
    go_ret
    rw [HR.out]
    exact ⟨rfl, HT.out⟩
end Go.Proofs.YtjijdgkccfeeaaaGreatDoor
