/- Part 16 of the proof of lawSum.card: QryDiv. Conditions: those of each theorem. -/
import Derived.Test.YthejfklieedjmaaGreatDoorQs01
import Derived.Test.YthejfklieedjmaaGreatDoorQs07
set_option maxRecDepth 20000
set_option maxHeartbeats 4000000
namespace Go.Proofs.YthejfklieedjmaaGreatDoor
open Go Go.Proofs Go.RowKit
attribute [local go_sem] Oper.semAt_some
theorem qDiv0_any (u v : Rv) (k : Nat) (W : World) (hk : k <= 100000000) (hv : SzR v k) (h0 : qR v = 0) :
  Calls Tryz.prog 18 #[ratV u, ratV v] W fun e w' => e = .returned (.tuple #[ratV zeroR, .int .i64 1]) /\ Turned (fun _ => False) W w' := by
 have hgd := fracR_den v
 have hgn : (fracR v).2.1 = 0 := (qF_sign _ hgd).1.2 h0
 have HOv := Lib.hid (fun W => qOf_any v W (Nat.le_trans hv.1 (by omega)) (Nat.le_trans hv.2 (by omega)))
 obtain ⟨⟨g1, g2, g3⟩, hgr⟩ : ∃ f, fracR v = f := ⟨_, rfl⟩
 rw [hgr] at HOv hgn
 obtain ⟨un, ux, ud⟩ := u
 obtain ⟨vn, vx, vd⟩ := v
 simp only at hgn
 subst hgn
 obtain ⟨G3, hG3⟩ : ∃ x, encB g3 = x := ⟨_, rfl⟩
 simp only [frV] at HOv
 rw [encB_zero, hG3] at HOv
 clear hv hgd hgr h0 hG3 g3 hk
 have hfld := run_field_frac
 go_enter Tryz.func18, Tryz.ntmps18
 go_wp2_with fail
 refine (HOv.out _).mono ?_
 rintro e wa ⟨rfl, ta⟩
 have HA := Lib.hid (mv3 (And.intro (new3 W (.cells #[.bool un, .string ux, .string ud] 31 (0, 0)) (.cells #[.bool vn, .string vx, .string vd] 31 (0, 0)) (.cells #[.bool false, .string ⟨#[]⟩, .string ⟨#[]⟩] 31 (0, 0))).1 (And.intro (new3 W (.cells #[.bool un, .string ux, .string ud] 31 (0, 0)) (.cells #[.bool vn, .string vx, .string vd] 31 (0, 0)) (.cells #[.bool false, .string ⟨#[]⟩, .string ⟨#[]⟩] 31 (0, 0))).2.1 (And.intro (new3 W (.cells #[.bool un, .string ux, .string ud] 31 (0, 0)) (.cells #[.bool vn, .string vx, .string vd] 31 (0, 0)) (.cells #[.bool false, .string ⟨#[]⟩, .string ⟨#[]⟩] 31 (0, 0))).2.2 ((((Turned.refl (fun _ => False) W).alloc _).alloc _).alloc _)))) ta)
 clear ta HOv
 have K3 := set3 HA.out.2.2.1 (.bool false) (.string ⟨#[]⟩) (.string ⟨#[]⟩)
 obtain ⟨e0, e1, e2, q0, q1, q2⟩ := box3 HA.out.2.2.1
 have HS3 := Lib.hid K3
 clear K3
 go_wp2_with fail
 refine bodyPost_ret (results_ct (fn := Tryz.f18) rfl _ _ (W.heap.size + 1 + 1) #[.bool false, .string ⟨#[]⟩, .string ⟨#[]⟩] (.int .i64 1) rfl rfl (run_loadVar_row _ _ 31 31 _ (0, 0) _ HS3.out.1 Tryz.underlying31 rfl (by kernel_rfl))) rfl ?_
 exact ⟨rfl, HA.out.2.2.2.fresh HS3.out.2 fun g hg => by omega⟩
end Go.Proofs.YthejfklieedjmaaGreatDoor
