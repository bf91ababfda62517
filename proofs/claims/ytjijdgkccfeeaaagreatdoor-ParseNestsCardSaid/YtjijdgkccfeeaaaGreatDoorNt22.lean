/- Part 22 of the proofs about parse: ParFitsW. Conditions: those of each theorem. -/
import Derived.Test.YtjijdgkccfeeaaaGreatDoorNt01
import Derived.Test.YtjijdgkccfeeaaaGreatDoorNt21
namespace Go.Proofs.YtjijdgkccfeeaaaGreatDoor
open Go Go.Proofs Go.RowKit
attribute [local go_sem] Oper.semAt_some
theorem fits_true (g x : Ex) (a c : Int) (h : c = 2 ∨ (c = 0 ∧ sameX false g x = true)) (ka kb : Value) (W : World) (h1 : KidsAt W (fun _ => True) g.kids ka) (h2 : KidsAt W (fun _ => True) x.kids kb) :
    Calls Tryz.prog 17 #[.agg #[(.int .i64 a), (.int .i64 c)], exA g ka, exA x kb] W fun e w' => e = .returned (.bool true) ∧ Turned (fun _ => False) W w' := by
  obtain ⟨pa, ca, rfl⟩ := h1.shape
  obtain ⟨pb, cb, rfl⟩ := h2.shape
  obtain ⟨W1, hW1⟩ : ∃ W1, W1 = ((W.alloc (.cells #[(.int .i64 a), (.int .i64 c)] 26)).alloc (.cells #[(.int .i64 (g.op)), (.int .i64 (g.n)), .string g.s, .slice pa g.kids.length ca, (.int .i64 (g.at_))] 31)).alloc (.cells #[(.int .i64 (x.op)), (.int .i64 (x.n)), .string x.s, .slice pb x.kids.length cb, (.int .i64 (x.at_))] 31) := ⟨_, rfl⟩
  have t1 : Turned (fun _ => False) W W1 := by rw [hW1]; exact (((Turned.refl _ _).alloc _).alloc _).alloc _
  rcases h with h | ⟨h, hs⟩
  · subst h
    unfold exA
    go_enter Tryz.func17, Tryz.ntmps17
    go_wp2_with fail
    go_ret
    rw [← hW1]
    exact ⟨rfl, t1⟩
  · subst h
    have HC := Lib.hid (same_off g x hs (.slice pa g.kids.length ca) (.slice pb x.kids.length cb) W1 (h1.all t1) (h2.all t1))
    have HT := Lib.hid t1
    have HW := Lib.hid hW1
    clear h1 h2 t1 hW1 hs
    unfold exA at HC ⊢
    go_enter Tryz.func17, Tryz.ntmps17
    go_wp2_with (rw [← HW.out]; go_at_call 16; refine HC.out.mono ?_; rintro e w' ⟨rfl, ht⟩; have HT2 := Lib.hid (HT.out.trans ht); clear ht)
    go_ret
    exact ⟨rfl, HT2.out⟩
end Go.Proofs.YtjijdgkccfeeaaaGreatDoor
