/- Walk of the law LexerFindsPositions. Conditions: those of each theorem. -/
import Derived.Test.YtdjjifljlkjafaaGreatDoorLexWalkK
import Derived.Test.YtdjjifljlkjafaaGreatDoorLexSanity
namespace Go.Proofs.YtdjjifljlkjafaaGreatDoor
open Go Go.Proofs Go.RowKit
attribute [local go_sem] Oper.semAt_some

theorem sanity_at (n : Nat) (W : World) (h : LV n W) (hn : n ≤ W.heap.size) : Calls Tryz.prog 11 #[] W fun e w' => e = .returned (.bool true) ∧ Below W.heap.size W w' := sanity_any W (h.mono hn)
set_option maxHeartbeats 1000000 in
theorem finds_any (s : ByteArray) (a : Int) (w : World) (hv : LV w.heap.size w) : Calls Tryz.prog 5 #[.string s, (.int .i64 a)] w fun e w' => e = .returned (.bool true) ∧ Below w.heap.size w w' := by
  have ST0 := St.start hv (stays_lv w.heap.size)
  have HL := Lib.hid (fun (T : World → Prop) (W : World) (L : List (Nat × Obj)) (h : Hid (St T w W L)) => h.out.bel.size)
  go_enter Tryz.func5, Tryz.ntmps5
  by_cases hbig : 2000 < s.size
  · have HS := Lib.hid (sanity_at _ _ ST0.out.tab (HL.out _ _ _ ST0))
    go_wp2_with (go_at_call 11; refine HS.out.mono ?_; rintro e w7 ⟨rfl, hb⟩; have HB := Lib.hid hb; clear hb)
    go_ret
    exact ⟨rfl, HB.out⟩
  · have HP := Lib.hid (position_any s a w (by omega))
    have HR := Lib.hid (fun W : World => rposition_any s a W (by omega))
    generalize posP s a = pp at HP HR
    obtain ⟨l, c⟩ := pp
    simp only at HP HR
    go_wp2_with fail
    refine HP.out.mono ?_
    rintro e W1 ⟨rfl, ht⟩
    have ST1 := St.call ST0 (below_of_turned ht)
    clear ST0 ht HP
    go_wp2_with fail
    refine (sanity_at _ _ ST1.out.tab (HL.out _ _ _ ST1)).mono ?_
    rintro e W2 ⟨rfl, hb⟩
    have ST2 := St.call ST1 hb
    clear ST1 hb
    go_wp2_with fail
    refine (HR.out _).mono ?_
    rintro e W3 ⟨rfl, ht⟩
    have ST3 := St.call ST2 (below_of_turned ht)
    clear ST2 ht HR
    go_wp2_with fail
    go_ret
    exact ⟨rfl, ST3.out.bel⟩
end Go.Proofs.YtdjjifljlkjafaaGreatDoor
