/- Walk of the law LexerReadsAsSpecified. Conditions: those of each theorem. -/
import Derived.Test.YtdjjifljlkjafaaGreatDoorLexRefG
import Derived.Test.YtdjjifljlkjafaaGreatDoorLexStops
namespace Go.Proofs.YtdjjifljlkjafaaGreatDoor
open Go Go.Proofs Go.RowKit
attribute [local go_sem] Oper.semAt_some

theorem rtok_ok (s : ByteArray) (hs : s.size ≤ 70000) (ts : List Tok) (hr : tokensP s = .ok ts) (W : World) : Calls Tryz.prog 13 #[.string s] W fun e w' =>
    ∃ g cap, e = .returned (.agg #[.slice (some ⟨g, 0, none⟩) ts.length cap, (.int .i64 0), (.int .i64 0)]) ∧ ts.length ≤ cap ∧ cap ≤ maxLen ∧ ToksAt w' g 0 ts ∧ Below W.heap.size W w' := by
  refine (rtokens_any s W hs).mono ?_
  intro e w' hh
  rw [hr] at hh
  obtain ⟨v, rfl, ho, ht⟩ := hh
  obtain ⟨g, cap, rfl, h1, h2, h3⟩ := own_toks ho (tokensP_ne hr)
  exact ⟨g, cap, rfl, h1, h2, h3, below_of_turned ht⟩
theorem rtok_err (s : ByteArray) (hs : s.size ≤ 70000) (k : Nat) (c : Int) (hr : tokensP s = .err k c) (W : World) : Calls Tryz.prog 13 #[.string s] W fun e w' =>
    e = .returned (.agg #[.slice none 0 0, (.int .i64 k), (.int .i64 c)]) ∧ Below W.heap.size W w' := by
  refine (rtokens_any s W hs).mono ?_
  intro e w' hh
  rw [hr] at hh
  exact ⟨hh.1, below_of_turned hh.2⟩
set_option maxHeartbeats 2000000 in
theorem reads_any (s : ByteArray) (w : World) (hv : LV w.heap.size w) : Calls Tryz.prog 3 #[.string s] w fun e w' => e = .returned (.bool true) ∧ Below w.heap.size w w' := by
  have ST0 := St.start hv (stays_lv w.heap.size)
  have HL := Lib.hid (fun (T : World → Prop) (W : World) (L : List (Nat × Obj)) (h : Hid (St T w W L)) => h.out.bel.size)
  go_enter Tryz.func3, Tryz.ntmps3
  by_cases hbig : 70000 < s.size
  · have HS := Lib.hid (sanity_to _ _ ST0.out.tab (HL.out _ _ _ ST0))
    go_wp2_with (go_at_call 11; refine HS.out.mono ?_; rintro e w7 ⟨rfl, hb⟩; have HB := Lib.hid hb; clear hb)
    go_ret
    exact ⟨rfl, HB.out⟩
  · cases hT : tokensP s with
    | err k c =>
      go_wp2_with fail
      refine (tok_err s k c hT _ _ ST0.out.tab (HL.out _ _ _ ST0)).mono ?_
      rintro e X1 ⟨rfl, hb⟩
      have ST1 := St.call ST0 hb
      clear ST0 hb
      go_wp2_with fail
      obtain ⟨Y1, B1, hW, hB1, -, ST2⟩ := St.box ST1 (.cells #[(.int .i64 k), (.int .i64 c)] 26)
      rw [← hW, ← hB1]
      clear ST1 hW hB1
      refine (rtok_err s (by omega) k c hT _).mono ?_
      rintro e X2 ⟨rfl, hb⟩
      have ST3 := St.call ST2 hb
      clear ST2 hb hT
      obtain ⟨p1, q1⟩ := St.cells2 ST3 0 rfl
      have l1 := St.lt ST3 0 rfl
      go_wp2_with fail
      go_loopw [6] (fun i wr => i = (.int .i64 0) ∧ Hid (St (LV w.heap.size) w wr [])) (fun _ _ => 0)
      case atStart =>
        obtain ⟨Y2, B2, hW, hB2, -, ST4⟩ := St.box ST3 (.cells #[.slice none 0 0, (.int .i64 k), (.int .i64 c)] 30)
        rw [← hW]
        exact ⟨rfl, Lib.hid ⟨Lays.nil _, ST4.out.bel, ST4.out.tab, ST4.out.stays⟩⟩
      case round =>
        clear p1 q1 l1 ST3
        obtain ⟨rfl, HS⟩ := hrel
        have HSa := Lib.hid (sanity_to _ _ HS.out.tab (HL.out _ _ _ HS))
        go_wp2_with (go_at_call 11; refine HSa.out.mono ?_; rintro e w7 ⟨rfl, hb⟩; have HB := Lib.hid hb; clear hb)
        go_ret
        exact ⟨rfl, (St.call HS HB.out).out.bel⟩
    | ok ts =>
      have hne := tokensP_ne hT
      go_wp2_with fail
      refine (tok_ok s ts hT hne _ _ ST0.out.tab (HL.out _ _ _ ST0)).mono ?_
      rintro e X1 ⟨g1, cap1, rfl, hc1, hm1, hT1, hb⟩
      have SA1 := St.call ST0 hb
      have ST1 := St.more SA1 hT1 (stays_toks g1 0 ts)
      clear ST0 SA1 hb hT1
      go_wp2_with fail
      obtain ⟨Y1, B1, hW, hB1, -, ST2⟩ := St.box ST1 (.cells #[(.int .i64 0), (.int .i64 0)] 26)
      rw [← hW, ← hB1]
      clear ST1 hW hB1
      refine (rtok_ok s (by omega) ts hT _).mono ?_
      rintro e X2 ⟨g2, cap2, rfl, hc2, hm2, hT1, hb⟩
      have SA3 := St.call ST2 hb
      have ST3 := St.more SA3 hT1 (stays_toks g2 0 ts)
      clear ST2 SA3 hb hT hT1 hne
      obtain ⟨p1, q1⟩ := St.cells2 ST3 0 rfl
      have l1 := St.lt ST3 0 rfl
      have HNn : Hid (∀ j, j < ts.length → ∃ x, ts[j]? = some x) := fun j hj => ⟨_, List.getElem?_eq_getElem hj⟩
      have hcap : ts.length ≤ 9223372036854775807 := Nat.le_trans hc1 hm1
      obtain ⟨n, hn⟩ : ∃ n, ts.length = n := ⟨_, rfl⟩
      rw [hn] at HNn hcap hc1 hc2 ⊢
      clear hn
      go_wp2_with fail
      obtain ⟨Y2, B2, hW, hB2, -, ST4⟩ := St.box ST3 (.cells #[.slice (some ⟨g2, 0, none⟩) n cap2, (.int .i64 0), (.int .i64 0)] 30)
      rw [← hW, ← hB2]
      clear ST3 hW hB2 p1 q1 l1
      go_loopw [6] (fun i wr => ∃ j m : Nat, i = (.int .i64 j) ∧ j ≤ n ∧ wr = Y2.drewN m) (fun i _ => n - (intOf i).toNat)
      case atStart => exact ⟨0, 0, rfl, by omega, rfl⟩
      case round =>
        obtain ⟨j, m, rfl, hj, rfl⟩ := hrel
        by_cases hlt : j < n
        · obtain ⟨x, hx⟩ := HNn.out j hlt
          obtain ⟨b0, b1, b2⟩ := St.cells3 ST4 0 rfl
          obtain ⟨d0, d1, d2, d3⟩ := tok_cells ST4.out.tab.1.2 j x hx (j * 4) (j * 4 + 1) (j * 4 + 2) (j * 4 + 3) rfl rfl rfl rfl
          obtain ⟨f0, f1, f2, f3⟩ := tok_cells ST4.out.tab.2 j x hx (j * 4) (j * 4 + 1) (j * 4 + 2) (j * 4 + 3) rfl rfl rfl rfl
          have hk1 : (0 : Int) ≤ j := by omega
          have hk2 : (j : Int) < n := by omega
          clear hx
          obtain ⟨kind, at_, str, num⟩ := x
          simp only at d0 d1 d2 d3 f0 f1 f2 f3
          go_wp2_with fail
          go_quiet (fail)
          go_wp2_with fail
          go_roundw
          case rel => exact ⟨j + 1, _, by go_num, by omega, rfl⟩
          case measure => simp [intOf]; omega
        · obtain rfl : j = n := by omega
          have ST5 := St.call ST4 (below_of_turned (drewN_turned (fun _ => False) Y2 m))
          have HSa := Lib.hid (sanity_to _ _ ST5.out.tab.1.1 (HL.out _ _ _ ST5))
          go_wp2_with (go_at_call 11; refine HSa.out.mono ?_; rintro e w7 ⟨rfl, hb⟩; have HB := Lib.hid hb; clear hb)
          go_ret
          exact ⟨rfl, (St.call ST5 HB.out).out.bel⟩
end Go.Proofs.YtdjjifljlkjafaaGreatDoor
