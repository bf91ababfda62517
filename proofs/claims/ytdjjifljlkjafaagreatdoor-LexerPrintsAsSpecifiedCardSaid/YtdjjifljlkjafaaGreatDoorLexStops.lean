/- Walk of the law LexerStopsAtTheFirstProblem. Conditions: those of each theorem. -/
import Derived.Test.YtdjjifljlkjafaaGreatDoorLexSrc
import Derived.Test.YtdjjifljlkjafaaGreatDoorLexSanity
namespace Go.Proofs.YtdjjifljlkjafaaGreatDoor
open Go Go.Proofs Go.RowKit
attribute [local go_sem] Oper.semAt_some

theorem lexF_errs (s : ByteArray) : ∀ (f k : Nat) (ts : List Tok) (p : Nat) (c : Int), lexF s f k ts = .err p c → c ≠ 0
  | 0, k, ts, p, c, h => by simp only [lexF] at h; cases h; decide
  | f + 1, k, ts, p, c, h => by
    unfold lexF at h
    split at h
    · cases hT : nextT s k with
      | none => rw [hT] at h; cases h; decide
      | err d => rw [hT] at h; cases h; exact next_errs hT
      | tok t tt => rw [hT] at h; exact lexF_errs s f _ _ p c h
    · cases h
theorem tokensP_errs {s : ByteArray} {p : Nat} {c : Int} (h : tokensP s = .err p c) : c ≠ 0 := by
  unfold tokensP at h
  split at h
  · cases h; decide
  · exact lexF_errs _ _ _ _ _ _ h
theorem tokensP_ne {s : ByteArray} {ts : List Tok} (h : tokensP s = .ok ts) : ts ≠ [] := by
  rw [tokensP_eq] at h
  split at h
  · cases h
  · exact srcT_ne h
theorem sanity_to (n : Nat) (W : World) (h : LV n W) (hn : n ≤ W.heap.size) : Calls Tryz.prog 11 #[] W fun e w' => e = .returned (.bool true) ∧ Below W.heap.size W w' := sanity_any W (h.mono hn)
set_option maxHeartbeats 1000000 in
theorem stops_any (s : ByteArray) (w : World) (hv : LV w.heap.size w) : Calls Tryz.prog 9 #[.string s] w fun e w' => e = .returned (.bool true) ∧ Below w.heap.size w w' := by
  have ST0 := St.start hv (stays_lv w.heap.size)
  have HL := Lib.hid (fun (T : World → Prop) (W : World) (L : List (Nat × Obj)) (h : Hid (St T w W L)) => h.out.bel.size)
  go_enter Tryz.func9, Tryz.ntmps9
  by_cases hbig : 2000 < s.size
  · have HS := Lib.hid (sanity_to _ _ ST0.out.tab (HL.out _ _ _ ST0))
    go_wp2_with (go_at_call 11; refine HS.out.mono ?_; rintro e w7 ⟨rfl, hb⟩; have HB := Lib.hid hb; clear hb)
    go_ret
    exact ⟨rfl, HB.out⟩
  · cases hT : tokensP s with
    | ok ts =>
      go_wp2_with fail
      refine (tok_ok s ts hT (tokensP_ne hT) _ _ ST0.out.tab (HL.out _ _ _ ST0)).mono ?_
      rintro e X1 ⟨g1, cap1, rfl, hc1, hm1, hT1, hb⟩
      have ST1 := St.call ST0 hb
      clear ST0 hT1 hb
      go_wp2_with fail
      obtain ⟨Y1, B1, hW, hB, -, ST2⟩ := St.box ST1 (.cells #[(.int .i64 0), (.int .i64 0)] 26)
      rw [← hW]
      clear ST1 hW hB
      refine (sanity_to _ _ ST2.out.tab (HL.out _ _ _ ST2)).mono ?_
      rintro e X2 ⟨rfl, hb⟩
      have ST3 := St.call ST2 hb
      clear ST2 hb
      go_wp2_with fail
      go_ret
      exact ⟨rfl, ST3.out.bel⟩
    | err k c =>
      obtain ⟨hk, ts, hT2, hne⟩ := tokensP_before (by omega) hT
      have hc0 : (c == 0) = false := by simpa using tokensP_errs hT
      have hlen : 0 < ts.length := List.length_pos_iff.2 hne
      go_wp2_with fail
      refine (tok_err s k c hT _ _ ST0.out.tab (HL.out _ _ _ ST0)).mono ?_
      rintro e X1 ⟨rfl, hb⟩
      have ST1 := St.call ST0 hb
      clear ST0 hb hT
      go_wp2_with fail
      obtain ⟨Y1, B1, hW, hB, -, ST2⟩ := St.box ST1 (.cells #[(.int .i64 k), (.int .i64 c)] 26)
      rw [← hW, ← hB]
      clear ST1 hW hB
      refine (tok_ok (s.extract 0 k) ts hT2 hne _ _ ST2.out.tab (HL.out _ _ _ ST2)).mono ?_
      rintro e X2 ⟨g1, cap1, rfl, hc1, hm1, hT1, hb⟩
      have ST3 := St.call ST2 hb
      clear ST2 hb hT1 hT2
      go_wp2_with fail
      obtain ⟨Y2, B2, hW, hB, -, ST4⟩ := St.box ST3 (.cells #[(.int .i64 0), (.int .i64 0)] 26)
      rw [← hW, ← hB]
      clear ST3 hW hB
      refine (sanity_to _ _ ST4.out.tab (HL.out _ _ _ ST4)).mono ?_
      rintro e X3 ⟨rfl, hb⟩
      have ST5 := St.call ST4 hb
      clear ST4 hb
      obtain ⟨p1, q1⟩ := St.cells2 ST5 1 rfl
      obtain ⟨p2, q2⟩ := St.cells2 ST5 0 rfl
      by_cases hk0 : k = 0
      · subst hk0
        go_wp2_with fail
        go_ret
        exact ⟨rfl, ST5.out.bel⟩
      · have hk1 : ((k : Int) == 0) = false := by simp; omega
        go_wp2_with fail
        go_ret
        exact ⟨rfl, ST5.out.bel⟩
end Go.Proofs.YtdjjifljlkjafaaGreatDoor
