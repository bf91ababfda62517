/- Walk of the law LexerReadsItsText. Conditions: those of each theorem. -/
import Derived.Test.YtdjjifljlkjafaaGreatDoorLexReread
import Derived.Test.YtdjjifljlkjafaaGreatDoorLexSame
namespace Go.Proofs.YtdjjifljlkjafaaGreatDoor
open Go Go.Proofs Go.RowKit
attribute [local go_sem] Oper.semAt_some

theorem good_strips {ts : List Tok} {ps : List (List UInt8 × Tok)} (hp : Worded ps) (h : ts.map Tok.strip = ps.map (fun p => p.2.strip) ++ [endS]) : ∀ t ∈ ts, -9223372036854775808 ≤ t.n ∧ t.n ≤ 9223372036854775807 ∧ t.s.size ≤ 100000 := by
  intro t ht
  have hm : t.strip ∈ ps.map (fun p => p.2.strip) ++ [endS] := h ▸ List.mem_map_of_mem ht
  rcases List.mem_append.1 hm with hm | hm
  · obtain ⟨p, hpm, hpe⟩ := List.mem_map.1 hm
    obtain ⟨-, h1, h2, h3, -⟩ := head_word (hp p hpm)
    have e1 : p.2.s = t.s := congrArg (fun x => x.2.1) hpe
    have e2 : p.2.n = t.n := congrArg (fun x => x.2.2) hpe
    rw [← e1, ← e2]
    omega
  · have he : t.strip = endS := by simpa using hm
    have e1 : t.s = ⟨#[]⟩ := congrArg (fun x => x.2.1) he
    have e2 : t.n = 0 := congrArg (fun x => x.2.2) he
    rw [e1, e2]
    exact ⟨by omega, by omega, by show 0 ≤ 100000; omega⟩
theorem textQ_strip {ts us : List Tok} (h : us.map Tok.strip = ts.map Tok.strip) : textQ us = textQ ts := by
  unfold textQ
  rw [wordsQ_strip, wordsQ_strip, h]
/-- Text on a list of tokens, by the world that a law carries -/
theorem text_all (g cap : Nat) (ts : List Tok) (n : Nat) (W : World) (hv : LV n W) (hT : ToksAt W g 0 ts) (hl : ts.length ≤ 100000) (hk : ∀ t ∈ ts, -9223372036854775808 ≤ t.n ∧ t.n ≤ 9223372036854775807 ∧ t.s.size ≤ 100000) (hj : (Lib.join ((wordsQ ts).map (·.data.toList)) [32]).length ≤ 100000) :
    Calls Tryz.prog 14 #[.slice (some ⟨g, 0, none⟩) ts.length cap] W fun e w' => e = .returned (.string (textQ ts)) ∧ Below W.heap.size W w' := by
  refine (print_all g 0 cap ts W n hT hl hk hv.2 (by omega)).mono ?_
  rintro e w' ⟨rfl, ht⟩
  exact ⟨rfl, below_of_turned ht⟩
theorem lexA_count (l : List UInt8) : ∀ (k : Nat) (ts : List Tok), lexA l k = .ok ts → ts.length ≤ l.length + 1 := by
  induction l using lex_ind with
  | nil => intro k ts h; rw [lexA_nil] at h; cases h; simp
  | err l c hl h => intro k ts h2; rw [lexA_err hl h] at h2; cases h2
  | none l hl h => intro k ts h2; rw [lexA_none hl h] at h2; cases h2
  | tok l t tt h h0 h1 ih =>
    intro k ts h2
    rw [lexA_tok h] at h2
    obtain ⟨us, hus, rfl⟩ := cons_ok h2
    have := ih _ us hus
    simp only [List.length_drop] at this
    simp only [List.length_cons]
    omega
theorem tokensP_count {s : ByteArray} {ts : List Tok} (hs : s.size ≤ 65536) (h : tokensP s = .ok ts) : ts.length ≤ s.size + 1 := by
  rw [tokensP_eq, if_neg (by omega)] at h
  have := lexA_count _ _ _ h
  have hl : s.data.toList.length = s.size := by simp
  simp only [List.length_drop] at this
  omega
set_option maxRecDepth 20000 in
set_option maxHeartbeats 2000000 in
theorem readstext_any (s : ByteArray) (w : World) (hv : LV w.heap.size w) : Calls Tryz.prog 6 #[.string s] w fun e w' => e = .returned (.bool true) ∧ Below w.heap.size w w' := by
  have ST0 := St.start hv (stays_lv w.heap.size)
  have HL := Lib.hid (fun (T : World → Prop) (W : World) (L : List (Nat × Obj)) (h : Hid (St T w W L)) => h.out.bel.size)
  go_enter Tryz.func6, Tryz.ntmps6
  by_cases hbig : 2000 < s.size
  · have HS := Lib.hid (sanity_to _ _ ST0.out.tab (HL.out _ _ _ ST0))
    go_wp2_with (go_at_call 11; refine HS.out.mono ?_; rintro e w7 ⟨rfl, hb⟩; have HB := Lib.hid hb; clear hb)
    go_ret
    exact ⟨rfl, HB.out⟩
  · cases hT : tokensP s with
    | err k c =>
      have hc0 : (c != 0) = true := by simpa using tokensP_errs hT
      go_wp2_with fail
      refine (tok_err s k c hT _ _ ST0.out.tab (HL.out _ _ _ ST0)).mono ?_
      rintro e X1 ⟨rfl, hb⟩
      have ST1 := St.call ST0 hb
      clear ST0 hb hT
      go_wp2_with fail
      obtain ⟨Y1, B1, hW, hB1, -, ST2⟩ := St.box ST1 (.cells #[(.int .i64 k), (.int .i64 c)] 26)
      rw [← hW]
      clear ST1 hW hB1
      refine (sanity_to _ _ ST2.out.tab (HL.out _ _ _ ST2)).mono ?_
      rintro e X2 ⟨rfl, hb⟩
      have ST3 := St.call ST2 hb
      clear ST2 hb
      go_wp2_with fail
      go_ret
      exact ⟨rfl, ST3.out.bel⟩
    | ok ts =>
      obtain ⟨ps, p1, p2, p3, p4, p5, p6, us, q1, q2⟩ := reread (by omega) hT
      have hcnt := tokensP_count (by omega) hT
      have hlen : us.length = ts.length := by simpa using congrArg List.length q2
      have hg1 := good_strips p1 p2
      have hg2 := good_strips p1 (q2.trans p2)
      have hj1 : (Lib.join ((wordsQ ts).map (·.data.toList)) [32]).length ≤ 100000 := by
        have : (textQ ts).size ≤ 100000 := by rw [p4]; show (Lib.join (ps.map (·.1)) [32]).length ≤ 100000; omega
        exact this
      have hj2 : (Lib.join ((wordsQ us).map (·.data.toList)) [32]).length ≤ 100000 := by rw [wordsQ_strip, q2, ← wordsQ_strip]; exact hj1
      have HA := Lib.hid (fun g cap n W hv hT => text_all g cap ts n W hv hT (by omega) hg1 hj1)
      have HB := Lib.hid (fun g cap n W hv hT => text_all g cap us n W hv hT (by omega) hg2 hj2)
      rw [textQ_strip q2] at HB
      have hSm := Lib.hid q2
      have hne := tokensP_ne hT
      have hne2 := tokensP_ne q1
      clear p1 p2 p3 p4 p5 p6 q2 hg1 hg2 hj1 hj2 hlen
      generalize textQ ts = tx at q1 HA HB
      go_wp2_with fail
      refine (tok_ok s ts hT hne _ _ ST0.out.tab (HL.out _ _ _ ST0)).mono ?_
      rintro e X1 ⟨g1, cap1, rfl, hc1, hm1, hT1, hb⟩
      have SA1 := St.call ST0 hb
      have ST1 := St.more SA1 hT1 (stays_toks g1 0 ts)
      clear ST0 SA1 hb hT1 hT
      go_wp2_with fail
      obtain ⟨Y1, B1, hW, hB1, -, ST2⟩ := St.box ST1 (.cells #[(.int .i64 0), (.int .i64 0)] 26)
      rw [← hW]
      clear ST1 hW hB1
      refine (HA.out g1 cap1 _ _ ST2.out.tab.1 ST2.out.tab.2).mono ?_
      rintro e X2 ⟨rfl, hb⟩
      have ST3 := St.call ST2 hb
      clear ST2 hb
      go_wp2_with fail
      refine (tok_ok tx us q1 hne2 _ _ ST3.out.tab.1 (HL.out _ _ _ ST3)).mono ?_
      rintro e X3 ⟨g2, cap2, rfl, hc2, hm2, hT1, hb⟩
      have SA4 := St.call ST3 hb
      have ST4 := St.more SA4 hT1 (stays_toks g2 0 us)
      clear ST3 SA4 hb hT1 q1
      go_wp2_with fail
      obtain ⟨Y4, B4, hW, hB4, -, ST5⟩ := St.box ST4 (.cells #[(.int .i64 0), (.int .i64 0)] 26)
      rw [← hW, ← hB4]
      clear ST4 hW hB4
      refine (sanity_to _ _ ST5.out.tab.1.1 (HL.out _ _ _ ST5)).mono ?_
      rintro e X6 ⟨rfl, hb⟩
      have ST6 := St.call ST5 hb
      clear ST5 hb
      obtain ⟨r1, r2⟩ := St.cells2 ST6 0 rfl
      go_wp2_with fail
      refine (same_toks g1 g2 cap1 cap2 ts us _ ST6.out.tab.1.2 ST6.out.tab.2 hSm.out (by unfold maxLen; omega)).mono ?_
      rintro e X7 ⟨rfl, hb⟩
      have ST7 := St.call ST6 hb
      clear ST6 hb r1 r2
      go_wp2_with fail
      refine (HB.out g2 cap2 _ _ ST7.out.tab.1.1 ST7.out.tab.2).mono ?_
      rintro e X8 ⟨rfl, hb⟩
      have ST8 := St.call ST7 hb
      clear ST7 hb
      go_wp2_with fail
      go_ret
      exact ⟨rfl, ST8.out.bel⟩
end Go.Proofs.YtdjjifljlkjafaaGreatDoor
