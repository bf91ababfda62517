/- Walk of the law LexerJoinsSources. Conditions: those of each theorem. -/
import Derived.Test.YtdjjifljlkjafaaGreatDoorLexStops
import Derived.Test.YtdjjifljlkjafaaGreatDoorLexFill
namespace Go.Proofs.YtdjjifljlkjafaaGreatDoor
open Go Go.Proofs Go.RowKit
attribute [local go_sem] Oper.semAt_some

def joined (a b : ByteArray) : ByteArray := a ++ ⟨#[10]⟩ ++ b
theorem joined_list (a b : ByteArray) : (joined a b).data.toList = a.data.toList ++ 10 :: b.data.toList := by
  simp [joined]
theorem joined_size (a b : ByteArray) : (joined a b).size = a.size + 1 + b.size := by
  simp [joined, ByteArray.size_append]; rfl
theorem tokensP_joined (a b : ByteArray) (ha : a.size ≤ 2000) (hb : b.size ≤ 2000) : tokensP (joined a b) = joinR (tokensP a) (a.size + 1) b.data.toList := by
  rw [tokensP_eq, tokensP_eq, if_neg (by rw [joined_size]; omega), if_neg (by omega), joined_list, srcT_join]
  congr 1
  simp
theorem joined_err1 {a b : ByteArray} (ha : a.size ≤ 2000) (hb : b.size ≤ 2000) {k : Nat} {c : Int} (h : tokensP a = .err k c) : tokensP (joined a b) = .err k c := by
  rw [tokensP_joined a b ha hb, h]; rfl
theorem joined_err2 {a b : ByteArray} (ha : a.size ≤ 2000) (hb : b.size ≤ 2000) {l : List Tok} {k : Nat} {c : Int} (h : tokensP a = .ok l) (h2 : tokensP b = .err k c) : tokensP (joined a b) = .err (k + (a.size + 1)) c := by
  rw [tokensP_joined a b ha hb, h]
  rw [tokensP_eq, if_neg (by omega)] at h2
  show (srcT _ _).pre _ = _
  rw [show a.size + 1 = 0 + (a.size + 1) by omega, srcT_shift, h2]
  simp [LR.shift, LR.pre]
theorem joined_ok {a b : ByteArray} (ha : a.size ≤ 2000) (hb : b.size ≤ 2000) {l m : List Tok} (h : tokensP a = .ok l) (h2 : tokensP b = .ok m) : tokensP (joined a b) = .ok (l.dropLast ++ m.map (Tok.shift (a.size + 1))) := by
  rw [tokensP_joined a b ha hb, h]
  rw [tokensP_eq, if_neg (by omega)] at h2
  show (srcT _ _).pre _ = _
  rw [show a.size + 1 = 0 + (a.size + 1) by omega, srcT_shift, h2]
  simp [LR.shift, LR.pre]
/-- Tokens returns a problem, whatever the source is -/
theorem tok_some (s : ByteArray) (n : Nat) (W : World) (h : LV n W) (hn : n ≤ W.heap.size) : Calls Tryz.prog 12 #[.string s] W fun e w' =>
    ∃ v k c, e = .returned (.tuple #[v, .agg #[(.int .i64 k), (.int .i64 c)]]) ∧ Below W.heap.size W w' := by
  cases hr : tokensP s with
  | ok ts =>
    refine (tok_ok s ts hr (tokensP_ne hr) n W h hn).mono ?_
    rintro e w' ⟨g, cap, rfl, -, -, -, hb⟩
    exact ⟨_, _, _, rfl, hb⟩
  | err k c =>
    refine (tok_err s k c hr n W h hn).mono ?_
    rintro e w' ⟨rfl, hb⟩
    exact ⟨_, _, _, rfl, hb⟩
/-- where tokens stand -/
theorem lexA_within (l : List UInt8) : ∀ (k : Nat) (ts : List Tok), lexA l k = .ok ts → ∀ t ∈ ts, (k : Int) ≤ t.at_ ∧ t.at_ ≤ (k + l.length : Nat) := by
  induction l using lex_ind with
  | nil => intro k ts h t ht; rw [lexA_nil] at h; cases h; simp at ht; subst ht; simp
  | err l c hl h => intro k ts h2; rw [lexA_err hl h] at h2; cases h2
  | none l hl h => intro k ts h2; rw [lexA_none hl h] at h2; cases h2
  | tok l t0 tt h h0 h1 ih =>
    intro k ts h2 t ht
    rw [lexA_tok h] at h2
    obtain ⟨us, hus, rfl⟩ := cons_ok h2
    have hb := blankL_le false (l.drop tt)
    simp only [List.length_drop] at hb
    rcases List.mem_cons.1 ht with rfl | ht
    · simp [Tok.shift, head_at h]
      omega
    · have := ih _ us hus t ht
      simp only [List.length_drop] at this
      omega
theorem tokensP_within {s : ByteArray} {ts : List Tok} (h : tokensP s = .ok ts) : ∀ t ∈ ts, 0 ≤ t.at_ ∧ t.at_ ≤ s.size := by
  rw [tokensP_eq] at h
  split at h
  · cases h
  · intro t ht
    have := lexA_within _ _ _ h t ht
    have hb := blankL_le false s.data.toList
    simp only [List.length_drop] at this
    have h3 : s.data.toList.length = s.size := by simp
    omega
theorem box_bel {w : World} {o : Obj} : Below w.heap.size w (w.alloc o) := (Below.refl _ _).alloc (Nat.le_refl _) _
theorem St.none {T : World → Prop} {w W : World} {L : List (Nat × Obj)} (h : Hid (St T w W L)) : Hid (St T w W []) := Lib.hid ⟨Lays.nil _, h.out.bel, h.out.tab, h.out.stays⟩
set_option maxHeartbeats 2000000 in
theorem joins_any (a b : ByteArray) (w : World) (hv : LV w.heap.size w) : Calls Tryz.prog 7 #[.string a, .string b] w fun e w' => e = .returned (.bool true) ∧ Below w.heap.size w w' := by
  have ST0 := St.start hv (stays_lv w.heap.size)
  have HL := Lib.hid (fun (T : World → Prop) (W : World) (L : List (Nat × Obj)) (h : Hid (St T w W L)) => h.out.bel.size)
  go_enter Tryz.func7, Tryz.ntmps7
  by_cases hbig : 2000 < a.size ∨ 2000 < b.size
  · have HS := Lib.hid (sanity_to _ _ ST0.out.tab (HL.out _ _ _ ST0))
    by_cases hA : 2000 < a.size
    · go_wp2_with (go_at_call 11; refine HS.out.mono ?_; rintro e w7 ⟨rfl, hb⟩; have HB := Lib.hid hb; clear hb)
      go_ret
      exact ⟨rfl, HB.out⟩
    · have hB : 2000 < b.size := by omega
      go_wp2_with (go_at_call 11; refine HS.out.mono ?_; rintro e w7 ⟨rfl, hb⟩; have HB := Lib.hid hb; clear hb)
      go_ret
      exact ⟨rfl, HB.out⟩
  · have hA : ¬ 2000 < a.size := fun h => hbig (.inl h)
    have hB : ¬ 2000 < b.size := fun h => hbig (.inr h)
    clear hbig
    cases hT : tokensP a with
    | err k c =>
      have hT3 := joined_err1 (b := b) (by omega) (by omega) hT
      have hc0 : (c != 0) = true := by simpa using tokensP_errs hT
      go_wp2_with fail
      refine (tok_err a k c hT _ _ ST0.out.tab (HL.out _ _ _ ST0)).mono ?_
      rintro e X1 ⟨rfl, hb⟩
      have ST1 := St.call ST0 hb
      clear ST0 hb hT
      go_wp2_with fail
      obtain ⟨Y1, B1, hW, hB1, -, ST2⟩ := St.box ST1 (.cells #[(.int .i64 k), (.int .i64 c)] 26)
      rw [← hW, ← hB1]
      clear ST1 hW hB1
      refine (tok_some b _ _ ST2.out.tab (HL.out _ _ _ ST2)).mono ?_
      rintro e X2 ⟨v2, k2, c2, rfl, hb⟩
      have ST3 := St.call ST2 hb
      clear ST2 hb
      go_wp2_with fail
      obtain ⟨Y2, B2, hW, hB2, -, ST4⟩ := St.box ST3 (.cells #[(.int .i64 k2), (.int .i64 c2)] 26)
      rw [← hW, ← hB2]
      clear ST3 hW hB2
      refine (tok_err (joined a b) k c hT3 _ _ ST4.out.tab (HL.out _ _ _ ST4)).mono ?_
      rintro e X3 ⟨rfl, hb⟩
      have ST5 := St.call ST4 hb
      clear ST4 hb hT3
      obtain ⟨p1, q1⟩ := St.cells2 ST5 1 rfl
      have l1 := St.lt ST5 1 rfl
      go_wp2_with fail
      obtain ⟨Y3, B3, hW, hB3, -, ST6⟩ := St.box ST5 (.cells #[(.int .i64 k), (.int .i64 c)] 26)
      rw [← hW, ← hB3]
      clear ST5 hW hB3 p1 q1 l1
      refine (sanity_to _ _ ST6.out.tab (HL.out _ _ _ ST6)).mono ?_
      rintro e X4 ⟨rfl, hb⟩
      have ST7 := St.call ST6 hb
      clear ST6 hb
      obtain ⟨p1, q1⟩ := St.cells2 ST7 2 rfl
      obtain ⟨p3, q3⟩ := St.cells2 ST7 0 rfl
      go_wp2_with fail
      go_ret
      exact ⟨rfl, ST7.out.bel⟩
    | ok l =>
      have hl0 : 0 < l.length := List.length_pos_iff.2 (tokensP_ne hT)
      cases hT2 : tokensP b with
      | err k c =>
        have hT3 := joined_err2 (by omega) (by omega) hT hT2
        have hc0 : (c != 0) = true := by simpa using tokensP_errs hT2
        have hk := (tokensP_before (by omega) hT2).1
        go_wp2_with fail
        refine (tok_ok a l hT (tokensP_ne hT) _ _ ST0.out.tab (HL.out _ _ _ ST0)).mono ?_
        rintro e X1 ⟨g1, cap1, rfl, hc1, hm1, hT1, hb⟩
        have ST1 := St.call ST0 hb
        clear ST0 hb hT hT1
        go_wp2_with fail
        obtain ⟨Y1, B1, hW, hB1, -, ST2⟩ := St.box ST1 (.cells #[(.int .i64 0), (.int .i64 0)] 26)
        rw [← hW, ← hB1]
        clear ST1 hW hB1
        refine (tok_err b k c hT2 _ _ ST2.out.tab (HL.out _ _ _ ST2)).mono ?_
        rintro e X2 ⟨rfl, hb⟩
        have ST3 := St.call ST2 hb
        clear ST2 hb hT2
        go_wp2_with fail
        obtain ⟨Y2, B2, hW, hB2, -, ST4⟩ := St.box ST3 (.cells #[(.int .i64 k), (.int .i64 c)] 26)
        rw [← hW, ← hB2]
        clear ST3 hW hB2
        refine (tok_err (joined a b) _ c hT3 _ _ ST4.out.tab (HL.out _ _ _ ST4)).mono ?_
        rintro e X3 ⟨rfl, hb⟩
        have ST5 := St.call ST4 hb
        clear ST4 hb hT3
        rw [show ((k + (a.size + 1) : Nat) : Int) = (k : Int) + a.size + 1 by omega]
        obtain ⟨p1, q1⟩ := St.cells2 ST5 1 rfl
        have l1 := St.lt ST5 1 rfl
        obtain ⟨p2, q2⟩ := St.cells2 ST5 0 rfl
        have l2 := St.lt ST5 0 rfl
        go_wp2_with fail
        obtain ⟨Y3, B3, hW, hB3, -, ST6⟩ := St.box ST5 (.cells #[(.int .i64 ((k : Int) + a.size + 1)), (.int .i64 c)] 26)
        rw [← hW, ← hB3]
        clear ST5 hW hB3 p1 q1 l1 p2 q2 l2
        refine (sanity_to _ _ ST6.out.tab (HL.out _ _ _ ST6)).mono ?_
        rintro e X4 ⟨rfl, hb⟩
        have ST7 := St.call ST6 hb
        clear ST6 hb
        obtain ⟨p2, q2⟩ := St.cells2 ST7 1 rfl
        obtain ⟨p3, q3⟩ := St.cells2 ST7 0 rfl
        go_wp2_with fail
        go_ret
        exact ⟨rfl, ST7.out.bel⟩
      | ok m =>
        have hm0 : 0 < m.length := List.length_pos_iff.2 (tokensP_ne hT2)
        have hT3 := joined_ok (by omega) (by omega) hT hT2
        obtain ⟨n, hn⟩ : ∃ n, l.length = n + 1 := ⟨l.length - 1, by omega⟩
        have hN : (l.dropLast ++ m.map (Tok.shift (a.size + 1))).length = n + m.length := by simp; omega
        have HW := Lib.hid (tokensP_within hT2)
        go_wp2_with fail
        refine (tok_ok a l hT (tokensP_ne hT) _ _ ST0.out.tab (HL.out _ _ _ ST0)).mono ?_
        rintro e X1 ⟨g1, cap1, rfl, hc1, hm1, hT1, hb⟩
        have SA1 := St.call ST0 hb
        have ST1 := St.more SA1 hT1 (stays_toks g1 0 l)
        clear ST0 SA1 hb hT hT1
        go_wp2_with fail
        obtain ⟨Y1, B1, hW, hB1, -, ST2⟩ := St.box ST1 (.cells #[(.int .i64 0), (.int .i64 0)] 26)
        rw [← hW, ← hB1]
        clear ST1 hW hB1
        refine (tok_ok b m hT2 (tokensP_ne hT2) _ _ ST2.out.tab.1 (HL.out _ _ _ ST2)).mono ?_
        rintro e X2 ⟨g2, cap2, rfl, hc2, hm2, hT1, hb⟩
        have SA3 := St.call ST2 hb
        have ST3 := St.more SA3 hT1 (stays_toks g2 0 m)
        clear ST2 SA3 hb hT2 hT1
        go_wp2_with fail
        obtain ⟨Y2, B2, hW, hB2, -, ST4⟩ := St.box ST3 (.cells #[(.int .i64 0), (.int .i64 0)] 26)
        rw [← hW, ← hB2]
        clear ST3 hW hB2
        refine (tok_ok (joined a b) _ hT3 (tokensP_ne hT3) _ _ ST4.out.tab.1.1 (HL.out _ _ _ ST4)).mono ?_
        rintro e X3 ⟨g3, cap3, rfl, hc3, hm3, hT1, hb⟩
        have SA5 := St.call ST4 hb
        have ST5 := St.more SA5 hT1 (stays_toks g3 0 _)
        clear ST4 SA5 hb hT3 hT1
        obtain ⟨p1, q1⟩ := St.cells2 ST5 1 rfl
        have l1 := St.lt ST5 1 rfl
        obtain ⟨p2, q2⟩ := St.cells2 ST5 0 rfl
        have l2 := St.lt ST5 0 rfl
        rw [hN] at hc3 ⊢
        have hcap : n + m.length ≤ maxLen := by omega
        unfold maxLen at hcap
        have e1 : IntKind.i64.wrap (((n + 1 : Nat) : Int) - 1) = n := by rw [show ((n + 1 : Nat) : Int) - 1 = n by omega]; exact IntWalk.i64_in _ (by omega)
        have e2 : IntKind.i64.wrap ((n : Int) + m.length) = ((n + m.length : Nat) : Int) := by rw [show ((n + m.length : Nat) : Int) = (n : Int) + m.length by omega]; exact IntWalk.i64_in _ (by omega)
        go_wp2_with fail
        obtain ⟨Y3, B3, hW, hB3, -, ST6⟩ := St.box ST5 (.cells #[(.int .i64 0), (.int .i64 0)] 26)
        rw [← hW]
        have S0 := St.none ST6
        clear ST5 ST6 hW hB3 p1 q1 l1 p2 q2 l2
        go_loopw [12] (fun i wr => ∃ j : Nat, i = (.int .i64 j) ∧ j ≤ n + m.length ∧ Hid (St (fun W => ((LV w.heap.size W ∧ ToksAt W g1 0 l) ∧ ToksAt W g2 0 m) ∧ ToksAt W g3 0 (l.dropLast ++ m.map (Tok.shift (a.size + 1)))) w wr [])) (fun i _ => n + m.length - (intOf i).toNat)
        case atStart => exact ⟨0, rfl, by omega, S0⟩
        case round =>
          clear S0
          obtain ⟨j, rfl, hj, HS⟩ := hrel
          by_cases hlt : j < n + m.length
          · obtain ⟨x, hx⟩ : ∃ x, (l.dropLast ++ m.map (Tok.shift (a.size + 1)))[j]? = some x := ⟨_, List.getElem?_eq_getElem (by rw [hN]; exact hlt)⟩
            have HX := Lib.hid hx
            obtain ⟨d0, d1, d2, d3⟩ := tok_cells HS.out.tab.2 j x hx (j * 4) (j * 4 + 1) (j * 4 + 2) (j * 4 + 3) rfl rfl rfl rfl
            have s3 := HS.out.tab.2.1
            by_cases hjn : j < n
            · have hy : l[j]? = some x := by
                rw [List.getElem?_append_left (by simp; omega), List.getElem?_dropLast, if_pos (by omega)] at hx
                exact hx
              obtain ⟨f0, f1, f2, f3⟩ := tok_cells HS.out.tab.1.1.2 j x hy (j * 4) (j * 4 + 1) (j * 4 + 2) (j * 4 + 3) rfl rfl rfl rfl
              have s1 := HS.out.tab.1.1.2.1
              clear hx hy
              obtain ⟨kind, at_, s, num⟩ := x
              simp only at d0 d1 d2 d3 f0 f1 f2 f3
              go_wp2_with fail
              clear d0 d1 d2 d3 f0 f1 f2 f3 s1 s3
              obtain ⟨Y4, B4, hW, hB4, -, SB⟩ := St.box HS (.cells #[(.int .i64 kind), (.int .i64 at_), .string s, (.int .i64 num)] 33)
              rw [← hW, ← hB4]
              clear hW hB4 HS
              obtain ⟨f0, f1, f2, f3⟩ := St.cells4 SB 0 rfl
              obtain ⟨d0, d1, d2, d3⟩ := tok_cells SB.out.tab.2 j _ HX.out (j * 4) (j * 4 + 1) (j * 4 + 2) (j * 4 + 3) rfl rfl rfl rfl
              simp only at d0 d1 d2 d3
              go_quiet (fail)
              go_wp2_with fail
              go_roundw
              case rel => exact ⟨j + 1, by go_num, by omega, St.none (St.call SB (below_of_turned (drewN_turned _ _ _)))⟩
              case measure => simp [intOf]; omega
            · obtain ⟨u, rfl⟩ : ∃ u, j = n + u := ⟨j - n, by omega⟩
              obtain ⟨y, hy, rfl⟩ : ∃ y, m[u]? = some y ∧ x = y.shift (a.size + 1) := by
                rw [List.getElem?_append_right (by simp; omega), show n + u - l.dropLast.length = u by simp; omega, List.getElem?_map] at hx
                cases h9 : m[u]? with
                | none => rw [h9] at hx; simp at hx
                | some y => rw [h9] at hx; simp at hx; exact ⟨y, rfl, hx.symm⟩
              obtain ⟨f0, f1, f2, f3⟩ := tok_cells HS.out.tab.1.2 u y hy (u * 4) (u * 4 + 1) (u * 4 + 2) (u * 4 + 3) rfl rfl rfl rfl
              have s1 := HS.out.tab.1.2.1
              have hyw := HW.out y (List.mem_of_getElem? hy)
              have e3 : IntKind.i64.wrap (((n + u : Nat) : Int) - n) = u := by rw [show ((n + u : Nat) : Int) - n = u by omega]; exact IntWalk.i64_in _ (by omega)
              clear hx hy
              obtain ⟨kind, at_, s, num⟩ := y
              simp only [Tok.shift] at d0 d1 d2 d3 f0 f1 f2 f3 hyw
              go_wp2_with fail
              clear d0 d1 d2 d3 f0 f1 f2 f3 s1 s3
              obtain ⟨Y4, B4, hW, hB4, -, SB⟩ := St.box HS (.cells #[(.int .i64 kind), (.int .i64 (at_ + (a.size + 1))), .string s, (.int .i64 num)] 33)
              rw [← hW, ← hB4]
              clear hW hB4 HS
              obtain ⟨f0, f1, f2, f3⟩ := St.cells4 SB 0 rfl
              obtain ⟨d0, d1, d2, d3⟩ := tok_cells SB.out.tab.2 (n + u) _ HX.out ((n + u) * 4) ((n + u) * 4 + 1) ((n + u) * 4 + 2) ((n + u) * 4 + 3) rfl rfl rfl rfl
              simp only [Tok.shift] at d0 d1 d2 d3
              rw [show ((a.size + 1 : Nat) : Int) = (a.size : Int) + 1 by omega] at d1
              go_quiet (fail)
              go_wp2_with fail
              go_roundw
              case rel => exact ⟨n + u + 1, by go_num, by omega, St.none (St.call SB (below_of_turned (drewN_turned _ _ _)))⟩
              case measure => simp [intOf]; omega
          · obtain rfl : j = n + m.length := by omega
            have HSa := Lib.hid (sanity_to _ _ HS.out.tab.1.1.1 (HL.out _ _ _ HS))
            go_wp2_with (go_at_call 11; refine HSa.out.mono ?_; rintro e w7 ⟨rfl, hb⟩; have HB := Lib.hid hb; clear hb)
            go_ret
            exact ⟨rfl, (St.call HS HB.out).out.bel⟩
end Go.Proofs.YtdjjifljlkjafaaGreatDoor
