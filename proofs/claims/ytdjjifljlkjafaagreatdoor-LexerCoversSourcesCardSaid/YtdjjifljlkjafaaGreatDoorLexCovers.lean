/- Walk of the law LexerCoversSources. Conditions: those of each theorem. -/
import Derived.Test.YtdjjifljlkjafaaGreatDoorLexRereadW
namespace Go.Proofs.YtdjjifljlkjafaaGreatDoor
open Go Go.Proofs Go.RowKit
attribute [local go_sem] Oper.semAt_some

/-- the tokens cover the source from an offset on -/
def Covers (s : ByteArray) : Nat → List Tok → Prop
  | _, [] => False
  | tto, [t] => t.kind = 5 ∧ t.at_ = s.size ∧ blankTo s tto = s.size
  | tto, t :: u :: ts => ∃ d, blankTo s tto + d ≤ s.size ∧ 0 < d ∧ t.at_ = blankTo s tto ∧ wordQ t = [s.extract (blankTo s tto) (blankTo s tto + d)] ∧ Covers s (blankTo s tto + d) (u :: ts)
theorem covers_ne {s : ByteArray} {tto : Nat} {ts : List Tok} (h : Covers s tto ts) : ts ≠ [] := fun e => by subst e; exact h
theorem covers_cons {s : ByteArray} {tto d : Nat} {t : Tok} {ts : List Tok} (h1 : blankTo s tto + d ≤ s.size) (h2 : 0 < d) (h3 : t.at_ = blankTo s tto) (h4 : wordQ t = [s.extract (blankTo s tto) (blankTo s tto + d)]) (h : Covers s (blankTo s tto + d) ts) : Covers s tto (t :: ts) := by
  cases ts with
  | nil => exact h.elim
  | cons u ts => exact ⟨d, h1, h2, h3, h4, h⟩
theorem wordQ_shift (t : Tok) (d : Nat) : wordQ (t.shift d) = wordQ t := rfl
theorem lexA_covers (s : ByteArray) : ∀ (n tto : Nat) (ts : List Tok), s.size - tto ≤ n → tto ≤ s.size → srcT (rest s tto) tto = .ok ts → Covers s tto ts := by
  intro n
  induction n using Nat.strongRecOn with
  | _ n ih =>
    intro tto ts hn htto h
    have hb := blankTo_le s tto htto
    have hg := blankTo_ge s tto
    have e1 : (rest s tto).drop (blankL false (rest s tto)) = rest s (blankTo s tto) := by unfold blankTo; rw [← rest_drop]
    unfold srcT at h
    rw [e1, show tto + blankL false (rest s tto) = blankTo s tto from rfl] at h
    rcases Nat.lt_or_ge (blankTo s tto) s.size with hlt | hge
    · have hne : rest s (blankTo s tto) ≠ [] := by rw [rest_cons s _ hlt]; simp
      cases hT : headT (rest s (blankTo s tto)) with
      | none => rw [lexA_none hne hT] at h; cases h
      | err c => rw [lexA_err hne hT] at h; cases h
      | tok t tt =>
        have hf := head_fits hT
        rw [rest_len] at hf
        rw [lexA_tok hT, ← rest_drop] at h
        obtain ⟨us, hus, rfl⟩ := cons_ok h
        refine covers_cons (d := tt) (by omega) hf.1 (by simp [Tok.shift, head_at hT]) ?_ (ih (s.size - (blankTo s tto + tt)) (by omega) _ us (Nat.le_refl _) (by omega) hus)
        rw [wordQ_shift, (head_word hT).1, extract_rest]
    · have he : blankTo s tto = s.size := by omega
      rw [he, rest_nil s _ (Nat.le_refl _), lexA_nil] at h
      cases h
      exact ⟨rfl, rfl, he⟩
theorem tokensP_covers {s : ByteArray} {ts : List Tok} (hs : s.size ≤ 65536) (h : tokensP s = .ok ts) : Covers s 0 ts := by
  rw [tokensP_eq, if_neg (by omega)] at h
  refine lexA_covers s _ 0 ts (Nat.le_refl _) (Nat.zero_le _) ?_
  rw [show rest s 0 = s.data.toList by simp [rest]]
  exact h
/-- one token that Text is to print -/
theorem text_one (t : Tok) (x : ByteArray) (h : wordQ t = [x]) : textQ [t] = x := by
  unfold textQ wordsQ
  rw [List.flatMap_cons, List.flatMap_nil, List.append_nil, h, List.map_cons, List.map_nil, Lib.join_one]
theorem text_end (t : Tok) (h : t.kind = 5) : textQ [t] = ⟨#[]⟩ := by
  have : wordQ t = [] := by unfold wordQ; rw [if_neg (by rw [h]; decide), if_neg (by rw [h]; decide), if_neg (by rw [h]; decide)]
  unfold textQ wordsQ
  rw [List.flatMap_cons, List.flatMap_nil, List.append_nil, this]
  rfl
theorem St.none' {T : World → Prop} {w W : World} {L : List (Nat × Obj)} (h : Hid (St T w W L)) : Hid (St T w W []) := Lib.hid ⟨Lays.nil _, h.out.bel, h.out.tab, h.out.stays⟩
/-- what is left of the tokens, and where they begin -/
def Left (s : ByteArray) (tto : Nat) (rem : List Tok) : Prop := (rem = [] ∧ tto = s.size) ∨ Covers s tto rem
theorem left_step {s : ByteArray} {tto : Nat} {t : Tok} {rem : List Tok} (htto : tto ≤ s.size) (h : Left s tto (t :: rem)) : ∃ (bt d : Nat) (wd : ByteArray), t.at_ = bt ∧ blankTo s tto = bt ∧ bt + d ≤ s.size ∧ wd.size = d ∧ textQ [t] = wd ∧ s.extract bt (bt + d) = wd ∧ wd.toList.isEmpty = decide (rem = []) ∧ Left s (bt + d) rem := by
  rcases h with ⟨h, -⟩ | h
  · cases h
  · cases rem with
    | nil =>
      obtain ⟨h1, h2, h3⟩ := h
      refine ⟨s.size, 0, ⟨#[]⟩, h2, h3, by omega, rfl, text_end t h1, ?_, by rw [ByteArray.toList_eq]; rfl, .inl ⟨rfl, by omega⟩⟩
      apply ByteArray.ext
      apply Array.ext'
      simp
    | cons u us =>
      obtain ⟨d, h1, h2, h3, h4, h5⟩ := h
      have hb := blankTo_le s tto htto
      have hsz : (s.extract (blankTo s tto) (blankTo s tto + d)).size = d := by simp; omega
      refine ⟨blankTo s tto, d, _, h3, rfl, h1, hsz, text_one t _ h4, rfl, ?_, .inr h5⟩
      rw [decide_eq_false (by simp), ByteArray.toList_eq]
      have : (s.extract (blankTo s tto) (blankTo s tto + d)).data.toList.length = d := hsz
      cases hl : (s.extract (blankTo s tto) (blankTo s tto + d)).data.toList with
      | nil => rw [hl] at this; simp at this; omega
      | cons a l => rfl
theorem rblank_same (s : ByteArray) (k : Nat) (w : World) (hs : s.size ≤ 70000) (hk : k ≤ s.size) : Calls Tryz.prog 19 #[.string s, (.int .i64 k)] w fun e w' => e = .returned (.int .i64 ((blankTo s k : Nat))) ∧ w' = w := (rblank_any s k w hs hk).mono fun _ _ h => ⟨h.1, h.2.symm⟩
set_option maxRecDepth 20000 in
set_option maxHeartbeats 4000000 in
theorem covers_any (s : ByteArray) (w : World) (hv : LV w.heap.size w) : Calls Tryz.prog 10 #[.string s] w fun e w' => e = .returned (.bool true) ∧ Below w.heap.size w w' := by
  have ST0 := St.start hv (stays_lv w.heap.size)
  have HL := Lib.hid (fun (T : World → Prop) (W : World) (L : List (Nat × Obj)) (h : Hid (St T w W L)) => h.out.bel.size)
  go_enter Tryz.func10, Tryz.ntmps10
  by_cases hbig : 2000 < s.size
  · have HS := Lib.hid (sanity_to _ _ ST0.out.tab (HL.out _ _ _ ST0))
    go_wp2_with (go_at_call 11; refine HS.out.mono ?_; rintro e w7 ⟨rfl, hb⟩; have HB := Lib.hid hb; clear hb)
    go_ret
    exact ⟨rfl, HB.out⟩
  · cases hT : tokensP s with
    | err k c =>
      have hc0 : (c != 0) = true := by simpa using tokensP_errs hT
      go_wp2_with fail
      refine (tok_err s k c hT _ _ ST0.out.tab (HL.out _ _ _ ST0)).mono ?_
      rintro e X1 ⟨rfl, hb⟩
      have ST1 := St.call ST0 hb
      clear ST0 hb hT
      go_wp2_with fail
      obtain ⟨Y1, B1, hW, hB1, -, ST2⟩ := St.box ST1 (.cells #[(.int .i64 k), (.int .i64 c)] 26)
      rw [← hW]
      clear ST1 hW hB1
      refine (sanity_to _ _ ST2.out.tab (HL.out _ _ _ ST2)).mono ?_
      rintro e X2 ⟨rfl, hb⟩
      have ST3 := St.call ST2 hb
      clear ST2 hb
      go_wp2_with fail
      go_ret
      exact ⟨rfl, ST3.out.bel⟩
    | ok ts =>
      obtain ⟨ps, p1, p2, -, -, -, -, -⟩ := reread (by omega) hT
      have HGd := Lib.hid (good_strips p1 p2)
      have HC0 : Hid (Left s 0 ts) := .inr (tokensP_covers (by omega) hT)
      have hne := tokensP_ne hT
      obtain ⟨n, hn⟩ : ∃ n, ts.length = n + 1 := ⟨ts.length - 1, by have := List.length_pos_iff.2 hne; omega⟩
      have hcnt := tokensP_count (by omega) hT
      clear p1 p2
      go_wp2_with fail
      refine (tok_ok s ts hT hne _ _ ST0.out.tab (HL.out _ _ _ ST0)).mono ?_
      rintro e X1 ⟨g1, cap1, rfl, hc1, hm1, hT1, hb⟩
      have SA1 := St.call ST0 hb
      have ST1 := St.more SA1 hT1 (stays_toks g1 0 ts)
      clear ST0 SA1 hb hT1 hT
      go_wp2_with fail
      obtain ⟨Y1, B1, hW, hB1, -, ST2⟩ := St.box ST1 (.cells #[(.int .i64 0), (.int .i64 0)] 26)
      rw [← hW]
      have S0 := St.none' ST2
      clear ST1 ST2 hW hB1
      go_loopw [5, 6] (fun u i wr => ∃ j tto : Nat, i = (.int .i64 j) ∧ u = (.int .i64 tto) ∧ j ≤ n + 1 ∧ tto ≤ s.size ∧ Hid (Left s tto (ts.drop j)) ∧ Hid (St (fun W => LV w.heap.size W ∧ ToksAt W g1 0 ts) w wr [])) (fun _ i _ => n + 1 - (intOf i).toNat)
      case atStart => exact ⟨0, 0, rfl, rfl, by omega, by omega, HC0, S0⟩
      case round =>
        clear S0 HC0
        obtain ⟨j, tto, rfl, rfl, hj, htto, HLf, HS⟩ := hrel
        by_cases hlt : j < n + 1
        · have hjl : j < ts.length := by omega
          obtain ⟨x, hx⟩ : ∃ x, ts[j]? = some x := ⟨_, List.getElem?_eq_getElem hjl⟩
          have hdrop : ts.drop j = x :: ts.drop (j + 1) := by
            rw [List.drop_eq_getElem_cons hjl]
            rw [List.getElem?_eq_getElem hjl] at hx
            rw [Option.some.inj hx]
          have hL := HLf.out
          rw [hdrop] at hL
          obtain ⟨bt, d, wd, e1, e2, e3, e4, e5, e6, e7, e8⟩ := left_step htto hL
          have hq : (((j : Nat) : Int) == ((n : Nat) : Int)) = decide (ts.drop (j + 1) = []) := by
            rw [Bool.eq_iff_iff]
            simp [List.drop_eq_nil_iff]
            omega
          obtain ⟨q, hqq⟩ : ∃ q, decide (ts.drop (j + 1) = []) = q := ⟨_, rfl⟩
          rw [hqq] at e7 hq
          obtain ⟨d0, d1, d2, d3⟩ := tok_cells HS.out.tab.2 j x hx (j * 4) (j * 4 + 1) (j * 4 + 2) (j * 4 + 3) rfl rfl rfl rfl
          have s1 := HS.out.tab.2.1
          have hgx := HGd.out x (List.mem_of_getElem? hx)
          have HB := Lib.hid (fun W : World => rblank_same s tto W (by omega) htto)
          rw [e2] at HB
          rw [e1] at d1
          have HE8 := Lib.hid e8
          have HE5 := Lib.hid e5
          have hjw : (Lib.join ((wordsQ [x]).map (·.data.toList)) [32]).length ≤ 100000 := by
            have : (textQ [x]).size ≤ 100000 := by rw [e5, e4]; omega
            exact this
          have HTx := Lib.hid (fun g cap n W hv hT => text_all g cap [x] n W hv hT (by simp) (fun t ht => by simp at ht; subst ht; exact hgx) hjw)
          rw [e5] at HTx
          obtain ⟨kind, at_, str, num⟩ := x
          simp only at d0 d1 d2 d3 e1
          subst e1
          clear hL hdrop e8 e5 hqq hjl e2 hjw hgx HLf
          go_wp2_with fail
          clear d0 d1 d2 d3 s1
          obtain ⟨Y4, B4, hW, hB4, -, SB⟩ := St.box HS (.cells #[(.int .i64 kind), (.int .i64 bt), .string str, (.int .i64 num)] 33)
          rw [← hW, ← hB4]
          clear hW hB4 HS
          obtain ⟨f0, f1, f2, f3⟩ := St.cells4 SB 0 rfl
          go_quiet ((go_at_call 19; (first | exact quiet_add_same (HB.out _) | exact Calls.quiet_of_same (HB.out _))))
          have SB2 := St.call SB (below_of_turned (drewN_turned (fun _ => False) Y4 nq))
          clear SB f0 f1 f2 f3
          generalize Y4.drewN nq = Y5 at SB2 ⊢
          obtain ⟨f0, f1, f2, f3⟩ := St.cells4 SB2 0 rfl
          go_wp2_with fail
          obtain ⟨Y6, B6, hW, hB6, -, ST6⟩ := St.box SB2 (.cells #[(.int .i64 kind), (.int .i64 bt), .string str, (.int .i64 num)] 33)
          rw [← hW, ← hB6]
          have hBY : B6 < Y6.heap.size := by subst hW hB6; rw [World.size_alloc]; exact Nat.lt_succ_self _
          clear hW hB6 SB2 f0 f1 f2 f3
          have hT1 : ToksAt Y6 B6 0 [⟨kind, bt, str, num⟩] := by
            obtain ⟨k0, k1, k2, k3⟩ := St.cells4 ST6 0 rfl
            refine ⟨hBY, ?_⟩
            intro i t hi
            cases i with
            | zero => cases hi; exact ⟨k0, k1, k2, k3⟩
            | succ i => simp at hi
          refine (HTx.out B6 1 _ Y6 ST6.out.tab.1 hT1).mono ?_
          rintro e X7 ⟨rfl, hb⟩
          have ST7 := St.call ST6 hb
          clear ST6 hb hT1 hBY
          obtain ⟨f0, f1, f2, f3⟩ := St.cells4 ST7 1 rfl
          obtain ⟨m, hm⟩ : ∃ m, bt + d = m := ⟨_, rfl⟩
          have hmi : ((bt : Nat) : Int) + ((d : Nat) : Int) = ((m : Nat) : Int) := by omega
          have hbm : bt ≤ m := by omega
          rw [hm] at e3 e6 HE8
          clear hm
          go_wp2_with fail
          go_roundw
          case rel => exact ⟨j + 1, m, by go_num, rfl, by omega, e3, HE8, St.none' ST7⟩
          case measure => simp [intOf]; omega
        · obtain rfl : j = n + 1 := by omega
          have HSa := Lib.hid (sanity_to _ _ HS.out.tab.1 (HL.out _ _ _ HS))
          have hend : tto = s.size := by
            rcases HLf.out with ⟨-, h⟩ | h
            · exact h
            · rw [List.drop_of_length_le (by omega)] at h; exact h.elim
          subst hend
          go_wp2_with (go_at_call 11; refine HSa.out.mono ?_; rintro e w7 ⟨rfl, hb⟩; have HB := Lib.hid hb; clear hb)
          go_ret
          exact ⟨rfl, (St.call HS HB.out).out.bel⟩
end Go.Proofs.YtdjjifljlkjafaaGreatDoor
