/- Walk of the specification's lexer: text. Conditions: those of each theorem. -/
import Derived.Test.YtdjjifljlkjafaaGreatDoorLexRefB
namespace Go.Proofs.YtdjjifljlkjafaaGreatDoor
open Go Go.Proofs Go.RowKit
attribute [local go_sem] Oper.semAt_some

theorem one_size : (Tryz.prog.info? 55).map (·.size) = some 6 := by kernel_rfl
theorem six_cells {V : World} {N : Nat} {a b c d e f : Value} {t : TypeId} (h : V.heap[N]? = some (.cells #[a, b, c, d, e, f] t (0, 0))) : V.cell? ⟨N, 0, none⟩ = some a ∧ V.cell? ⟨N, 1, none⟩ = some b ∧ V.cell? ⟨N, 2, none⟩ = some c ∧ V.cell? ⟨N, 3, none⟩ = some d ∧ V.cell? ⟨N, 4, none⟩ = some e ∧ V.cell? ⟨N, 5, none⟩ = some f := by
  simp [World.cell?, h]
theorem six_free {V : World} {N : Nat} {a b c d e f : Value} {t : TypeId} (h : V.heap[N]? = some (.cells #[a, b, c, d, e, f] t (0, 0))) (i : Nat) : V.frozen? ⟨N, i, none⟩ = false := by
  simp [World.frozen?, h]
theorem six_set {V : World} {N : Nat} {a b c d e f a' b' c' d' e' f' : Value} {t : TypeId} (h : V.heap[N]? = some (.cells #[a, b, c, d, e, f] t (0, 0))) :
    ((((((V.setCell ⟨N, 0, none⟩ a').setCell ⟨N, 1, none⟩ b').setCell ⟨N, 2, none⟩ c').setCell ⟨N, 3, none⟩ d').setCell ⟨N, 4, none⟩ e').setCell ⟨N, 5, none⟩ f').heap[N]? = some (.cells #[a', b', c', d', e', f'] t (0, 0)) := by
  simp [World.setCell, Array.getElem?_modify, h]
theorem six_turned {C : Nat → Prop} {W V : World} {N : Nat} {a' b' c' d' e' f' : Value} (h : Turned C W V) (hN : C N) : Turned C W ((((((V.setCell ⟨N, 0, none⟩ a').setCell ⟨N, 1, none⟩ b').setCell ⟨N, 2, none⟩ c').setCell ⟨N, 3, none⟩ d').setCell ⟨N, 4, none⟩ e').setCell ⟨N, 5, none⟩ f') :=
  (((((h.setCell (p := ⟨N, 0, none⟩) hN a').setCell (p := ⟨N, 1, none⟩) hN b').setCell (p := ⟨N, 2, none⟩) hN c').setCell (p := ⟨N, 3, none⟩) hN d').setCell (p := ⟨N, 4, none⟩) hN e').setCell (p := ⟨N, 5, none⟩) hN f'
theorem results_rtext (tmps : Array Value) (w : World) (g : Nat) (a b c d e f : Value) (hp : tmps.getD 4 undef = .pointer (some ⟨g, 0, none⟩)) (hg : w.heap[g]? = some (.cells #[a, b, c, d, e, f] 55 (0, 0))) :
    (results Tryz.f40 tmps).run Tryz.prog w = .ok (.agg #[a, b, c, d, e, f]) w :=
  results_cell_row (fn := Tryz.f40) rfl tmps w g 55 #[a, b, c, d, e, f] (0, 0) _ hp hg Tryz.underlying55 rfl one_size
theorem pair_cases (d : UInt8) : (pairI d.toNat = 0 ∧ d ≠ 34 ∧ d ≠ 92 ∧ d ≠ 110) ∨ ∃ y : UInt8, pairI d.toNat = y.toNat ∧ ((y.toNat : Int) != 0) = true ∧ (d = 34 ∧ y = 34 ∨ d ≠ 34 ∧ d = 92 ∧ y = 92 ∨ d ≠ 34 ∧ d ≠ 92 ∧ d = 110 ∧ y = 10) := by
  by_cases h1 : d = 34
  · subst h1; exact .inr ⟨34, rfl, rfl, .inl ⟨rfl, rfl⟩⟩
  · by_cases h2 : d = 92
    · subst h2; exact .inr ⟨92, rfl, rfl, .inr (.inl ⟨by decide, rfl, rfl⟩)⟩
    · by_cases h3 : d = 110
      · subst h3; exact .inr ⟨10, rfl, rfl, .inr (.inr ⟨by decide, by decide, rfl, rfl⟩)⟩
      · refine .inl ⟨?_, h1, h2, h3⟩
        have g1 : (d.toNat : Int) ≠ 34 := fun h => h1 (UInt8.toNat_inj.1 (by simpa using Int.ofNat_inj.1 h))
        have g2 : (d.toNat : Int) ≠ 92 := fun h => h2 (UInt8.toNat_inj.1 (by simpa using Int.ofNat_inj.1 h))
        have g3 : (d.toNat : Int) ≠ 110 := fun h => h3 (UInt8.toNat_inj.1 (by simpa using Int.ofNat_inj.1 h))
        unfold pairI
        rw [if_neg g1, if_neg g2, if_neg g3]
set_option maxRecDepth 20000 in
set_option maxHeartbeats 4000000 in
theorem rtext_any (s : ByteArray) (k : Nat) (w : World) (hs : s.size ≤ 65536) (hk : k < s.size) (hq : s[k] = 34) : Calls Tryz.prog 40 #[.string s, (.int .i64 k)] w fun e w' => e = .returned (oneV (textT s k)) ∧ Turned (fun _ => False) w w' := by
  obtain ⟨i0, hif, hz0, hz1, hz2⟩ := info_parts infoU8
  have HF0 : Hid (textT s k = textL k (rest s (k + 1)) (k + 1) []) := by
    show _ = _
    unfold textT; rw [rest_head s k hk, if_neg (by simpa using hq)]
  clear hq
  go_enter Tryz.func40, Tryz.ntmps40
  go_wp2_with fail
  obtain ⟨w1, hw1⟩ : ∃ w1, w1 = w.alloc (.cells #[(.int .i64 0), (.int .i64 0), .string ⟨#[]⟩, (.int .i64 0), (.int .i64 0), (.int .i64 0)] 55) := ⟨_, rfl⟩
  have HB : Hid (w1.heap[w.heap.size]? = some (.cells #[(.int .i64 0), (.int .i64 0), .string ⟨#[]⟩, (.int .i64 0), (.int .i64 0), (.int .i64 0)] 55 (0, 0))) := by show _ = _; rw [hw1]; exact heap_alloc_new _ _
  have HT : Hid (Turned (fun i => w.heap.size ≤ i) w w1) := by rw [hw1]; exact (Turned.refl _ _).alloc _
  have hw1s : w1.heap.size = w.heap.size + 1 := by rw [hw1]; simp
  rw [← hw1]
  clear hw1
  have H0 : Hid (TS w1 s k (.slice none 0 0) [] (k + 1) w1) := ⟨by omega, by omega, ⟨by simp, .inl ⟨rfl, rfl⟩⟩, Turned.refl _ _, rfl⟩
  go_loopw [5, 6] (fun b u wr => ∃ (bs : List UInt8) (j : Nat), u = (.int .i64 j) ∧ Hid (TS w1 s k b bs j wr)) (fun _ u _ => s.size + 1 - (intOf u).toNat)
  case atStart => exact ⟨[], k + 1, by simp, H0⟩
  case round =>
    clear H0
    obtain ⟨bs, j, rfl, HS⟩ := hrel
    have hgt := HS.out.gt
    have hle := HS.out.le
    have HBr : Hid (wr.heap[w.heap.size]? = some (.cells #[(.int .i64 0), (.int .i64 0), .string ⟨#[]⟩, (.int .i64 0), (.int .i64 0), (.int .i64 0)] 55 (0, 0))) := (HS.out.tur.block _ (by omega) (by omega)).trans HB.out
    have HTr : Hid (Turned (fun i => w.heap.size ≤ i) w wr) := HT.out.trans (HS.out.tur.mono fun i hi => by omega)
    obtain ⟨va, vc, rfl⟩ := owns_shape HS.out.own
    obtain ⟨x0, x1, x2, x3, x4, x5⟩ := six_cells HBr.out
    have xf := six_free HBr.out
-- ROUND
    by_cases hj : j < s.size
    · have HR := Lib.hid (rest_cons s j hj)
      by_cases hl : 200 < bs.length
      · have HF : Hid (textT s k = .err 2) := by show _ = _; rw [HF0.out, ← HS.out.eq, textL_lim _ _ _ _ hl]
        go_wp2_with fail
        refine bodyPost_ret (results_rtext _ _ w.heap.size _ _ _ _ _ _ rfl (six_set HBr.out)) rfl ?_
        rw [HF.out]
        exact ⟨rfl, (six_turned HTr.out (Nat.le_refl _)).strip⟩
      · by_cases q34 : s[j] = 34
        · have k34 : ((s[j].toNat : Int) == 34) = true := by rw [q34]; rfl
          have HF : Hid (textT s k = .tok ⟨3, k, ⟨bs.toArray⟩, 0⟩ (j + 1)) := by show _ = _; rw [HF0.out, ← HS.out.eq, HR.out, q34, textL_quote _ _ _ _ hl]
          have hcv := HS.out.conv
          clear q34
          go_wp2_with fail
          refine bodyPost_ret (results_rtext _ _ w.heap.size _ _ _ _ _ _ rfl (six_set HBr.out)) rfl ?_
          rw [HF.out]
          exact ⟨rfl, (six_turned HTr.out (Nat.le_refl _)).strip⟩
        · have k34 : ((s[j].toNat : Int) == 34) = false := by
            have : s[j].toNat ≠ 34 := fun h => q34 (UInt8.toNat_inj.1 h)
            simp; omega
          by_cases q92 : s[j] = 92
          · have k92 : ((s[j].toNat : Int) == 92) = true := by rw [q92]; rfl
            by_cases hj1 : j + 1 < s.size
            · have HR1 := Lib.hid (rest_cons s (j + 1) hj1)
              have HD : Hid (textL k (rest s j) j bs = if s[j + 1] = 34 then textL k (rest s (j + 2)) (j + 2) (bs ++ [34]) else if s[j + 1] = 92 then textL k (rest s (j + 2)) (j + 2) (bs ++ [92]) else if s[j + 1] = 110 then textL k (rest s (j + 2)) (j + 2) (bs ++ [10]) else .err 28) := by
                show _ = _
                rw [HR.out, q92, HR1.out, textL_esc _ _ _ _ _ hl]
              have HP := Lib.hid (fun W : World => rpair_any (s[j + 1].toNat : Int) W)
              clear q34 q92
              rcases pair_cases s[j + 1] with ⟨hp, n34, n92, n110⟩ | ⟨y, hp, hy, hyc⟩
              · have HF : Hid (textT s k = .err 28) := by show _ = _; rw [HF0.out, ← HS.out.eq, HD.out, if_neg n34, if_neg n92, if_neg n110]
                rw [hp] at HP
                clear hp n34 n92 n110
                go_wp2_with (go_at_call 54; refine (HP.out _).mono ?_; rintro e w' ⟨rfl, rfl⟩)
                refine bodyPost_ret (results_rtext _ _ w.heap.size _ _ _ _ _ _ rfl (six_set HBr.out)) rfl ?_
                rw [HF.out]
                exact ⟨rfl, (six_turned HTr.out (Nat.le_refl _)).strip⟩
              · have HPU := Lib.hid (fun v' w4 => HS.out.push (v' := v') (w4 := w4) y (j + 2) (by omega) (by omega) (by
                  rw [HD.out]
                  rcases hyc with ⟨h1, rfl⟩ | ⟨h0, h1, rfl⟩ | ⟨h0, h2, h1, rfl⟩
                  · rw [if_pos h1]
                  · rw [if_neg h0, if_pos h1]
                  · rw [if_neg h0, if_neg h2, if_pos h1]))
                rw [hp] at HP
                clear hp hyc
                go_wp2_with (first | (go_at_call 54; refine (HP.out _).mono ?_; rintro e w' ⟨rfl, rfl⟩) | (at_builtin; refine wpList_append_own _ rfl _ _ 46 rfl w1.heap.size 5 i0 (.int .u8 0) 1 1 Tryz.underlying46 hif hz0 hz1 hz2 rfl (by decide) _ _ _ rfl (HS.out.ownA _) ⟨wr.heap.size, 0, none⟩ 1 1 [encB y] rfl rfl (cell_one_new _ _ _) (by intro u hu; simp at hu; subst hu; rfl) (by unfold maxLen; omega) (by omega) (by have := HS.out.tur.size; simp; omega) ?_; intro v' w4 hown' hgrow hnil; have HE := Lib.hid (HPU.out v' w4 hown' hgrow); clear hown' hgrow hnil))
                go_roundw
                case rel => exact ⟨bs ++ [y], j + 2, by go_num, HE⟩
                case measure => simp [intOf]; omega
            · have HF : Hid (textT s k = .err 28) := by show _ = _; rw [HF0.out, ← HS.out.eq, HR.out, q92, rest_nil s (j + 1) (by omega), textL_esc0 _ _ _ hl]
              clear q34 q92
              go_wp2_with fail
              refine bodyPost_ret (results_rtext _ _ w.heap.size _ _ _ _ _ _ rfl (six_set HBr.out)) rfl ?_
              rw [HF.out]
              exact ⟨rfl, (six_turned HTr.out (Nat.le_refl _)).strip⟩
          · have k92 : ((s[j].toNat : Int) == 92) = false := by
              have : s[j].toNat ≠ 92 := fun h => q92 (UInt8.toNat_inj.1 h)
              simp; omega
            by_cases qb : s[j].toNat < 32 ∨ 126 < s[j].toNat
            · have HF : Hid (textT s k = .err 28) := by show _ = _; rw [HF0.out, ← HS.out.eq, HR.out, textL_bad _ _ _ _ _ hl q34 q92 qb]
              clear q34 q92
              by_cases q32 : s[j].toNat < 32
              · have q32' : (s[j].toNat : Int) < 32 := by omega
                clear qb
                go_wp2_with fail
                refine bodyPost_ret (results_rtext _ _ w.heap.size _ _ _ _ _ _ rfl (six_set HBr.out)) rfl ?_
                rw [HF.out]
                exact ⟨rfl, (six_turned HTr.out (Nat.le_refl _)).strip⟩
              · have q32' : ¬ (s[j].toNat : Int) < 32 := by omega
                have q126 : (126 : Int) < s[j].toNat := by omega
                clear qb
                go_wp2_with fail
                refine bodyPost_ret (results_rtext _ _ w.heap.size _ _ _ _ _ _ rfl (six_set HBr.out)) rfl ?_
                rw [HF.out]
                exact ⟨rfl, (six_turned HTr.out (Nat.le_refl _)).strip⟩
            · have q32' : ¬ (s[j].toNat : Int) < 32 := by omega
              have q126 : ¬ (126 : Int) < s[j].toNat := by omega
              have HPU := Lib.hid (fun v' w4 => HS.out.push (v' := v') (w4 := w4) s[j] (j + 1) (by omega) (by omega) (by rw [HR.out, textL_step _ _ _ _ _ hl q34 q92 qb]))
              clear q34 q92 qb
              go_wp2_with (at_builtin; refine wpList_append_own _ rfl _ _ 46 rfl w1.heap.size 5 i0 (.int .u8 0) 1 1 Tryz.underlying46 hif hz0 hz1 hz2 rfl (by decide) _ _ _ rfl (HS.out.ownA _) ⟨wr.heap.size, 0, none⟩ 1 1 [encB s[j]] rfl rfl (cell_one_new _ _ _) (by intro u hu; simp at hu; subst hu; rfl) (by unfold maxLen; omega) (by omega) (by have := HS.out.tur.size; simp; omega) ?_; intro v' w4 hown' hgrow hnil; have HE := Lib.hid (HPU.out v' w4 hown' hgrow); clear hown' hgrow hnil)
              go_roundw
              case rel => exact ⟨bs ++ [s[j]], j + 1, by go_num, HE⟩
              case measure => simp [intOf]; omega
    · by_cases hl : 200 < bs.length
      · have HF : Hid (textT s k = .err 2) := by show _ = _; rw [HF0.out, ← HS.out.eq, textL_lim _ _ _ _ hl]
        go_wp2_with fail
        refine bodyPost_ret (results_rtext _ _ w.heap.size _ _ _ _ _ _ rfl (six_set HBr.out)) rfl ?_
        rw [HF.out]
        exact ⟨rfl, (six_turned HTr.out (Nat.le_refl _)).strip⟩
      · have HF : Hid (textT s k = .err 28) := by show _ = _; rw [HF0.out, ← HS.out.eq, rest_nil s j (by omega), textL_nil _ _ _ hl]
        go_wp2_with fail
        refine bodyPost_ret (results_rtext _ _ w.heap.size _ _ _ _ _ _ rfl (six_set HBr.out)) rfl ?_
        rw [HF.out]
        exact ⟨rfl, (six_turned HTr.out (Nat.le_refl _)).strip⟩
-- END OF ROUND
end Go.Proofs.YtdjjifljlkjafaaGreatDoor
