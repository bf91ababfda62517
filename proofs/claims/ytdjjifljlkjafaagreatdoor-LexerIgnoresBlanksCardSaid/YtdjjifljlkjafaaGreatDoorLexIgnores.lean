/- Walk of the law LexerIgnoresBlanks. Conditions: those of each theorem. -/
import Derived.Test.YtdjjifljlkjafaaGreatDoorLexSame
namespace Go.Proofs.YtdjjifljlkjafaaGreatDoor
open Go Go.Proofs Go.RowKit
attribute [local go_sem] Oper.semAt_some

/-- the blanks that the law puts in -/
def Blanky (z : ByteArray) : Prop := z.size ≤ 200 ∧ ((z.data.toList = [32] ∨ z.data.toList = [9, 13] ∨ z.data.toList = [10]) ∨ ∃ put : List UInt8, (∀ b ∈ put, b ≠ 10) ∧ z.data.toList = 35 :: (put ++ [10]))
theorem Blanky.zok {z : ByteArray} (h : Blanky z) {y : List UInt8} (hy : y ≠ []) : Zok z.data.toList y := by
  rcases h.2 with h | ⟨put, h1, h2⟩
  · exact zok_one h hy
  · rw [h2]; exact zok_put put h1 hy
theorem ignores_plain {s : ByteArray} {ts : List Tok} {j : Nat} {t : Tok} (hs : s.size ≤ 2000) (hT : tokensP s = .ok ts) (ht : ts[j]? = some t) : ∃ d : Nat, t.at_ = d ∧ d ≤ s.size ∧ ∀ z, Blanky z →
    (d ≠ s.size → ∃ us, tokensP (s.extract 0 d ++ z ++ s.extract d s.size) = .ok us ∧ us.map Tok.strip = ts.map Tok.strip) ∧ (d = s.size → ∃ us, tokensP (s ++ ⟨#[10]⟩ ++ z) = .ok us ∧ us.map Tok.strip = ts.map Tok.strip) := by
  rw [tokensP_eq, if_neg (by omega)] at hT
  obtain ⟨d, h1, h2, h3⟩ := srcT_fill hT ht
  have h4 : s.data.toList.length = s.size := by simp
  rw [h4] at h2
  have h5 : (s.extract d s.size).data.toList = s.data.toList.drop d := by
    rw [Lib.extract_to_end s d]
  refine ⟨d, h1, h2, fun z hz => ⟨fun hd => ?_, fun hd => ?_⟩⟩
  · have hy : s.data.toList.drop d ≠ [] := fun h => by
      have := List.drop_eq_nil_iff.1 h
      omega
    obtain ⟨us, e1, e2⟩ := h3 _ (hz.zok hy)
    refine ⟨us, ?_, e2⟩
    have hl : (s.extract 0 d ++ z ++ s.extract d s.size).data.toList = s.data.toList.take d ++ z.data.toList ++ s.data.toList.drop d := by
      rw [← h5, ← pre_list]; simp
    have hsz : (s.extract 0 d ++ z ++ s.extract d s.size).size ≤ 65536 := by
      have := hz.1
      rw [ByteArray.size_append, ByteArray.size_append, ByteArray.size_extract, ByteArray.size_extract]; omega
    rw [tokensP_eq, if_neg (by omega), hl, e1]
  · subst hd
    have hy : s.data.toList.drop s.size = [] := List.drop_eq_nil_of_le (by omega)
    have hz2 : Zok (10 :: z.data.toList) (s.data.toList.drop s.size) := by
      rw [hy]
      exact zok_line (hz.zok (y := [0]) (by simp)).flat
    obtain ⟨us, e1, e2⟩ := h3 _ hz2
    refine ⟨us, ?_, e2⟩
    have hl : (s ++ ⟨#[10]⟩ ++ z).data.toList = s.data.toList.take s.size ++ (10 :: z.data.toList) ++ s.data.toList.drop s.size := by
      rw [hy, List.take_of_length_le (by omega)]; simp
    have hsz : (s ++ ⟨#[10]⟩ ++ z).size ≤ 65536 := by
      have := hz.1
      rw [ByteArray.size_append, ByteArray.size_append]
      have : (ByteArray.mk #[10]).size = 1 := rfl
      omega
    rw [tokensP_eq, if_neg (by omega), hl, e1]
/-- the bytes that are put into the comment -/
def putOf (l : List UInt8) : List UInt8 := l.filter fun b => decide (b ≠ 10)
theorem putOf_len (l : List UInt8) : (putOf l).length ≤ l.length := List.length_filter_le _ _
theorem putOf_ok (l : List UInt8) : ∀ b ∈ putOf l, b ≠ 10 := fun b hb => by simpa using (List.mem_filter.1 hb).2
theorem blanky_one {z : ByteArray} (hz : z.data.toList = [32] ∨ z.data.toList = [9, 13] ∨ z.data.toList = [10]) : Blanky z := by
  have : z.size = z.data.toList.length := by simp
  refine ⟨?_, .inl hz⟩
  rcases hz with h | h | h <;> rw [this, h] <;> decide
theorem blanky_put {c : ByteArray} (hc : c.size ≤ 100) : Blanky (⟨#[35]⟩ ++ ⟨(putOf c.data.toList).toArray⟩ ++ ⟨#[10]⟩) := by
  have h1 := putOf_len c.data.toList
  have h2 : c.data.toList.length = c.size := by simp
  have h3 : (⟨#[35]⟩ ++ ⟨(putOf c.data.toList).toArray⟩ ++ ⟨#[10]⟩ : ByteArray).data.toList = 35 :: (putOf c.data.toList ++ [10]) := by simp
  have h4 : (⟨#[35]⟩ ++ ⟨(putOf c.data.toList).toArray⟩ ++ ⟨#[10]⟩ : ByteArray).size = (35 :: (putOf c.data.toList ++ [10])).length := by rw [← h3]; rfl
  refine ⟨?_, .inr ⟨putOf c.data.toList, putOf_ok _, h3⟩⟩
  rw [h4]
  simp; omega
theorem St.bare {T : World → Prop} {w W : World} {L : List (Nat × Obj)} (h : Hid (St T w W L)) : Hid (St T w W []) := Lib.hid ⟨Lays.nil _, h.out.bel, h.out.tab, h.out.stays⟩
/-- in the loop that makes the comment -/
structure IS (w : World) (c : ByteArray) (v : Value) (j : Nat) (wr : World) : Prop where
  own : wr.ownsRow w.heap.size 5 1 v (putOf (c.data.toList.take j)).length ((putOf (c.data.toList.take j)).map encB)
  tur : Turned (fun i => w.heap.size ≤ i) w wr
theorem IS.ownA {w wr : World} {c : ByteArray} {v : Value} {j : Nat} (h : IS w c v j wr) (o : Obj) : (wr.alloc o).ownsRow w.heap.size 5 1 v (putOf (c.data.toList.take j)).length ((putOf (c.data.toList.take j)).map encB) :=
  ownsRow_turned' ((Turned.refl (fun _ => False) wr).alloc o) (fun _ _ => id) h.own
theorem putOf_step (c : ByteArray) (j : Nat) (hj : j < c.size) : putOf (c.data.toList.take (j + 1)) = putOf (c.data.toList.take j) ++ (if c[j] = 10 then [] else [c[j]]) := by
  have h1 : j < c.data.toList.length := by simpa using hj
  have h2 : c.data.toList[j] = c[j] := rfl
  rw [List.take_succ_eq_append_getElem h1, h2]
  unfold putOf
  rw [List.filter_append]
  congr 1
  by_cases h : c[j] = 10 <;> simp [h]
theorem IS.push {w wr w4 : World} {c : ByteArray} {v v' : Value} {j : Nat} (h : IS w c v j wr) (hj : j < c.size) (hc : c[j] ≠ 10)
    (hown' : w4.ownsRow w.heap.size 5 1 v' ((putOf (c.data.toList.take j)).length + 1) ((putOf (c.data.toList.take j)).map encB ++ [encB c[j]])) (hgrow : (wr.alloc (.cells #[encB c[j]] 5)).grownBy w4 v.ownBlock) : IS w c v' (j + 1) w4 := by
  have hb := ownsRow_block h.own
  refine ⟨?_, (h.tur.alloc _).trans (Turned.of_grown hgrow fun g hgr => (hb g hgr).1)⟩
  rw [putOf_step c j hj, if_neg hc]
  simpa using hown'
theorem IS.stay {w wr : World} {c : ByteArray} {v : Value} {j : Nat} (h : IS w c v j wr) (hj : j < c.size) (hc : c[j] = 10) : IS w c v (j + 1) wr := by
  refine ⟨?_, h.tur⟩
  rw [putOf_step c j hj, if_pos hc, List.append_nil]
  exact h.own
theorem IS.conv {w wr : World} {c : ByteArray} {v : Value} {j : Nat} (h : IS w c v j wr) : (convert 46 9 v).run Tryz.prog wr = .ok (.string ⟨(putOf (c.data.toList.take j)).toArray⟩) wr := by
  have h0 := h.own
  generalize putOf (c.data.toList.take j) = bs at h0 ⊢
  obtain ⟨hl, h2⟩ := h0
  rcases h2 with ⟨rfl, h0⟩ | ⟨g, cap, cur, rfl, hg, hh, hc, hm, hs, ht⟩
  · have : bs = [] := List.length_eq_zero_iff.1 h0
    subst this
    exact Lib.run_convert_nil_bytes wr 46 9 5 0 Tryz.underlying46 Tryz.underlying5 Tryz.underlying9
  · refine run_convert_bytes_back wr 46 9 5 ⟨g, 0, none⟩ cap bs Tryz.underlying46 Tryz.underlying5 Tryz.underlying9 (fun i hi => ?_)
    have h1 : (bs.map encB)[i]? = some (encB bs[i]) := by simp [hi]
    rw [← ht, List.getElem?_take_of_lt (by omega)] at h1
    rw [show (⟨g, 0, none⟩ : Addr).add i = ⟨g, i, none⟩ by cases i <;> simp [Addr.add]]
    simpa [World.cell?, hh, encB] using h1
set_option maxRecDepth 20000 in
set_option maxHeartbeats 4000000 in
theorem ignores_any (s c : ByteArray) (p q : Int) (hp : 0 ≤ p ∧ p ≤ 255) (hq : 0 ≤ q ∧ q ≤ 255) (w : World) (hv : LV w.heap.size w) : Calls Tryz.prog 8 #[.string s, .string c, .agg #[.int .u8 p, .int .u8 q]] w fun e w' => e = .returned (.bool true) ∧ Below w.heap.size w w' := by
  obtain ⟨i0, hif, hz0, hz1, hz2⟩ := info_parts infoU8
  have SS0 := St.start hv (stays_lv w.heap.size)
  have HL := Lib.hid (fun (T : World → Prop) (W : World) (L : List (Nat × Obj)) (h : Hid (St T w W L)) => h.out.bel.size)
  go_enter Tryz.func8, Tryz.ntmps8
  go_wp2_with fail
  obtain ⟨Y0, B0, hW, hB0, -, SA0⟩ := St.box SS0 (.cells #[.int .u8 p, .int .u8 q] 45)
  rw [← hW, ← hB0]
  clear SS0 hW hB0
  obtain ⟨c0, c1⟩ := St.cells2 SA0 0 rfl
  go_quiet (fail)
  have ST0 := St.bare (St.call SA0 (below_of_turned (drewN_turned (fun _ => False) Y0 nq)))
  clear c0 c1 SA0
  generalize Y0.drewN nq = X0 at ST0 ⊢
  by_cases hbig : 2000 < s.size ∨ 100 < c.size
  · have HS := Lib.hid (sanity_to _ _ ST0.out.tab (HL.out _ _ _ ST0))
    by_cases hA : 2000 < s.size
    · go_wp2_with (go_at_call 11; refine HS.out.mono ?_; rintro e w7 ⟨rfl, hb⟩; have HB := Lib.hid hb; clear hb)
      go_ret
      exact ⟨rfl, (St.call ST0 HB.out).out.bel⟩
    · have hB : 100 < c.size := by omega
      go_wp2_with (go_at_call 11; refine HS.out.mono ?_; rintro e w7 ⟨rfl, hb⟩; have HB := Lib.hid hb; clear hb)
      go_ret
      exact ⟨rfl, (St.call ST0 HB.out).out.bel⟩
  · have hA : ¬ 2000 < s.size := fun h => hbig (.inl h)
    have hB : ¬ 100 < c.size := fun h => hbig (.inr h)
    clear hbig
    cases hT : tokensP s with
    | err k e =>
      have hc0 : (e != 0) = true := by simpa using tokensP_errs hT
      go_wp2_with fail
      refine (tok_err s k e hT _ _ ST0.out.tab (HL.out _ _ _ ST0)).mono ?_
      rintro e' X1 ⟨rfl, hb⟩
      have ST1 := St.call ST0 hb
      clear ST0 hb hT
      go_wp2_with fail
      obtain ⟨Y1, B1, hW, hB1, -, ST2⟩ := St.box ST1 (.cells #[(.int .i64 k), (.int .i64 e)] 26)
      rw [← hW]
      clear ST1 hW hB1
      refine (sanity_to _ _ ST2.out.tab (HL.out _ _ _ ST2)).mono ?_
      rintro e' X2 ⟨rfl, hb⟩
      have ST3 := St.call ST2 hb
      clear ST2 hb
      go_wp2_with fail
      go_ret
      exact ⟨rfl, ST3.out.bel⟩
    | ok ts =>
      have hl0 : 0 < ts.length := List.length_pos_iff.2 (tokensP_ne hT)
      go_wp2_with fail
      refine (tok_ok s ts hT (tokensP_ne hT) _ _ ST0.out.tab (HL.out _ _ _ ST0)).mono ?_
      rintro e X1 ⟨g1, cap1, rfl, hc1, hm1, hT1, hb⟩
      have SA1 := St.call ST0 hb
      have ST1 := St.more SA1 hT1 (stays_toks g1 0 ts)
      clear ST0 SA1 hb hT1
      obtain ⟨r, hr1, hr2⟩ : ∃ r : Nat, Int.tmod p ts.length = r ∧ r < ts.length := by
        refine ⟨(Int.tmod p ts.length).toNat, ?_, ?_⟩
        · have := Int.tmod_nonneg (ts.length : Int) hp.1
          omega
        · have := Int.tmod_lt_of_pos p (b := (ts.length : Int)) (by omega)
          have := Int.tmod_nonneg (ts.length : Int) hp.1
          omega
      obtain ⟨t, ht⟩ : ∃ t, ts[r]? = some t := ⟨_, List.getElem?_eq_getElem hr2⟩
      obtain ⟨d, hd1, hd2, hd3⟩ := ignores_plain (by omega) hT ht
      have HD := Lib.hid hd3
      obtain ⟨d0, d1, d2, d3⟩ := tok_cells ST1.out.tab.2 r t ht (r * 4) (r * 4 + 1) (r * 4 + 2) (r * 4 + 3) rfl rfl rfl rfl
      have s1 := ST1.out.tab.2.1
      rw [hd1] at d1
      have hw1 : IntKind.i64.wrap p = p := IntWalk.i64_in _ (by omega)
      have hcap : cap1 ≤ 9223372036854775807 := hm1
      have hw2 : IntKind.i64.wrap (r : Int) = r := IntWalk.i64_in _ (by omega)
      clear hcap
      have hz0' : ((ts.length : Int) == 0) = false := beq_eq_false_iff_ne.2 (by omega)
      clear hd1 hd3 hT ht
      go_wp2_with fail
      clear d0 d1 d2 d3 s1 hz0'
      obtain ⟨Y1, B1, hW, hB1, -, SB2⟩ := St.box ST1 (.cells #[(.int .i64 0), (.int .i64 0)] 26)
      rw [← hW]
      have ST2 := St.bare SB2
      clear ST1 SB2 hW hB1
      have H0 : Hid (IS Y1 c (.slice none 0 0) 0 Y1) := ⟨⟨rfl, .inl ⟨rfl, rfl⟩⟩, Turned.refl _ _⟩
      go_loopw [12, 13] (fun v u wr => ∃ j : Nat, j ≤ c.size ∧ u = (.int .i64 j) ∧ Hid (IS Y1 c v j wr)) (fun _ u _ => c.size - (intOf u).toNat)
      case atStart => exact ⟨0, by omega, rfl, H0⟩
      case round =>
        clear H0
        obtain ⟨j, hj, rfl, HI⟩ := hrel
        have hpl := putOf_len (c.data.toList.take j)
        rw [List.length_take] at hpl
        obtain ⟨va, vc, rfl⟩ := owns_shape HI.out.own
        by_cases hlt : j < c.size
        · by_cases h10 : c[j] = 10
          · have k10 : ((c[j].toNat : Int) != 10) = false := by rw [h10]; rfl
            have HI2 := Lib.hid (HI.out.stay hlt h10)
            clear h10
            go_wp2_with fail
            go_roundw
            case rel => exact ⟨j + 1, by omega, by go_num, HI2⟩
            case measure => simp [intOf]; omega
          · have k10 : ((c[j].toNat : Int) != 10) = true := by
              have : c[j].toNat ≠ 10 := fun h => h10 (UInt8.toNat_inj.1 h)
              simp; omega
            have HPU := Lib.hid (fun v' w4 => HI.out.push (v' := v') (w4 := w4) hlt h10)
            clear h10
            go_wp2_with (at_builtin; refine wpList_append_own _ rfl _ _ 46 rfl Y1.heap.size 5 i0 (.int .u8 0) 1 1 Tryz.underlying46 hif hz0 hz1 hz2 rfl (by decide) _ _ _ rfl (HI.out.ownA _) ⟨wr.heap.size, 0, none⟩ 1 1 [encB c[j]] rfl rfl (cell_one_new _ _ _) (by intro u hu; simp at hu; subst hu; rfl) (by unfold maxLen; omega) (by omega) (by have := HI.out.tur.size; simp; omega) ?_; intro v' w4 hown' hgrow hnil; have HE := Lib.hid (HPU.out v' w4 hown' hgrow); clear hown' hgrow hnil)
            go_roundw
            case rel => exact ⟨j + 1, by omega, by go_num, HE⟩
            case measure => simp [intOf]; omega
        · obtain rfl : j = c.size := by omega
          have hcv := HI.out.conv
          have ht : c.data.toList.take c.size = c.data.toList := List.take_of_length_le (by simp)
          rw [ht] at hcv ⊢
          have ST3 := St.call ST2 (below_of_turned HI.out.tur.strip)
          have HZ := Lib.hid (HD.out _ (blanky_put (c := c) (by omega)))
          have H1 := Lib.hid (HD.out ⟨#[32]⟩ (blanky_one (.inl rfl)))
          have H2 := Lib.hid (HD.out ⟨#[9, 13]⟩ (blanky_one (.inr (.inl rfl))))
          have H3 := Lib.hid (HD.out ⟨#[10]⟩ (blanky_one (.inr (.inr rfl))))
          have hpb : (ByteArray.mk (putOf c.data.toList).toArray).size ≤ 100 := by
            have := putOf_len c.data.toList
            show (putOf c.data.toList).length ≤ 100
            simp at this; omega
          clear ST2 HI ht hpl HD
          generalize ByteArray.mk (putOf c.data.toList).toArray = pb at hcv HZ hpb
          have hsd : (s.extract d s.size).size ≤ s.size := by rw [ByteArray.size_extract]; omega
          have hs0 : (s.extract 0 d).size ≤ s.size := by rw [ByteArray.size_extract]; omega
-- ENDS
          by_cases hd : d = s.size
          · subst hd
            have kd : (((s.size : Nat) : Int) == s.size) = true := by simp
            rcases (by omega : q % 5 = 0 ∨ q % 5 = 1 ∨ q % 5 = 2 ∨ (q % 5 ≠ 0 ∧ q % 5 ≠ 1 ∧ q % 5 ≠ 2)) with e5 | e5 | e5 | ⟨e0, e1, e2⟩
            · obtain ⟨us, hu1, hu2⟩ := H1.out.2 rfl
              clear H1 H2 H3 HZ
              go_wp2_with fail
              refine (tok_ok _ us hu1 (tokensP_ne hu1) _ _ ST3.out.tab.1 (HL.out _ _ _ ST3)).mono ?_
              rintro e X4 ⟨g2, cap2, rfl, hc2, hm2, hT2, hb⟩
              have SA4 := St.call ST3 hb
              have ST4 := St.more SA4 hT2 (stays_toks g2 0 us)
              clear ST3 SA4 hb hu1 hT2
              go_wp2_with fail
              obtain ⟨Y5, B5, hW, hB5, -, ST5⟩ := St.box ST4 (.cells #[(.int .i64 0), (.int .i64 0)] 26)
              rw [← hW, ← hB5]
              clear ST4 hW hB5
              refine (sanity_to _ _ ST5.out.tab.1.1 (HL.out _ _ _ ST5)).mono ?_
              rintro e X6 ⟨rfl, hb⟩
              have ST6 := St.call ST5 hb
              clear ST5 hb
              obtain ⟨p1, q1⟩ := St.cells2 ST6 0 rfl
              go_wp2_with fail
              refine (same_toks g1 g2 cap1 cap2 ts us _ ST6.out.tab.1.2 ST6.out.tab.2 hu2 (by omega)).mono ?_
              rintro e X7 ⟨rfl, hb⟩
              have ST7 := St.call ST6 hb
              clear ST6 hb
              go_wp2_with fail
              go_ret
              exact ⟨rfl, ST7.out.bel⟩
            · obtain ⟨us, hu1, hu2⟩ := H2.out.2 rfl
              clear H1 H2 H3 HZ
              go_wp2_with fail
              refine (tok_ok _ us hu1 (tokensP_ne hu1) _ _ ST3.out.tab.1 (HL.out _ _ _ ST3)).mono ?_
              rintro e X4 ⟨g2, cap2, rfl, hc2, hm2, hT2, hb⟩
              have SA4 := St.call ST3 hb
              have ST4 := St.more SA4 hT2 (stays_toks g2 0 us)
              clear ST3 SA4 hb hu1 hT2
              go_wp2_with fail
              obtain ⟨Y5, B5, hW, hB5, -, ST5⟩ := St.box ST4 (.cells #[(.int .i64 0), (.int .i64 0)] 26)
              rw [← hW, ← hB5]
              clear ST4 hW hB5
              refine (sanity_to _ _ ST5.out.tab.1.1 (HL.out _ _ _ ST5)).mono ?_
              rintro e X6 ⟨rfl, hb⟩
              have ST6 := St.call ST5 hb
              clear ST5 hb
              obtain ⟨p1, q1⟩ := St.cells2 ST6 0 rfl
              go_wp2_with fail
              refine (same_toks g1 g2 cap1 cap2 ts us _ ST6.out.tab.1.2 ST6.out.tab.2 hu2 (by omega)).mono ?_
              rintro e X7 ⟨rfl, hb⟩
              have ST7 := St.call ST6 hb
              clear ST6 hb
              go_wp2_with fail
              go_ret
              exact ⟨rfl, ST7.out.bel⟩
            · obtain ⟨us, hu1, hu2⟩ := H3.out.2 rfl
              clear H1 H2 H3 HZ
              go_wp2_with fail
              refine (tok_ok _ us hu1 (tokensP_ne hu1) _ _ ST3.out.tab.1 (HL.out _ _ _ ST3)).mono ?_
              rintro e X4 ⟨g2, cap2, rfl, hc2, hm2, hT2, hb⟩
              have SA4 := St.call ST3 hb
              have ST4 := St.more SA4 hT2 (stays_toks g2 0 us)
              clear ST3 SA4 hb hu1 hT2
              go_wp2_with fail
              obtain ⟨Y5, B5, hW, hB5, -, ST5⟩ := St.box ST4 (.cells #[(.int .i64 0), (.int .i64 0)] 26)
              rw [← hW, ← hB5]
              clear ST4 hW hB5
              refine (sanity_to _ _ ST5.out.tab.1.1 (HL.out _ _ _ ST5)).mono ?_
              rintro e X6 ⟨rfl, hb⟩
              have ST6 := St.call ST5 hb
              clear ST5 hb
              obtain ⟨p1, q1⟩ := St.cells2 ST6 0 rfl
              go_wp2_with fail
              refine (same_toks g1 g2 cap1 cap2 ts us _ ST6.out.tab.1.2 ST6.out.tab.2 hu2 (by omega)).mono ?_
              rintro e X7 ⟨rfl, hb⟩
              have ST7 := St.call ST6 hb
              clear ST6 hb
              go_wp2_with fail
              go_ret
              exact ⟨rfl, ST7.out.bel⟩
            · obtain ⟨us, hu1, hu2⟩ := HZ.out.2 rfl
              clear H1 H2 H3 HZ
              have k0 : (q % 5 == 0) = false := by simpa using e0
              have k1 : (q % 5 == 1) = false := by simpa using e1
              have k2 : (q % 5 == 2) = false := by simpa using e2
              go_wp2_with fail
              refine (tok_ok _ us hu1 (tokensP_ne hu1) _ _ ST3.out.tab.1 (HL.out _ _ _ ST3)).mono ?_
              rintro e X4 ⟨g2, cap2, rfl, hc2, hm2, hT2, hb⟩
              have SA4 := St.call ST3 hb
              have ST4 := St.more SA4 hT2 (stays_toks g2 0 us)
              clear ST3 SA4 hb hu1 hT2
              go_wp2_with fail
              obtain ⟨Y5, B5, hW, hB5, -, ST5⟩ := St.box ST4 (.cells #[(.int .i64 0), (.int .i64 0)] 26)
              rw [← hW, ← hB5]
              clear ST4 hW hB5
              refine (sanity_to _ _ ST5.out.tab.1.1 (HL.out _ _ _ ST5)).mono ?_
              rintro e X6 ⟨rfl, hb⟩
              have ST6 := St.call ST5 hb
              clear ST5 hb
              obtain ⟨p1, q1⟩ := St.cells2 ST6 0 rfl
              go_wp2_with fail
              refine (same_toks g1 g2 cap1 cap2 ts us _ ST6.out.tab.1.2 ST6.out.tab.2 hu2 (by omega)).mono ?_
              rintro e X7 ⟨rfl, hb⟩
              have ST7 := St.call ST6 hb
              clear ST6 hb
              go_wp2_with fail
              go_ret
              exact ⟨rfl, ST7.out.bel⟩
          · have kd : ((d : Int) == s.size) = false := by simp; omega
            rcases (by omega : q % 5 = 0 ∨ q % 5 = 1 ∨ q % 5 = 2 ∨ (q % 5 ≠ 0 ∧ q % 5 ≠ 1 ∧ q % 5 ≠ 2)) with e5 | e5 | e5 | ⟨e0, e1, e2⟩
            · obtain ⟨us, hu1, hu2⟩ := H1.out.1 hd
              clear H1 H2 H3 HZ
              go_wp2_with fail
              refine (tok_ok _ us hu1 (tokensP_ne hu1) _ _ ST3.out.tab.1 (HL.out _ _ _ ST3)).mono ?_
              rintro e X4 ⟨g2, cap2, rfl, hc2, hm2, hT2, hb⟩
              have SA4 := St.call ST3 hb
              have ST4 := St.more SA4 hT2 (stays_toks g2 0 us)
              clear ST3 SA4 hb hu1 hT2
              go_wp2_with fail
              obtain ⟨Y5, B5, hW, hB5, -, ST5⟩ := St.box ST4 (.cells #[(.int .i64 0), (.int .i64 0)] 26)
              rw [← hW, ← hB5]
              clear ST4 hW hB5
              refine (sanity_to _ _ ST5.out.tab.1.1 (HL.out _ _ _ ST5)).mono ?_
              rintro e X6 ⟨rfl, hb⟩
              have ST6 := St.call ST5 hb
              clear ST5 hb
              obtain ⟨p1, q1⟩ := St.cells2 ST6 0 rfl
              go_wp2_with fail
              refine (same_toks g1 g2 cap1 cap2 ts us _ ST6.out.tab.1.2 ST6.out.tab.2 hu2 (by omega)).mono ?_
              rintro e X7 ⟨rfl, hb⟩
              have ST7 := St.call ST6 hb
              clear ST6 hb
              go_wp2_with fail
              go_ret
              exact ⟨rfl, ST7.out.bel⟩
            · obtain ⟨us, hu1, hu2⟩ := H2.out.1 hd
              clear H1 H2 H3 HZ
              go_wp2_with fail
              refine (tok_ok _ us hu1 (tokensP_ne hu1) _ _ ST3.out.tab.1 (HL.out _ _ _ ST3)).mono ?_
              rintro e X4 ⟨g2, cap2, rfl, hc2, hm2, hT2, hb⟩
              have SA4 := St.call ST3 hb
              have ST4 := St.more SA4 hT2 (stays_toks g2 0 us)
              clear ST3 SA4 hb hu1 hT2
              go_wp2_with fail
              obtain ⟨Y5, B5, hW, hB5, -, ST5⟩ := St.box ST4 (.cells #[(.int .i64 0), (.int .i64 0)] 26)
              rw [← hW, ← hB5]
              clear ST4 hW hB5
              refine (sanity_to _ _ ST5.out.tab.1.1 (HL.out _ _ _ ST5)).mono ?_
              rintro e X6 ⟨rfl, hb⟩
              have ST6 := St.call ST5 hb
              clear ST5 hb
              obtain ⟨p1, q1⟩ := St.cells2 ST6 0 rfl
              go_wp2_with fail
              refine (same_toks g1 g2 cap1 cap2 ts us _ ST6.out.tab.1.2 ST6.out.tab.2 hu2 (by omega)).mono ?_
              rintro e X7 ⟨rfl, hb⟩
              have ST7 := St.call ST6 hb
              clear ST6 hb
              go_wp2_with fail
              go_ret
              exact ⟨rfl, ST7.out.bel⟩
            · obtain ⟨us, hu1, hu2⟩ := H3.out.1 hd
              clear H1 H2 H3 HZ
              go_wp2_with fail
              refine (tok_ok _ us hu1 (tokensP_ne hu1) _ _ ST3.out.tab.1 (HL.out _ _ _ ST3)).mono ?_
              rintro e X4 ⟨g2, cap2, rfl, hc2, hm2, hT2, hb⟩
              have SA4 := St.call ST3 hb
              have ST4 := St.more SA4 hT2 (stays_toks g2 0 us)
              clear ST3 SA4 hb hu1 hT2
              go_wp2_with fail
              obtain ⟨Y5, B5, hW, hB5, -, ST5⟩ := St.box ST4 (.cells #[(.int .i64 0), (.int .i64 0)] 26)
              rw [← hW, ← hB5]
              clear ST4 hW hB5
              refine (sanity_to _ _ ST5.out.tab.1.1 (HL.out _ _ _ ST5)).mono ?_
              rintro e X6 ⟨rfl, hb⟩
              have ST6 := St.call ST5 hb
              clear ST5 hb
              obtain ⟨p1, q1⟩ := St.cells2 ST6 0 rfl
              go_wp2_with fail
              refine (same_toks g1 g2 cap1 cap2 ts us _ ST6.out.tab.1.2 ST6.out.tab.2 hu2 (by omega)).mono ?_
              rintro e X7 ⟨rfl, hb⟩
              have ST7 := St.call ST6 hb
              clear ST6 hb
              go_wp2_with fail
              go_ret
              exact ⟨rfl, ST7.out.bel⟩
            · obtain ⟨us, hu1, hu2⟩ := HZ.out.1 hd
              clear H1 H2 H3 HZ
              have k0 : (q % 5 == 0) = false := by simpa using e0
              have k1 : (q % 5 == 1) = false := by simpa using e1
              have k2 : (q % 5 == 2) = false := by simpa using e2
              go_wp2_with fail
              refine (tok_ok _ us hu1 (tokensP_ne hu1) _ _ ST3.out.tab.1 (HL.out _ _ _ ST3)).mono ?_
              rintro e X4 ⟨g2, cap2, rfl, hc2, hm2, hT2, hb⟩
              have SA4 := St.call ST3 hb
              have ST4 := St.more SA4 hT2 (stays_toks g2 0 us)
              clear ST3 SA4 hb hu1 hT2
              go_wp2_with fail
              obtain ⟨Y5, B5, hW, hB5, -, ST5⟩ := St.box ST4 (.cells #[(.int .i64 0), (.int .i64 0)] 26)
              rw [← hW, ← hB5]
              clear ST4 hW hB5
              refine (sanity_to _ _ ST5.out.tab.1.1 (HL.out _ _ _ ST5)).mono ?_
              rintro e X6 ⟨rfl, hb⟩
              have ST6 := St.call ST5 hb
              clear ST5 hb
              obtain ⟨p1, q1⟩ := St.cells2 ST6 0 rfl
              go_wp2_with fail
              refine (same_toks g1 g2 cap1 cap2 ts us _ ST6.out.tab.1.2 ST6.out.tab.2 hu2 (by omega)).mono ?_
              rintro e X7 ⟨rfl, hb⟩
              have ST7 := St.call ST6 hb
              clear ST6 hb
              go_wp2_with fail
              go_ret
              exact ⟨rfl, ST7.out.bel⟩
-- END OF ENDS
end Go.Proofs.YtdjjifljlkjafaaGreatDoor
