/- Part 19 of the proof of lawSum.card: QryWalkO. Conditions: those of each theorem. -/
import Derived.Test.YthejfklieedjmaaGreatDoorQs01
import Derived.Test.YthejfklieedjmaaGreatDoorQs18
set_option linter.unusedSimpArgs false
namespace Go.Proofs.YthejfklieedjmaaGreatDoor
open Go Go.Proofs Go.RowKit
attribute [local go_sem] Oper.semAt_some
attribute [local go_sem ↓] run_eql_rat' run_neq_rat'
theorem zero2 (V : World) : Calls Tryz.prog 29 #[.slice (some ⟨V.heap.size, 0, none⟩) 2 2] (V.alloc (.cells #[(.int .i64 0), (.int .i64 0)] 3)) fun e w' => e = .returned (.bool true) ∧ Turned (fun _ => False) V w' :=
  (zero_any [0, 0] _ 2 _ _ (Lst.block (World.alloc_heap_new _ _) rfl (fun _ => rfl) (Nat.le_refl 2) (by decide))).mono fun e w' h => ⟨h.1, ((Turned.refl _ V).alloc _).trans h.2⟩
theorem zero5 (V : World) : Calls Tryz.prog 29 #[.slice (some ⟨V.heap.size, 0, none⟩) 5 5] (V.alloc (.cells #[(.int .i64 0), (.int .i64 0), (.int .i64 0), (.int .i64 0), (.int .i64 0)] 3)) fun e w' => e = .returned (.bool true) ∧ Turned (fun _ => False) V w' :=
  (zero_any [0, 0, 0, 0, 0] _ 5 _ _ (Lst.block (World.alloc_heap_new _ _) rfl (fun _ => rfl) (Nat.le_refl 5) (by decide))).mono fun e w' h => ⟨h.1, ((Turned.refl _ V).alloc _).trans h.2⟩
theorem valid_ok {u : Rv} (h : RvOK 1900000 u) (W : World) : Calls Tryz.prog 30 #[ratV u] W fun e w' => e = .returned (.bool true) ∧ Turned (fun _ => False) W w' := by
  have := h.sz (by decide)
  have h2 := qValid_any u W (Nat.le_trans this.1 (by decide)) (Nat.le_trans this.2 (by decide))
  rwa [decide_eq_true h.valid] at h2
def OthW (w : Ws) (c : Int) : Prop := ((w.kind = 2 ∨ w.kind = 3 ∨ w.kind = 4) ∧ ((gaugeP w.gauge = false ∧ c = 3) ∨ (gaugeP w.gauge = true ∧ ((w.to_ ≤ w.from_ ∧ c = 3) ∨ (¬ w.to_ ≤ w.from_ ∧ c = 0))))) ∨
  (w.kind = 5 ∧ ((gaugeP w.gauge = false ∧ c = 3) ∨ (gaugeP w.gauge = true ∧ ((gaugeP w.other = false ∧ c = 3) ∨ (gaugeP w.other = true ∧ ((w.lag < 0 ∧ c = 3) ∨ (¬ w.lag < 0 ∧ ((2880 < w.lag ∧ c = 3) ∨ (¬ 2880 < w.lag ∧ ((w.to_ ≤ w.from_ ∧ c = 3) ∨ (¬ w.to_ ≤ w.from_ ∧ c = 0)))))))))))
theorem oth_of {w : Ws} (h : WsW w) (h1 : validR w.level) (h2 : validR w.level2) : OthW w (checkW w) := by
  obtain ⟨hp, hf, ht, hk⟩ := h
  obtain ⟨k, pa, g, o, lg, f, t, l1, l2⟩ := w
  dsimp only at *
  subst hp
  unfold maxT at ht
  have g0 : gaugeP 0 = true := rfl
  rcases hk with ⟨rfl | rfl, rfl, rfl, rfl, rfl⟩ | ⟨rfl, rfl, rfl, rfl⟩ | rfl
  all_goals
    cases hg : gaugeP g
    · simp [OthW, checkW, hg, h1, h2, g0]
    · by_cases hl : t ≤ f
      · simp [OthW, checkW, hg, h1, h2, hl, g0]
        try (cases ho : gaugeP o <;> simp <;> omega)
      · have a1 : ¬ f < 0 := by omega
        have a2 : ¬ maxT < t := by unfold maxT; omega
        simp [OthW, checkW, hg, h1, h2, hl, g0, a1, a2]
        try (cases ho : gaugeP o <;> simp <;> omega)
set_option maxRecDepth 20000 in
set_option maxHeartbeats 8000000 in
theorem check_other (w : Ws) (s : Value) (W : World) (h : WsW w) (h1 : RvOK 1900000 w.level) (h2 : RvOK 1900000 w.level2) (hp : PtsAt W w.parts s) : Calls Tryz.prog 7 #[.agg (wishC w s)] W fun e w' => e = .returned (.int .i64 (checkW w)) ∧ Turned (fun _ => False) W w' := by
  have ho := oth_of h h1.valid h2.valid
  have HV1 := Lib.hid (valid_ok h1)
  have HV2 := Lib.hid (valid_ok h2)
  obtain ⟨c, hc⟩ : ∃ c, checkW w = c := ⟨_, rfl⟩
  rw [hc] at ho ⊢
  clear hc h1 h2
  obtain ⟨p0, c0, rfl, -, -⟩ := hp
  obtain ⟨hp, hf, ht, hk⟩ := h
  obtain ⟨k, pa, g, o, lg, f, t, ⟨an, ax, ad⟩, ⟨bn, bx, bd⟩⟩ := w
  dsimp only at *
  subst hp
  unfold maxT at ht
  have a1 : ¬ f < 0 := by omega
  have a2 : ¬ 1402560 < t := by omega
  clear hf ht
  obtain ⟨W1, hW1⟩ : ∃ W1, W1 = (W.alloc (.cells (wishC ⟨k, [], g, o, lg, f, t, ⟨an, ax, ad⟩, ⟨bn, bx, bd⟩⟩ (.slice p0 0 c0)) 33)).alloc (.cells #[.bool false, .string ⟨#[]⟩, .string ⟨#[]⟩] 31) := ⟨_, rfl⟩
  have HW := Lib.hid hW1
  have HT1 : Hid (Turned (fun _ => False) W W1) := Lib.hid (by rw [hW1]; exact ((Turned.refl _ _).alloc _).alloc _)
  have HC : Hid (∀ V, Turned (fun _ => False) W1 V → V.heap[W.heap.size]? = some (.cells (wishC ⟨k, [], g, o, lg, f, t, ⟨an, ax, ad⟩, ⟨bn, bx, bd⟩⟩ (.slice p0 0 c0)) 33 (0, 0)) ∧ V.heap[W.heap.size + 1]? = some (.cells #[.bool false, .string ⟨#[]⟩, .string ⟨#[]⟩] 31 (0, 0))) := Lib.hid fun V hV => by
    refine ⟨(hV.block _ (by rw [hW1]; simp; omega) id).trans ?_, (hV.block _ (by rw [hW1]; simp) id).trans ?_⟩
    · rw [hW1, hao _ _ (by simp)]; exact World.alloc_heap_new _ _
    · rw [hW1]
      have := World.alloc_heap_new (W.alloc (.cells (wishC ⟨k, [], g, o, lg, f, t, ⟨an, ax, ad⟩, ⟨bn, bx, bd⟩⟩ (.slice p0 0 c0)) 33)) (.cells #[.bool false, .string ⟨#[]⟩, .string ⟨#[]⟩] 31)
      simpa using this
  clear hW1
  have T9 := Lib.hid (Turned.refl (fun _ => False) W1)
  obtain ⟨c0, c1, c2, c3, c4, c5, c6, c7, c8, c9, c10, c11, c12⟩ := thirteen (HC.out _ T9.out).1
  obtain ⟨d0, d1, d2⟩ := three_cells (HC.out _ T9.out).2
  have HCC := Lib.hid (fun (V : World) (hV : Turned (fun _ => False) W1 V) => And.intro (thirteen (HC.out V hV).1) (three_cells (HC.out V hV).2))
  clear HC
  have hcase : ((k = 2 ∨ k = 3) ∧ o = 0 ∧ lg = 0 ∧ an = false ∧ ax = ⟨#[]⟩ ∧ ad = ⟨#[]⟩ ∧ bn = false ∧ bx = ⟨#[]⟩ ∧ bd = ⟨#[]⟩) ∨ (k = 4 ∧ o = 0 ∧ lg = 0 ∧ bn = false ∧ bx = ⟨#[]⟩ ∧ bd = ⟨#[]⟩ ∧ (sameR ⟨an, ax, ad⟩ ⟨false, ⟨#[]⟩, ⟨#[]⟩⟩ = true ∨ sameR ⟨an, ax, ad⟩ ⟨false, ⟨#[]⟩, ⟨#[]⟩⟩ = false)) ∨ k = 5 := by
    rcases hk with ⟨hk, h3, h4, h5, h6⟩ | ⟨hk, h3, h4, h6⟩ | hk
    · cases h5
      cases h6
      exact .inl ⟨hk, h3, h4, rfl, rfl, rfl, rfl, rfl, rfl⟩
    · cases h6
      refine .inr (.inl ⟨hk, h3, h4, rfl, rfl, rfl, ?_⟩)
      cases sameR ⟨an, ax, ad⟩ ⟨false, ⟨#[]⟩, ⟨#[]⟩⟩ <;> simp
    · exact .inr (.inr hk)
  clear hk
  have g0 : gaugeP 0 = true := rfl
  rcases hcase with ⟨rfl | rfl, rfl, rfl, rfl, rfl, rfl, rfl, rfl, rfl⟩ | ⟨rfl, rfl, rfl, rfl, rfl, rfl, hs | hs⟩ | rfl
  all_goals
    rcases ho with ⟨hk, ⟨hg, rfl⟩ | ⟨hg, ⟨hl, rfl⟩ | ⟨hl, rfl⟩⟩⟩ | ⟨hk, ⟨hg, rfl⟩ | ⟨hg, ⟨hq, rfl⟩ | ⟨hq, ⟨hr, rfl⟩ | ⟨hr, ⟨hy, rfl⟩ | ⟨hy, ⟨hl, rfl⟩ | ⟨hl, rfl⟩⟩⟩⟩⟩⟩
    all_goals try (exfalso; dsimp only at hk; omega)
    all_goals
      clear hk
      go_enter Tryz.func7, Tryz.ntmps7
      go_upto_region 2 with fail
      rw [← HW.out]
      clear HW
      go_wp2_with (first
        | (go_at_call 31; refine (gauge_any _ _).mono ?_; rintro e V ⟨rfl, rfl⟩)
        | (go_at_call 29; refine (zero2 _).mono ?_; rintro e V ⟨rfl, ht⟩; have T9 := Lib.hid (T9.out.trans ht); clear ht c0 c1 c2 c3 c4 c5 c6 c7 c8 c9 c10 c11 c12 d0 d1 d2; obtain ⟨⟨c0, c1, c2, c3, c4, c5, c6, c7, c8, c9, c10, c11, c12⟩, d0, d1, d2⟩ := HCC.out _ T9.out)
        | (go_at_call 30; refine (HV1.out _).mono ?_; rintro e V ⟨rfl, ht⟩; have T9 := Lib.hid (T9.out.trans ht); clear HV1 ht c0 c1 c2 c3 c4 c5 c6 c7 c8 c9 c10 c11 c12 d0 d1 d2; obtain ⟨⟨c0, c1, c2, c3, c4, c5, c6, c7, c8, c9, c10, c11, c12⟩, d0, d1, d2⟩ := HCC.out _ T9.out)
        | (go_at_call 30; refine (HV2.out _).mono ?_; rintro e V ⟨rfl, ht⟩; have T9 := Lib.hid (T9.out.trans ht); clear ht c0 c1 c2 c3 c4 c5 c6 c7 c8 c9 c10 c11 c12 d0 d1 d2; obtain ⟨⟨c0, c1, c2, c3, c4, c5, c6, c7, c8, c9, c10, c11, c12⟩, d0, d1, d2⟩ := HCC.out _ T9.out))
      go_ret
      exact ⟨rfl, HT1.out.trans T9.out⟩
def PrW (p : Pt) (c : Int) : Prop := (gaugeP p.place = false ∧ c = 3) ∨ (gaugeP p.place = true ∧ ((gaugeP p.other = false ∧ c = 3) ∨ (gaugeP p.other = true ∧ ((p.to_ < p.from_ ∧ c = 3) ∨ (¬ p.to_ < p.from_ ∧ c = 0)))))
theorem pr_of {p : Pt} (h : PtW p) (hv : validR p.coef) : PrW p (checkPt p) := by
  obtain ⟨r, k, pl, o, f, t⟩ := p
  obtain ⟨h1, h2, h3, h4⟩ := h
  dsimp only at *
  have a1 : ¬ (k < 1 ∨ 3 < k ∨ ¬ validR r ∨ (o ≠ 0 ∧ k ≠ 2)) := by
    rintro (h | h | h | ⟨h5, h6⟩)
    · omega
    · omega
    · exact h hv
    · exact h6 (h2 h5)
  have a2 : ¬ f < 0 := by omega
  have a3 : ¬ maxT < t := by omega
  unfold PrW checkPt
  dsimp only
  rw [if_neg a1, decide_eq_false a2, decide_eq_false a3]
  cases hg : gaugeP pl
  · simp
  · cases ho : gaugeP o
    · simp
    · by_cases hl : t < f
      · simp [hl]
      · simp [hl]
theorem checkPts_at {l : List Pt} {k : Nat} {p : Pt} (hp : l[k]? = some p) : checkPts (l.drop k) = if checkPt p = 0 then checkPts (l.drop (k + 1)) else checkPt p := by
  have hlt := (List.getElem?_eq_some_iff.1 hp).1
  rw [List.drop_eq_getElem_cons hlt, checkPts]
  rw [List.getElem?_eq_getElem hlt] at hp
  cases hp; rfl
theorem eight_box {V : World} {b t : Nat} {x0 x1 x2 x3 x4 x5 x6 x7 : Value} (h : V.heap[b]? = some (.cells #[x0, x1, x2, x3, x4, x5, x6, x7] t (0, 0))) : V.cell? ⟨b, 0, none⟩ = some x0 ∧ V.cell? ⟨b, 1, none⟩ = some x1 ∧ V.cell? ⟨b, 2, none⟩ = some x2 ∧ V.cell? ⟨b, 3, none⟩ = some x3 ∧ V.cell? ⟨b, 4, none⟩ = some x4 ∧ V.cell? ⟨b, 5, none⟩ = some x5 ∧ V.cell? ⟨b, 6, none⟩ = some x6 ∧ V.cell? ⟨b, 7, none⟩ = some x7 := by
  simp [World.cell?, h]
set_option maxRecDepth 20000 in
set_option maxHeartbeats 8000000 in
theorem check_linear (l : List Pt) (s : Value) (W : World) (hl : l ≠ []) (h40 : l.length ≤ 40) (hq : ∀ p ∈ l, PtW p ∧ RvOK 1900000 p.coef) (hp : PtsAt W l s) : Calls Tryz.prog 7 #[.agg (wishC (sumW l) s)] W fun e w' => e = .returned (.int .i64 (checkW (sumW l))) ∧ Turned (fun _ => False) W w' := by
  rw [checkW_sum, if_neg (by omega), if_neg hl]
  obtain ⟨p, c, rfl, hp, -⟩ := hp
  show Calls Tryz.prog 7 #[.agg #[(.int .i64 1), .slice p l.length c, (.int .i64 0), (.int .i64 0), (.int .i64 0), (.int .i64 0), (.int .i64 0), .bool false, .string ⟨#[]⟩, .string ⟨#[]⟩, .bool false, .string ⟨#[]⟩, .string ⟨#[]⟩]] W _
  have hpos : ¬ l.length = 0 := fun h => hl (List.eq_nil_of_length_eq_zero h)
  obtain ⟨n, hn⟩ : ∃ n, l.length = n := ⟨_, rfl⟩
  have HN := Lib.hid hn
  have HP := Lib.hid hp
  have HQ := Lib.hid hq
  rw [hn] at h40 hpos ⊢
  have e0 : ((n : Int) == 0) = false := by simp; omega
  have e1 : ¬ (40 : Int) < (n : Int) := by omega
  obtain ⟨W1, hW1⟩ : ∃ W1, W1 = (W.alloc (.cells #[(.int .i64 1), .slice p n c, (.int .i64 0), (.int .i64 0), (.int .i64 0), (.int .i64 0), (.int .i64 0), .bool false, .string ⟨#[]⟩, .string ⟨#[]⟩, .bool false, .string ⟨#[]⟩, .string ⟨#[]⟩] 33)).alloc (.cells #[.bool false, .string ⟨#[]⟩, .string ⟨#[]⟩] 31) := ⟨_, rfl⟩
  have HW := Lib.hid hW1
  have HT1 : Hid (Turned (fun _ => False) W W1) := Lib.hid (by rw [hW1]; exact ((Turned.refl _ _).alloc _).alloc _)
  have HC : Hid (W1.heap[W.heap.size]? = some (.cells #[(.int .i64 1), .slice p n c, (.int .i64 0), (.int .i64 0), (.int .i64 0), (.int .i64 0), (.int .i64 0), .bool false, .string ⟨#[]⟩, .string ⟨#[]⟩, .bool false, .string ⟨#[]⟩, .string ⟨#[]⟩] 33 (0, 0)) ∧ W1.heap[W.heap.size + 1]? = some (.cells #[.bool false, .string ⟨#[]⟩, .string ⟨#[]⟩] 31 (0, 0))) := Lib.hid (by
    refine ⟨by rw [hW1, hao _ _ (by simp)]; exact World.alloc_heap_new _ _, ?_⟩
    have := World.alloc_heap_new (W.alloc (.cells #[(.int .i64 1), .slice p n c, (.int .i64 0), (.int .i64 0), (.int .i64 0), (.int .i64 0), (.int .i64 0), .bool false, .string ⟨#[]⟩, .string ⟨#[]⟩, .bool false, .string ⟨#[]⟩, .string ⟨#[]⟩] 33)) (.cells #[.bool false, .string ⟨#[]⟩, .string ⟨#[]⟩] 31)
    rw [hW1]; simpa using this)
  clear hW1 hn hp hq hl
  obtain ⟨c0, c1, c2, c3, c4, c5, c6, c7, c8, c9, c10, c11, c12⟩ := thirteen HC.out.1
  obtain ⟨d0, d1, d2⟩ := three_cells HC.out.2
  go_enter Tryz.func7, Tryz.ntmps7
  go_upto_region 2 with fail
  rw [← HW.out]
  clear HW
  go_upto_region 10 with (go_at_call 29; refine (zero5 _).mono ?_; rintro e V ⟨rfl, ht⟩; have T9 := Lib.hid ht; clear ht c0 c1 c2 c3 c4 c5 c6 c7 c8 c9 c10 c11 c12 d0 d1 d2; obtain ⟨c0, c1, c2, c3, c4, c5, c6, c7, c8, c9, c10, c11, c12⟩ := thirteen (keepB T9.out HC.out.1); obtain ⟨d0, d1, d2⟩ := three_cells (keepB T9.out HC.out.2))
  clear c0 c1 c2 c3 c4 c5 c6 c7 c8 c9 c10 c11 c12 d0 d1 d2
  go_loopw [48] (fun i wr => ∃ k : Nat, k ≤ n ∧ i = (.int .i64 k) ∧ Hid (Turned (fun _ => False) W1 wr ∧ checkPts (l.drop k) = checkPts l)) (fun i _ => n - (intOf i).toNat)
  case atStart => exact ⟨0, Nat.zero_le _, rfl, Lib.hid ⟨T9.out, rfl⟩⟩
  case round =>
    obtain ⟨k, hk, rfl, HI⟩ := hrel
    by_cases hlt : k < n
    · have hix : (k : Int) < (n : Int) := by omega
      obtain ⟨x, hx⟩ := some_of_lt (show k < l.length by rw [HN.out]; exact hlt)
      obtain ⟨hs, hv⟩ := HQ.out x (List.mem_of_getElem? hx)
      have hw := pr_of hs hv.valid
      have hct := checkPts_at hx
      rw [HI.out.2] at hct
      have HV := Lib.hid (valid_ok hv)
      obtain ⟨⟨xn, xx, xd⟩, xk, x4, x5, x6, x7⟩ := x
      obtain ⟨b, a, rfl, -, e0, e1, e2, e3, e4, e5, e6, e7⟩ := (HP.out.turned (HT1.out.trans HI.out.1)).eight hx
      obtain ⟨hk1, hk2, hk3, hk4⟩ := hs
      obtain ⟨y, hy⟩ : ∃ y, checkPt ⟨⟨xn, xx, xd⟩, xk, x4, x5, x6, x7⟩ = y := ⟨_, rfl⟩
      rw [hy] at hw hct
      unfold PrW at hw
      dsimp only at *
      unfold maxT at hk4
      have g0 : gaugeP 0 = true := rfl
      have l1 : ¬ xk < 1 := by omega
      have l2 : ¬ 3 < xk := by omega
      have l3 : ¬ x6 < 0 := by omega
      have l4 : ¬ 1402560 < x7 := by omega
      have ho : x5 = 0 ∨ (((x5 == 0) = false ∧ ¬ x5 = 0) ∧ xk = 2) := by
        by_cases h : x5 = 0
        · exact .inl h
        · exact .inr ⟨⟨by simpa using h, h⟩, hk2 h⟩
      have HCT := Lib.hid hct
      obtain ⟨W8, hW8⟩ : ∃ W8, W8 = wr.alloc (.cells #[.bool xn, .string xx, .string xd, (.int .i64 xk), (.int .i64 x4), (.int .i64 x5), (.int .i64 x6), (.int .i64 x7)] 51) := ⟨_, rfl⟩
      have HB8 : Hid (W8.heap[wr.heap.size]? = some (.cells #[.bool xn, .string xx, .string xd, (.int .i64 xk), (.int .i64 x4), (.int .i64 x5), (.int .i64 x6), (.int .i64 x7)] 51 (0, 0))) := Lib.hid (by rw [hW8]; exact World.alloc_heap_new _ _)
      have HT8 : Hid (Turned (fun _ => False) W1 W8) := Lib.hid (by rw [hW8]; exact HI.out.1.alloc _)
      have HW8 := Lib.hid hW8
      clear hx hy hct hk1 hk2 hk3 hk4 hW8 hv
      obtain ⟨f0, f1, f2, f3, f4, f5, f6, f7⟩ := eight_box HB8.out
      rcases ho with rfl | ⟨⟨ho, ho2⟩, rfl⟩
      all_goals
        rcases hw with ⟨hg, rfl⟩ | ⟨hg, ⟨hq, rfl⟩ | ⟨hq, ⟨hl, rfl⟩ | ⟨hl, rfl⟩⟩⟩
        all_goals try (exfalso; rw [g0] at hq; exact absurd hq (by decide))
        all_goals
          go_upto_region 12 with fail
          rw [← HW8.out]
          clear HW8 e0 e1 e2 e3 e4 e5 e6 e7
          go_wp2_with (first
            | (go_at_call 31; refine (gauge_any _ _).mono ?_; rintro e V ⟨rfl, rfl⟩)
            | (go_at_call 30; refine (HV.out _).mono ?_; rintro e V ⟨rfl, ht⟩; have T9 := Lib.hid (HT8.out.trans ht); have HB8 := Lib.hid (keepB ht HB8.out); clear ht f0 f1 f2 f3 f4 f5 f6 f7; obtain ⟨f0, f1, f2, f3, f4, f5, f6, f7⟩ := eight_box HB8.out))
          first
            | (go_roundw
               case rel => exact ⟨k + 1, by omega, by go_num, Lib.hid ⟨T9.out, (HCT.out.trans (if_pos (by trivial))).symm⟩⟩
               case measure => simp [intOf]; omega)
            | (go_ret
               rw [HCT.out.trans (if_neg (by decide))]
               exact ⟨rfl, HT1.out.trans T9.out⟩)
    · have hix : ¬ (k : Int) < (n : Int) := by omega
      obtain rfl : k = n := by omega
      have HE : Hid (checkPts l = 0) := Lib.hid (by rw [← HI.out.2, List.drop_eq_nil_of_le (by rw [HN.out]; exact Nat.le_refl _), checkPts])
      go_wp2_with fail
      go_ret
      rw [HE.out]
      exact ⟨rfl, HT1.out.trans HI.out.1⟩
theorem check_any (w : Ws) (s : Value) (W : World) (h : CkW w) (hp : PtsAt W w.parts s) : Calls Tryz.prog 7 #[.agg (wishC w s)] W fun e w' => e = .returned (.int .i64 (checkW w)) ∧ Turned (fun _ => False) W w' := by
  rcases h with ⟨hw, h1, h2, h3⟩ | ⟨h1, h2, h3⟩
  · have := check_linear w.parts s W h1 h2 h3 hp
    rwa [← hw] at this
  · exact check_other w s W h1 h2 h3 hp
end Go.Proofs.YthejfklieedjmaaGreatDoor
