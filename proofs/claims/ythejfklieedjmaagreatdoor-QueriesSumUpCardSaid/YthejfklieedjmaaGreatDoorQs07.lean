/- Part 7 of the proof of lawSum.card: RatWalkD, RatWalkE, RatWalkF, RatWalkH, Lst, ParFacts. Conditions: those of each theorem. -/
import Derived.Test.YthejfklieedjmaaGreatDoorProg
import Derived.Test.YthejfklieedjmaaGreatDoorQs01
import Derived.Test.YthejfklieedjmaaGreatDoorQs02
import Derived.Test.YthejfklieedjmaaGreatDoorQs06
set_option maxRecDepth 20000
set_option maxHeartbeats 4000000
namespace Go.Proofs.YthejfklieedjmaaGreatDoor
open Go Go.Proofs Go.RowKit
attribute [local go_sem] Oper.semAt_some
attribute [local go_sem ↓] run_eql_rat' run_neq_rat'
def SzF (f : Bool × Nat × Nat) (k : Nat) : Prop := (encB f.2.1).size <= k /\ (encB f.2.2).size <= k
theorem SzF.mono {f : Bool × Nat × Nat} {k j : Nat} (h : SzF f k) (hj : k <= j) : SzF f j := ⟨Nat.le_trans h.1 hj, Nat.le_trans h.2 hj⟩
theorem SzF.plus {f g : Bool × Nat × Nat} {k : Nat} (hf : SzF f k) (hg : SzF g k) : SzF (plusF f g) (2 * k + 1) := by
 have h1 : (encB (f.2.1 * g.2.2)).size <= 2 * k := Nat.le_trans (encB_mul _ _) (by have := hf.1; have := hg.2; omega)
 have h2 : (encB (g.2.1 * f.2.2)).size <= 2 * k := Nat.le_trans (encB_mul _ _) (by have := hg.1; have := hf.2; omega)
 have h3 : (encB (f.2.2 * g.2.2)).size <= 2 * k := Nat.le_trans (encB_mul _ _) (by have := hf.2; have := hg.2; omega)
 unfold plusF
 split
 ·exact ⟨encB_add h1 h2, by show (encB (f.2.2 * g.2.2)).size <= _; omega⟩
 ·split
  ·exact ⟨Nat.le_trans (encB_mono (Nat.sub_le _ _)) (by omega), by show (encB (f.2.2 * g.2.2)).size <= _; omega⟩
  ·exact ⟨Nat.le_trans (encB_mono (Nat.sub_le _ _)) (by omega), by show (encB (f.2.2 * g.2.2)).size <= _; omega⟩
theorem SzF.times {f g : Bool × Nat × Nat} {k : Nat} (hf : SzF f k) (hg : SzF g k) : SzF (f.1 != g.1, f.2.1 * g.2.1, f.2.2 * g.2.2) (2 * k) :=
 ⟨Nat.le_trans (encB_mul _ _) (by have := hf.1; have := hg.1; omega), Nat.le_trans (encB_mul _ _) (by have := hf.2; have := hg.2; omega)⟩
theorem SzF.frac {u : Rv} {k : Nat} (hn : u.num.size <= k) (hd : u.den.size <= k) (hk : 1 <= k) : SzF (fracR u) k := by
 unfold fracR
 split
 ·rename_i h
  refine ⟨?_, ?_⟩
  ·show (encB (natB u.num)).size <= k
   rw [h.2.2.1]; exact hn
  ·show (encB (natB u.den)).size <= k
   rw [h.2.2.2.1]; exact hd
 ·refine ⟨?_, ?_⟩
  ·show (encB 0).size <= k
   rw [encB_zero]; simp [ByteArray.size]
  ·show (encB 1).size <= k
   rw [encB_one]; exact hk
theorem plus_call (f g : Bool × Nat × Nat) (k : Nat) (W : World) (hk : k <= 100000000) (hf : SzF f k) (hg : SzF g k) : Calls Tryz.prog 116 #[frV f, frV g] W fun e w' => e = .returned (frV (plusF f g)) /\ Turned (fun _ => False) W w' :=
 plus_any' f.1 g.1 f.2.1 f.2.2 g.2.1 g.2.2 k W hk hf.1 hf.2 hg.1 hg.2
theorem results_less (tmps : Array Value) (w : World) (g : Nat) (a b c : Value) (hp : tmps.getD 4 undef = .pointer (some ⟨g, 0, none⟩)) (hg : w.heap[g]? = some (.cells #[a, b, c] 92 (0, 0))) :
  (results Tryz.f117 tmps).run Tryz.prog w = .ok (.agg #[a, b, c]) w :=
 results_cell_row (fn := Tryz.f117) rfl tmps w g 92 #[a, b, c] (0, 0) _ hp hg Tryz.underlying92 rfl (by kernel_rfl)
theorem results_times (tmps : Array Value) (w : World) (g : Nat) (a b c : Value) (hp : tmps.getD 4 undef = .pointer (some ⟨g, 0, none⟩)) (hg : w.heap[g]? = some (.cells #[a, b, c] 92 (0, 0))) :
  (results Tryz.f39 tmps).run Tryz.prog w = .ok (.agg #[a, b, c]) w :=
 results_cell_row (fn := Tryz.f39) rfl tmps w g 92 #[a, b, c] (0, 0) _ hp hg Tryz.underlying92 rfl (by kernel_rfl)
theorem results_over (tmps : Array Value) (w : World) (g : Nat) (a b c : Value) (hp : tmps.getD 4 undef = .pointer (some ⟨g, 0, none⟩)) (hg : w.heap[g]? = some (.cells #[a, b, c] 92 (0, 0))) :
  (results Tryz.f43 tmps).run Tryz.prog w = .ok (.agg #[a, b, c]) w :=
 results_cell_row (fn := Tryz.f43) rfl tmps w g 92 #[a, b, c] (0, 0) _ hp hg Tryz.underlying92 rfl (by kernel_rfl)
theorem less_call (f g : Bool × Nat × Nat) (k : Nat) (W : World) (hk : k <= 100000000) (hf : SzF f k) (hg : SzF g k) : Calls Tryz.prog 117 #[frV f, frV g] W fun e w' => e = .returned (frV (plusF f (!g.1, g.2))) /\ Turned (fun _ => False) W w' := by
 have HP := Lib.hid (fun W => plus_call f (!g.1, g.2) k W hk hf hg)
 obtain ⟨fn, a, b⟩ := f
 obtain ⟨gn, c, d⟩ := g
 obtain ⟨⟨rn, rx, ry⟩, hr⟩ : ∃ r, (plusF (fn, a, b) (!gn, (c, d))) = r := ⟨_, rfl⟩
 have HP' : Hid (∀ W, Calls Tryz.prog 116 #[.agg #[.bool fn, .string (encB a), .string (encB b)], .agg #[.bool (!gn), .string (encB c), .string (encB d)]] W fun e w' => e = .returned (frV (rn, rx, ry)) /\ Turned (fun _ => False) W w') := Lib.hid (by rw [<- hr]; exact HP.out)
 have HE : Hid (frV (rn, rx, ry) = .agg #[.bool rn, .string (encB rx), .string (encB ry)]) := Lib.hid rfl
 rw [HE.out] at HP'
 show Calls Tryz.prog 117 #[.agg #[.bool fn, .string (encB a), .string (encB b)], .agg #[.bool gn, .string (encB c), .string (encB d)]] W fun e w' => e = .returned (frV (plusF (fn, a, b) (!gn, (c, d)))) /\ Turned (fun _ => False) W w'
 rw [hr, HE.out]
 obtain ⟨A, hA⟩ : ∃ x, encB a = x := ⟨_, rfl⟩
 obtain ⟨B, hB⟩ : ∃ x, encB b = x := ⟨_, rfl⟩
 obtain ⟨C, hC⟩ : ∃ x, encB c = x := ⟨_, rfl⟩
 obtain ⟨D, hD⟩ : ∃ x, encB d = x := ⟨_, rfl⟩
 obtain ⟨X, hX⟩ : ∃ x, encB rx = x := ⟨_, rfl⟩
 obtain ⟨Y, hY⟩ : ∃ x, encB ry = x := ⟨_, rfl⟩
 rw [hA, hB, hC, hD, hX, hY] at HP'
 rw [hA, hB, hC, hD, hX, hY]
 clear hr HP hA hB hC hD hX hY hf hg hk HE rx ry
 go_enter Tryz.func117, Tryz.ntmps117
 go_wp2_with fail
 refine (HP'.out _).mono ?_
 rintro e w1 ⟨rfl, t1⟩
 have b2 := keepB t1 (new3 W _ _ _).2.2
 obtain ⟨d0, d1, d2, f0, f1, f2⟩ := box3 b2
 have HS := Lib.hid (And.intro b2 ((((((Turned.refl (fun _ => False) W).alloc _).alloc _).alloc _).trans t1)))
 clear b2 t1 HP'
 go_wp2_with fail
 obtain ⟨k1, k2⟩ := set3 HS.out.1 (.bool rn) (.string X) (.string Y)
 refine bodyPost_ret (results_less _ _ (W.heap.size + 1 + 1) _ _ _ rfl k1) rfl ?_
 exact ⟨rfl, HS.out.2.fresh k2 fun g hg => by omega⟩
theorem s6 {W w : World} {b0 b1 b2 t1 t2 : Nat} {o2 : Obj} {x0 x1 x2 y0 y1 y2 : Value} (h : w.heap[b0]? = some (.cells #[x0, x1, x2] t1 (0, 0)) /\ w.heap[b1]? = some (.cells #[y0, y1, y2] t2 (0, 0)) /\ w.heap[b2]? = some o2 /\ Turned (fun _ => False) W w) : w.cell? ⟨b0, 0, none⟩ = some x0 /\ w.cell? ⟨b0, 1, none⟩ = some x1 /\ w.cell? ⟨b0, 2, none⟩ = some x2 /\ w.cell? ⟨b1, 0, none⟩ = some y0 /\ w.cell? ⟨b1, 1, none⟩ = some y1 /\ w.cell? ⟨b1, 2, none⟩ = some y2 :=
 ⟨(box3 h.1).1, (box3 h.1).2.1, (box3 h.1).2.2.1, (box3 h.2.1).1, (box3 h.2.1).2.1, (box3 h.2.1).2.2.1⟩
theorem s6' {W w w' : World} {b0 b1 b2 b t1 t2 : Nat} {o2 : Obj} {x0 x1 x2 y0 y1 y2 : Value} (h : w.heap[b0]? = some (.cells #[x0, x1, x2] t1 (0, 0)) /\ w.heap[b1]? = some (.cells #[y0, y1, y2] t2 (0, 0)) /\ w.heap[b2]? = some o2 /\ Turned (fun _ => False) W w) (t : Turned (fun k => k = b) w w') (n0 : b0 ≠ b) (n1 : b1 ≠ b) : w'.cell? ⟨b0, 0, none⟩ = some x0 /\ w'.cell? ⟨b0, 1, none⟩ = some x1 /\ w'.cell? ⟨b0, 2, none⟩ = some x2 /\ w'.cell? ⟨b1, 0, none⟩ = some y0 /\ w'.cell? ⟨b1, 1, none⟩ = some y1 /\ w'.cell? ⟨b1, 2, none⟩ = some y2 := by
 obtain ⟨h1, h2, h3, h4, h5, h6⟩ := s6 h
 exact ⟨cellT t n0 h1, cellT t n0 h2, cellT t n0 h3, cellT t n1 h4, cellT t n1 h5, cellT t n1 h6⟩
theorem times_call (f g : Bool × Nat × Nat) (k : Nat) (W : World) (hk : k <= 200000000) (hf : SzF f k) (hg : SzF g k) : Calls Tryz.prog 39 #[frV f, frV g] W fun e w' => e = .returned (frV (f.1 != g.1, f.2.1 * g.2.1, f.2.2 * g.2.2)) /\ Turned (fun _ => False) W w' := by
 obtain ⟨fn, a, b⟩ := f
 obtain ⟨gn, c, d⟩ := g
 have H1 := Lib.hid (fun W => nMul_any (encB a) (encB c) W (Nat.le_trans hf.1 (by omega)) (Nat.le_trans hg.1 (by omega)))
 have H2 := Lib.hid (fun W => nMul_any (encB b) (encB d) W (Nat.le_trans hf.2 (by omega)) (Nat.le_trans hg.2 (by omega)))
 rw [natB_encB, natB_encB] at H1 H2
 show Calls Tryz.prog 39 #[.agg #[.bool fn, .string (encB a), .string (encB b)], .agg #[.bool gn, .string (encB c), .string (encB d)]] W fun e w' => e = .returned (.agg #[.bool (fn != gn), .string (encB (a * c)), .string (encB (b * d))]) /\ Turned (fun _ => False) W w'
 obtain ⟨A, hA⟩ : ∃ x, encB a = x := ⟨_, rfl⟩
 obtain ⟨B, hB⟩ : ∃ x, encB b = x := ⟨_, rfl⟩
 obtain ⟨C, hC⟩ : ∃ x, encB c = x := ⟨_, rfl⟩
 obtain ⟨D, hD⟩ : ∃ x, encB d = x := ⟨_, rfl⟩
 obtain ⟨X, hX⟩ : ∃ x, encB (a * c) = x := ⟨_, rfl⟩
 obtain ⟨Y, hY⟩ : ∃ x, encB (b * d) = x := ⟨_, rfl⟩
 rw [hA, hC, hX] at H1
 rw [hB, hD, hY] at H2
 rw [hA, hB, hC, hD, hX, hY]
 clear hA hB hC hD hX hY hf hg hk
 go_enter Tryz.func39, Tryz.ntmps39
 go_wp2_with fail
 obtain ⟨n0, n1, n2⟩ := new3 W (.cells #[.bool fn, .string A, .string B] 92 (0, 0)) (.cells #[.bool gn, .string C, .string D] 92 (0, 0)) (.cells #[.bool false, .string ⟨#[]⟩, .string ⟨#[]⟩] 92 (0, 0))
 have T0 := (((Turned.refl (fun _ => False) W).alloc (.cells #[.bool fn, .string A, .string B] 92 (0, 0))).alloc (.cells #[.bool gn, .string C, .string D] 92 (0, 0))).alloc (.cells #[.bool false, .string ⟨#[]⟩, .string ⟨#[]⟩] 92 (0, 0))
 obtain ⟨w0, hw0⟩ : ∃ w0, w0 = (((W.alloc (.cells #[.bool fn, .string A, .string B] 92 (0, 0))).alloc (.cells #[.bool gn, .string C, .string D] 92 (0, 0))).alloc (.cells #[.bool false, .string ⟨#[]⟩, .string ⟨#[]⟩] 92 (0, 0))) := ⟨_, rfl⟩
 rw [<- hw0] at n0 n1 n2 T0 ⊢
 have HL0 := Lib.hid (And.intro (keepB ((Turned.refl (fun _ => False) w0).drew) n0) (And.intro (keepB ((Turned.refl (fun _ => False) w0).drew) n1) (And.intro (keepB ((Turned.refl (fun _ => False) w0).drew) n2) T0.drew)))
 clear hw0 n0 n1 n2 T0
 have HK0 := Lib.hid (s6 HL0.out)
 go_region_held3 (fun V => V.cell? ⟨W.heap.size, 0, none⟩ = some (.bool fn) /\ V.cell? ⟨W.heap.size, 1, none⟩ = some (.string A) /\ V.cell? ⟨W.heap.size, 2, none⟩ = some (.string B) /\ V.cell? ⟨W.heap.size + 1, 0, none⟩ = some (.bool gn) /\ V.cell? ⟨W.heap.size + 1, 1, none⟩ = some (.string C) /\ V.cell? ⟨W.heap.size + 1, 2, none⟩ = some (.string D))
  (first | exact HK3.out | exact HK2.out | exact HK1.out | exact HK0.out | go_keep)
  (first
   | (have hq := HK1; clear hq; go_at_call 62; refine (H2.out w1).mono ?_; rintro e w2 ⟨rfl, t2⟩; have HL2 := Lib.hid (mv3 HL1.out t2); have HK2 := Lib.hid (s6 HL2.out); obtain ⟨e0, e1, e2, g0, g1, g2⟩ := box3 HL2.out.2.2.1; have K3 := set3 HL2.out.2.2.1 (.bool (fn != gn)) (.string X) (.string Y); have HS3 := Lib.hid K3; have HK3 := Lib.hid (s6' HL2.out K3.2 (by omega) (by omega)); clear t2 K3)
   | (go_at_call 62; refine (H1.out w0.drew).mono ?_; rintro e w1 ⟨rfl, t1⟩; have HL1 := Lib.hid (mv3 HL0.out t1); have HK1 := Lib.hid (s6 HL1.out); clear t1))
 go_wp2_with fail
 refine bodyPost_ret (results_times _ _ (W.heap.size + 1 + 1) _ _ _ rfl HS3.out.1) rfl ?_
 exact ⟨rfl, HL2.out.2.2.2.fresh HS3.out.2 fun g hg => by omega⟩
theorem over_call (f g : Bool × Nat × Nat) (k : Nat) (W : World) (hk : k <= 200000000) (hf : SzF f k) (hg : SzF g k) : Calls Tryz.prog 43 #[frV f, frV g] W fun e w' => e = .returned (frV (f.1 != g.1, f.2.1 * g.2.2, f.2.2 * g.2.1)) /\ Turned (fun _ => False) W w' := by
 have HP := Lib.hid (fun W => times_call f (g.1, g.2.2, g.2.1) k W hk hf (And.intro hg.2 hg.1))
 obtain ⟨fn, a, b⟩ := f
 obtain ⟨gn, c, d⟩ := g
 obtain ⟨⟨rn, rx, ry⟩, hr⟩ : ∃ r, (fn != gn, a * d, b * c) = r := ⟨_, rfl⟩
 have HP' : Hid (∀ W, Calls Tryz.prog 39 #[.agg #[.bool fn, .string (encB a), .string (encB b)], .agg #[.bool gn, .string (encB d), .string (encB c)]] W fun e w' => e = .returned (frV (rn, rx, ry)) /\ Turned (fun _ => False) W w') := Lib.hid (by rw [<- hr]; exact HP.out)
 have HE : Hid (frV (rn, rx, ry) = .agg #[.bool rn, .string (encB rx), .string (encB ry)]) := Lib.hid rfl
 rw [HE.out] at HP'
 show Calls Tryz.prog 43 #[.agg #[.bool fn, .string (encB a), .string (encB b)], .agg #[.bool gn, .string (encB c), .string (encB d)]] W fun e w' => e = .returned (frV (fn != gn, a * d, b * c)) /\ Turned (fun _ => False) W w'
 rw [hr, HE.out]
 obtain ⟨A, hA⟩ : ∃ x, encB a = x := ⟨_, rfl⟩
 obtain ⟨B, hB⟩ : ∃ x, encB b = x := ⟨_, rfl⟩
 obtain ⟨C, hC⟩ : ∃ x, encB c = x := ⟨_, rfl⟩
 obtain ⟨D, hD⟩ : ∃ x, encB d = x := ⟨_, rfl⟩
 obtain ⟨X, hX⟩ : ∃ x, encB rx = x := ⟨_, rfl⟩
 obtain ⟨Y, hY⟩ : ∃ x, encB ry = x := ⟨_, rfl⟩
 rw [hA, hB, hC, hD, hX, hY] at HP'
 rw [hA, hB, hC, hD, hX, hY]
 clear hr HP hA hB hC hD hX hY hf hg hk HE rx ry
 go_enter Tryz.func43, Tryz.ntmps43
 go_wp2_with fail
 refine (HP'.out _).mono ?_
 rintro e w1 ⟨rfl, t1⟩
 have b2 := keepB t1 (new3 W _ _ _).2.2
 obtain ⟨d0, d1, d2, f0, f1, f2⟩ := box3 b2
 have HS := Lib.hid (And.intro b2 ((((((Turned.refl (fun _ => False) W).alloc _).alloc _).alloc _).trans t1)))
 clear b2 t1 HP'
 go_wp2_with fail
 obtain ⟨k1, k2⟩ := set3 HS.out.1 (.bool rn) (.string X) (.string Y)
 refine bodyPost_ret (results_over _ _ (W.heap.size + 1 + 1) _ _ _ rfl k1) rfl ?_
 exact ⟨rfl, HS.out.2.fresh k2 fun g hg => by omega⟩
attribute [local go_sem ↓] run_eql_rat' run_neq_rat'
theorem results_do (tmps : Array Value) (w : World) (g : Nat) (a b c : Value) (hp : tmps.getD 4 undef = .pointer (some ⟨g, 0, none⟩)) (hg : w.heap[g]? = some (.cells #[a, b, c] 31 (0, 0))) :
  (results Tryz.f37 tmps).run Tryz.prog w = .ok (.agg #[a, b, c]) w :=
 results_cell_row (fn := Tryz.f37) rfl tmps w g 31 #[a, b, c] (0, 0) _ hp hg Tryz.underlying31 rfl (by kernel_rfl)
def SzR (u : Rv) (k : Nat) : Prop := u.num.size <= k /\ u.den.size <= k
theorem SzR.mono {u : Rv} {k j : Nat} (h : SzR u k) (hj : k <= j) : SzR u j := ⟨Nat.le_trans h.1 hj, Nat.le_trans h.2 hj⟩
theorem SzR.rep {q : Rat} {k : Nat} (h : BytesQ q k) : SzR (repR q) k := repR_size h
theorem do_plus (f g r : Bool × Nat × Nat) (b : Rv) (W : World) (hb : SzR b 400000000) (hg : fracR b = g) (hr0 : r.2.2 ≠ 0) (hr : SzF r 400000000)
  (H : ∀ W, Calls Tryz.prog 116 #[frV f, frV g] W fun e w' => e = .returned (frV r) /\ Turned (fun _ => False) W w') :
  Calls Tryz.prog 37 #[.func (.func 116) #[frV f] #[], ratV b] W fun e w' => e = .returned (ratV (lowR r.1 r.2.1 r.2.2)) /\ Turned (fun _ => False) W w' := by
 have HO := Lib.hid (fun W => qOf_any b W hb.1 hb.2)
 have HL := Lib.hid (fun W => low_any r W hr0 hr.1 hr.2)
 have HP := Lib.hid H
 rw [hg] at HO
 obtain ⟨⟨sn, sx, sy⟩, hs⟩ : ∃ s, lowR r.1 r.2.1 r.2.2 = s := ⟨_, rfl⟩
 rw [hs] at HL ⊢
 obtain ⟨bn, bx, bd⟩ := b
 obtain ⟨f1, f2, f3⟩ := f
 obtain ⟨g1, g2, g3⟩ := g
 obtain ⟨r1, r2, r3⟩ := r
 simp only [frV] at HO HL HP ⊢
 obtain ⟨F2, hF2⟩ : ∃ x, encB f2 = x := ⟨_, rfl⟩
 obtain ⟨F3, hF3⟩ : ∃ x, encB f3 = x := ⟨_, rfl⟩
 obtain ⟨G2, hG2⟩ : ∃ x, encB g2 = x := ⟨_, rfl⟩
 obtain ⟨G3, hG3⟩ : ∃ x, encB g3 = x := ⟨_, rfl⟩
 obtain ⟨R2, hR2⟩ : ∃ x, encB r2 = x := ⟨_, rfl⟩
 obtain ⟨R3, hR3⟩ : ∃ x, encB r3 = x := ⟨_, rfl⟩
 rw [hG2, hG3] at HO
 rw [hF2, hF3, hG2, hG3, hR2, hR3] at HP
 rw [hR2, hR3] at HL
 rw [hF2, hF3]
 clear hb hg hr0 hr H hs hF2 hF3 hG2 hG3 hR2 hR3 f2 f3 g2 g3 r2 r3
 go_enter Tryz.func37, Tryz.ntmps37
 go_wp2_with fail
 refine (HO.out _).mono ?_
 rintro e w1 ⟨rfl, t1⟩
 have HS := Lib.hid (And.intro (keepB t1 (new_second W _ _)) ((((Turned.refl (fun _ => False) W).alloc _).alloc _).trans t1))
 clear t1 HO
 go_wp2_with fail
 refine (HP.out _).mono ?_
 rintro e w2 ⟨rfl, t1⟩
 have HS2 := Lib.hid (And.intro (keepB t1 HS.out.1) (HS.out.2.trans t1))
 clear t1 HS HP
 go_wp2_with fail
 refine (HL.out _).mono ?_
 rintro e w3 ⟨rfl, t1⟩
 have HS3 := Lib.hid (And.intro (keepB t1 HS2.out.1) (HS2.out.2.trans t1))
 clear t1 HS2 HL
 obtain ⟨d0, d1, d2, q0, q1, q2⟩ := box3 HS3.out.1
 go_wp2_with fail
 obtain ⟨k1, k2⟩ := set3 HS3.out.1 (.bool sn) (.string sx) (.string sy)
 refine bodyPost_ret (results_do _ _ (W.heap.size + 1) _ _ _ rfl k1) rfl ?_
 exact ⟨rfl, HS3.out.2.fresh k2 fun g hg => by omega⟩
theorem do_less (f g r : Bool × Nat × Nat) (b : Rv) (W : World) (hb : SzR b 400000000) (hg : fracR b = g) (hr0 : r.2.2 ≠ 0) (hr : SzF r 400000000)
  (H : ∀ W, Calls Tryz.prog 117 #[frV f, frV g] W fun e w' => e = .returned (frV r) /\ Turned (fun _ => False) W w') :
  Calls Tryz.prog 37 #[.func (.func 117) #[frV f] #[], ratV b] W fun e w' => e = .returned (ratV (lowR r.1 r.2.1 r.2.2)) /\ Turned (fun _ => False) W w' := by
 have HO := Lib.hid (fun W => qOf_any b W hb.1 hb.2)
 have HL := Lib.hid (fun W => low_any r W hr0 hr.1 hr.2)
 have HP := Lib.hid H
 rw [hg] at HO
 obtain ⟨⟨sn, sx, sy⟩, hs⟩ : ∃ s, lowR r.1 r.2.1 r.2.2 = s := ⟨_, rfl⟩
 rw [hs] at HL ⊢
 obtain ⟨bn, bx, bd⟩ := b
 obtain ⟨f1, f2, f3⟩ := f
 obtain ⟨g1, g2, g3⟩ := g
 obtain ⟨r1, r2, r3⟩ := r
 simp only [frV] at HO HL HP ⊢
 obtain ⟨F2, hF2⟩ : ∃ x, encB f2 = x := ⟨_, rfl⟩
 obtain ⟨F3, hF3⟩ : ∃ x, encB f3 = x := ⟨_, rfl⟩
 obtain ⟨G2, hG2⟩ : ∃ x, encB g2 = x := ⟨_, rfl⟩
 obtain ⟨G3, hG3⟩ : ∃ x, encB g3 = x := ⟨_, rfl⟩
 obtain ⟨R2, hR2⟩ : ∃ x, encB r2 = x := ⟨_, rfl⟩
 obtain ⟨R3, hR3⟩ : ∃ x, encB r3 = x := ⟨_, rfl⟩
 rw [hG2, hG3] at HO
 rw [hF2, hF3, hG2, hG3, hR2, hR3] at HP
 rw [hR2, hR3] at HL
 rw [hF2, hF3]
 clear hb hg hr0 hr H hs hF2 hF3 hG2 hG3 hR2 hR3 f2 f3 g2 g3 r2 r3
 go_enter Tryz.func37, Tryz.ntmps37
 go_wp2_with fail
 refine (HO.out _).mono ?_
 rintro e w1 ⟨rfl, t1⟩
 have HS := Lib.hid (And.intro (keepB t1 (new_second W _ _)) ((((Turned.refl (fun _ => False) W).alloc _).alloc _).trans t1))
 clear t1 HO
 go_wp2_with fail
 refine (HP.out _).mono ?_
 rintro e w2 ⟨rfl, t1⟩
 have HS2 := Lib.hid (And.intro (keepB t1 HS.out.1) (HS.out.2.trans t1))
 clear t1 HS HP
 go_wp2_with fail
 refine (HL.out _).mono ?_
 rintro e w3 ⟨rfl, t1⟩
 have HS3 := Lib.hid (And.intro (keepB t1 HS2.out.1) (HS2.out.2.trans t1))
 clear t1 HS2 HL
 obtain ⟨d0, d1, d2, q0, q1, q2⟩ := box3 HS3.out.1
 go_wp2_with fail
 obtain ⟨k1, k2⟩ := set3 HS3.out.1 (.bool sn) (.string sx) (.string sy)
 refine bodyPost_ret (results_do _ _ (W.heap.size + 1) _ _ _ rfl k1) rfl ?_
 exact ⟨rfl, HS3.out.2.fresh k2 fun g hg => by omega⟩
theorem do_times (f g r : Bool × Nat × Nat) (b : Rv) (W : World) (hb : SzR b 400000000) (hg : fracR b = g) (hr0 : r.2.2 ≠ 0) (hr : SzF r 400000000)
  (H : ∀ W, Calls Tryz.prog 39 #[frV f, frV g] W fun e w' => e = .returned (frV r) /\ Turned (fun _ => False) W w') :
  Calls Tryz.prog 37 #[.func (.func 39) #[frV f] #[], ratV b] W fun e w' => e = .returned (ratV (lowR r.1 r.2.1 r.2.2)) /\ Turned (fun _ => False) W w' := by
 have HO := Lib.hid (fun W => qOf_any b W hb.1 hb.2)
 have HL := Lib.hid (fun W => low_any r W hr0 hr.1 hr.2)
 have HP := Lib.hid H
 rw [hg] at HO
 obtain ⟨⟨sn, sx, sy⟩, hs⟩ : ∃ s, lowR r.1 r.2.1 r.2.2 = s := ⟨_, rfl⟩
 rw [hs] at HL ⊢
 obtain ⟨bn, bx, bd⟩ := b
 obtain ⟨f1, f2, f3⟩ := f
 obtain ⟨g1, g2, g3⟩ := g
 obtain ⟨r1, r2, r3⟩ := r
 simp only [frV] at HO HL HP ⊢
 obtain ⟨F2, hF2⟩ : ∃ x, encB f2 = x := ⟨_, rfl⟩
 obtain ⟨F3, hF3⟩ : ∃ x, encB f3 = x := ⟨_, rfl⟩
 obtain ⟨G2, hG2⟩ : ∃ x, encB g2 = x := ⟨_, rfl⟩
 obtain ⟨G3, hG3⟩ : ∃ x, encB g3 = x := ⟨_, rfl⟩
 obtain ⟨R2, hR2⟩ : ∃ x, encB r2 = x := ⟨_, rfl⟩
 obtain ⟨R3, hR3⟩ : ∃ x, encB r3 = x := ⟨_, rfl⟩
 rw [hG2, hG3] at HO
 rw [hF2, hF3, hG2, hG3, hR2, hR3] at HP
 rw [hR2, hR3] at HL
 rw [hF2, hF3]
 clear hb hg hr0 hr H hs hF2 hF3 hG2 hG3 hR2 hR3 f2 f3 g2 g3 r2 r3
 go_enter Tryz.func37, Tryz.ntmps37
 go_wp2_with fail
 refine (HO.out _).mono ?_
 rintro e w1 ⟨rfl, t1⟩
 have HS := Lib.hid (And.intro (keepB t1 (new_second W _ _)) ((((Turned.refl (fun _ => False) W).alloc _).alloc _).trans t1))
 clear t1 HO
 go_wp2_with fail
 refine (HP.out _).mono ?_
 rintro e w2 ⟨rfl, t1⟩
 have HS2 := Lib.hid (And.intro (keepB t1 HS.out.1) (HS.out.2.trans t1))
 clear t1 HS HP
 go_wp2_with fail
 refine (HL.out _).mono ?_
 rintro e w3 ⟨rfl, t1⟩
 have HS3 := Lib.hid (And.intro (keepB t1 HS2.out.1) (HS2.out.2.trans t1))
 clear t1 HS2 HL
 obtain ⟨d0, d1, d2, q0, q1, q2⟩ := box3 HS3.out.1
 go_wp2_with fail
 obtain ⟨k1, k2⟩ := set3 HS3.out.1 (.bool sn) (.string sx) (.string sy)
 refine bodyPost_ret (results_do _ _ (W.heap.size + 1) _ _ _ rfl k1) rfl ?_
 exact ⟨rfl, HS3.out.2.fresh k2 fun g hg => by omega⟩
theorem do_over (f g r : Bool × Nat × Nat) (b : Rv) (W : World) (hb : SzR b 400000000) (hg : fracR b = g) (hr0 : r.2.2 ≠ 0) (hr : SzF r 400000000)
  (H : ∀ W, Calls Tryz.prog 43 #[frV f, frV g] W fun e w' => e = .returned (frV r) /\ Turned (fun _ => False) W w') :
  Calls Tryz.prog 37 #[.func (.func 43) #[frV f] #[], ratV b] W fun e w' => e = .returned (ratV (lowR r.1 r.2.1 r.2.2)) /\ Turned (fun _ => False) W w' := by
 have HO := Lib.hid (fun W => qOf_any b W hb.1 hb.2)
 have HL := Lib.hid (fun W => low_any r W hr0 hr.1 hr.2)
 have HP := Lib.hid H
 rw [hg] at HO
 obtain ⟨⟨sn, sx, sy⟩, hs⟩ : ∃ s, lowR r.1 r.2.1 r.2.2 = s := ⟨_, rfl⟩
 rw [hs] at HL ⊢
 obtain ⟨bn, bx, bd⟩ := b
 obtain ⟨f1, f2, f3⟩ := f
 obtain ⟨g1, g2, g3⟩ := g
 obtain ⟨r1, r2, r3⟩ := r
 simp only [frV] at HO HL HP ⊢
 obtain ⟨F2, hF2⟩ : ∃ x, encB f2 = x := ⟨_, rfl⟩
 obtain ⟨F3, hF3⟩ : ∃ x, encB f3 = x := ⟨_, rfl⟩
 obtain ⟨G2, hG2⟩ : ∃ x, encB g2 = x := ⟨_, rfl⟩
 obtain ⟨G3, hG3⟩ : ∃ x, encB g3 = x := ⟨_, rfl⟩
 obtain ⟨R2, hR2⟩ : ∃ x, encB r2 = x := ⟨_, rfl⟩
 obtain ⟨R3, hR3⟩ : ∃ x, encB r3 = x := ⟨_, rfl⟩
 rw [hG2, hG3] at HO
 rw [hF2, hF3, hG2, hG3, hR2, hR3] at HP
 rw [hR2, hR3] at HL
 rw [hF2, hF3]
 clear hb hg hr0 hr H hs hF2 hF3 hG2 hG3 hR2 hR3 f2 f3 g2 g3 r2 r3
 go_enter Tryz.func37, Tryz.ntmps37
 go_wp2_with fail
 refine (HO.out _).mono ?_
 rintro e w1 ⟨rfl, t1⟩
 have HS := Lib.hid (And.intro (keepB t1 (new_second W _ _)) ((((Turned.refl (fun _ => False) W).alloc _).alloc _).trans t1))
 clear t1 HO
 go_wp2_with fail
 refine (HP.out _).mono ?_
 rintro e w2 ⟨rfl, t1⟩
 have HS2 := Lib.hid (And.intro (keepB t1 HS.out.1) (HS.out.2.trans t1))
 clear t1 HS HP
 go_wp2_with fail
 refine (HL.out _).mono ?_
 rintro e w3 ⟨rfl, t1⟩
 have HS3 := Lib.hid (And.intro (keepB t1 HS2.out.1) (HS2.out.2.trans t1))
 clear t1 HS2 HL
 obtain ⟨d0, d1, d2, q0, q1, q2⟩ := box3 HS3.out.1
 go_wp2_with fail
 obtain ⟨k1, k2⟩ := set3 HS3.out.1 (.bool sn) (.string sx) (.string sy)
 refine bodyPost_ret (results_do _ _ (W.heap.size + 1) _ _ _ rfl k1) rfl ?_
 exact ⟨rfl, HS3.out.2.fresh k2 fun g hg => by omega⟩
attribute [local go_sem ↓] run_eql_rat' run_neq_rat'
theorem fracR_size {u : Rv} {k : Nat} (h : SzR u k) (h1 : 1 <= k) : SzF (fracR u) k := SzF.frac h.1 h.2 h1
theorem results_qadd (tmps : Array Value) (w : World) (g : Nat) (a b c : Value) (hp : tmps.getD 4 undef = .pointer (some ⟨g, 0, none⟩)) (hg : w.heap[g]? = some (.cells #[a, b, c] 31 (0, 0))) :
  (results Tryz.f82 tmps).run Tryz.prog w = .ok (.agg #[a, b, c]) w :=
 results_cell_row (fn := Tryz.f82) rfl tmps w g 31 #[a, b, c] (0, 0) _ hp hg Tryz.underlying31 rfl (by kernel_rfl)
theorem qAdd_any (u v : Rv) (k : Nat) (W : World) (h1 : 1 <= k) (hk : k <= 100000000) (hu : SzR u k) (hv : SzR v k) :
  Calls Tryz.prog 82 #[ratV u, ratV v] W fun e w' => e = .returned (ratV (repR (qR u + qR v))) /\ Turned (fun _ => False) W w' := by
 have hf := fracR_size hu h1
 have hg := fracR_size hv h1
 have hfd := fracR_den u
 have hgd := fracR_den v
 have HO := Lib.hid (fun W => qOf_any u W (Nat.le_trans hu.1 (by omega)) (Nat.le_trans hu.2 (by omega)))
 have HD := Lib.hid (fun W => do_plus (fracR u) (fracR v) (plusF (fracR u) (fracR v)) v W (SzR.mono hv (by omega)) rfl (qF_plus _ _ hfd hgd).2 ((hf.plus hg).mono (by omega)) (fun W => plus_call _ _ k W hk hf hg))
 have he : lowR (plusF (fracR u) (fracR v)).1 (plusF (fracR u) (fracR v)).2.1 (plusF (fracR u) (fracR v)).2.2 = repR (qR u + qR v) := (low_qF _ (qF_plus _ _ hfd hgd).2).trans (congrArg repR (qF_plus _ _ hfd hgd).1)
 rw [he] at HD
 obtain ⟨⟨sn, sx, sy⟩, hs⟩ : ∃ s, repR (qR u + qR v) = s := ⟨_, rfl⟩
 rw [hs] at HD ⊢
 obtain ⟨⟨f1, f2, f3⟩, hfr⟩ : ∃ f, fracR u = f := ⟨_, rfl⟩
 rw [hfr] at HO HD
 obtain ⟨un, ux, ud⟩ := u
 obtain ⟨vn, vx, vd⟩ := v
 obtain ⟨F2, hF2⟩ : ∃ x, encB f2 = x := ⟨_, rfl⟩
 obtain ⟨F3, hF3⟩ : ∃ x, encB f3 = x := ⟨_, rfl⟩
 simp only [frV] at HO HD ⊢
 rw [hF2, hF3] at HO HD
 clear hu hv hf hg hfd hgd he hs hfr hF2 hF3 f2 f3 h1 hk
 go_enter Tryz.func82, Tryz.ntmps82
 go_wp2_with fail
 obtain ⟨n0, n1, n2⟩ := new3 W (.cells #[.bool un, .string ux, .string ud] 31 (0, 0)) (.cells #[.bool vn, .string vx, .string vd] 31 (0, 0)) (.cells #[.bool false, .string ⟨#[]⟩, .string ⟨#[]⟩] 31 (0, 0))
 have T0 := (((Turned.refl (fun _ => False) W).alloc (.cells #[.bool un, .string ux, .string ud] 31 (0, 0))).alloc (.cells #[.bool vn, .string vx, .string vd] 31 (0, 0))).alloc (.cells #[.bool false, .string ⟨#[]⟩, .string ⟨#[]⟩] 31 (0, 0))
 obtain ⟨w0, hw0⟩ : ∃ w0, w0 = (((W.alloc (.cells #[.bool un, .string ux, .string ud] 31 (0, 0))).alloc (.cells #[.bool vn, .string vx, .string vd] 31 (0, 0))).alloc (.cells #[.bool false, .string ⟨#[]⟩, .string ⟨#[]⟩] 31 (0, 0))) := ⟨_, rfl⟩
 rw [<- hw0] at n0 n1 n2 T0 ⊢
 have HL0 := Lib.hid (And.intro (keepB ((Turned.refl (fun _ => False) w0).drew) n0) (And.intro (keepB ((Turned.refl (fun _ => False) w0).drew) n1) (And.intro (keepB ((Turned.refl (fun _ => False) w0).drew) n2) T0.drew)))
 clear hw0 n0 n1 n2 T0
 have HK0 := Lib.hid (s6 HL0.out)
 go_region_held3 (fun V => V.cell? ⟨W.heap.size, 0, none⟩ = some (.bool un) /\ V.cell? ⟨W.heap.size, 1, none⟩ = some (.string ux) /\ V.cell? ⟨W.heap.size, 2, none⟩ = some (.string ud) /\ V.cell? ⟨W.heap.size + 1, 0, none⟩ = some (.bool vn) /\ V.cell? ⟨W.heap.size + 1, 1, none⟩ = some (.string vx) /\ V.cell? ⟨W.heap.size + 1, 2, none⟩ = some (.string vd))
  (first | exact HK3.out | exact HK2.out | exact HK1.out | exact HK0.out | go_keep)
  (first
   | (have hq := HK1; clear hq; go_at_call 37; refine (HD.out w1).mono ?_; rintro e w2 ⟨rfl, t2⟩; have HL2 := Lib.hid (mv3 HL1.out t2); have HK2 := Lib.hid (s6 HL2.out); obtain ⟨e0, e1, e2, g0, g1, g2⟩ := box3 HL2.out.2.2.1; have K3 := set3 HL2.out.2.2.1 (.bool sn) (.string sx) (.string sy); have HS3 := Lib.hid K3; have HK3 := Lib.hid (s6' HL2.out K3.2 (by omega) (by omega)); clear t2 K3)
   | (go_at_call 38; refine (HO.out w0.drew).mono ?_; rintro e w1 ⟨rfl, t1⟩; have HL1 := Lib.hid (mv3 HL0.out t1); have HK1 := Lib.hid (s6 HL1.out); clear t1))
 go_wp2_with fail
 refine bodyPost_ret (results_qadd _ _ (W.heap.size + 1 + 1) _ _ _ rfl HS3.out.1) rfl ?_
 exact ⟨rfl, HL2.out.2.2.2.fresh HS3.out.2 fun g hg => by omega⟩
theorem results_qsub (tmps : Array Value) (w : World) (g : Nat) (a b c : Value) (hp : tmps.getD 4 undef = .pointer (some ⟨g, 0, none⟩)) (hg : w.heap[g]? = some (.cells #[a, b, c] 31 (0, 0))) :
  (results Tryz.f83 tmps).run Tryz.prog w = .ok (.agg #[a, b, c]) w :=
 results_cell_row (fn := Tryz.f83) rfl tmps w g 31 #[a, b, c] (0, 0) _ hp hg Tryz.underlying31 rfl (by kernel_rfl)
theorem qSub_any (u v : Rv) (k : Nat) (W : World) (h1 : 1 <= k) (hk : k <= 100000000) (hu : SzR u k) (hv : SzR v k) :
  Calls Tryz.prog 83 #[ratV u, ratV v] W fun e w' => e = .returned (ratV (repR (qR u - qR v))) /\ Turned (fun _ => False) W w' := by
 have hf := fracR_size hu h1
 have hg := fracR_size hv h1
 have hfd := fracR_den u
 have hgd := fracR_den v
 have HO := Lib.hid (fun W => qOf_any u W (Nat.le_trans hu.1 (by omega)) (Nat.le_trans hu.2 (by omega)))
 have HD := Lib.hid (fun W => do_less (fracR u) (fracR v) (plusF (fracR u) (!(fracR v).1, (fracR v).2)) v W (SzR.mono hv (by omega)) rfl (qF_plus (fracR u) (!(fracR v).1, (fracR v).2) hfd hgd).2 ((hf.plus (g := (!(fracR v).1, (fracR v).2)) hg).mono (by omega)) (fun W => less_call _ _ k W hk hf hg))
 have he : lowR (plusF (fracR u) (!(fracR v).1, (fracR v).2)).1 (plusF (fracR u) (!(fracR v).1, (fracR v).2)).2.1 (plusF (fracR u) (!(fracR v).1, (fracR v).2)).2.2 = repR (qR u - qR v) := (low_qF _ (qF_plus (fracR u) (!(fracR v).1, (fracR v).2) hfd hgd).2).trans (congrArg repR ((qF_plus (fracR u) (!(fracR v).1, (fracR v).2) hfd hgd).1.trans (by rw [qF_neg, Rat.sub_eq_add_neg]; rfl)))
 rw [he] at HD
 obtain ⟨⟨sn, sx, sy⟩, hs⟩ : ∃ s, repR (qR u - qR v) = s := ⟨_, rfl⟩
 rw [hs] at HD ⊢
 obtain ⟨⟨f1, f2, f3⟩, hfr⟩ : ∃ f, fracR u = f := ⟨_, rfl⟩
 rw [hfr] at HO HD
 obtain ⟨un, ux, ud⟩ := u
 obtain ⟨vn, vx, vd⟩ := v
 obtain ⟨F2, hF2⟩ : ∃ x, encB f2 = x := ⟨_, rfl⟩
 obtain ⟨F3, hF3⟩ : ∃ x, encB f3 = x := ⟨_, rfl⟩
 simp only [frV] at HO HD ⊢
 rw [hF2, hF3] at HO HD
 clear hu hv hf hg hfd hgd he hs hfr hF2 hF3 f2 f3 h1 hk
 go_enter Tryz.func83, Tryz.ntmps83
 go_wp2_with fail
 obtain ⟨n0, n1, n2⟩ := new3 W (.cells #[.bool un, .string ux, .string ud] 31 (0, 0)) (.cells #[.bool vn, .string vx, .string vd] 31 (0, 0)) (.cells #[.bool false, .string ⟨#[]⟩, .string ⟨#[]⟩] 31 (0, 0))
 have T0 := (((Turned.refl (fun _ => False) W).alloc (.cells #[.bool un, .string ux, .string ud] 31 (0, 0))).alloc (.cells #[.bool vn, .string vx, .string vd] 31 (0, 0))).alloc (.cells #[.bool false, .string ⟨#[]⟩, .string ⟨#[]⟩] 31 (0, 0))
 obtain ⟨w0, hw0⟩ : ∃ w0, w0 = (((W.alloc (.cells #[.bool un, .string ux, .string ud] 31 (0, 0))).alloc (.cells #[.bool vn, .string vx, .string vd] 31 (0, 0))).alloc (.cells #[.bool false, .string ⟨#[]⟩, .string ⟨#[]⟩] 31 (0, 0))) := ⟨_, rfl⟩
 rw [<- hw0] at n0 n1 n2 T0 ⊢
 have HL0 := Lib.hid (And.intro (keepB ((Turned.refl (fun _ => False) w0).drew) n0) (And.intro (keepB ((Turned.refl (fun _ => False) w0).drew) n1) (And.intro (keepB ((Turned.refl (fun _ => False) w0).drew) n2) T0.drew)))
 clear hw0 n0 n1 n2 T0
 have HK0 := Lib.hid (s6 HL0.out)
 go_region_held3 (fun V => V.cell? ⟨W.heap.size, 0, none⟩ = some (.bool un) /\ V.cell? ⟨W.heap.size, 1, none⟩ = some (.string ux) /\ V.cell? ⟨W.heap.size, 2, none⟩ = some (.string ud) /\ V.cell? ⟨W.heap.size + 1, 0, none⟩ = some (.bool vn) /\ V.cell? ⟨W.heap.size + 1, 1, none⟩ = some (.string vx) /\ V.cell? ⟨W.heap.size + 1, 2, none⟩ = some (.string vd))
  (first | exact HK3.out | exact HK2.out | exact HK1.out | exact HK0.out | go_keep)
  (first
   | (have hq := HK1; clear hq; go_at_call 37; refine (HD.out w1).mono ?_; rintro e w2 ⟨rfl, t2⟩; have HL2 := Lib.hid (mv3 HL1.out t2); have HK2 := Lib.hid (s6 HL2.out); obtain ⟨e0, e1, e2, g0, g1, g2⟩ := box3 HL2.out.2.2.1; have K3 := set3 HL2.out.2.2.1 (.bool sn) (.string sx) (.string sy); have HS3 := Lib.hid K3; have HK3 := Lib.hid (s6' HL2.out K3.2 (by omega) (by omega)); clear t2 K3)
   | (go_at_call 38; refine (HO.out w0.drew).mono ?_; rintro e w1 ⟨rfl, t1⟩; have HL1 := Lib.hid (mv3 HL0.out t1); have HK1 := Lib.hid (s6 HL1.out); clear t1))
 go_wp2_with fail
 refine bodyPost_ret (results_qsub _ _ (W.heap.size + 1 + 1) _ _ _ rfl HS3.out.1) rfl ?_
 exact ⟨rfl, HL2.out.2.2.2.fresh HS3.out.2 fun g hg => by omega⟩
theorem results_qmul (tmps : Array Value) (w : World) (g : Nat) (a b c : Value) (hp : tmps.getD 4 undef = .pointer (some ⟨g, 0, none⟩)) (hg : w.heap[g]? = some (.cells #[a, b, c] 31 (0, 0))) :
  (results Tryz.f14 tmps).run Tryz.prog w = .ok (.agg #[a, b, c]) w :=
 results_cell_row (fn := Tryz.f14) rfl tmps w g 31 #[a, b, c] (0, 0) _ hp hg Tryz.underlying31 rfl (by kernel_rfl)
theorem qMul_any (u v : Rv) (k : Nat) (W : World) (h1 : 1 <= k) (hk : k <= 100000000) (hu : SzR u k) (hv : SzR v k) :
  Calls Tryz.prog 14 #[ratV u, ratV v] W fun e w' => e = .returned (ratV (repR (qR u * qR v))) /\ Turned (fun _ => False) W w' := by
 have hf := fracR_size hu h1
 have hg := fracR_size hv h1
 have hfd := fracR_den u
 have hgd := fracR_den v
 have HO := Lib.hid (fun W => qOf_any u W (Nat.le_trans hu.1 (by omega)) (Nat.le_trans hu.2 (by omega)))
 have HD := Lib.hid (fun W => do_times (fracR u) (fracR v) ((fracR u).1 != (fracR v).1, (fracR u).2.1 * (fracR v).2.1, (fracR u).2.2 * (fracR v).2.2) v W (SzR.mono hv (by omega)) rfl (Nat.mul_ne_zero hfd hgd) ((hf.times hg).mono (by omega)) (fun W => times_call _ _ k W (by omega) hf hg))
 have he : lowR ((fracR u).1 != (fracR v).1) ((fracR u).2.1 * (fracR v).2.1) ((fracR u).2.2 * (fracR v).2.2) = repR (qR u * qR v) := (low_qF ((fracR u).1 != (fracR v).1, (fracR u).2.1 * (fracR v).2.1, (fracR u).2.2 * (fracR v).2.2) (Nat.mul_ne_zero hfd hgd)).trans (congrArg repR (qF_times _ _))
 rw [he] at HD
 obtain ⟨⟨sn, sx, sy⟩, hs⟩ : ∃ s, repR (qR u * qR v) = s := ⟨_, rfl⟩
 rw [hs] at HD ⊢
 obtain ⟨⟨f1, f2, f3⟩, hfr⟩ : ∃ f, fracR u = f := ⟨_, rfl⟩
 rw [hfr] at HO HD
 obtain ⟨un, ux, ud⟩ := u
 obtain ⟨vn, vx, vd⟩ := v
 obtain ⟨F2, hF2⟩ : ∃ x, encB f2 = x := ⟨_, rfl⟩
 obtain ⟨F3, hF3⟩ : ∃ x, encB f3 = x := ⟨_, rfl⟩
 simp only [frV] at HO HD ⊢
 rw [hF2, hF3] at HO HD
 clear hu hv hf hg hfd hgd he hs hfr hF2 hF3 f2 f3 h1 hk
 go_enter Tryz.func14, Tryz.ntmps14
 go_wp2_with fail
 obtain ⟨n0, n1, n2⟩ := new3 W (.cells #[.bool un, .string ux, .string ud] 31 (0, 0)) (.cells #[.bool vn, .string vx, .string vd] 31 (0, 0)) (.cells #[.bool false, .string ⟨#[]⟩, .string ⟨#[]⟩] 31 (0, 0))
 have T0 := (((Turned.refl (fun _ => False) W).alloc (.cells #[.bool un, .string ux, .string ud] 31 (0, 0))).alloc (.cells #[.bool vn, .string vx, .string vd] 31 (0, 0))).alloc (.cells #[.bool false, .string ⟨#[]⟩, .string ⟨#[]⟩] 31 (0, 0))
 obtain ⟨w0, hw0⟩ : ∃ w0, w0 = (((W.alloc (.cells #[.bool un, .string ux, .string ud] 31 (0, 0))).alloc (.cells #[.bool vn, .string vx, .string vd] 31 (0, 0))).alloc (.cells #[.bool false, .string ⟨#[]⟩, .string ⟨#[]⟩] 31 (0, 0))) := ⟨_, rfl⟩
 rw [<- hw0] at n0 n1 n2 T0 ⊢
 have HL0 := Lib.hid (And.intro (keepB ((Turned.refl (fun _ => False) w0).drew) n0) (And.intro (keepB ((Turned.refl (fun _ => False) w0).drew) n1) (And.intro (keepB ((Turned.refl (fun _ => False) w0).drew) n2) T0.drew)))
 clear hw0 n0 n1 n2 T0
 have HK0 := Lib.hid (s6 HL0.out)
 go_region_held3 (fun V => V.cell? ⟨W.heap.size, 0, none⟩ = some (.bool un) /\ V.cell? ⟨W.heap.size, 1, none⟩ = some (.string ux) /\ V.cell? ⟨W.heap.size, 2, none⟩ = some (.string ud) /\ V.cell? ⟨W.heap.size + 1, 0, none⟩ = some (.bool vn) /\ V.cell? ⟨W.heap.size + 1, 1, none⟩ = some (.string vx) /\ V.cell? ⟨W.heap.size + 1, 2, none⟩ = some (.string vd))
  (first | exact HK3.out | exact HK2.out | exact HK1.out | exact HK0.out | go_keep)
  (first
   | (have hq := HK1; clear hq; go_at_call 37; refine (HD.out w1).mono ?_; rintro e w2 ⟨rfl, t2⟩; have HL2 := Lib.hid (mv3 HL1.out t2); have HK2 := Lib.hid (s6 HL2.out); obtain ⟨e0, e1, e2, g0, g1, g2⟩ := box3 HL2.out.2.2.1; have K3 := set3 HL2.out.2.2.1 (.bool sn) (.string sx) (.string sy); have HS3 := Lib.hid K3; have HK3 := Lib.hid (s6' HL2.out K3.2 (by omega) (by omega)); clear t2 K3)
   | (go_at_call 38; refine (HO.out w0.drew).mono ?_; rintro e w1 ⟨rfl, t1⟩; have HL1 := Lib.hid (mv3 HL0.out t1); have HK1 := Lib.hid (s6 HL1.out); clear t1))
 go_wp2_with fail
 refine bodyPost_ret (results_qmul _ _ (W.heap.size + 1 + 1) _ _ _ rfl HS3.out.1) rfl ?_
 exact ⟨rfl, HL2.out.2.2.2.fresh HS3.out.2 fun g hg => by omega⟩
attribute [local go_sem ↓] run_eql_rat' run_neq_rat'
theorem results_ct {fn : Func} {p u : Tmp} {ty : TypeId} (h : fn.results = #[.cell p ty, .tmp u]) (tmps : Array Value) (w : World) (g : Nat) (cs : Array Value) (x : Value) (hx : tmps.getD u undef = x)
  (hp : tmps.getD p undef = .pointer (some ⟨g, 0, none⟩))
  (hl : (loadVar ty ⟨g, 0, none⟩).run Tryz.prog w = .ok (.agg cs) w) :
  (results fn tmps).run Tryz.prog w = .ok (.tuple #[.agg cs, x]) w := by
 rw [results_cell_tmp h, hp, hx]
 simp [asAddr, hl]
theorem run_field_frac (a b c : Value) (w : World) : (Instr.field 92 (.agg #[a, b, c]) 1).run Tryz.prog w = .ok b w := by kernel_rfl
theorem qDiv_any (u v : Rv) (k : Nat) (W : World) (h1 : 1 <= k) (hk : k <= 100000000) (hu : SzR u k) (hv : SzR v k) (h0 : qR v ≠ 0) :
  Calls Tryz.prog 18 #[ratV u, ratV v] W fun e w' => e = .returned (.tuple #[ratV (repR (qR u / qR v)), .int .i64 0]) /\ Turned (fun _ => False) W w' := by
 have hf := fracR_size hu h1
 have hg := fracR_size hv h1
 have hfd := fracR_den u
 have hgd := fracR_den v
 have hgn : (fracR v).2.1 ≠ 0 := fun e => h0 ((qF_sign _ hgd).1.1 e)
 have HOv := Lib.hid (fun W => qOf_any v W (Nat.le_trans hv.1 (by omega)) (Nat.le_trans hv.2 (by omega)))
 have HO := Lib.hid (fun W => qOf_any u W (Nat.le_trans hu.1 (by omega)) (Nat.le_trans hu.2 (by omega)))
 have HD := Lib.hid (fun W => do_over (fracR u) (fracR v) ((fracR u).1 != (fracR v).1, (fracR u).2.1 * (fracR v).2.2, (fracR u).2.2 * (fracR v).2.1) v W (SzR.mono hv (by omega)) rfl (Nat.mul_ne_zero hfd hgn) ((hf.times (g := ((fracR v).1, (fracR v).2.2, (fracR v).2.1)) ⟨hg.2, hg.1⟩).mono (by omega)) (fun W => over_call _ _ k W (by omega) hf hg))
 have he : lowR ((fracR u).1 != (fracR v).1) ((fracR u).2.1 * (fracR v).2.2) ((fracR u).2.2 * (fracR v).2.1) = repR (qR u / qR v) := by
  rw [low_qF ((fracR u).1 != (fracR v).1, (fracR u).2.1 * (fracR v).2.2, (fracR u).2.2 * (fracR v).2.1) (Nat.mul_ne_zero hfd hgn), qF_times (fracR u) ((fracR v).1, (fracR v).2.2, (fracR v).2.1), qF_inv _ hgn hgd, Rat.div_def]
  rfl
 rw [he] at HD
 obtain ⟨⟨sn, sx, sy⟩, hs⟩ : ∃ s, repR (qR u / qR v) = s := ⟨_, rfl⟩
 rw [hs] at HD ⊢
 obtain ⟨⟨f1, f2, f3⟩, hfr⟩ : ∃ f, fracR u = f := ⟨_, rfl⟩
 rw [hfr] at HO HD
 obtain ⟨⟨g1, g2, g3⟩, hgr⟩ : ∃ f, fracR v = f := ⟨_, rfl⟩
 rw [hgr] at HOv hgn
 obtain ⟨un, ux, ud⟩ := u
 obtain ⟨vn, vx, vd⟩ := v
 obtain ⟨l1, l2⟩ := bytesNe (encB_ne hgn)
 obtain ⟨F2, hF2⟩ : ∃ x, encB f2 = x := ⟨_, rfl⟩
 obtain ⟨F3, hF3⟩ : ∃ x, encB f3 = x := ⟨_, rfl⟩
 simp only [frV] at HO HOv HD ⊢
 have l1' := l1
 obtain ⟨G2, hG2⟩ : ∃ x, encB g2 = x := ⟨_, rfl⟩
 obtain ⟨G3, hG3⟩ : ∃ x, encB g3 = x := ⟨_, rfl⟩
 simp only at l1 l2 l1'
 rw [hG2] at l1 l2 HOv
 rw [hG3] at HOv
 rw [hF2, hF3] at HO HD
 clear l1' hu hv hf hg hfd hgd he hs hfr hgr hgn h0 hF2 hF3 hG2 hG3 f2 f3 g2 g3 h1 hk
 have hfld := run_field_frac
 go_enter Tryz.func18, Tryz.ntmps18
 go_wp2_with fail
 refine (HOv.out _).mono ?_
 rintro e wa ⟨rfl, ta⟩
 have HA := Lib.hid (mv3 (And.intro (new3 W (.cells #[.bool un, .string ux, .string ud] 31 (0, 0)) (.cells #[.bool vn, .string vx, .string vd] 31 (0, 0)) (.cells #[.bool false, .string ⟨#[]⟩, .string ⟨#[]⟩] 31 (0, 0))).1 (And.intro (new3 W (.cells #[.bool un, .string ux, .string ud] 31 (0, 0)) (.cells #[.bool vn, .string vx, .string vd] 31 (0, 0)) (.cells #[.bool false, .string ⟨#[]⟩, .string ⟨#[]⟩] 31 (0, 0))).2.1 (And.intro (new3 W (.cells #[.bool un, .string ux, .string ud] 31 (0, 0)) (.cells #[.bool vn, .string vx, .string vd] 31 (0, 0)) (.cells #[.bool false, .string ⟨#[]⟩, .string ⟨#[]⟩] 31 (0, 0))).2.2 ((((Turned.refl (fun _ => False) W).alloc _).alloc _).alloc _)))) ta)
 clear ta HOv
 go_wp2_with fail
 have HL0 := Lib.hid (mv3 HA.out ((Turned.refl (fun _ => False) wa).drew))
 have HK0 := Lib.hid (s6 HL0.out)
 clear HA hfld
 go_region_held3 (fun V => V.cell? ⟨W.heap.size, 0, none⟩ = some (.bool un) /\ V.cell? ⟨W.heap.size, 1, none⟩ = some (.string ux) /\ V.cell? ⟨W.heap.size, 2, none⟩ = some (.string ud) /\ V.cell? ⟨W.heap.size + 1, 0, none⟩ = some (.bool vn) /\ V.cell? ⟨W.heap.size + 1, 1, none⟩ = some (.string vx) /\ V.cell? ⟨W.heap.size + 1, 2, none⟩ = some (.string vd))
  (first | exact HK3.out | exact HK2.out | exact HK1.out | exact HK0.out | go_keep)
  (first
   | (have hq := HK1; clear hq; go_at_call 37; refine (HD.out w1).mono ?_; rintro e w2 ⟨rfl, t2⟩; have HL2 := Lib.hid (mv3 HL1.out t2); have HK2 := Lib.hid (s6 HL2.out); obtain ⟨e0, e1, e2, q0, q1, q2⟩ := box3 HL2.out.2.2.1; have K3 := set3 HL2.out.2.2.1 (.bool sn) (.string sx) (.string sy); have HS3 := Lib.hid K3; have HK3 := Lib.hid (s6' HL2.out K3.2 (by omega) (by omega)); clear t2 K3)
   | (go_at_call 38; refine (HO.out wa.drew).mono ?_; rintro e w1 ⟨rfl, t1⟩; have HL1 := Lib.hid (mv3 HL0.out t1); have HK1 := Lib.hid (s6 HL1.out); clear t1))
 go_wp2_with fail
 refine bodyPost_ret (results_ct (fn := Tryz.f18) rfl _ _ (W.heap.size + 1 + 1) #[.bool sn, .string sx, .string sy] (.int .i64 0) rfl rfl (run_loadVar_row _ _ 31 31 _ (0, 0) _ HS3.out.1 Tryz.underlying31 rfl (by kernel_rfl))) rfl ?_
 exact ⟨rfl, HL2.out.2.2.2.fresh HS3.out.2 fun g hg => by omega⟩
theorem qInside_any (n : Int) (W : World) (h1 : -999999999999999 <= n) (h2 : n <= 999999999999999) : Calls Tryz.prog 40 #[.int .i64 n] W fun e w' => e = .returned (.bool true) /\ w' = W := by
 go_enter Tryz.func40, Tryz.ntmps40
 go_wp2_with fail
 go_ret
 exact ⟨rfl, rfl⟩
theorem results_int (tmps : Array Value) (w : World) (g : Nat) (a b c : Value) (hp : tmps.getD 2 undef = .pointer (some ⟨g, 0, none⟩)) (hg : w.heap[g]? = some (.cells #[a, b, c] 92 (0, 0))) :
  (results Tryz.f41 tmps).run Tryz.prog w = .ok (.agg #[a, b, c]) w :=
 results_cell_row (fn := Tryz.f41) rfl tmps w g 92 #[a, b, c] (0, 0) _ hp hg Tryz.underlying92 rfl (by kernel_rfl)
theorem qInteger_any (n : Nat) (W : World) (hn : n <= 999999999999999) : Calls Tryz.prog 41 #[.int .i64 n] W fun e w' => e = .returned (frV (false, n, 1)) /\ Turned (fun _ => False) W w' := by
 have HI := Lib.hid (fun W => nInt_any n W (by omega))
 show Calls Tryz.prog 41 #[.int .i64 n] W fun e w' => e = .returned (.agg #[.bool false, .string (encB n), .string (encB 1)]) /\ Turned (fun _ => False) W w'
 rw [encB_one]
 obtain ⟨X, hX⟩ : ∃ x, encB n = x := ⟨_, rfl⟩
 rw [hX] at HI ⊢
 clear hX
 have e1 : wrap64 (-(n : Int)) = -(n : Int) := by unfold wrap64; omega
 have e2 : max (n : Int) (-(n : Int)) = (n : Int) := by omega
 have e3 : ¬ (n : Int) < 0 := by omega
 clear hn
 go_enter Tryz.func41, Tryz.ntmps41
 go_wp2_with fail
 refine (HI.out _).mono ?_
 rintro e w1 ⟨rfl, t1⟩
 have HS := Lib.hid (And.intro (keepB t1 (World.alloc_heap_new W _)) (((Turned.refl (fun _ => False) W).alloc _).trans t1))
 clear t1 HI
 obtain ⟨d0, d1, d2, q0, q1, q2⟩ := box3 HS.out.1
 have e4 : decide ((n : Int) < 0) = false := by simp
 go_wp2_with fail
 obtain ⟨k1, k2⟩ := set3 HS.out.1 (.bool false) (.string X) (.string ⟨#[1]⟩)
 refine bodyPost_ret (results_int _ _ W.heap.size _ _ _ rfl k1) rfl ?_
 exact ⟨rfl, HS.out.2.fresh k2 fun g hg => by omega⟩
theorem results_qint (tmps : Array Value) (w : World) (g : Nat) (a b c : Value) (hp : tmps.getD 2 undef = .pointer (some ⟨g, 0, none⟩)) (hg : w.heap[g]? = some (.cells #[a, b, c] 31 (0, 0))) :
  (results Tryz.f17 tmps).run Tryz.prog w = .ok (.agg #[a, b, c]) w :=
 results_cell_row (fn := Tryz.f17) rfl tmps w g 31 #[a, b, c] (0, 0) _ hp hg Tryz.underlying31 rfl (by kernel_rfl)
theorem encB_int {n : Nat} (hn : n <= 999999999999999) : (encB n).size <= 8 := encB_le (by omega)
theorem low_make (n d : Nat) (hd : d ≠ 0) : lowR (false != false) (n * 1) (1 * d) = repR ((n : Rat) / (d : Rat)) := by
 have e : (false != false) = false := rfl
 rw [e, Nat.mul_one, Nat.one_mul, low_rep false n d hd, Rat.mkRat_eq_div]
 rfl
theorem qMake_any (n d : Nat) (W : World) (hn : n <= 999999999999999) (hd : d <= 999999999999999) (h0 : d ≠ 0) : Calls Tryz.prog 44 #[.int .i64 n, .int .i64 d] W fun e w' => e = .returned (.tuple #[ratV (repR ((n : Rat) / (d : Rat))), .int .i64 0]) /\ Turned (fun _ => False) W w' := by
 have HN := Lib.hid (fun W => qInside_any n W (by omega) (by omega))
 have HE := Lib.hid (fun W => qInside_any d W (by omega) (by omega))
 have HI := Lib.hid (fun W => qInteger_any n W hn)
 have HJ := Lib.hid (fun W => qInteger_any d W hd)
 have s1 := encB_int hn
 have s2 := encB_int hd
 have s3 := encB_int (by decide : 1 <= 999999999999999)
 have HO := Lib.hid (fun W => over_call (false, n, 1) (false, d, 1) 8 W (by decide) ⟨s1, s3⟩ ⟨s2, s3⟩)
 have HL := Lib.hid (fun W => low_any (false != false, n * 1, 1 * d) W (by show 1 * d ≠ 0; omega) (Nat.le_trans (encB_mul n 1) (by omega)) (Nat.le_trans (encB_mul 1 d) (by omega)))
 rw [low_make n d h0] at HL
 obtain ⟨⟨sn, sx, sy⟩, hs⟩ : ∃ s, repR ((n : Rat) / (d : Rat)) = s := ⟨_, rfl⟩
 rw [hs] at HL ⊢
 simp only [frV] at HI HJ HO HL
 have hz : ((d : Int) == 0) = false := by simp; omega
 obtain ⟨X, hX⟩ : ∃ x, encB n = x := ⟨_, rfl⟩
 obtain ⟨Y, hY⟩ : ∃ x, encB d = x := ⟨_, rfl⟩
 obtain ⟨Z, hZ⟩ : ∃ x, encB 1 = x := ⟨_, rfl⟩
 obtain ⟨P, hP⟩ : ∃ x, encB (n * 1) = x := ⟨_, rfl⟩
 obtain ⟨R, hR⟩ : ∃ x, encB (1 * d) = x := ⟨_, rfl⟩
 obtain ⟨bb, hbb⟩ : ∃ x, (false != false) = x := ⟨_, rfl⟩
 rw [hX, hZ] at HI HO
 rw [hY, hZ] at HJ
 rw [hY, hP, hR, hbb] at HO
 rw [hP, hR, hbb] at HL
 clear hX hY hZ hP hR hs hn hd h0 s1 s2 s3 hbb
 go_enter Tryz.func44, Tryz.ntmps44
 go_wp2_with (go_at_call 40; first | (with_reducible refine (HN.out _).mono ?_; rintro e w' ⟨rfl, hw⟩; rw [hw]; clear hw) | (with_reducible refine (HE.out _).mono ?_; rintro e w' ⟨rfl, hw⟩; rw [hw]; clear hw))
 refine (HI.out _).mono ?_
 rintro e w1 ⟨rfl, t1⟩
 have HS := Lib.hid (And.intro (keepB t1 (World.alloc_heap_new W _)) (((Turned.refl (fun _ => False) W).alloc _).trans t1))
 clear t1 HI
 go_wp2_with fail
 refine (HJ.out _).mono ?_
 rintro e w2 ⟨rfl, t1⟩
 have HS2 := Lib.hid (And.intro (keepB t1 HS.out.1) (HS.out.2.trans t1))
 clear t1 HJ HS
 go_wp2_with fail
 refine (HO.out _).mono ?_
 rintro e w3 ⟨rfl, t1⟩
 have HS3 := Lib.hid (And.intro (keepB t1 HS2.out.1) (HS2.out.2.trans t1))
 clear t1 HO HS2
 go_wp2_with fail
 refine (HL.out _).mono ?_
 rintro e w4 ⟨rfl, t1⟩
 have HS4 := Lib.hid (And.intro (keepB t1 HS3.out.1) (HS3.out.2.trans t1))
 clear t1 HL HS3
 obtain ⟨d0, d1, d2, q0, q1, q2⟩ := box3 HS4.out.1
 go_wp2_with fail
 obtain ⟨k1, k2⟩ := set3 HS4.out.1 (.bool sn) (.string sx) (.string sy)
 refine bodyPost_ret (results_ct (fn := Tryz.f44) rfl _ _ W.heap.size #[.bool sn, .string sx, .string sy] (.int .i64 0) rfl rfl (run_loadVar_row _ _ 31 31 _ (0, 0) _ k1 Tryz.underlying31 rfl (by kernel_rfl))) rfl ?_
 exact ⟨rfl, HS4.out.2.fresh k2 fun g hg => by omega⟩
def Same (N : Nat) (A B : World) : Prop := ∀ k, k < N -> B.heap[k]? = A.heap[k]?
theorem Same.cell {N : Nat} {A B : World} (h : Same N A B) {b o : Nat} (hb : b < N) : B.cell? ⟨b, o, none⟩ = A.cell? ⟨b, o, none⟩ := World.cell?_of_block (w := A) (a := ⟨b, o, none⟩) (h b hb)
theorem Same.trans {N : Nat} {A B C : World} (h : Same N A B) (k : Same N B C) : Same N A C := fun i hi => (k i hi).trans (h i hi)
theorem Same.mono {N M : Nat} {A B : World} (h : Same N A B) (hm : M <= N) : Same M A B := fun i hi => h i (by omega)
theorem Turned.same {C : Nat -> Prop} {A B : World} (h : Turned C A B) {N : Nat} (hN : N <= A.heap.size) (hC : ∀ k, k < N -> ¬ C k) : Same N A B := fun k hk => h.block k (by omega) (hC k hk)
structure Lst {α : Type} (N : Nat) (W : World) (s : Nat) (enc : α -> List Value) (l : List α) (p : Option Addr) (c : Nat) : Prop where
 cap : l.length <= c
 mx : c <= maxLen
 cel : ∀ (i : Nat) (x : α), l[i]? = some x -> ∃ b a, p = some ⟨b, a, none⟩ /\ b < N /\ ∀ j v, (enc x)[j]? = some v -> W.cell? ⟨b, a + (i * s + j), none⟩ = some v
section
variable {α : Type} {N M s c : Nat} {W W' : World} {enc : α -> List Value} {l : List α} {p : Option Addr}
theorem Lst.same (h : Lst N W s enc l p c) (hs : Same N W W') : Lst N W' s enc l p c :=
 ⟨h.cap, h.mx, fun i x hx => by
  obtain ⟨b, a, h1, h2, h3⟩ := h.cel i x hx
  exact ⟨b, a, h1, h2, fun j v hv => (hs.cell h2).trans (h3 j v hv)⟩⟩
theorem Lst.mono (h : Lst N W s enc l p c) (hm : N <= M) : Lst M W s enc l p c :=
 ⟨h.cap, h.mx, fun i x hx => by
  obtain ⟨b, a, h1, h2, h3⟩ := h.cel i x hx
  exact ⟨b, a, h1, by omega, h3⟩⟩
theorem Lst.turned (h : Lst N W s enc l p c) (ht : Turned (fun _ => False) W W') : Lst N W' s enc l p c :=
 ⟨h.cap, h.mx, fun i x hx => by
  obtain ⟨b, a, h1, h2, h3⟩ := h.cel i x hx
  exact ⟨b, a, h1, h2, fun j v hv => cellT ht id (h3 j v hv)⟩⟩
theorem Lst.nil (N : Nat) (W : World) (s : Nat) (enc : α -> List Value) : Lst N W s enc [] none 0 := ⟨Nat.le_refl _, Nat.zero_le _, fun i x h => by simp at h⟩
theorem Lst.len (h : Lst N W s enc l p c) : l.length <= maxLen := Nat.le_trans h.cap h.mx
end
abbrev intCells (x : Int) : List Value := [(.int .i64 x)]
section
variable {N c : Nat} {W : World} {p : Option Addr}
theorem Lst.ints {l : List Int} (h : Lst N W 1 intCells l p c) {i : Nat} {x : Int} (hi : l[i]? = some x) : ∃ b a, p = some ⟨b, a, none⟩ /\ b < N /\ W.cell? ⟨b, a + i, none⟩ = some (.int .i64 x) := by
 obtain ⟨b, a, h1, h2, h3⟩ := h.cel i x hi
 exact ⟨b, a, h1, h2, by have := h3 0 _ rfl; simpa using this⟩
end
theorem flatLen {α : Type} (enc : α -> List Value) (s : Nat) (henc : ∀ x, (enc x).length = s) (l : List α) : (l.flatMap enc).length = l.length * s := by
 induction l with
 | nil => simp
 | cons x l ih => rw [List.flatMap_cons, List.length_append, henc, ih, List.length_cons, Nat.add_mul]; omega
theorem at_flat {α : Type} {N s c : Nat} {W : World} {enc : α -> List Value} (henc : ∀ x, (enc x).length = s) {l : List α} {b a : Nat} (h : Lst N W s enc l (some ⟨b, a, none⟩) c) {j : Nat} {v : Value} (hj : (l.flatMap enc)[j]? = some v) (hs : 0 < s) : W.cell? ⟨b, a + j, none⟩ = some v := by
 have hlt : j < l.length * s := by
  have := (List.getElem?_eq_some_iff.1 hj).1
  rwa [flatLen enc s henc] at this
 have h1 : j / s < l.length := by
  rw [Nat.div_lt_iff_lt_mul hs]
  exact hlt
 have h2 : j % s < s := Nat.mod_lt _ hs
 have h3 := flatMap_at enc s henc l (j / s) (j % s) h1 h2
 have h4 : j / s * s + j % s = j := by rw [Nat.mul_comm]; exact Nat.div_add_mod j s
 rw [h4, hj] at h3
 obtain ⟨b', a', he, -, h5⟩ := h.cel (j / s) (l[j / s]) (List.getElem?_eq_getElem h1)
 cases he
 have h6 := h5 (j % s) v h3.symm
 rwa [h4] at h6
theorem Lst.block {α : Type} {s c b t : Nat} {W : World} {enc : α -> List Value} {l : List α} {cs : Array Value} (hb : W.heap[b]? = some (.cells cs t (0, 0))) (hcs : cs.toList = l.flatMap enc) (henc : ∀ x, (enc x).length = s) (hc : l.length <= c) (hm : c <= maxLen) : Lst W.heap.size W s enc l (some ⟨b, 0, none⟩) c :=
 ⟨hc, hm, fun i x hx => ⟨b, 0, rfl, getElem?_lt hb, fun j v hj => by
  obtain ⟨hlt, he⟩ := List.getElem?_eq_some_iff.1 hx
  have hjs : j < s := by
   have := (List.getElem?_eq_some_iff.1 hj).1
   rwa [henc] at this
  have h8 := flatMap_at enc s henc l i j hlt hjs
  rw [he, hj, <- hcs] at h8
  rw [Nat.zero_add]
  simp only [World.cell?, hb]
  simpa using h8⟩⟩
def Grown {α : Type} (W : World) (base e s : Nat) (enc : α -> List Value) (v : Value) (l : List α) : Prop := W.ownsRow base e s v l.length (l.flatMap enc)
section
variable {α : Type} {W W' : World} {base e s : Nat} {enc : α -> List Value} {v : Value} {l : List α}
theorem Grown.nil (W : World) (base e s : Nat) (enc : α -> List Value) : Grown W base e s enc (.slice none 0 0) [] := ⟨by simp, .inl ⟨rfl, rfl⟩⟩
theorem Grown.shape (h : Grown W base e s enc v l) : ∃ p c, v = .slice p l.length c := owns_shape h
theorem Grown.turned (h : Grown W base e s enc v l) {C : Nat -> Prop} (ht : Turned C W W') (hC : ∀ k, C k -> k < base) : Grown W' base e s enc v l := ownsRow_turned ht hC h
theorem Grown.low (h : Grown W base e s enc v l) {b : Nat} (hb : b <= base) : Grown W b e s enc v l := by
 obtain ⟨h1, h2⟩ := h
 refine ⟨h1, ?_⟩
 rcases h2 with h2 | ⟨g, cap, cur, h3, h4, h5⟩
 ·exact .inl h2
 ·exact .inr ⟨g, cap, cur, h3, Nat.le_trans hb h4, h5⟩
theorem Grown.at_ {p : Option Addr} {c : Nat} (h : Grown W base e s enc (.slice p l.length c) l) (henc : ∀ x, (enc x).length = s) {N : Nat} (hN : W.heap.size <= N) : Lst N W s enc l p c := by
 obtain ⟨h1, h2⟩ := h
 rcases h2 with ⟨h2, h3⟩ | ⟨g, cap, cur, hv, hb, hg, h4, h5, h6, h7⟩
 ·simp only [Value.slice.injEq] at h2
  obtain ⟨rfl, -, rfl⟩ := h2
  exact ⟨by omega, Nat.zero_le _, fun i x hi => by
   have := (List.getElem?_eq_some_iff.1 hi).1
   omega⟩
 ·cases hv
  refine ⟨h4, h5, fun i x hi => ⟨g, 0, rfl, Nat.lt_of_lt_of_le (getElem?_lt hg) hN, fun j u hj => ?_⟩⟩
  obtain ⟨hlt, hx⟩ := List.getElem?_eq_some_iff.1 hi
  have hjs : j < s := by
   have := (List.getElem?_eq_some_iff.1 hj).1
   rwa [henc] at this
  have h8 := flatMap_at enc s henc l i j hlt hjs
  rw [hx, hj] at h8
  have hlt2 : i * s + j < l.length * s := by
   have h9 : (i + 1) * s <= l.length * s := Nat.mul_le_mul_right s hlt
   rw [Nat.add_mul] at h9
   omega
  rw [<- h7, List.getElem?_take_of_lt hlt2] at h8
  rw [Nat.zero_add]
  simp only [World.cell?, hg]
  simpa using h8
end
theorem app_row {α : Type} (enc : α -> List Value) (e t s bytes : Nat) (z : Value) (hinfo : (Tryz.prog.info? e).map (fun i => (i.zero, i.size, i.bytes)) = some (some z, s, bytes)) (hund : Tryz.prog.underlying t = some (.slice e)) (hz : z.cells.size = s) (hs0 : 0 < s) (henc : ∀ x, (enc x).length = s) (h1c : ∀ x, ∀ u ∈ enc x, u.oneCell' = true)
  (W : World) {ops : Array Oper} {rest : List Oper} {o : Oper} {a : Act} {Q : Exit -> Act -> World -> Prop} (hg : o.guard = none) (so xo : Operand) (hop : o.op = Op.call { callee := Callee.builtin Builtin.append, args := #[so, xo], argTypes := #[t, t] })
  (base : Nat) (v : Value) (x : α) (L : List α) (hs : a.eval so = v) (hx : a.eval xo = .slice (some ⟨W.heap.size, 0, none⟩) 1 1) (hown : Grown W base e s enc v L) (hb : base <= W.heap.size) (hl : L.length <= 100000) (hby : bytes <= 1000)
  (hK : ∀ p c w', Grown w' base e s enc (.slice p (L ++ [x]).length c) (L ++ [x]) -> Turned (fun g => base <= g) W w' -> wpList Tryz.prog ops Q rest (a.put o.dst (.slice p (L ++ [x]).length c)) w') :
  wpList Tryz.prog ops Q (o :: rest) a (W.alloc (.cells (enc x).toArray e)) := by
 obtain ⟨i0, hif, hz0, hz1, hz2⟩ := info_parts hinfo
 have ta : Turned (fun g => base <= g) W (W.alloc (.cells (enc x).toArray e)) := (Turned.refl _ _).alloc _
 have hmul : (L.length + 1) * bytes <= 100001 * 1000 := Nat.mul_le_mul (by omega) hby
 refine wpList_append_exact _ hg so xo t hop base e i0 z s bytes hund hif hz0 hz1 hz2 hz hs0 v L.length (L.flatMap enc) hs (ownsRow_turned ((Turned.refl (fun _ => False) W).alloc _) (fun k hk => hk.elim) hown) ⟨W.heap.size, 0, none⟩ 1 1 (enc x) hx (by rw [henc, Nat.one_mul]) (fun j u hj => ?_) (h1c x) (by unfold maxLen; omega) (by omega) (by simp; omega) ?_
 ·have h0 := World.alloc_heap_new W (.cells (enc x).toArray e)
  have h2 : (⟨W.heap.size, 0, none⟩ : Addr).add j = ⟨W.heap.size, j, none⟩ := by
   unfold Addr.add
   split
   ·rename_i h3
    rw [h3]
   ·rw [Nat.zero_add]
  rw [h2]
  simp only [World.cell?, h0]
  simpa using hj
 ·intro v' w' hown' hgrow hex
  have hg2 : Grown w' base e s enc v' (L ++ [x]) := by
   unfold Grown
   rw [List.length_append, List.flatMap_append, show [x].flatMap enc = enc x by simp]
   exact hown'
  obtain ⟨p, c, rfl⟩ := hg2.shape
  exact hK p c w' hg2 (ta.trans (Turned.of_grown hgrow fun k hk => (ownsRow_block hown k hk).1))
structure TokOK (ts : List Tok) : Prop where
 next : ∀ (k : Nat) (t : Tok), ts[k]? = some t -> t.kind ≠ 5 -> k + 1 < ts.length
 zero : ∀ (k : Nat) (t : Tok), ts[k]? = some t -> t.kind = 1 \/ t.kind = 3 \/ t.kind = 4 -> t.n = 0
 none_ : ∀ (k : Nat) (t : Tok), ts[k]? = some t -> t.kind = 2 -> t.s = noB /\ 0 <= t.n /\ t.n <= 999999999999999
 len : ts.length <= 65537
theorem isS_kind {t : Tok} {s : ByteArray} (h : isS t s = true) : t.kind = 4 := by
 unfold isS at h; simp at h; exact h.1
theorem TokOK.sign {ts : List Tok} (h : TokOK ts) {k : Nat} {t : Tok} {s : ByteArray} (ht : ts[k]? = some t) (hs : isS t s = true) : k + 1 < ts.length := h.next k t ht (by rw [isS_kind hs]; decide)
theorem lt_of_some {α : Type} {l : List α} {k : Nat} {t : α} (h : l[k]? = some t) : k < l.length := (List.getElem?_eq_some_iff.1 h).1
theorem some_of_lt {α : Type} {l : List α} {k : Nat} (h : k < l.length) : ∃ t, l[k]? = some t := ⟨l[k], List.getElem?_eq_getElem h⟩
end Go.Proofs.YthejfklieedjmaaGreatDoor
