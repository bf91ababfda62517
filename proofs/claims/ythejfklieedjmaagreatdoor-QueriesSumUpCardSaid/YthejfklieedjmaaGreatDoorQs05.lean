/- Part 5 of the proof of lawSum.card: NatWalkJ. Conditions: those of each theorem. -/
import Derived.Test.YthejfklieedjmaaGreatDoorQs01
import Derived.Test.YthejfklieedjmaaGreatDoorQs04
set_option maxRecDepth 100000
set_option maxHeartbeats 40000000
namespace Go.Proofs.YthejfklieedjmaaGreatDoor
open Go Go.Proofs Go.RowKit
attribute [local go_sem] Oper.semAt_some
theorem shl_u32 (d k m : Nat) (hm : d * 2 ^ k = m) (hb : m < 4294967296) : IntKind.u32.wrap ((d : Int) * 2 ^ k) = (m : Int) := by
 have e2 : (d : Int) * 2 ^ k = (m : Int) := by rw [<- hm, Int.natCast_mul, Int.natCast_pow]; rfl
 rw [e2]
 show (m : Int) % 4294967296 = m
 exact Int.emod_eq_of_lt (by omega) (by omega)
theorem by_long (x y : List Nat) (p q : Option Addr) (c e0 : Nat) (W : World) (N M : Nat -> Prop) (hx : LA W N x p c) (hy : LA W M y q e0) (tx : trimL x = x) (ty : trimL y = y) (h2 : 2 <= y.length) (hle : vL bU y <= vL bU x) (lx : x.length <= 900000000) :
  Calls Tryz.prog 86 #[.slice p x.length c, .slice q y.length e0] W fun e w' => ByR W w' e (vL bU x / vL bU y) (vL bU x % vL bU y) := by
 obtain ⟨i0, hif, hz0, hz1, hz2⟩ := info_parts infoU
 have ly : y.length <= x.length := by have := digs_mono (b := bU) (by decide) hle; rwa [digs_trimmed (by decide) hx.dig tx, digs_trimmed (by decide) hy.dig ty] at this
 have HC := Lib.hid (compare_any x y p q c e0 W N M hx hy tx ty)
 obtain ⟨z, hz⟩ : ∃ z, cmpZ (vL bU x) (vL bU y) = z := ⟨_, rfl⟩
 have hz2' : ¬ z < 0 := by rw [<- hz]; unfold cmpZ; split <;> (try split) <;> omega
 rw [hz] at HC
 obtain ⟨n1, hn1⟩ : ∃ n1, y.length - 1 = n1 := ⟨_, rfl⟩
 obtain ⟨b, a, d, rfl, -, hd, hdd, hdb, -⟩ := hy.get (i := n1) (by omega)
 have hd0 : 0 < d := by rw [<- hdd, <- hn1]; exact trim_top ty (by intro h; rw [h] at h2; simp at h2)
 have HX := Lib.hid hx
 have HY := Lib.hid hy
 have HF := Lib.hid (And.intro tx (And.intro ty (And.intro hle hd)))
 have hnl1 : ((y.length : Int) == 1) = false := by simp; omega
 have hzf : decide (z < 0) = false := by simp; omega
 have hw1 : IntKind.i64.wrap ((y.length : Int) - 1) = (n1 : Int) := by rw [IntWalk.i64_in _ (by omega)]; omega
 have HN := Lib.hid hn1
 have hil : (n1 : Int) < (y.length : Int) := by omega
 clear hx hy tx ty hle hz hd hdd hn1
 go_enter Tryz.func86, Tryz.ntmps86
 go_wp2_with fail
 go_step3
 go_wp2_with (go_at_call 118; (with_reducible refine HC.out.mono ?_); rintro e w' ⟨rfl, hw⟩; have HW := Lib.hid hw; clear hw)
 clear hzf hnl1 hz2'
 have HD := Lib.hid (And.intro hd0 hdb)
 obtain ⟨b', a', d', hq, -, hd', -, -, d1⟩ := (HY.out.turned HW.out).get (i := n1) (by omega)
 cases hq
 rw [HF.out.2.2.2] at hd'
 cases hd'
 clear hd0
 go_loopw [8] (fun i wr => ∃ k : Nat, i = (.int .i64 k) /\ k <= 31 /\ Hid (d * 2 ^ k < 4294967296) /\ wr = w') (fun i _ => 32 - (intOf i).toNat)
 case atStart => exact ⟨0, rfl, by omega, Lib.hid (by rw [Nat.pow_zero]; omega), rfl⟩
 case round =>
  obtain ⟨k, rfl, hk, HK, rfl⟩ := hrel
  obtain ⟨dm, hm⟩ : ∃ dm, d * 2 ^ k = dm := ⟨_, rfl⟩
  rw [hm] at HK
  have hsh := shl_u32 d k dm hm HK.out
  have HM := Lib.hid hm
  clear hm
  by_cases hlt : dm < 2147483648
  ·have hlti : (dm : Int) < 2147483648 := by omega
   have HD1 := HD.out.1
   have HT : Hid (k + 1 <= 31 /\ d * 2 ^ (k + 1) < 4294967296) := Lib.hid (by
    have e : d * 2 ^ (k + 1) = dm * 2 := by rw [Nat.pow_succ, <- Nat.mul_assoc, HM.out]
    refine ⟨?_, by omega⟩
    rcases Nat.lt_or_ge (k + 1) 32 with h | h
    ·omega
    ·exfalso
     have h3 : 2 ^ 32 <= 2 ^ (k + 1) := Nat.pow_le_pow_right (by decide) h
     have h4 : 1 * 2 ^ (k + 1) <= d * 2 ^ (k + 1) := Nat.mul_le_mul_right _ HD1
     omega)
   clear HD1 hlt
   go_wp2_with fail
   refine ⟨⟨k + 1, rfl, HT.out.1, Lib.hid HT.out.2, trivial⟩, ?_⟩
   show 32 - (intOf (.int .i64 ((k : Int) + 1))).toNat < 32 - (intOf (.int .i64 ((k : Int)))).toNat
   simp only [intOf]
   omega
  ·have hlti : ¬ (dm : Int) < 2147483648 := by omega
   have HS1 := Lib.hid (shift_up y (some ⟨b, a, none⟩) e0 k wr M (HY.out.turned HW.out) (by omega) hk)
   have HB := Lib.hid (begin_of (b := bU) (s := 2 ^ k) (by decide) HX.out.dig HY.out.dig HF.out.2.1 HF.out.2.2.1 h2 (Nat.pow_pos (by decide)) (Nat.le_trans (Nat.pow_le_pow_right (by decide) hk) (by decide : 2 ^ 31 <= bU)))
   have HSc := Lib.hid (scaled (x := vL bU x) (y := vL bU y) (s := 2 ^ k) (Nat.pow_pos (by decide)))
   obtain ⟨V, hV⟩ : ∃ V, vL bU y * 2 ^ k = V := ⟨_, rfl⟩
   obtain ⟨X, hX⟩ : ∃ X, vL bU x * 2 ^ k = X := ⟨_, rfl⟩
   obtain ⟨vs, hvs⟩ : ∃ vs, digs bU V = vs := ⟨_, rfl⟩
   obtain ⟨xs, hxs⟩ : ∃ xs, digs bU X = xs := ⟨_, rfl⟩
   obtain ⟨n, hn⟩ : ∃ n, vs.length = n := ⟨_, rfl⟩
   obtain ⟨m, hm⟩ : ∃ m, xs.length + 2 = m := ⟨_, rfl⟩
   unfold RetL at HS1
   rw [hV, hvs, hn] at HS1
   rw [hV, hX, hvs, hxs, hn, hm] at HB
   rw [hV, hX] at HSc
   have HVX := Lib.hid (And.intro hX (And.intro hxs hvs))
   have HN2 := Lib.hid (And.intro ly (And.intro h2 lx))
   have HNM := Lib.hid (And.intro hn hm)
   clear hV hX hvs hxs ly h2 lx hn hm
   clear hlt
   go_wp2_with fail
   with_reducible refine HS1.out.mono ?_
   rintro e w1 ⟨p1, c1, rfl, h3, h4⟩
   have H1 := Lib.hid (And.intro h3 (HW.out.trans h4))
   have HS2 := Lib.hid (shift_up x p c k w1 N (HX.out.turned H1.out.2) (by have k3 := HN2.out.2.2; omega) hk)
   unfold RetL at HS2
   rw [HVX.out.1, HVX.out.2.1] at HS2
   clear HS1 h3 h4
   go_wp2_with fail
   with_reducible refine HS2.out.mono ?_
   rintro e w2 ⟨p2, c2, rfl, h3, h4⟩
   have H2 := Lib.hid (And.intro (H1.out.1.turned h4).old (H1.out.2.trans h4))
   have HS3 := Lib.hid (clone_any xs p2 c2 w2 _ h3 (by have := HB.out.mx; have := HN2.out.2.2; have := HNM.out.2; omega))
   clear HS2 h3 h4
   go_wp2_with fail
   with_reducible refine HS3.out.mono ?_
   rintro e w3 ⟨v3, rfl, h3, h4⟩
   obtain ⟨p3, c3, rfl⟩ := h3.shape
   have H3 := Lib.hid (And.intro h3 (And.intro (H2.out.1.turned h4) (H2.out.2.trans h4)))
   have hlx : xs.length <= 1000000001 := by have := HB.out.mx; have := HN2.out.2.2; have := HNM.out.2; omega
   have HSZ := Lib.hid h4.size
   clear HS3 h3 h4
   have hcs := Lib.hid (zeros_new w3)
   have hb0 : w2.heap.size <= (w3.alloc (.cells #[.int .u32 0, .int .u32 0] 170)).heap.size := by simp; have := HSZ.out; omega
   obtain ⟨lq, hlq⟩ : ∃ lq, x.length + 2 - n = lq := ⟨_, rfl⟩
   obtain ⟨J, hJ⟩ : ∃ J, m - n = J := ⟨_, rfl⟩
   have b1 := HB.out.n2
   have b2 := HB.out.nm
   have b3 := HB.out.mx
   have b4 := HN2.out.2.2
   have b5 : n <= x.length + 1 := by omega
   have hmake := fun W => run_make_row 154 170 i0 (uV 0) Tryz.underlying154 hif hz0 hz1 rfl .i64 .i64 lq (by rw [hz2]; omega) (by omega) W
   have e1 : IntKind.i64.wrap ((x.length : Int) - (n : Int)) = (x.length : Int) - (n : Int) := IntWalk.i64_in _ (by omega)
   have e2 : IntKind.i64.wrap ((x.length : Int) - (n : Int) + 2) = (lq : Int) := by rw [IntWalk.i64_in _ (by omega)]; omega
   have e3 : IntKind.i64.wrap ((m : Int) - (n : Int)) = (J : Int) := by rw [IntWalk.i64_in _ (by omega)]; omega
   have e4 : IntKind.i64.wrap ((J : Int) - 1) = (J : Int) - 1 := IntWalk.i64_in _ (by omega)
   have HJ := Lib.hid (And.intro hlq (And.intro hJ (And.intro b1 (And.intro b2 (And.intro b3 b4)))))
   clear hlq hJ b1 b2 b3 b4 b5
   go_wp2_with (at_builtin; refine wpList_append_exact _ rfl _ _ 154 rfl w2.heap.size 170 i0 (uV 0) 1 4 Tryz.underlying154 hif hz0 hz1 hz2 rfl (by decide) (.slice p3 xs.length c3) xs.length (xs.map uV) rfl (ownsRow_turned ((Turned.refl (fun _ => False) w3).alloc _) (fun _ h => h.elim) H3.out.1) ⟨w3.heap.size, 0, none⟩ 2 2 [uV 0, uV 0] rfl rfl hcs.out (by intro u hu; simp at hu; rw [hu]; rfl) (by unfold maxLen; omega) (by omega) hb0 ?_; intro v4 w4 h1 h2 h3; rw [HNM.out.2] at h1; obtain ⟨p4, c4, rfl⟩ := owns_shape h1; have H4' := Lib.hid (And.intro h1 h2); clear h1 h2 h3)
   obtain ⟨g0, c4', hp4, hg0, hpu, hc4, hc4m⟩ := OU.pu (base := w2.heap.size) (L := xs ++ [0, 0]) (v := .slice p4 m c4) (W := w4) (by
    have h1 := H4'.out.1
    rw [<- HNM.out.2] at h1 ⊢
    unfold OU
    rw [List.length_append, List.map_append]
    exact h1) (by simp)
   rw [List.length_append, List.length_cons, List.length_cons, List.length_nil, HNM.out.2] at hp4 hc4
   cases hp4
   have ht4 : Turned (fun _ => False) W w4 := by
    refine (H3.out.2.2.alloc _).fresh (Turned.of_grown (C := fun g => w2.heap.size <= g) H4'.out.2 fun g hg => ?_) fun g hg => Nat.le_trans H2.out.2.size hg
    exact (ownsRow_block H3.out.1 g hg).1
   have hvs4 : LA w4 (fun b => b < w2.heap.size) vs p1 c1 := by
    have t34 : Turned (fun g => w2.heap.size <= g) w3 w4 := ((Turned.refl _ w3).alloc _).trans (Turned.of_grown H4'.out.2 fun g hg => (ownsRow_block H3.out.1 g hg).1)
    exact H3.out.2.1.move t34 (fun b hb => by omega) fun _ => id
   have H4 := Lib.hid (And.intro hpu (And.intro hvs4 (And.intro ht4 (And.intro hg0 (And.intro hc4 hc4m)))))
   have HSZ2 := Lib.hid H2.out.2.size
   clear H4' hpu hvs4 ht4 hg0 hc4 hc4m hcs hb0 HSZ H3 H2
   clear e1 e2
   have HR0 := Lib.hid (RU.made w4 lq)
   have HT0 := Lib.hid ((Turned.refl (fun _ => False) w4).alloc (.cells (madeCells #[uV 0] lq) 170))
   obtain ⟨w5, hw5⟩ : ∃ w5, w5 = w4.alloc (.cells (madeCells #[uV 0] lq) 170) := ⟨_, rfl⟩
   rw [<- hw5] at HR0 HT0
   rw [<- hw5]
   clear hw5 hmake hif hz0 hz1 hz2
   go_step3
   go_wp2_with fail
   clear e3 e4
   go_loopw [13] (fun i wr => ∃ (j : Nat) (R Q : List Nat), i = (.int .i64 ((j : Int) - 1)) /\ j <= J /\ Hid (Dv bU X V n j R Q /\ R.length = m /\ Q.length = lq /\ PU wr g0 R /\ RU wr w4.heap.size Q /\ LA wr (fun b => b < w2.heap.size) vs p1 c1 /\ (j + n = m -> digAt R (m - 1) = 0 /\ digAt R (m - 2) = 0) /\ Turned (fun _ => False) W wr)) (fun i _ => (intOf i + 1).toNat)
   case atStart =>
    refine ⟨J, xs ++ [0, 0], List.replicate lq 0, rfl, Nat.le_refl _, Lib.hid ⟨?_, HB.out.lr, by simp, H4.out.1.turned HT0.out id, HR0.out, H4.out.2.1.turned HT0.out, fun _ => ⟨HB.out.z1, HB.out.z2⟩, H4.out.2.2.1.trans HT0.out⟩⟩
    rw [<- HJ.out.2.1]; exact HB.out.start lq
   case round =>
    obtain ⟨j, R, Q, rfl, hj, HR⟩ := hrel
    cases j with
    | zero =>
     have hge : decide ((0 : Int) <= ((0 : Nat) : Int) - 1) = false := by decide
     obtain ⟨zk, hzk⟩ : ∃ zk : Int, IntKind.i64.wrap (-(k : Int)) = zk := ⟨_, rfl⟩
     have hz2 : zk = -(k : Int) := by rw [<- hzk]; exact IntWalk.i64_in _ (by omega)
     have hdn := HR.out.1.done
     have HLq := HR.out.2.2.2.2.1.la (base := w4.heap.size) (Nat.le_refl _) HR.out.1.qdig (by have := HR.out.2.2.1; have := HJ.out; unfold maxLen; omega)
     have HLr := HR.out.2.2.2.1.la (M := fun _ => True) trivial HR.out.1.dig (c := c4) (by rw [HR.out.2.1]; exact H4.out.2.2.2.2.1) H4.out.2.2.2.2.2
     have hmx : (trimL R).length <= 1000000000 := by have k1 := trimL_len R; rw [HR.out.2.1] at k1; have k2 := HB.out.mx; have k3 := HN2.out.2.2; omega
     have HTq := Lib.hid (trim_any Q _ _ wr _ HLq)
     have HTr := Lib.hid (trim_any R _ _ wr _ HLr)
     have HS := Lib.hid (shift_neg (trimL R) _ _ k zk hz2 wr _ HLr.trim hmx hk)
     have HE : Hid (digs bU (vL bU x / vL bU y) = trimL Q /\ vL bU x % vL bU y = vL bU (trimL R) / 2 ^ k) := Lib.hid ⟨by rw [<- HSc.out.1, <- hdn.1]; exact digs_vL (by decide) HR.out.1.qdig, by rw [vL_trim, hdn.2, HSc.out.2]⟩
     have HQ := Lib.hid HLq.trim
     rw [HR.out.2.1] at HTr
     rw [HR.out.2.2.1] at HTq HQ
     clear hz2 hdn HLq HLr hmx
     go_wp2_with fail
     with_reducible refine HTq.out.mono ?_
     rintro e w6 ⟨rfl, hw⟩
     rw [hw]
     clear hw HTq
     go_wp2_with fail
     with_reducible refine HTr.out.mono ?_
     rintro e w6 ⟨rfl, hw⟩
     rw [hw]
     clear hw HTr
     go_wp2_with fail
     with_reducible refine HS.out.mono ?_
     rintro e w6 ⟨p5, c5, rfl, h1, h2⟩
     have H5 := Lib.hid (And.intro h1 h2)
     clear h1 h2 HS
     go_wp2_with fail
     try rw [Exit.noGoto_ret]
     go_ret2
     unfold ByR
     rw [HE.out.1, HE.out.2]
     exact ⟨_, _, p5, c5, rfl, (HQ.out.turned H5.out.2).any, H5.out.1.any, HR.out.2.2.2.2.2.2.2.trans H5.out.2⟩
    | succ j =>
     have hi1 : ((j + 1 : Nat) : Int) - 1 = (j : Int) := by omega
     rw [hi1]
     clear hi1
     have hin : j + n + 1 <= m := by have := HJ.out; omega
     have b1 := HJ.out.2.2.1
     have b2 := HJ.out.2.2.2.2.1
     have b3 := HJ.out.2.2.2.2.2
     obtain ⟨i2, hi2⟩ : ∃ i2, j + n = i2 := ⟨_, rfl⟩
     obtain ⟨i1, hi1⟩ : ∃ i1, j + n - 1 = i1 := ⟨_, rfl⟩
     obtain ⟨ia, hia⟩ : ∃ ia, n - 1 = ia := ⟨_, rfl⟩
     obtain ⟨ta, hta, hta2, htab⟩ := HR.out.1.nth (i := i2) (by rw [HR.out.2.1]; omega)
     obtain ⟨tb, htb, htb2, htbb⟩ := HR.out.1.nth (i := i1) (by rw [HR.out.2.1]; omega)
     obtain ⟨b6, a6, va, rfl, -, hva, hva2, hvab, d6⟩ := HR.out.2.2.2.2.2.1.get (i := ia) (by rw [HB.out.lv]; omega)
     have hva0 : 0 < va := by have := HB.out.vt; rw [hia, hva2] at this; exact this
     have e1 : IntKind.i64.wrap ((j : Int) + (n : Int)) = (i2 : Int) := by rw [IntWalk.i64_in _ (by omega)]; omega
     have e2 : IntKind.i64.wrap ((i2 : Int) - 1) = (i1 : Int) := by rw [IntWalk.i64_in _ (by omega)]; omega
     have e3 : IntKind.i64.wrap ((n : Int) - 1) = (ia : Int) := by rw [IntWalk.i64_in _ (by omega)]; omega
     have q1 := HR.out.2.2.2.1.cell hta
     have q2 := HR.out.2.2.2.1.cell htb
     have f1 : IntKind.u64.wrap (ta : Int) = (ta : Int) := IntWalk.u64_in _ (by unfold bU at *; omega)
     have f2 : IntKind.u64.wrap (tb : Int) = (tb : Int) := IntWalk.u64_in _ (by unfold bU at *; omega)
     have f3 : IntKind.u64.wrap (va : Int) = (va : Int) := IntWalk.u64_in _ (by unfold bU at *; omega)
     obtain ⟨o1, o2⟩ := or_join ta tb htab htbb
     obtain ⟨tp, htp⟩ : ∃ tp, ta * 4294967296 + tb = tp := ⟨_, rfl⟩
     rw [htp] at o2
     have htpb : tp < 18446744073709551616 := by unfold bU at *; omega
     obtain ⟨qg, hqg⟩ : ∃ qg, tp / va = qg := ⟨_, rfl⟩
     have hqgb : qg <= tp := by rw [<- hqg]; exact Nat.div_le_self _ _
     have f4 : IntKind.u64.wrap ((tp : Int) / (va : Int)) = (qg : Int) := by rw [<- hqg]; exact IntWalk.u64_in _ (by rw [<- Int.natCast_ediv]; omega)
     obtain ⟨g, hg⟩ : ∃ g, min qg 4294967295 = g := ⟨_, rfl⟩
     have f5 : (if (4294967295 : Int) < (qg : Int) then (4294967295 : Int) else (qg : Int)) = (g : Int) := by rw [<- hg]; split <;> omega
     have hgv : g * va <= tp := by
      have h1 : qg * va <= tp := by rw [<- hqg]; exact Nat.div_mul_le_self _ _
      exact Nat.le_trans (Nat.mul_le_mul_right _ (by omega)) h1
     have f6 : IntKind.u64.wrap ((g : Int) * (va : Int)) = ((g * va : Nat) : Int) := by rw [Int.natCast_mul]; exact IntWalk.u64_in _ (by rw [<- Int.natCast_mul]; omega)
     obtain ⟨lf, hlf⟩ : ∃ lf, tp - g * va = lf := ⟨_, rfl⟩
     have f7 : IntKind.u64.wrap ((tp : Int) - ((g * va : Nat) : Int)) = (lf : Int) := by rw [IntWalk.u64_in _ (by omega)]; omega
     rw [Int.natCast_mul] at f6 f7
     obtain ⟨ib, hib⟩ : ∃ ib, n - 2 = ib := ⟨_, rfl⟩
     obtain ⟨i0', hi0⟩ : ∃ i0, j + n - 2 = i0 := ⟨_, rfl⟩
     obtain ⟨tc, htc, htc2, htcb⟩ := HR.out.1.nth (i := i0') (by rw [HR.out.2.1]; omega)
     obtain ⟨b7, a7, vb, hb7, -, hvb, hvb2, hvbb, d7⟩ := HR.out.2.2.2.2.2.1.get (i := ib) (by rw [HB.out.lv]; omega)
     cases hb7
     obtain ⟨P, hP⟩ : ∃ P, vL bU (R.drop j) = P := ⟨_, rfl⟩
     obtain ⟨t, ht⟩ : ∃ t, P / V = t := ⟨_, rfl⟩
     obtain ⟨pp1, pp2⟩ := HR.out.1.part (by decide) HB.out.vb (by rw [HR.out.2.1]; exact hin)
     rw [hP] at pp1 pp2
     have gf := guess_facts (b := bU) (p := (R.drop j).take (n + 1)) (vs := vs) (n := n) (t := t) (by decide) (fun x hx => HR.out.1.dig x (List.mem_of_mem_drop (List.mem_of_mem_take hx))) HB.out.vdig (by rw [List.length_take, List.length_drop, HR.out.2.1]; omega) HB.out.lv b1 (by rw [<- pp1, HB.out.vv, <- ht]; exact Nat.div_mul_le_self _ _)
     rw [digAt_take (by omega), digAt_take (by omega), digAt_take (by omega), digAt_drop, digAt_drop, digAt_drop, hi2, show j + (n - 1) = i1 by omega, show j + (n - 2) = i0' by omega, hia, hib, hta2, htb2, htc2, hva2, hvb2] at gf
     rw [show ta * bU + tb = tp from htp] at gf
     have htg : t <= g := by
      have h1 := gf.1 hva0
      rw [hqg] at h1
      have h2 : t < bU := by rw [<- ht]; exact Nat.div_lt_of_lt_mul (by rw [Nat.mul_comm]; exact pp2)
      unfold bU at h2
      omega
     have HG := Lib.hid (And.intro gf.2 (And.intro pp1 (And.intro pp2 (And.intro hP ht))))
     have HL0 := Lib.hid (And.intro htg (And.intro (show g <= 4294967295 by omega) (show lf + g * va = tp by omega)))
     have q3 := HR.out.2.2.2.1.cell htc
     have e4 : IntKind.i64.wrap ((n : Int) - 2) = (ib : Int) := by rw [IntWalk.i64_in _ (by omega)]; omega
     have e5 : IntKind.i64.wrap ((i2 : Int) - 2) = (i0' : Int) := by rw [IntWalk.i64_in _ (by omega)]; omega
     have x4 : (ib : Int) < (n : Int) := by omega
     have x5 : (i0' : Int) < (m : Int) := by omega
     have f9 : IntKind.u64.wrap (tc : Int) = (tc : Int) := IntWalk.u64_in _ (by unfold bU at *; omega)
     have f10 : IntKind.u64.wrap (vb : Int) = (vb : Int) := IntWalk.u64_in _ (by unfold bU at *; omega)
     have HE2 := Lib.hid (And.intro q3 (And.intro d7 (And.intro e4 (And.intro e5 (And.intro x4 (And.intro x5 (And.intro f9 (And.intro f10 (And.intro hvbb htcb)))))))))
     clear hlf hgv hib hi0 htc htc2 hvb hvb2 hvbb htcb hP ht pp1 pp2 gf htg q3 d7 e4 e5 x4 x5 f9 f10
     have x1 : (i2 : Int) < (m : Int) := by omega
     have x2 : (i1 : Int) < (m : Int) := by omega
     have x3 : (ia : Int) < (n : Int) := by omega
     have HI := Lib.hid (And.intro hin (And.intro b1 (And.intro hi2 (And.intro hi1 (And.intro hia (And.intro hta2 (And.intro htb2 (And.intro hva2 (And.intro htp (And.intro hqg hg))))))))))
     clear hin b1 hi2 hi1 hia hta hta2 htb htb2 hva hva2 htp hqg hg
     go_wp2_with fail
     go_quiet (fail)
     go_wp2_with fail
     have HO := Lib.hid (And.intro (HR.out.2.2.2.1.turned (drewNT (fun _ => False) wr nq) id) (And.intro (HR.out.2.2.2.2.1.turned (drewNT (fun _ => False) wr nq) id) (And.intro (HR.out.2.2.2.2.2.1.turned (drewNT _ wr nq)) (HR.out.2.2.2.2.2.2.2.trans (drewNT _ wr nq)))))
     have HE4 := Lib.hid e1
     have HE3 := Lib.hid (And.intro f3 (And.intro d6 (And.intro e3 (And.intro x3 (And.intro hva0 (And.intro hvab htpb))))))
     obtain ⟨wo, hwo⟩ : ∃ wo, wo = wr.drewN nq := ⟨_, rfl⟩
     have HO1 : Hid (∀ (i : Nat) (u : Value), wr.cell? ⟨b6, i, none⟩ = some u -> wo.cell? ⟨b6, i, none⟩ = some u) := Lib.hid fun i u h => by rw [hwo]; exact cellT (drewNT (fun _ => False) wr nq) id h
     have HO2 : Hid (∀ (i : Nat) (u : Value), wr.cell? ⟨g0, i, none⟩ = some u -> wo.cell? ⟨g0, i, none⟩ = some u) := Lib.hid fun i u h => by rw [hwo]; exact cellT (drewNT (fun _ => False) wr nq) id h
     rw [<- hwo] at HO ⊢
     clear hwo f1 f2 f3 f4 f5 f6 f7 o1 o2 e1 e2 e3 x1 x2 x3 q1 q2 d6 htab htbb hqgb b2 b3 hvab hva0 htpb
     have HWR := Lib.hid (Eq.refl wr)
     obtain ⟨wp, hwp⟩ : ∃ wp, wp = wr := ⟨_, rfl⟩
     subst hwp
     go_loopw [15, 16] (fun gv lv wr => ∃ gg ll : Nat, gv = .int .u64 gg /\ lv = .int .u64 ll /\ Hid (t <= gg /\ gg <= 4294967295 /\ ll + gg * va = tp) /\ Hid (Turned (fun _ => False) wo wr)) (fun gv _ _ => (intOf gv).toNat)
     case atStart => exact ⟨g, lf, rfl, rfl, Lib.hid HL0.out, Lib.hid (Turned.refl _ _)⟩
     case round =>
      obtain ⟨gg, ll, rfl, rfl, HG2, HT2⟩ := hrel
      have hggb : gg < 4294967296 := by have := HG2.out.2.1; omega
      have hllb : ll < 18446744073709551616 := by have := HG2.out.2.2; have := HE3.out.2.2.2.2.2.2; omega
      by_cases hC : ll < 4294967296 /\ ll * 4294967296 + tc < gg * vb
      ·obtain ⟨hA, hB'⟩ := hC
       obtain ⟨q3', d7', e4, e5, x4, x5, f9, f10, y1, y2⟩ := HE2.out
       obtain ⟨f3, d6', e3, x3, y3, y4, y5⟩ := HE3.out
       have e1 := HE4.out
       have q3 := cellT HT2.out id (HO2.out _ _ q3')
       have d7 := cellT HT2.out id (HO1.out _ _ d7')
       have d6 := cellT HT2.out id (HO1.out _ _ d6')
       obtain ⟨o1, o2⟩ := or_join ll tc (by unfold bU; omega) y2
       obtain ⟨lt, hlt⟩ : ∃ lt, ll * 4294967296 + tc = lt := ⟨_, rfl⟩
       rw [hlt] at o2
       obtain ⟨gb, hgb⟩ : ∃ gb, gg * vb = gb := ⟨_, rfl⟩
       have hgbb : gb <= 18446744065119617025 := by rw [<- hgb]; exact Nat.mul_le_mul (show gg <= 4294967295 by omega) (show vb <= 4294967295 by unfold bU at *; omega)
       have f8 : IntKind.u64.wrap ((gg : Int) * (vb : Int)) = (gb : Int) := by rw [<- Int.natCast_mul, hgb]; exact IntWalk.u64_in _ (by omega)
       have hAi : (ll : Int) < 4294967296 := by omega
       have hAd : decide ((ll : Int) < 4294967296) = true := by simpa using hAi
       have hB : lt < gb := by omega
       clear hB'
       have hBi : (lt : Int) < (gb : Int) := by omega
       have hBd : decide ((lt : Int) < (gb : Int)) = true := by simpa using hBi
       have ht1 := HG.out.1 ll gg HG2.out.2.2 (by show ll * 4294967296 + tc < gg * vb; omega)
       have f11 : IntKind.u64.wrap ((gg : Int) - 1) = ((gg - 1 : Nat) : Int) := by rw [IntWalk.u64_in _ (by omega)]; omega
       obtain ⟨g1, hg1⟩ : ∃ g1, gg - 1 = g1 := ⟨_, rfl⟩
       rw [hg1] at f11
       have f12 : IntKind.u64.wrap ((ll : Int) + (va : Int)) = ((ll + va : Nat) : Int) := by rw [Int.natCast_add]; exact IntWalk.u64_in _ (by omega)
       have HN3 : Hid (t <= g1 /\ g1 <= 4294967295 /\ (ll + va) + g1 * va = tp /\ g1 < gg) := Lib.hid ⟨by omega, by omega, by
        have h1 := HG2.out.2.2
        have h2 : gg = g1 + 1 := by omega
        rw [h2, Nat.add_mul] at h1
        omega, by omega⟩
       rw [Int.natCast_add] at f12
       clear hA hB hlt hgb hgbb hggb hllb y1 y2 y3 y4 y5 ht1 hg1 q3' d7' d6'
       go_wp2_with fail
       go_quiet (fail)
       go_wp2_with fail
       refine ⟨⟨g1, ll + va, rfl, rfl, Lib.hid ⟨HN3.out.1, HN3.out.2.1, HN3.out.2.2.1⟩, Lib.hid (HT2.out.trans (drewNT _ _ nq))⟩, ?_⟩
       show (intOf (.int .u64 (g1 : Int))).toNat < (intOf (.int .u64 (gg : Int))).toNat
       have h5 := HN3.out.2.2.2
       simp only [intOf]
       omega
      ·by_cases hA : ll < 4294967296
       ·obtain ⟨q3', d7', e4, e5, x4, x5, f9, f10, y1, y2⟩ := HE2.out
        obtain ⟨f3, d6', e3, x3, y3, y4, y5⟩ := HE3.out
        have e1 := HE4.out
        have q3 := cellT HT2.out id (HO2.out _ _ q3')
        have d7 := cellT HT2.out id (HO1.out _ _ d7')
        have d6 := cellT HT2.out id (HO1.out _ _ d6')
        obtain ⟨o1, o2⟩ := or_join ll tc (by unfold bU; omega) y2
        obtain ⟨lt, hlt⟩ : ∃ lt, ll * 4294967296 + tc = lt := ⟨_, rfl⟩
        rw [hlt] at o2
        obtain ⟨gb, hgb⟩ : ∃ gb, gg * vb = gb := ⟨_, rfl⟩
        have hgbb : gb <= 18446744065119617025 := by rw [<- hgb]; exact Nat.mul_le_mul (show gg <= 4294967295 by omega) (show vb <= 4294967295 by unfold bU at *; omega)
        have f8 : IntKind.u64.wrap ((gg : Int) * (vb : Int)) = (gb : Int) := by rw [<- Int.natCast_mul, hgb]; exact IntWalk.u64_in _ (by omega)
        have hAi : (ll : Int) < 4294967296 := by omega
        have hAd : decide ((ll : Int) < 4294967296) = true := by simpa using hAi
        have hBi : ¬ lt < gb := by omega
        have hBd : decide (lt < gb) = false := by simp; omega
        clear hC hA hlt hgb hgbb hggb hllb y1 y2 y3 y4 y5 q3' d7' d6' d6
        go_wp2_with fail
        go_quiet (fail)
        clear q3 d7 e4 e5 x4 x5 f9 f10 f3 e3 x3 e1 o1 o2 f8
        have t8 := HT2.out.trans (drewNT (fun _ => False) wr nq)
        have H8 := Lib.hid (And.intro (HO.out.1.turned t8 id) (And.intro (HO.out.2.1.turned t8 id) (And.intro (HO.out.2.2.1.turned t8) (HO.out.2.2.2.trans t8))))
        obtain ⟨w8, hw8⟩ : ∃ w8, w8 = wr.drewN nq := ⟨_, rfl⟩
        rw [<- hw8] at H8 ⊢
        clear hw8 t8
        have hjw : IntKind.i64.wrap ((j : Int) - 1) = (j : Int) - 1 := IntWalk.i64_in _ (by have := HJ.out; have := HI.out; omega)
        by_cases hg0 : gg = 0
        ·subst hg0
         go_wp2_with fail
         refine ⟨⟨j, R, Q, rfl, by omega, Lib.hid ⟨?_, HR.out.2.1, HR.out.2.2.1, H8.out.1, H8.out.2.1, H8.out.2.2.1, fun h => absurd h (by have := HI.out.1; omega), H8.out.2.2.2⟩⟩, ?_⟩
         ·refine HR.out.1.skip ?_
          rw [HG.out.2.2.2.1]
          have h1 := HG2.out.1
          have h2 := HG.out.2.2.2.2
          have h3 := HB.out.v0
          rcases Nat.lt_or_ge P V with h4 | h4
          ·exact h4
          ·have := Nat.div_pos h4 h3
           omega
         ·show (intOf (.int .i64 ((j : Int) - 1)) + 1).toNat < (intOf (.int .i64 ((j : Int))) + 1).toNat
          simp only [intOf]
          omega
        ·have hgz : ((gg : Int) == 0) = false := by simp; omega
         have hgu : (gg : Int) % 4294967296 = (gg : Int) := Int.emod_eq_of_lt (by omega) (by have := HG2.out.2.1; omega)
         obtain ⟨i3, hi3⟩ : ∃ i3, j + n + 1 = i3 := ⟨_, rfl⟩
         have s1 : IntKind.i64.wrap ((i2 : Int) + 1) = (i3 : Int) := by rw [IntWalk.i64_in _ (by have := HI.out; have := HJ.out; omega)]; have := HI.out; omega
         have s0 := HE4.out
         have s2 : (j : Int) <= (i3 : Int) := by omega
         have s3 : (i3 : Int) <= (c4 : Int) := by have := HI.out.1; have := H4.out.2.2.2.2.1; omega
         have s4 : (j : Int) < (c4 : Int) := by have := HI.out.1; have := H4.out.2.2.2.2.1; omega
         have HDG : Hid (∀ g2, g2 <= gg -> (digs bU (V * g2)).length <= n + 1) := Lib.hid fun g2 h => digs_len_le (by decide) (by
          rw [Nat.pow_succ]
          have k1 : V * g2 <= V * bU := Nat.mul_le_mul_left _ (by have := HG2.out.2.1; unfold bU; omega)
          have k2 : V * bU < bU ^ n * bU := Nat.mul_lt_mul_of_pos_right HB.out.vb (by decide)
          omega)
         obtain ⟨L, hL⟩ : ∃ L, (R.drop j).take (n + 1) = L := ⟨_, rfl⟩
         have hLl : L.length = i3 - j := by rw [<- hL, List.length_take, List.length_drop, HR.out.2.1]; have := HI.out.1; omega
         have hLd : ∀ d ∈ L, d < bU := fun d hd => HR.out.1.dig d (by rw [<- hL] at hd; exact List.mem_of_mem_drop (List.mem_of_mem_take hd))
         have hLv : vL bU L = P := by rw [<- hL]; exact HG.out.2.1.symm
         have hLt : trimL L = digs bU P := by rw [<- hLv]; exact (digs_vL (by decide) hLd).symm
         have hLb : L.length <= 1000000002 := by rw [hLl]; have k1 := HB.out.nm; have k2 := HB.out.mx; have k3 := HN2.out.2.2; omega
         have hcc : i3 - j <= c4 - j := by omega
         have hcm : c4 - j <= maxLen := by have := H4.out.2.2.2.2.2; omega
         have HLA := Lib.hid (fun (W' : World) (h : PU W' g0 R) => PU.part h (M := fun _ => True) trivial HR.out.1.dig j (n + 1) (c := c4 - j) (by rw [hL, hLl]; exact hcc) hcm)
         rw [hL] at HLA
         have hgg1 : gg < bU := by unfold bU; have := HG2.out.2.1; omega
         have HT9 := Lib.hid (times_any vs [gg] (some ⟨b6, a6, none⟩) (some ⟨w8.heap.size, 0, none⟩) c1 1 (w8.alloc (.cells #[.int .u32 gg] 170)) _ _ (H8.out.2.2.1.turned ((Turned.refl _ w8).alloc _)) (LA.one w8 hgg1) (by rw [HB.out.lv]; have k1 := HB.out.nm; have k2 := HB.out.mx; have k3 := HN2.out.2.2; omega) (by simp))
         have ev : vL bU [gg] = gg := by simp [vL]
         unfold RetL at HT9
         rw [HB.out.vv, ev, HB.out.lv] at HT9
         have HLL := Lib.hid (And.intro hLl (And.intro hLd (And.intro hLv (And.intro hLt (And.intro hLb (And.intro hi3 hL))))))
         clear hLl hLd hLv hLt hLb hL hcc hcm hgg1 ev hi3
         go_wp2_with fail
         refine HT9.out.mono ?_
         rintro e w9 ⟨p9, c9, rfl, h5, h6⟩
         have H9 := Lib.hid (And.intro h5.any (((Turned.refl (fun _ => False) w8).alloc (.cells #[.int .u32 gg] 170)).trans h6))
         clear h5 h6 HT9
         go_wp2_with fail
         obtain ⟨wq, hwq⟩ : ∃ wq, wq = wr := ⟨_, rfl⟩
         subst hwq
         go_loopw [15, 18] (fun gv pv wr => ∃ (g2 : Nat) (pp : Option Addr) (cc : Nat), gv = .int .u64 g2 /\ pv = .slice pp (digs bU (V * g2)).length cc /\ Hid (t <= g2 /\ g2 <= gg) /\ Hid (LA wr (fun _ => True) (digs bU (V * g2)) pp cc /\ Turned (fun _ => False) w8 wr)) (fun gv _ _ => (intOf gv).toNat)
         case atStart => exact ⟨gg, p9, c9, rfl, rfl, Lib.hid ⟨HG2.out.1, Nat.le_refl _⟩, Lib.hid H9.out⟩
         case round =>
          obtain ⟨g2, pp, cc, rfl, rfl, HG4, HT4⟩ := hrel
          have HC4 := Lib.hid (clone_any L (some ⟨g0, j, none⟩) (c4 - j) wr _ (HLA.out wr (H8.out.1.turned HT4.out.2 id)) HLL.out.2.2.2.2.1)
          rw [HLL.out.1] at HC4
          go_wp2_with fail
          with_reducible refine HC4.out.mono ?_
          rintro e w10 ⟨v10, rfl, h5, h6⟩
          have hla := h5
          obtain ⟨p10, c10, rfl⟩ := h5.shape
          have HL10 := h5.la HLL.out.2.1
          have H10 := Lib.hid (And.intro (HT4.out.1.turned h6) (HT4.out.2.trans h6))
          have HTr := Lib.hid (trim_any L p10 c10 w10 _ HL10)
          rw [HLL.out.1] at HTr
          have HLT := Lib.hid HL10.trim
          rw [HLL.out.1]
          clear hla h5 h6 HL10 HC4
          go_wp2_with fail
          with_reducible refine HTr.out.mono ?_
          rintro e w11 ⟨rfl, hw⟩
          rw [hw]
          clear hw HTr
          have HCm := Lib.hid (compare_any (trimL L) (digs bU (V * g2)) p10 pp c10 cc w10 _ _ HLT.out H10.out.1 (trim_trim _) (digs_trim (by decide) _))
          rw [vL_trim, HLL.out.2.2.1, vL_digs (by decide)] at HCm
          by_cases hcm : P < V * g2
          ·rw [cmpZ_lt (by omega)] at HCm
           have hg2 : 0 < g2 := by
            rcases Nat.eq_zero_or_pos g2 with h | h
            ·rw [h, Nat.mul_zero] at hcm; omega
            ·exact h
           obtain ⟨g3, hg3⟩ : ∃ g3, g2 - 1 = g3 := ⟨_, rfl⟩
           have r1 : IntKind.u64.wrap ((g2 : Int) - 1) = (g3 : Int) := by rw [IntWalk.u64_in _ (by have := HG4.out.2; have := HG2.out.2.1; omega)]; omega
           have hvg : V * g2 - V = V * g3 := by rw [show g2 = g3 + 1 by omega, Nat.mul_add, Nat.mul_one, Nat.add_sub_cancel]
           have htg3 : t <= g3 := by
            have h1 : P / V < g2 := Nat.div_lt_of_lt_mul hcm
            have h2 := HG.out.2.2.2.2
            omega
           have hle1 : V <= V * g2 := Nat.le_mul_of_pos_right _ hg2
           have hlen1 : vs.length <= (digs bU (V * g2)).length := by rw [<- HVX.out.2.2]; exact digs_mono (by decide) hle1
           have HM4 : Hid (∀ w12, Turned (fun _ => False) w10 w12 -> Calls Tryz.prog 122 #[.slice pp (digs bU (V * g2)).length cc, .slice (some ⟨b6, a6, none⟩) n c1] w12 fun e w' => RetL w12 w' e (V * g3)) := Lib.hid fun w12 hw => by
            have h := minus_any (digs bU (V * g2)) vs pp (some ⟨b6, a6, none⟩) cc c1 w12 _ _ (H10.out.1.turned hw) (H8.out.2.2.1.turned (H10.out.2.trans hw)) (by have k1 := HB.out.nm; have k2 := HB.out.mx; have k3 := HN2.out.2.2; have k4 := HDG.out g2 HG4.out.2; omega) hlen1 (by rw [HB.out.vv, vL_digs (by decide)]; exact hle1)
            rw [HB.out.vv, vL_digs (by decide), hvg, HB.out.lv] at h
            exact h
           have HG5 := Lib.hid (And.intro htg3 (And.intro (show g3 < g2 by omega) (show g3 <= gg by have := HG4.out.2; omega)))
           clear hcm hg2 hg3 hvg htg3 hle1 hlen1
           go_wp2_with fail
           with_reducible refine HCm.out.mono ?_
           rintro e w12 ⟨rfl, hw⟩
           have H12 := Lib.hid (And.intro hw (H10.out.2.trans hw))
           have HM5 := Lib.hid (HM4.out w12 hw)
           clear hw HCm HM4
           go_wp2_with fail
           with_reducible refine HM5.out.mono ?_
           rintro e w13 ⟨p13, c13, rfl, h5, h6⟩
           have H13 := Lib.hid (And.intro h5.any (H12.out.2.trans h6))
           clear h5 h6 HM5
           go_wp2_with fail
           refine ⟨⟨g3, p13, c13, rfl, rfl, Lib.hid ⟨HG5.out.1, HG5.out.2.2⟩, Lib.hid H13.out⟩, ?_⟩
           show (intOf (.int .u64 (g3 : Int))).toNat < (intOf (.int .u64 (g2 : Int))).toNat
           have h5 := HG5.out.2.1
           simp only [intOf]
           omega
          ·obtain ⟨z5, hz5⟩ : ∃ z5, cmpZ P (V * g2 : Nat) = z5 := ⟨_, rfl⟩
           have hz6 : decide (z5 < 0) = false := by rw [<- hz5]; unfold cmpZ; split <;> (try split) <;> simp <;> omega
           rw [hz5] at HCm
           have hgt : g2 = t := digit_found HB.out.v0 HG.out.2.2.2.2.symm (by rw [Nat.mul_comm]; omega) HG4.out.1
           have HGT := Lib.hid (And.intro hgt (show V * g2 <= P by omega))
           clear hz5 hgt hcm
           go_wp2_with fail
           with_reducible refine HCm.out.mono ?_
           rintro e w12 ⟨rfl, hw⟩
           have H12 := Lib.hid (And.intro (H10.out.1.turned hw) (H10.out.2.trans hw))
           have HC5 := Lib.hid (clone_any L (some ⟨g0, j, none⟩) (c4 - j) w12 _ (HLA.out w12 (H8.out.1.turned H12.out.2 id)) HLL.out.2.2.2.2.1)
           rw [HLL.out.1] at HC5
           clear hw HCm
           go_wp2_with fail
           with_reducible refine HC5.out.mono ?_
           rintro e w13 ⟨v13, rfl, h5, h6⟩
           obtain ⟨p13, c13, rfl⟩ := h5.shape
           have HL13 := h5.la HLL.out.2.1
           have H13 := Lib.hid (And.intro (H12.out.1.turned h6) (H12.out.2.trans h6))
           have HT5 := Lib.hid (trim_any L p13 c13 w13 _ HL13)
           rw [HLL.out.1] at HT5
           have HLT5 := HL13.trim
           rw [HLL.out.2.2.2.1] at HLT5
           have HM5 := Lib.hid (minus_any (digs bU P) (digs bU (V * g2)) p13 pp c13 cc w13 _ _ HLT5 H13.out.1 (by have k1 := HB.out.nm; have k2 := HB.out.mx; have k3 := HN2.out.2.2; rw [<- HLL.out.2.2.2.1]; have k4 := trimL_len L; have k5 := HLL.out.1; have k6 := HLL.out.2.2.2.2.2.1; omega) (digs_mono (by decide) HGT.out.2) (by rw [vL_digs (by decide), vL_digs (by decide)]; exact HGT.out.2))
           rw [vL_digs (by decide), vL_digs (by decide)] at HM5
           unfold RetL at HM5
           rw [HLL.out.1]
           clear h5 h6 HL13 HC5 HLT5
           go_wp2_with fail
           with_reducible refine HT5.out.mono ?_
           rintro e w14 ⟨rfl, hw⟩
           rw [hw, HLL.out.2.2.2.1]
           clear hw HT5
           go_wp2_with fail
           with_reducible refine HM5.out.mono ?_
           rintro e w15 ⟨p15, c15, rfl, h5, h6⟩
           have ht15 := H13.out.2.trans h6
           have hp1 := H8.out.1.turned ht15 id
           have hg13 : g0 < w13.heap.size := (H8.out.1.turned H13.out.2 id).lt
           have hg4 : g0 < w4.heap.size := H4.out.1.lt
           have hi3j : i3 - j = n + 1 := by have k6 := HLL.out.2.2.2.2.2.1; omega
           have hfit : j + (i3 - j) <= R.length := by rw [HR.out.2.1]; have k1 := HI.out.1; omega
           have hclr := fun ty => clear_u32 (c := c4 - j) ty hp1 (by omega) hfit
           obtain ⟨hp2, ht2⟩ := cleared hp1 hfit
           obtain ⟨D, hD⟩ : ∃ D, digs bU (P - V * g2) = D := ⟨_, rfl⟩
           rw [hD] at h5 ⊢
           have hDl : D.length <= i3 - j := by
            rw [<- hD]
            refine Nat.le_trans (digs_mono (by decide) (Nat.sub_le _ _)) ?_
            rw [<- HLL.out.2.2.2.1, <- HLL.out.1]
            exact trimL_len L
           obtain ⟨w16, hw16⟩ : ∃ w16, w15.setCells g0 j (List.replicate (i3 - j) (uV 0)) = w16 := ⟨_, rfl⟩
           rw [hw16] at hclr hp2 ht2
           have hla := h5.move (M := fun _ => True) ht2 (fun b hb => by omega) fun _ _ => trivial
           have hl2 : j + (i3 - j) <= (R.take j ++ List.replicate (i3 - j) 0 ++ R.drop (j + (i3 - j))).length := by
            simp only [List.length_append, List.length_take, List.length_replicate, List.length_drop]; omega
           have HP2 := Lib.hid (And.intro hp2 (And.intro hla (And.intro hDl hl2)))
           have T16 : Turned (fun k => k = g0) w8 w16 := (ht15.mono fun _ h => h.elim).trans ht2
           have HT16 := Lib.hid T16
           have hjq : j < lq := by
            rcases Nat.lt_or_ge (j + 1 + n) m with h | h
            ·have k1 := HJ.out.1; have k2 := HB.out.mx; omega
            ·exfalso
             have k0 := HI.out.1
             have k1 := HR.out.2.2.2.2.2.2.1 (by omega)
             have k2 := HI.out.2.2.2.2.2.1
             have k3 := HI.out.2.2.2.2.2.2.1
             have k4 := HI.out.2.2.1
             have k5 := HI.out.2.2.2.1
             have k6 := HI.out.2.2.2.2.2.2.2.2.1
             rw [show m - 1 = i2 by omega, show m - 2 = i1 by omega, k2, k3] at k1
             have k7 := HG2.out.2.2
             have k8 : 1 * 1 <= gg * va := Nat.mul_le_mul (by omega) HE3.out.2.2.2.2.1
             omega
           have hjqi : (j : Int) < (lq : Int) := by omega
           have hgu2 : (g2 : Int) % 4294967296 = (g2 : Int) := Int.emod_eq_of_lt (by omega) (by have := HG4.out.2; have := HG2.out.2.1; omega)
           have HG6 := Lib.hid (And.intro hg4 (And.intro hjq (And.intro hi3j (And.intro hfit hD))))
           have hg4' : ∀ k, k = g0 -> k ≠ w4.heap.size := fun k h => by omega
           have HG7 := Lib.hid hg4'
           clear h5 h6 ht15 hp1 hg13 hg4 hi3j hfit hD hDl hw16 hla hl2 hp2 ht2 T16 hjq hg4' HM5 hgu hgz
           go_wp2_with (refine copy_u32 ?h1 (.tmp 178) (.tmp 179) ?h2 g0 j (i3 - j) (c4 - j) ?h3 p15 c15 D ?h4 _ HP2.out.1 HP2.out.2.1 HP2.out.2.2.1 HP2.out.2.2.2 ?h5; (case h1 => rfl); (case h2 => rfl); (case h3 => rfl); (case h4 => rfl); intro w17 HW17; have T17 := HT16.out.trans HW17.out.2; have hru := H8.out.2.1.turned T17 (fun h => HG7.out _ h rfl); have hq := hru.some (i := j) (by rw [HR.out.2.2.1]; exact HG6.out.2.1); have hfr := hru.free j; have HS17 := Lib.hid (And.intro T17 hru); clear T17 hru)
           have hst : Turned (fun k => k = w4.heap.size) w17 (w17.setCell ⟨w4.heap.size, j, none⟩ (uV g2)) := (Turned.refl (fun k => k = w4.heap.size) w17).setCell (p := ⟨w4.heap.size, j, none⟩) rfl _
           have hpu := HW17.out.1
           rw [put_two HG6.out.2.2.2.1 HP2.out.2.2.1, HG6.out.2.2.1] at hpu
           have hDl := HP2.out.2.2.1
           rw [HG6.out.2.2.1] at hDl
           have hw2 := H4.out.2.2.2.1
           have hg4 := HG6.out.1
           have hW2 := HSZ2.out
           refine ⟨⟨j, R.take j ++ (D ++ List.replicate (n + 1 - D.length) 0) ++ R.drop (j + (n + 1)), Q.set j g2, rfl, by omega, Lib.hid ⟨?_, ?_, by rw [List.length_set]; exact HR.out.2.2.1, hpu.turned hst (by omega), HS17.out.2.set j g2, ?_, fun h => absurd h (by have := HI.out.1; omega), ?_⟩⟩, ?_⟩
           ·refine HR.out.1.step (by decide) HB.out.vb (by rw [HR.out.2.1]; exact HI.out.1) (by rw [HR.out.2.2.1]; exact HG6.out.2.1) (by rw [HG.out.2.2.2.1, HGT.out.1]; exact HG.out.2.2.2.2.symm) (fun x hx => ?_) hDl ?_
            ·rw [<- HG6.out.2.2.2.2] at hx; exact digs_lt (by decide) _ x hx
            ·rw [<- HG6.out.2.2.2.2, vL_digs (by decide), HG.out.2.2.2.1]
           ·rw [put_len (by rw [HR.out.2.1]; have := HI.out.1; omega) hDl]; exact HR.out.2.1
           ·exact (H8.out.2.2.1.move HS17.out.1 (fun b hb => by omega) fun _ => id).move hst (fun b hb => by omega) fun _ => id
           ·exact (H8.out.2.2.2.fresh HS17.out.1 fun g hg => by omega).fresh hst fun g hg => by omega
           ·show (intOf (.int .i64 ((j : Int) - 1)) + 1).toNat < (intOf (.int .i64 ((j : Int))) + 1).toNat
            simp only [intOf]
            omega
       ·have hAd : decide ((ll : Int) < 4294967296) = false := by simp; omega
        clear hC hA hggb hllb
        go_wp2_with fail
        go_quiet (fail)
        have t8 := HT2.out.trans (drewNT (fun _ => False) wr nq)
        have H8 := Lib.hid (And.intro (HO.out.1.turned t8 id) (And.intro (HO.out.2.1.turned t8 id) (And.intro (HO.out.2.2.1.turned t8) (HO.out.2.2.2.trans t8))))
        obtain ⟨w8, hw8⟩ : ∃ w8, w8 = wr.drewN nq := ⟨_, rfl⟩
        rw [<- hw8] at H8 ⊢
        clear hw8 t8
        have hjw : IntKind.i64.wrap ((j : Int) - 1) = (j : Int) - 1 := IntWalk.i64_in _ (by have := HJ.out; have := HI.out; omega)
        by_cases hg0 : gg = 0
        ·subst hg0
         go_wp2_with fail
         refine ⟨⟨j, R, Q, rfl, by omega, Lib.hid ⟨?_, HR.out.2.1, HR.out.2.2.1, H8.out.1, H8.out.2.1, H8.out.2.2.1, fun h => absurd h (by have := HI.out.1; omega), H8.out.2.2.2⟩⟩, ?_⟩
         ·refine HR.out.1.skip ?_
          rw [HG.out.2.2.2.1]
          have h1 := HG2.out.1
          have h2 := HG.out.2.2.2.2
          have h3 := HB.out.v0
          rcases Nat.lt_or_ge P V with h4 | h4
          ·exact h4
          ·have := Nat.div_pos h4 h3
           omega
         ·show (intOf (.int .i64 ((j : Int) - 1)) + 1).toNat < (intOf (.int .i64 ((j : Int))) + 1).toNat
          simp only [intOf]
          omega
        ·have hgz : ((gg : Int) == 0) = false := by simp; omega
         have hgu : (gg : Int) % 4294967296 = (gg : Int) := Int.emod_eq_of_lt (by omega) (by have := HG2.out.2.1; omega)
         obtain ⟨i3, hi3⟩ : ∃ i3, j + n + 1 = i3 := ⟨_, rfl⟩
         have s1 : IntKind.i64.wrap ((i2 : Int) + 1) = (i3 : Int) := by rw [IntWalk.i64_in _ (by have := HI.out; have := HJ.out; omega)]; have := HI.out; omega
         have s0 := HE4.out
         have s2 : (j : Int) <= (i3 : Int) := by omega
         have s3 : (i3 : Int) <= (c4 : Int) := by have := HI.out.1; have := H4.out.2.2.2.2.1; omega
         have s4 : (j : Int) < (c4 : Int) := by have := HI.out.1; have := H4.out.2.2.2.2.1; omega
         have HDG : Hid (∀ g2, g2 <= gg -> (digs bU (V * g2)).length <= n + 1) := Lib.hid fun g2 h => digs_len_le (by decide) (by
          rw [Nat.pow_succ]
          have k1 : V * g2 <= V * bU := Nat.mul_le_mul_left _ (by have := HG2.out.2.1; unfold bU; omega)
          have k2 : V * bU < bU ^ n * bU := Nat.mul_lt_mul_of_pos_right HB.out.vb (by decide)
          omega)
         obtain ⟨L, hL⟩ : ∃ L, (R.drop j).take (n + 1) = L := ⟨_, rfl⟩
         have hLl : L.length = i3 - j := by rw [<- hL, List.length_take, List.length_drop, HR.out.2.1]; have := HI.out.1; omega
         have hLd : ∀ d ∈ L, d < bU := fun d hd => HR.out.1.dig d (by rw [<- hL] at hd; exact List.mem_of_mem_drop (List.mem_of_mem_take hd))
         have hLv : vL bU L = P := by rw [<- hL]; exact HG.out.2.1.symm
         have hLt : trimL L = digs bU P := by rw [<- hLv]; exact (digs_vL (by decide) hLd).symm
         have hLb : L.length <= 1000000002 := by rw [hLl]; have k1 := HB.out.nm; have k2 := HB.out.mx; have k3 := HN2.out.2.2; omega
         have hcc : i3 - j <= c4 - j := by omega
         have hcm : c4 - j <= maxLen := by have := H4.out.2.2.2.2.2; omega
         have HLA := Lib.hid (fun (W' : World) (h : PU W' g0 R) => PU.part h (M := fun _ => True) trivial HR.out.1.dig j (n + 1) (c := c4 - j) (by rw [hL, hLl]; exact hcc) hcm)
         rw [hL] at HLA
         have hgg1 : gg < bU := by unfold bU; have := HG2.out.2.1; omega
         have HT9 := Lib.hid (times_any vs [gg] (some ⟨b6, a6, none⟩) (some ⟨w8.heap.size, 0, none⟩) c1 1 (w8.alloc (.cells #[.int .u32 gg] 170)) _ _ (H8.out.2.2.1.turned ((Turned.refl _ w8).alloc _)) (LA.one w8 hgg1) (by rw [HB.out.lv]; have k1 := HB.out.nm; have k2 := HB.out.mx; have k3 := HN2.out.2.2; omega) (by simp))
         have ev : vL bU [gg] = gg := by simp [vL]
         unfold RetL at HT9
         rw [HB.out.vv, ev, HB.out.lv] at HT9
         have HLL := Lib.hid (And.intro hLl (And.intro hLd (And.intro hLv (And.intro hLt (And.intro hLb (And.intro hi3 hL))))))
         clear hLl hLd hLv hLt hLb hL hcc hcm hgg1 ev hi3
         go_wp2_with fail
         refine HT9.out.mono ?_
         rintro e w9 ⟨p9, c9, rfl, h5, h6⟩
         have H9 := Lib.hid (And.intro h5.any (((Turned.refl (fun _ => False) w8).alloc (.cells #[.int .u32 gg] 170)).trans h6))
         clear h5 h6 HT9
         go_wp2_with fail
         obtain ⟨wq, hwq⟩ : ∃ wq, wq = wr := ⟨_, rfl⟩
         subst hwq
         go_loopw [15, 18] (fun gv pv wr => ∃ (g2 : Nat) (pp : Option Addr) (cc : Nat), gv = .int .u64 g2 /\ pv = .slice pp (digs bU (V * g2)).length cc /\ Hid (t <= g2 /\ g2 <= gg) /\ Hid (LA wr (fun _ => True) (digs bU (V * g2)) pp cc /\ Turned (fun _ => False) w8 wr)) (fun gv _ _ => (intOf gv).toNat)
         case atStart => exact ⟨gg, p9, c9, rfl, rfl, Lib.hid ⟨HG2.out.1, Nat.le_refl _⟩, Lib.hid H9.out⟩
         case round =>
          obtain ⟨g2, pp, cc, rfl, rfl, HG4, HT4⟩ := hrel
          have HC4 := Lib.hid (clone_any L (some ⟨g0, j, none⟩) (c4 - j) wr _ (HLA.out wr (H8.out.1.turned HT4.out.2 id)) HLL.out.2.2.2.2.1)
          rw [HLL.out.1] at HC4
          go_wp2_with fail
          with_reducible refine HC4.out.mono ?_
          rintro e w10 ⟨v10, rfl, h5, h6⟩
          have hla := h5
          obtain ⟨p10, c10, rfl⟩ := h5.shape
          have HL10 := h5.la HLL.out.2.1
          have H10 := Lib.hid (And.intro (HT4.out.1.turned h6) (HT4.out.2.trans h6))
          have HTr := Lib.hid (trim_any L p10 c10 w10 _ HL10)
          rw [HLL.out.1] at HTr
          have HLT := Lib.hid HL10.trim
          rw [HLL.out.1]
          clear hla h5 h6 HL10 HC4
          go_wp2_with fail
          with_reducible refine HTr.out.mono ?_
          rintro e w11 ⟨rfl, hw⟩
          rw [hw]
          clear hw HTr
          have HCm := Lib.hid (compare_any (trimL L) (digs bU (V * g2)) p10 pp c10 cc w10 _ _ HLT.out H10.out.1 (trim_trim _) (digs_trim (by decide) _))
          rw [vL_trim, HLL.out.2.2.1, vL_digs (by decide)] at HCm
          by_cases hcm : P < V * g2
          ·rw [cmpZ_lt (by omega)] at HCm
           have hg2 : 0 < g2 := by
            rcases Nat.eq_zero_or_pos g2 with h | h
            ·rw [h, Nat.mul_zero] at hcm; omega
            ·exact h
           obtain ⟨g3, hg3⟩ : ∃ g3, g2 - 1 = g3 := ⟨_, rfl⟩
           have r1 : IntKind.u64.wrap ((g2 : Int) - 1) = (g3 : Int) := by rw [IntWalk.u64_in _ (by have := HG4.out.2; have := HG2.out.2.1; omega)]; omega
           have hvg : V * g2 - V = V * g3 := by rw [show g2 = g3 + 1 by omega, Nat.mul_add, Nat.mul_one, Nat.add_sub_cancel]
           have htg3 : t <= g3 := by
            have h1 : P / V < g2 := Nat.div_lt_of_lt_mul hcm
            have h2 := HG.out.2.2.2.2
            omega
           have hle1 : V <= V * g2 := Nat.le_mul_of_pos_right _ hg2
           have hlen1 : vs.length <= (digs bU (V * g2)).length := by rw [<- HVX.out.2.2]; exact digs_mono (by decide) hle1
           have HM4 : Hid (∀ w12, Turned (fun _ => False) w10 w12 -> Calls Tryz.prog 122 #[.slice pp (digs bU (V * g2)).length cc, .slice (some ⟨b6, a6, none⟩) n c1] w12 fun e w' => RetL w12 w' e (V * g3)) := Lib.hid fun w12 hw => by
            have h := minus_any (digs bU (V * g2)) vs pp (some ⟨b6, a6, none⟩) cc c1 w12 _ _ (H10.out.1.turned hw) (H8.out.2.2.1.turned (H10.out.2.trans hw)) (by have k1 := HB.out.nm; have k2 := HB.out.mx; have k3 := HN2.out.2.2; have k4 := HDG.out g2 HG4.out.2; omega) hlen1 (by rw [HB.out.vv, vL_digs (by decide)]; exact hle1)
            rw [HB.out.vv, vL_digs (by decide), hvg, HB.out.lv] at h
            exact h
           have HG5 := Lib.hid (And.intro htg3 (And.intro (show g3 < g2 by omega) (show g3 <= gg by have := HG4.out.2; omega)))
           clear hcm hg2 hg3 hvg htg3 hle1 hlen1
           go_wp2_with fail
           with_reducible refine HCm.out.mono ?_
           rintro e w12 ⟨rfl, hw⟩
           have H12 := Lib.hid (And.intro hw (H10.out.2.trans hw))
           have HM5 := Lib.hid (HM4.out w12 hw)
           clear hw HCm HM4
           go_wp2_with fail
           with_reducible refine HM5.out.mono ?_
           rintro e w13 ⟨p13, c13, rfl, h5, h6⟩
           have H13 := Lib.hid (And.intro h5.any (H12.out.2.trans h6))
           clear h5 h6 HM5
           go_wp2_with fail
           refine ⟨⟨g3, p13, c13, rfl, rfl, Lib.hid ⟨HG5.out.1, HG5.out.2.2⟩, Lib.hid H13.out⟩, ?_⟩
           show (intOf (.int .u64 (g3 : Int))).toNat < (intOf (.int .u64 (g2 : Int))).toNat
           have h5 := HG5.out.2.1
           simp only [intOf]
           omega
          ·obtain ⟨z5, hz5⟩ : ∃ z5, cmpZ P (V * g2 : Nat) = z5 := ⟨_, rfl⟩
           have hz6 : decide (z5 < 0) = false := by rw [<- hz5]; unfold cmpZ; split <;> (try split) <;> simp <;> omega
           rw [hz5] at HCm
           have hgt : g2 = t := digit_found HB.out.v0 HG.out.2.2.2.2.symm (by rw [Nat.mul_comm]; omega) HG4.out.1
           have HGT := Lib.hid (And.intro hgt (show V * g2 <= P by omega))
           clear hz5 hgt hcm
           go_wp2_with fail
           with_reducible refine HCm.out.mono ?_
           rintro e w12 ⟨rfl, hw⟩
           have H12 := Lib.hid (And.intro (H10.out.1.turned hw) (H10.out.2.trans hw))
           have HC5 := Lib.hid (clone_any L (some ⟨g0, j, none⟩) (c4 - j) w12 _ (HLA.out w12 (H8.out.1.turned H12.out.2 id)) HLL.out.2.2.2.2.1)
           rw [HLL.out.1] at HC5
           clear hw HCm
           go_wp2_with fail
           with_reducible refine HC5.out.mono ?_
           rintro e w13 ⟨v13, rfl, h5, h6⟩
           obtain ⟨p13, c13, rfl⟩ := h5.shape
           have HL13 := h5.la HLL.out.2.1
           have H13 := Lib.hid (And.intro (H12.out.1.turned h6) (H12.out.2.trans h6))
           have HT5 := Lib.hid (trim_any L p13 c13 w13 _ HL13)
           rw [HLL.out.1] at HT5
           have HLT5 := HL13.trim
           rw [HLL.out.2.2.2.1] at HLT5
           have HM5 := Lib.hid (minus_any (digs bU P) (digs bU (V * g2)) p13 pp c13 cc w13 _ _ HLT5 H13.out.1 (by have k1 := HB.out.nm; have k2 := HB.out.mx; have k3 := HN2.out.2.2; rw [<- HLL.out.2.2.2.1]; have k4 := trimL_len L; have k5 := HLL.out.1; have k6 := HLL.out.2.2.2.2.2.1; omega) (digs_mono (by decide) HGT.out.2) (by rw [vL_digs (by decide), vL_digs (by decide)]; exact HGT.out.2))
           rw [vL_digs (by decide), vL_digs (by decide)] at HM5
           unfold RetL at HM5
           rw [HLL.out.1]
           clear h5 h6 HL13 HC5 HLT5
           go_wp2_with fail
           with_reducible refine HT5.out.mono ?_
           rintro e w14 ⟨rfl, hw⟩
           rw [hw, HLL.out.2.2.2.1]
           clear hw HT5
           go_wp2_with fail
           with_reducible refine HM5.out.mono ?_
           rintro e w15 ⟨p15, c15, rfl, h5, h6⟩
           have ht15 := H13.out.2.trans h6
           have hp1 := H8.out.1.turned ht15 id
           have hg13 : g0 < w13.heap.size := (H8.out.1.turned H13.out.2 id).lt
           have hg4 : g0 < w4.heap.size := H4.out.1.lt
           have hi3j : i3 - j = n + 1 := by have k6 := HLL.out.2.2.2.2.2.1; omega
           have hfit : j + (i3 - j) <= R.length := by rw [HR.out.2.1]; have k1 := HI.out.1; omega
           have hclr := fun ty => clear_u32 (c := c4 - j) ty hp1 (by omega) hfit
           obtain ⟨hp2, ht2⟩ := cleared hp1 hfit
           obtain ⟨D, hD⟩ : ∃ D, digs bU (P - V * g2) = D := ⟨_, rfl⟩
           rw [hD] at h5 ⊢
           have hDl : D.length <= i3 - j := by
            rw [<- hD]
            refine Nat.le_trans (digs_mono (by decide) (Nat.sub_le _ _)) ?_
            rw [<- HLL.out.2.2.2.1, <- HLL.out.1]
            exact trimL_len L
           obtain ⟨w16, hw16⟩ : ∃ w16, w15.setCells g0 j (List.replicate (i3 - j) (uV 0)) = w16 := ⟨_, rfl⟩
           rw [hw16] at hclr hp2 ht2
           have hla := h5.move (M := fun _ => True) ht2 (fun b hb => by omega) fun _ _ => trivial
           have hl2 : j + (i3 - j) <= (R.take j ++ List.replicate (i3 - j) 0 ++ R.drop (j + (i3 - j))).length := by
            simp only [List.length_append, List.length_take, List.length_replicate, List.length_drop]; omega
           have HP2 := Lib.hid (And.intro hp2 (And.intro hla (And.intro hDl hl2)))
           have T16 : Turned (fun k => k = g0) w8 w16 := (ht15.mono fun _ h => h.elim).trans ht2
           have HT16 := Lib.hid T16
           have hjq : j < lq := by
            rcases Nat.lt_or_ge (j + 1 + n) m with h | h
            ·have k1 := HJ.out.1; have k2 := HB.out.mx; omega
            ·exfalso
             have k0 := HI.out.1
             have k1 := HR.out.2.2.2.2.2.2.1 (by omega)
             have k2 := HI.out.2.2.2.2.2.1
             have k3 := HI.out.2.2.2.2.2.2.1
             have k4 := HI.out.2.2.1
             have k5 := HI.out.2.2.2.1
             have k6 := HI.out.2.2.2.2.2.2.2.2.1
             rw [show m - 1 = i2 by omega, show m - 2 = i1 by omega, k2, k3] at k1
             have k7 := HG2.out.2.2
             have k8 : 1 * 1 <= gg * va := Nat.mul_le_mul (by omega) HE3.out.2.2.2.2.1
             omega
           have hjqi : (j : Int) < (lq : Int) := by omega
           have hgu2 : (g2 : Int) % 4294967296 = (g2 : Int) := Int.emod_eq_of_lt (by omega) (by have := HG4.out.2; have := HG2.out.2.1; omega)
           have HG6 := Lib.hid (And.intro hg4 (And.intro hjq (And.intro hi3j (And.intro hfit hD))))
           have hg4' : ∀ k, k = g0 -> k ≠ w4.heap.size := fun k h => by omega
           have HG7 := Lib.hid hg4'
           clear h5 h6 ht15 hp1 hg13 hg4 hi3j hfit hD hDl hw16 hla hl2 hp2 ht2 T16 hjq hg4' HM5 hgu hgz
           go_wp2_with (refine copy_u32 ?k1 (.tmp 178) (.tmp 179) ?k2 g0 j (i3 - j) (c4 - j) ?k3 p15 c15 D ?k4 _ HP2.out.1 HP2.out.2.1 HP2.out.2.2.1 HP2.out.2.2.2 ?k5; (case k1 => rfl); (case k2 => rfl); (case k3 => rfl); (case k4 => rfl); intro w17 HW17; have T17 := HT16.out.trans HW17.out.2; have hru := H8.out.2.1.turned T17 (fun h => HG7.out _ h rfl); have hq := hru.some (i := j) (by rw [HR.out.2.2.1]; exact HG6.out.2.1); have hfr := hru.free j; have HS17 := Lib.hid (And.intro T17 hru); clear T17 hru)
           have hst : Turned (fun k => k = w4.heap.size) w17 (w17.setCell ⟨w4.heap.size, j, none⟩ (uV g2)) := (Turned.refl (fun k => k = w4.heap.size) w17).setCell (p := ⟨w4.heap.size, j, none⟩) rfl _
           have hpu := HW17.out.1
           rw [put_two HG6.out.2.2.2.1 HP2.out.2.2.1, HG6.out.2.2.1] at hpu
           have hDl := HP2.out.2.2.1
           rw [HG6.out.2.2.1] at hDl
           have hw2 := H4.out.2.2.2.1
           have hg4 := HG6.out.1
           have hW2 := HSZ2.out
           refine ⟨⟨j, R.take j ++ (D ++ List.replicate (n + 1 - D.length) 0) ++ R.drop (j + (n + 1)), Q.set j g2, rfl, by omega, Lib.hid ⟨?_, ?_, by rw [List.length_set]; exact HR.out.2.2.1, hpu.turned hst (by omega), HS17.out.2.set j g2, ?_, fun h => absurd h (by have := HI.out.1; omega), ?_⟩⟩, ?_⟩
           ·refine HR.out.1.step (by decide) HB.out.vb (by rw [HR.out.2.1]; exact HI.out.1) (by rw [HR.out.2.2.1]; exact HG6.out.2.1) (by rw [HG.out.2.2.2.1, HGT.out.1]; exact HG.out.2.2.2.2.symm) (fun x hx => ?_) hDl ?_
            ·rw [<- HG6.out.2.2.2.2] at hx; exact digs_lt (by decide) _ x hx
            ·rw [<- HG6.out.2.2.2.2, vL_digs (by decide), HG.out.2.2.2.1]
           ·rw [put_len (by rw [HR.out.2.1]; have := HI.out.1; omega) hDl]; exact HR.out.2.1
           ·exact (H8.out.2.2.1.move HS17.out.1 (fun b hb => by omega) fun _ => id).move hst (fun b hb => by omega) fun _ => id
           ·exact (H8.out.2.2.2.fresh HS17.out.1 fun g hg => by omega).fresh hst fun g hg => by omega
           ·show (intOf (.int .i64 ((j : Int) - 1)) + 1).toNat < (intOf (.int .i64 ((j : Int))) + 1).toNat
            simp only [intOf]
            omega
end Go.Proofs.YthejfklieedjmaaGreatDoor
