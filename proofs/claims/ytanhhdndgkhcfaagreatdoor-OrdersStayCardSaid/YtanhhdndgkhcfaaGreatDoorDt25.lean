/- Part 25 of the proof of lawDue.card: OrdSaneB. Conditions: those of each theorem. -/
import Derived.Test.YtanhhdndgkhcfaaGreatDoorDt01
import Derived.Test.YtanhhdndgkhcfaaGreatDoorDt21
import Derived.Test.YtanhhdndgkhcfaaGreatDoorDt24
namespace Go.Proofs.YtanhhdndgkhcfaaGreatDoor
open Go Go.Proofs Go.RowKit
attribute [local go_sem] Oper.semAt_some
attribute [local go_sem ↓] run_eql_rat' run_neq_rat'
theorem exCheck {W : World} {rp lp hp cp : Option Addr} {rc lc hc cc w1 : Nat} (h : ExAt W 10 rp lp hp cp rc lc hc cc w1) :
    Calls Tryz.prog 19 #[.agg #[.slice rp 3 rc, .slice lp 3 lc, .slice hp 3 hc], .slice cp 4 cc] W fun e w' => e = .returned (.int .i64 0) ∧ Turned (fun _ => False) W w' := by
  have H := oCheck_any _ _ _ _ rp lp hp cp rc lc hc cc W h.h.fc h.h.cl h.h.sl h.h.sh h.h.sc
  rw [ex_ord _ _ _ _ _ _ _ (Or.inr rfl)] at H
  exact H
theorem exAt {W : World} (k : Int) (a : Nat) (ha : a ≤ 1000) : Calls Tryz.prog 39 #[(.int .i64 k), (.int .i64 a), (.int .i64 1)] W fun e w' => e = .returned (.agg #[(.int .i64 k), .bool (exN a).neg, .string (exN a).num, .string (exN a).den]) ∧ Turned (fun _ => False) W w' := by
  refine (lawAt_any k a 1 W ha (by decide) (by decide)).mono ?_
  rintro e w' ⟨u, hu, rfl, ht⟩
  have h1 : u = exN a := by rw [hu]; unfold exN; rw [show ((1 : Nat) : Rat) = 1 from rfl, Rat.div_def, show (1 : Rat)⁻¹ = 1 by kernel_rfl, Rat.mul_one]
  exact ⟨by rw [h1], ht⟩
theorem exCmp {W : World} : Calls Tryz.prog 30 #[ratV (repR 2), ratV (repR 4)] W fun e w' => e = .returned (.int .i64 (-1)) ∧ Turned (fun _ => False) W w' := by
  have H := qCmp_any (exN 2) (exN 4) 20 W (by decide) (by decide) (exN_size (by decide)) (exN_size (by decide))
  rw [show cmpQ (qR (exN 2)) (qR (exN 4)) = -1 by kernel_rfl] at H
  exact H
theorem exHalf_size : SzR (repR ((5 : Nat) / (2 : Nat) : Rat)) 24000300 := by
  have h : ∀ n : Nat, n ≤ 1000 → BytesQ (n : Rat) 2 := fun n hn => ⟨by rw [Rat.num_natCast, Int.natAbs_natCast]; exact Nat.lt_of_le_of_lt hn (by decide), by rw [Rat.den_natCast]; decide⟩
  exact SzR.rep (((h 5 (by decide)).div (h 2 (by decide))).mono (by decide))
theorem exInts {W : World} (l : List Nat) (k : Nat) (hk : l.length = k) (p : Option Addr) (c : Nat) (h : At W.heap.size W 1 intCells (l.map fun n : Nat => (n : Int)) p c) (hb : ∀ n ∈ l, n ≤ 1000) (hl : k ≤ 1000) :
    Calls Tryz.prog 38 #[.slice p k c] W fun e w' => ∃ q d, e = .returned (.slice q k d) ∧ At w'.heap.size w' 3 ratCells (l.map exN) q d ∧ Turned (fun _ => False) W w' := by
  subst hk
  refine (lawInts_any l p c W.heap.size W h hb hl).mono ?_
  rintro e w' ⟨q, d, rfl, h1, ht⟩
  exact ⟨q, d, by rw [List.length_map], h1.at_ (fun _ => rfl) (Nat.le_refl _), ht⟩
set_option linter.unusedSimpArgs false in
set_option maxRecDepth 20000 in
set_option maxHeartbeats 4000000 in
theorem lawSane_any (W : World) : Calls Tryz.prog 8 #[] W fun e w' => e = .returned (.bool true) ∧ Turned (fun _ => False) W w' := by
  go_enter Tryz.func8, Tryz.ntmps8
  go_wp2_with fail
  refine (lawExample_any 10 _ (by decide)).mono ?_
  rintro e w0 ⟨rp, lp, hp, cp, rc, lc, hc, cc, wb, rfl, hx, t1⟩
  have n1 := World.alloc_heap_new w0 (.cells #[.slice rp 3 rc, .slice lp 3 lc, .slice hp 3 hc] 25)
  have tx := (Turned.refl (fun _ => False) w0).alloc (.cells #[.slice rp 3 rc, .slice lp 3 lc, .slice hp 3 hc] 25)
  obtain ⟨B, hB⟩ : ∃ B, w0.heap.size = B := ⟨_, rfl⟩
  obtain ⟨w1, hw1⟩ : ∃ w, w = w0.alloc (.cells #[.slice rp 3 rc, .slice lp 3 lc, .slice hp 3 hc] 25) := ⟨_, rfl⟩
  go_wp2_with fail
  rw [← hw1] at tx n1 ⊢
  rw [hB] at n1
  have HX1 := Lib.hid ((ExAt.mk hx).on tx)
  have HT1 := Lib.hid (t1.trans tx)
  have HN1 := Lib.hid n1
  clear hx t1 tx hw1 hB n1
  refine (exLimits HX1.out).mono ?_
  rintro e w2 ⟨ta, tb, rfl, h1, h2, t⟩
  have HLI := Lib.hid (And.intro h1 h2)
  have HX2 := Lib.hid (HX1.out.on t)
  have HT2 := Lib.hid (HT1.out.trans t)
  have HN2 := Lib.hid (keepB t HN1.out)
  obtain ⟨d0, d1, d2, -, -, -⟩ := box3 HN2.out
  clear h1 h2 t HX1 HT1 HN1
  go_wp2_with fail
  refine (exOrders HX2.out).mono ?_
  rintro e w3 ⟨po, co, rfl, h1, h2, t⟩
  have HOR3 := Lib.hid (And.intro h1 h2)
  have HLI3 := Lib.hid (And.intro (HLI.out.1.on t) (HLI.out.2.on t))
  have HX3 := Lib.hid (HX2.out.on t)
  have HT3 := Lib.hid (HT2.out.trans t)
  have HN3 := Lib.hid (keepB t HN2.out)
  clear d0 d1 d2
  obtain ⟨d0, d1, d2, -, -, -⟩ := box3 HN3.out
  clear h1 h2 t HX2 HT2 HN2 HLI
  go_wp2_with fail
  refine (exSure HX3.out).mono ?_
  rintro e w4 ⟨ps, cs, rfl, h1, t⟩
  have HSU4 := Lib.hid h1
  have HOR4 := Lib.hid (And.intro (HOR3.out.1.on t) HOR3.out.2)
  have HLI4 := Lib.hid (And.intro (HLI3.out.1.on t) (HLI3.out.2.on t))
  have HX4 := Lib.hid (HX3.out.on t)
  have HT4 := Lib.hid (HT3.out.trans t)
  have HN4 := Lib.hid (keepB t HN3.out)
  clear d0 d1 d2
  clear h1 t HX3 HT3 HN3 HLI3 HOR3
  go_wp2_with fail
  refine (lawExample_any 7 _ (by decide)).mono ?_
  rintro e w5 ⟨rp2, lp2, hp2, cp2, rc2, lc2, hc2, cc2, wb2, rfl, hx2, t⟩
  have n5 := World.alloc_heap_new w5 (.cells #[.slice rp2 3 rc2, .slice lp2 3 lc2, .slice hp2 3 hc2] 25)
  have tx := (Turned.refl (fun _ => False) w5).alloc (.cells #[.slice rp2 3 rc2, .slice lp2 3 lc2, .slice hp2 3 hc2] 25)
  have ty := t.trans tx
  obtain ⟨C, hC⟩ : ∃ C, w5.heap.size = C := ⟨_, rfl⟩
  obtain ⟨w6, hw6⟩ : ∃ w, w = w5.alloc (.cells #[.slice rp2 3 rc2, .slice lp2 3 lc2, .slice hp2 3 hc2] 25) := ⟨_, rfl⟩
  have HSU6 := Lib.hid (HSU4.out.on ty)
  have HOR6 := Lib.hid (And.intro (HOR4.out.1.on ty) HOR4.out.2)
  have HLI6 := Lib.hid (And.intro (HLI4.out.1.on ty) (HLI4.out.2.on ty))
  have HX6 := Lib.hid (HX4.out.on ty)
  have HXB := Lib.hid ((ExAt.mk hx2).on tx)
  have HT6 := Lib.hid (HT4.out.trans ty)
  have HN6 := Lib.hid (keepB ty HN4.out)
  go_wp2_with fail
  rw [← hw6] at n5 HSU6 HOR6 HLI6 HX6 HXB HT6 HN6 ⊢
  rw [hC] at n5
  have HM6 := Lib.hid n5
  have HXR : Hid (ExAt w6 7 rp2 lp2 hp2 cp rc2 lc2 hc2 cc wb2) := Lib.hid ⟨⟨HXB.out.h.fc, HX6.out.h.cl, HXB.out.h.sl, HXB.out.h.sh, HX6.out.h.sc⟩⟩
  clear hx2 t tx ty hw6 hC n5 HX4 HT4 HN4 HLI4 HOR4 HSU4 HXB
  refine (exRenew HXR.out _ _ HOR6.out.1 HOR6.out.2).mono ?_
  rintro e w7 ⟨pr, cr, rfl, h1, t⟩
  have HRE7 := Lib.hid h1
  have HSU7 := Lib.hid (HSU6.out.on t)
  have HOR7 := Lib.hid (HOR6.out.1.on t)
  have HLI7 := Lib.hid (And.intro (HLI6.out.1.on t) (HLI6.out.2.on t))
  have HX7 := Lib.hid (HX6.out.on t)
  have HT7 := Lib.hid (HT6.out.trans t)
  have HN7 := Lib.hid (keepB t HN6.out)
  clear t HSU6 HOR6 HLI6 HX6 HT6 HN6
  obtain ⟨d0, d1, d2, -, -, -⟩ := box3 HN7.out
  clear h1 HM6 HXR
  go_wp2_with fail
  refine (exMatters HX7.out (q := 3) (by decide) (exMat3 _ _ _ _ _ _)).mono ?_
  rintro e w8 ⟨pm, cm, rfl, h1, t⟩
  have HMA8 := Lib.hid h1
  clear d0 d1 d2
  have HSU8 := Lib.hid (HSU7.out.on t)
  have HOR8 := Lib.hid (HOR7.out.on t)
  have HLI8 := Lib.hid (And.intro (HLI7.out.1.on t) (HLI7.out.2.on t))
  have HX8 := Lib.hid (HX7.out.on t)
  have HT8 := Lib.hid (HT7.out.trans t)
  have HN8 := Lib.hid (keepB t HN7.out)
  have HRE8 := Lib.hid (HRE7.out.on t)
  clear t HSU7 HOR7 HLI7 HX7 HT7 HN7 HRE7
  obtain ⟨d0, d1, d2, -, -, -⟩ := box3 HN8.out
  clear h1
  go_wp2_with fail
  refine (exMatters HX8.out (q := 0) (by decide) (exMat0 _ _ _ _ _ _)).mono ?_
  rintro e w9 ⟨pn, cn, rfl, h1, t⟩
  clear d0 d1 d2
  have HSU9 := Lib.hid (HSU8.out.on t)
  have HOR9 := Lib.hid (HOR8.out.on t)
  have HLI9 := Lib.hid (And.intro (HLI8.out.1.on t) (HLI8.out.2.on t))
  have HX9 := Lib.hid (HX8.out.on t)
  have HT9 := Lib.hid (HT8.out.trans t)
  have HN9 := Lib.hid (keepB t HN8.out)
  have HRE9 := Lib.hid (HRE8.out.on t)
  have HMA9 := Lib.hid (HMA8.out.on t)
  clear t HSU8 HOR8 HLI8 HX8 HT8 HN8 HRE8 HMA8
  obtain ⟨d0, d1, d2, -, -, -⟩ := box3 HN9.out
  clear h1
  go_wp2_with fail
  refine (exMatters4 HX9.out).mono ?_
  rintro e w10 ⟨rfl, t⟩
  clear d0 d1 d2
  have HSU10 := Lib.hid (HSU9.out.on t)
  have HOR10 := Lib.hid (HOR9.out.on t)
  have HLI10 := Lib.hid (And.intro (HLI9.out.1.on t) (HLI9.out.2.on t))
  have HX10 := Lib.hid (HX9.out.on t)
  have HT10 := Lib.hid (HT9.out.trans t)
  have HN10 := Lib.hid (keepB t HN9.out)
  have HRE10 := Lib.hid (HRE9.out.on t)
  have HMA10 := Lib.hid (HMA9.out.on t)
  clear t HSU9 HOR9 HLI9 HX9 HT9 HN9 HRE9 HMA9
  obtain ⟨d0, d1, d2, -, -, -⟩ := box3 HN10.out
  go_wp2_with fail
  refine (exCheck HX10.out).mono ?_
  rintro e w11 ⟨rfl, t⟩
  clear d0 d1 d2
  have HSU11 := Lib.hid (HSU10.out.on t)
  have HOR11 := Lib.hid (HOR10.out.on t)
  have HLI11 := Lib.hid (And.intro (HLI10.out.1.on t) (HLI10.out.2.on t))
  have HX11 := Lib.hid (HX10.out.on t)
  have HT11 := Lib.hid (HT10.out.trans t)
  have HN11 := Lib.hid (keepB t HN10.out)
  have HRE11 := Lib.hid (HRE10.out.on t)
  have HMA11 := Lib.hid (HMA10.out.on t)
  clear t HSU10 HOR10 HLI10 HX10 HT10 HN10 HRE10 HMA10
  obtain ⟨d0, d1, d2, -, -, -⟩ := box3 HN11.out
  go_wp2_with fail
  have TA := (Turned.refl (fun _ => False) w11).alloc (.cells #[(.int .i64 5), (.int .i64 2), (.int .i64 2), (.int .i64 0)] 3)
  have z1 := World.alloc_heap_new w11 (.cells #[(.int .i64 5), (.int .i64 2), (.int .i64 2), (.int .i64 0)] 3)
  have h1 := at_block (l := ([5, 2, 2, 0] : List Int)) (enc := intCells) (s := 1) (fun _ => rfl) z1 (Nat.le_refl _) (by decide)
  refine (exInts [5, 2, 2, 0] 4 rfl _ _ h1 (by decide) (by decide)).mono ?_
  rintro e w12 ⟨qa, qd, rfl, h2, t2⟩
  have t := TA.trans t2
  have HQ := Lib.hid h2
  clear d0 d1 d2 TA z1 h1 h2 t2
  have HSU12 := Lib.hid (HSU11.out.on t)
  have HOR12 := Lib.hid (HOR11.out.on t)
  have HLI12 := Lib.hid (And.intro (HLI11.out.1.on t) (HLI11.out.2.on t))
  have HX12 := Lib.hid (HX11.out.on t)
  have HT12 := Lib.hid (HT11.out.trans t)
  have HN12 := Lib.hid (keepB t HN11.out)
  have HRE12 := Lib.hid (HRE11.out.on t)
  have HMA12 := Lib.hid (HMA11.out.on t)
  clear t HSU11 HOR11 HLI11 HX11 HT11 HN11 HRE11 HMA11
  obtain ⟨d0, d1, d2, -, -, -⟩ := box3 HN12.out
  go_wp2_with fail
  refine (ySame_any _ _ _ _ _ _ _ _ HLI12.out.1 HQ.out).mono ?_
  rintro e w13 ⟨rfl, t⟩
  clear d0 d1 d2 HQ
  have HSU13 := Lib.hid (HSU12.out.on t)
  have HOR13 := Lib.hid (HOR12.out.on t)
  have HLI13 := Lib.hid (And.intro (HLI12.out.1.on t) (HLI12.out.2.on t))
  have HX13 := Lib.hid (HX12.out.on t)
  have HT13 := Lib.hid (HT12.out.trans t)
  have HN13 := Lib.hid (keepB t HN12.out)
  have HRE13 := Lib.hid (HRE12.out.on t)
  have HMA13 := Lib.hid (HMA12.out.on t)
  clear t HSU12 HOR12 HLI12 HX12 HT12 HN12 HRE12 HMA12
  obtain ⟨d0, d1, d2, -, -, -⟩ := box3 HN13.out
  go_wp2_with fail
  have TA := (Turned.refl (fun _ => False) w13).alloc (.cells #[(.int .i64 5), (.int .i64 4), (.int .i64 2), (.int .i64 2)] 3)
  have z1 := World.alloc_heap_new w13 (.cells #[(.int .i64 5), (.int .i64 4), (.int .i64 2), (.int .i64 2)] 3)
  have h1 := at_block (l := ([5, 4, 2, 2] : List Int)) (enc := intCells) (s := 1) (fun _ => rfl) z1 (Nat.le_refl _) (by decide)
  refine (exInts [5, 4, 2, 2] 4 rfl _ _ h1 (by decide) (by decide)).mono ?_
  rintro e w14 ⟨qa2, qd2, rfl, h2, t2⟩
  have t := TA.trans t2
  have HQ := Lib.hid h2
  clear d0 d1 d2 TA z1 h1 h2 t2
  have HSU14 := Lib.hid (HSU13.out.on t)
  have HOR14 := Lib.hid (HOR13.out.on t)
  have HLI14 := Lib.hid (And.intro (HLI13.out.1.on t) (HLI13.out.2.on t))
  have HX14 := Lib.hid (HX13.out.on t)
  have HT14 := Lib.hid (HT13.out.trans t)
  have HN14 := Lib.hid (keepB t HN13.out)
  have HRE14 := Lib.hid (HRE13.out.on t)
  have HMA14 := Lib.hid (HMA13.out.on t)
  clear t HSU13 HOR13 HLI13 HX13 HT13 HN13 HRE13 HMA13
  obtain ⟨d0, d1, d2, -, -, -⟩ := box3 HN14.out
  go_wp2_with fail
  refine (ySame_any _ _ _ _ _ _ _ _ HLI14.out.2 HQ.out).mono ?_
  rintro e w15 ⟨rfl, t⟩
  clear d0 d1 d2 HQ
  have HSU15 := Lib.hid (HSU14.out.on t)
  have HOR15 := Lib.hid (HOR14.out.on t)
  have HLI15 := Lib.hid (And.intro (HLI14.out.1.on t) (HLI14.out.2.on t))
  have HX15 := Lib.hid (HX14.out.on t)
  have HT15 := Lib.hid (HT14.out.trans t)
  have HN15 := Lib.hid (keepB t HN14.out)
  have HRE15 := Lib.hid (HRE14.out.on t)
  have HMA15 := Lib.hid (HMA14.out.on t)
  clear t HSU14 HOR14 HLI14 HX14 HT14 HN14 HRE14 HMA14
  obtain ⟨d0, d1, d2, -, -, -⟩ := box3 HN15.out
  go_wp2_with fail
  refine (qInt_any 2 _ (by decide)).mono ?_
  rintro e w16 ⟨rfl, t⟩
  clear d0 d1 d2
  have HSU16 := Lib.hid (HSU15.out.on t)
  have HOR16 := Lib.hid (HOR15.out.on t)
  have HLI16 := Lib.hid (And.intro (HLI15.out.1.on t) (HLI15.out.2.on t))
  have HX16 := Lib.hid (HX15.out.on t)
  have HT16 := Lib.hid (HT15.out.trans t)
  have HN16 := Lib.hid (keepB t HN15.out)
  have HRE16 := Lib.hid (HRE15.out.on t)
  have HMA16 := Lib.hid (HMA15.out.on t)
  clear t HSU15 HOR15 HLI15 HX15 HT15 HN15 HRE15 HMA15
  obtain ⟨d0, d1, d2, -, -, -⟩ := box3 HN16.out
  go_wp2_with fail
  refine (qInt_any 4 _ (by decide)).mono ?_
  rintro e w17 ⟨rfl, t⟩
  clear d0 d1 d2
  have HSU17 := Lib.hid (HSU16.out.on t)
  have HOR17 := Lib.hid (HOR16.out.on t)
  have HLI17 := Lib.hid (And.intro (HLI16.out.1.on t) (HLI16.out.2.on t))
  have HX17 := Lib.hid (HX16.out.on t)
  have HT17 := Lib.hid (HT16.out.trans t)
  have HN17 := Lib.hid (keepB t HN16.out)
  have HRE17 := Lib.hid (HRE16.out.on t)
  have HMA17 := Lib.hid (HMA16.out.on t)
  clear t HSU16 HOR16 HLI16 HX16 HT16 HN16 HRE16 HMA16
  obtain ⟨d0, d1, d2, -, -, -⟩ := box3 HN17.out
  go_wp2_with fail
  refine (exCmp).mono ?_
  rintro e w18 ⟨rfl, t⟩
  clear d0 d1 d2
  have HSU18 := Lib.hid (HSU17.out.on t)
  have HOR18 := Lib.hid (HOR17.out.on t)
  have HLI18 := Lib.hid (And.intro (HLI17.out.1.on t) (HLI17.out.2.on t))
  have HX18 := Lib.hid (HX17.out.on t)
  have HT18 := Lib.hid (HT17.out.trans t)
  have HN18 := Lib.hid (keepB t HN17.out)
  have HRE18 := Lib.hid (HRE17.out.on t)
  have HMA18 := Lib.hid (HMA17.out.on t)
  clear t HSU17 HOR17 HLI17 HX17 HT17 HN17 HRE17 HMA17
  obtain ⟨d0, d1, d2, -, -, -⟩ := box3 HN18.out
  go_wp2_with fail
  refine (exAt 2 2 (by decide)).mono ?_
  rintro e w19 ⟨rfl, t⟩
  clear d0 d1 d2
  have HSU19 := Lib.hid (HSU18.out.on t)
  have HOR19 := Lib.hid (HOR18.out.on t)
  have HLI19 := Lib.hid (And.intro (HLI18.out.1.on t) (HLI18.out.2.on t))
  have HX19 := Lib.hid (HX18.out.on t)
  have HT19 := Lib.hid (HT18.out.trans t)
  have HN19 := Lib.hid (keepB t HN18.out)
  have HRE19 := Lib.hid (HRE18.out.on t)
  have HMA19 := Lib.hid (HMA18.out.on t)
  clear t HSU18 HOR18 HLI18 HX18 HT18 HN18 HRE18 HMA18
  obtain ⟨d0, d1, d2, -, -, -⟩ := box3 HN19.out
  go_wp2_with fail
  refine (exAt 3 2 (by decide)).mono ?_
  rintro e w20 ⟨rfl, t⟩
  clear d0 d1 d2
  have HSU20 := Lib.hid (HSU19.out.on t)
  have HOR20 := Lib.hid (HOR19.out.on t)
  have HLI20 := Lib.hid (And.intro (HLI19.out.1.on t) (HLI19.out.2.on t))
  have HX20 := Lib.hid (HX19.out.on t)
  have HT20 := Lib.hid (HT19.out.trans t)
  have HN20 := Lib.hid (keepB t HN19.out)
  have HRE20 := Lib.hid (HRE19.out.on t)
  have HMA20 := Lib.hid (HMA19.out.on t)
  clear t HSU19 HOR19 HLI19 HX19 HT19 HN19 HRE19 HMA19
  obtain ⟨d0, d1, d2, -, -, -⟩ := box3 HN20.out
  go_wp2_with fail
  have TA := (Turned.refl (fun _ => False) w20).alloc (.cells #[(.int .i64 2), .bool (exN 2).neg, .string (exN 2).num, .string (exN 2).den, (.int .i64 3), .bool (exN 2).neg, .string (exN 2).num, .string (exN 2).den] 70)
  have z1 := World.alloc_heap_new w20 (.cells #[(.int .i64 2), .bool (exN 2).neg, .string (exN 2).num, .string (exN 2).den, (.int .i64 3), .bool (exN 2).neg, .string (exN 2).num, .string (exN 2).den] 70)
  have h1 := at_block (l := [(⟨2, exN 2⟩ : Or), (⟨3, exN 2⟩ : Or)]) (enc := orderCells) (s := 4) (fun _ => rfl) z1 (Nat.le_refl _) (by decide)
  have HH1 := Lib.hid h1
  have HTA := Lib.hid TA
  clear TA z1 h1
  refine (lSame_any exO _ _ _ _ _ _ _ (HOR20.out.on HTA.out) HH1.out).mono ?_
  rintro e w21 ⟨rfl, t2⟩
  have t := HTA.out.trans t2
  clear d0 d1 d2 t2 HTA HH1
  have HSU21 := Lib.hid (HSU20.out.on t)
  have HOR21 := Lib.hid (HOR20.out.on t)
  have HLI21 := Lib.hid (And.intro (HLI20.out.1.on t) (HLI20.out.2.on t))
  have HX21 := Lib.hid (HX20.out.on t)
  have HT21 := Lib.hid (HT20.out.trans t)
  have HN21 := Lib.hid (keepB t HN20.out)
  have HRE21 := Lib.hid (HRE20.out.on t)
  have HMA21 := Lib.hid (HMA20.out.on t)
  clear t HSU20 HOR20 HLI20 HX20 HT20 HN20 HRE20 HMA20
  obtain ⟨d0, d1, d2, -, -, -⟩ := box3 HN21.out
  go_wp2_with fail
  refine (exAt 1 3 (by decide)).mono ?_
  rintro e w22 ⟨rfl, t⟩
  clear d0 d1 d2
  have HSU22 := Lib.hid (HSU21.out.on t)
  have HOR22 := Lib.hid (HOR21.out.on t)
  have HLI22 := Lib.hid (And.intro (HLI21.out.1.on t) (HLI21.out.2.on t))
  have HX22 := Lib.hid (HX21.out.on t)
  have HT22 := Lib.hid (HT21.out.trans t)
  have HN22 := Lib.hid (keepB t HN21.out)
  have HRE22 := Lib.hid (HRE21.out.on t)
  have HMA22 := Lib.hid (HMA21.out.on t)
  clear t HSU21 HOR21 HLI21 HX21 HT21 HN21 HRE21 HMA21
  obtain ⟨d0, d1, d2, -, -, -⟩ := box3 HN22.out
  go_wp2_with fail
  refine (exAt 3 0 (by decide)).mono ?_
  rintro e w23 ⟨rfl, t⟩
  clear d0 d1 d2
  have HSU23 := Lib.hid (HSU22.out.on t)
  have HOR23 := Lib.hid (HOR22.out.on t)
  have HLI23 := Lib.hid (And.intro (HLI22.out.1.on t) (HLI22.out.2.on t))
  have HX23 := Lib.hid (HX22.out.on t)
  have HT23 := Lib.hid (HT22.out.trans t)
  have HN23 := Lib.hid (keepB t HN22.out)
  have HRE23 := Lib.hid (HRE22.out.on t)
  have HMA23 := Lib.hid (HMA22.out.on t)
  clear t HSU22 HOR22 HLI22 HX22 HT22 HN22 HRE22 HMA22
  obtain ⟨d0, d1, d2, -, -, -⟩ := box3 HN23.out
  go_wp2_with fail
  have TA := (Turned.refl (fun _ => False) w23).alloc (.cells #[(.int .i64 1), .bool (exN 3).neg, .string (exN 3).num, .string (exN 3).den, (.int .i64 3), .bool (exN 0).neg, .string (exN 0).num, .string (exN 0).den] 70)
  have z1 := World.alloc_heap_new w23 (.cells #[(.int .i64 1), .bool (exN 3).neg, .string (exN 3).num, .string (exN 3).den, (.int .i64 3), .bool (exN 0).neg, .string (exN 0).num, .string (exN 0).den] 70)
  have h1 := at_block (l := [(⟨1, exN 3⟩ : Or), (⟨3, exN 0⟩ : Or)]) (enc := orderCells) (s := 4) (fun _ => rfl) z1 (Nat.le_refl _) (by decide)
  have HH1 := Lib.hid h1
  have HTA := Lib.hid TA
  clear TA z1 h1
  refine (lSame_any exO7 _ _ _ _ _ _ _ (HRE23.out.on HTA.out) HH1.out).mono ?_
  rintro e w24 ⟨rfl, t2⟩
  have t := HTA.out.trans t2
  clear d0 d1 d2 t2 HTA HH1
  have HSU24 := Lib.hid (HSU23.out.on t)
  have HOR24 := Lib.hid (HOR23.out.on t)
  have HLI24 := Lib.hid (And.intro (HLI23.out.1.on t) (HLI23.out.2.on t))
  have HX24 := Lib.hid (HX23.out.on t)
  have HT24 := Lib.hid (HT23.out.trans t)
  have HN24 := Lib.hid (keepB t HN23.out)
  have HRE24 := Lib.hid (HRE23.out.on t)
  have HMA24 := Lib.hid (HMA23.out.on t)
  clear t HSU23 HOR23 HLI23 HX23 HT23 HN23 HRE23 HMA23
  obtain ⟨d0, d1, d2, -, -, -⟩ := box3 HN24.out
  go_wp2_with fail
  have hS24 : w24.drew.cell? ⟨B, 0, none⟩ = some (.slice rp 3 rc) ∧ w24.drew.cell? ⟨B, 1, none⟩ = some (.slice lp 3 lc) ∧ w24.drew.cell? ⟨B, 2, none⟩ = some (.slice hp 3 hc) := ⟨cellT (Turned.refl (fun _ => False) w24).drew id d0, cellT (Turned.refl (fun _ => False) w24).drew id d1, cellT (Turned.refl (fun _ => False) w24).drew id d2⟩
  have HD := Lib.hid ((Turned.refl (fun _ => False) w24).drew)
  clear d0 d1 d2
  refine wp_region_plain (S := fun V => V.cell? ⟨B, 0, none⟩ = some (.slice rp 3 rc) ∧ V.cell? ⟨B, 1, none⟩ = some (.slice lp 3 lc) ∧ V.cell? ⟨B, 2, none⟩ = some (.slice hp 3 hc)) (by kernel_rfl) ?_
  refine wpAnyH_take (i := 0) (oi := _) (v := .agg #[.slice rp 3 rc, .slice lp 3 lc, .slice hp 3 hc]) rfl (by kernel_rfl) (by kernel_rfl) (by kernel_rfl) (fun _ _ _ h => h) (Or.inl ⟨by kernel_rfl, fun V hV => ?_⟩) hS24 ?_
  · obtain ⟨a0, a1, a2⟩ := hV
    go_simp
  simp only [List.getElem_toArray, List.getElem_cons_zero, List.getElem_cons_succ, Act.put, List.setIfInBounds_toArray, List.set_cons_zero, List.set_cons_succ]
  refine wpAnyH_take (i := 1) (oi := _) (v := .slice cp 4 cc) rfl (by kernel_rfl) (by kernel_rfl) (by kernel_rfl) (fun _ _ _ h => h) (Or.inl ⟨by kernel_rfl, fun V hV => ?_⟩) hS24 ?_
  · obtain ⟨a0, a1, a2⟩ := hV
    go_simp
  simp only [List.getElem_toArray, List.getElem_cons_zero, List.getElem_cons_succ, Act.put, List.setIfInBounds_toArray, List.set_cons_zero, List.set_cons_succ]
  refine wpAnyH_ready (rs := [2]) (by kernel_rfl) (by simp) ?_
  refine AllReadyH.cons (o := _) rfl (fun K hK => ?_) AllReadyH.nil
  go_simp
  refine (exAt 3 1 (by decide)).mono ?_
  rintro e w25 ⟨rfl, t0⟩
  have t := HD.out.trans t0
  clear t0 HD
  have HSU25 := Lib.hid (HSU24.out.on t)
  have HOR25 := Lib.hid (HOR24.out.on t)
  have HLI25 := Lib.hid (And.intro (HLI24.out.1.on t) (HLI24.out.2.on t))
  have HX25 := Lib.hid (HX24.out.on t)
  have HT25 := Lib.hid (HT24.out.trans t)
  have HN25 := Lib.hid (keepB t HN24.out)
  have HRE25 := Lib.hid (HRE24.out.on t)
  have HMA25 := Lib.hid (HMA24.out.on t)
  clear t HSU24 HOR24 HLI24 HX24 HT24 HN24 HRE24 HMA24
  have hS25 : w25.cell? ⟨B, 0, none⟩ = some (.slice rp 3 rc) ∧ w25.cell? ⟨B, 1, none⟩ = some (.slice lp 3 lc) ∧ w25.cell? ⟨B, 2, none⟩ = some (.slice hp 3 hc) := by
    obtain ⟨d0, d1, d2, -, -, -⟩ := box3 HN25.out
    exact ⟨d0, d1, d2⟩
  refine hK.out _ _ hS25 (fun _ => ?_)
  clear hK hS24
  refine wpAnyH_ready (rs := [3]) (by kernel_rfl) (by simp) ?_
  refine AllReadyH.cons (o := _) rfl (fun K hK => ?_) AllReadyH.nil
  go_simp
  have TA := (Turned.refl (fun _ => False) w25).alloc (.cells #[(.int .i64 3), .bool (exN 1).neg, .string (exN 1).num, .string (exN 1).den] 70)
  have z1 := World.alloc_heap_new w25 (.cells #[(.int .i64 3), .bool (exN 1).neg, .string (exN 1).num, .string (exN 1).den] 70)
  obtain ⟨G26, hG⟩ : ∃ G, w25.heap.size = G := ⟨_, rfl⟩
  obtain ⟨w26, hw⟩ : ∃ w, w = w25.alloc (.cells #[(.int .i64 3), .bool (exN 1).neg, .string (exN 1).num, .string (exN 1).den] 70) := ⟨_, rfl⟩
  rw [← hw] at TA z1 ⊢
  rw [hG] at z1 ⊢
  have HO26 := Lib.hid (at_block (l := [(⟨3, (exN 1)⟩ : Or)]) (enc := orderCells) (s := 4) (fun _ => rfl) z1 (Nat.le_refl _) (show 1 ≤ maxLen by decide))
  have t := TA
  clear TA z1 hw hG
  have HSU26 := Lib.hid (HSU25.out.on t)
  have HOR26 := Lib.hid (HOR25.out.on t)
  have HLI26 := Lib.hid (And.intro (HLI25.out.1.on t) (HLI25.out.2.on t))
  have HX26 := Lib.hid (HX25.out.on t)
  have HT26 := Lib.hid (HT25.out.trans t)
  have HN26 := Lib.hid (keepB t HN25.out)
  have HRE26 := Lib.hid (HRE25.out.on t)
  have HMA26 := Lib.hid (HMA25.out.on t)
  clear t HSU25 HOR25 HLI25 HX25 HT25 HN25 HRE25 HMA25
  have hS26 : w26.cell? ⟨B, 0, none⟩ = some (.slice rp 3 rc) ∧ w26.cell? ⟨B, 1, none⟩ = some (.slice lp 3 lc) ∧ w26.cell? ⟨B, 2, none⟩ = some (.slice hp 3 hc) := by
    obtain ⟨d0, d1, d2, -, -, -⟩ := box3 HN26.out
    exact ⟨d0, d1, d2⟩
  refine hK.out _ _ hS26 (fun _ => ?_)
  clear hK hS25
  refine wpAnyH_ready (rs := [4]) (by kernel_rfl) (by simp) ?_
  refine AllReadyH.cons (o := _) rfl (fun K hK => ?_) AllReadyH.nil
  go_simp
  refine (exDue HX26.out ⟨3, exN 1⟩ _ _ HO26.out ((exN_size (n := 1) (by decide)).mono (by decide)) exDue1).mono ?_
  rintro e w27 ⟨rfl, t⟩
  clear HO26
  have HSU27 := Lib.hid (HSU26.out.on t)
  have HOR27 := Lib.hid (HOR26.out.on t)
  have HLI27 := Lib.hid (And.intro (HLI26.out.1.on t) (HLI26.out.2.on t))
  have HX27 := Lib.hid (HX26.out.on t)
  have HT27 := Lib.hid (HT26.out.trans t)
  have HN27 := Lib.hid (keepB t HN26.out)
  have HRE27 := Lib.hid (HRE26.out.on t)
  have HMA27 := Lib.hid (HMA26.out.on t)
  clear t HSU26 HOR26 HLI26 HX26 HT26 HN26 HRE26 HMA26
  have hS27 : w27.cell? ⟨B, 0, none⟩ = some (.slice rp 3 rc) ∧ w27.cell? ⟨B, 1, none⟩ = some (.slice lp 3 lc) ∧ w27.cell? ⟨B, 2, none⟩ = some (.slice hp 3 hc) := by
    obtain ⟨d0, d1, d2, -, -, -⟩ := box3 HN27.out
    exact ⟨d0, d1, d2⟩
  refine hK.out _ _ hS27 (fun _ => ?_)
  clear hK hS26
  refine wpAnyH_take (i := 5) (oi := _) (v := .bool true) rfl (by kernel_rfl) (by kernel_rfl) (by kernel_rfl) (fun _ _ _ h => h) (Or.inl ⟨by kernel_rfl, fun V hV => ?_⟩) hS27 ?_
  · obtain ⟨a0, a1, a2⟩ := hV
    go_simp
  simp only [List.getElem_toArray, List.getElem_cons_zero, List.getElem_cons_succ, Act.put, List.setIfInBounds_toArray, List.set_cons_zero, List.set_cons_succ]
  refine wpAnyH_take (i := 6) (oi := _) (v := .bool true) rfl (by kernel_rfl) (by kernel_rfl) (by kernel_rfl) (fun _ _ _ h => h) (Or.inl ⟨by kernel_rfl, fun V hV => ?_⟩) hS27 ?_
  · obtain ⟨a0, a1, a2⟩ := hV
    go_simp
  simp only [List.getElem_toArray, List.getElem_cons_zero, List.getElem_cons_succ, Act.put, List.setIfInBounds_toArray, List.set_cons_zero, List.set_cons_succ]
  refine wpAnyH_take (i := 7) (oi := _) (v := .agg #[.slice rp 3 rc, .slice lp 3 lc, .slice hp 3 hc]) rfl (by kernel_rfl) (by kernel_rfl) (by kernel_rfl) (fun _ _ _ h => h) (Or.inl ⟨by kernel_rfl, fun V hV => ?_⟩) hS27 ?_
  · obtain ⟨a0, a1, a2⟩ := hV
    go_simp
  simp only [List.getElem_toArray, List.getElem_cons_zero, List.getElem_cons_succ, Act.put, List.setIfInBounds_toArray, List.set_cons_zero, List.set_cons_succ]
  refine wpAnyH_take (i := 8) (oi := _) (v := .slice cp 4 cc) rfl (by kernel_rfl) (by kernel_rfl) (by kernel_rfl) (fun _ _ _ h => h) (Or.inl ⟨by kernel_rfl, fun V hV => ?_⟩) hS27 ?_
  · obtain ⟨a0, a1, a2⟩ := hV
    go_simp
  simp only [List.getElem_toArray, List.getElem_cons_zero, List.getElem_cons_succ, Act.put, List.setIfInBounds_toArray, List.set_cons_zero, List.set_cons_succ]
  refine wpAnyH_ready (rs := [9]) (by kernel_rfl) (by simp) ?_
  refine AllReadyH.cons (o := _) rfl (fun K hK => ?_) AllReadyH.nil
  go_simp
  refine (lawAt_any 3 5 2 _ (by decide) (by decide) (by decide)).mono ?_
  rintro e w28 ⟨u, hu, rfl, t⟩
  have HU := Lib.hid hu
  clear hu
  have HSU28 := Lib.hid (HSU27.out.on t)
  have HOR28 := Lib.hid (HOR27.out.on t)
  have HLI28 := Lib.hid (And.intro (HLI27.out.1.on t) (HLI27.out.2.on t))
  have HX28 := Lib.hid (HX27.out.on t)
  have HT28 := Lib.hid (HT27.out.trans t)
  have HN28 := Lib.hid (keepB t HN27.out)
  have HRE28 := Lib.hid (HRE27.out.on t)
  have HMA28 := Lib.hid (HMA27.out.on t)
  clear t HSU27 HOR27 HLI27 HX27 HT27 HN27 HRE27 HMA27
  have hS28 : w28.cell? ⟨B, 0, none⟩ = some (.slice rp 3 rc) ∧ w28.cell? ⟨B, 1, none⟩ = some (.slice lp 3 lc) ∧ w28.cell? ⟨B, 2, none⟩ = some (.slice hp 3 hc) := by
    obtain ⟨d0, d1, d2, -, -, -⟩ := box3 HN28.out
    exact ⟨d0, d1, d2⟩
  refine hK.out _ _ hS28 (fun _ => ?_)
  clear hK hS27
  refine wpAnyH_ready (rs := [10]) (by kernel_rfl) (by simp) ?_
  refine AllReadyH.cons (o := _) rfl (fun K hK => ?_) AllReadyH.nil
  go_simp
  have TA := (Turned.refl (fun _ => False) w28).alloc (.cells #[(.int .i64 3), .bool u.neg, .string u.num, .string u.den] 70)
  have z1 := World.alloc_heap_new w28 (.cells #[(.int .i64 3), .bool u.neg, .string u.num, .string u.den] 70)
  obtain ⟨G29, hG⟩ : ∃ G, w28.heap.size = G := ⟨_, rfl⟩
  obtain ⟨w29, hw⟩ : ∃ w, w = w28.alloc (.cells #[(.int .i64 3), .bool u.neg, .string u.num, .string u.den] 70) := ⟨_, rfl⟩
  rw [← hw] at TA z1 ⊢
  rw [hG] at z1 ⊢
  have HO29 := Lib.hid (at_block (l := [(⟨3, u⟩ : Or)]) (enc := orderCells) (s := 4) (fun _ => rfl) z1 (Nat.le_refl _) (show 1 ≤ maxLen by decide))
  have t := TA
  clear TA z1 hw hG
  have HSU29 := Lib.hid (HSU28.out.on t)
  have HOR29 := Lib.hid (HOR28.out.on t)
  have HLI29 := Lib.hid (And.intro (HLI28.out.1.on t) (HLI28.out.2.on t))
  have HX29 := Lib.hid (HX28.out.on t)
  have HT29 := Lib.hid (HT28.out.trans t)
  have HN29 := Lib.hid (keepB t HN28.out)
  have HRE29 := Lib.hid (HRE28.out.on t)
  have HMA29 := Lib.hid (HMA28.out.on t)
  clear t HSU28 HOR28 HLI28 HX28 HT28 HN28 HRE28 HMA28
  have hS29 : w29.cell? ⟨B, 0, none⟩ = some (.slice rp 3 rc) ∧ w29.cell? ⟨B, 1, none⟩ = some (.slice lp 3 lc) ∧ w29.cell? ⟨B, 2, none⟩ = some (.slice hp 3 hc) := by
    obtain ⟨d0, d1, d2, -, -, -⟩ := box3 HN29.out
    exact ⟨d0, d1, d2⟩
  refine hK.out _ _ hS29 (fun _ => ?_)
  clear hK hS28
  refine wpAnyH_ready (rs := [11]) (by kernel_rfl) (by simp) ?_
  refine AllReadyH.cons (o := _) rfl (fun K hK => ?_) AllReadyH.nil
  go_simp
  refine (exDue (v := 0) HX29.out ⟨3, u⟩ _ _ HO29.out (by rw [HU.out]; exact exHalf_size) (by rw [HU.out]; exact exDue2)).mono ?_
  rintro e w30 ⟨rfl, t⟩
  clear HO29
  have HSU30 := Lib.hid (HSU29.out.on t)
  have HOR30 := Lib.hid (HOR29.out.on t)
  have HLI30 := Lib.hid (And.intro (HLI29.out.1.on t) (HLI29.out.2.on t))
  have HX30 := Lib.hid (HX29.out.on t)
  have HT30 := Lib.hid (HT29.out.trans t)
  have HN30 := Lib.hid (keepB t HN29.out)
  have HRE30 := Lib.hid (HRE29.out.on t)
  have HMA30 := Lib.hid (HMA29.out.on t)
  clear t HSU29 HOR29 HLI29 HX29 HT29 HN29 HRE29 HMA29
  have hS30 : w30.cell? ⟨B, 0, none⟩ = some (.slice rp 3 rc) ∧ w30.cell? ⟨B, 1, none⟩ = some (.slice lp 3 lc) ∧ w30.cell? ⟨B, 2, none⟩ = some (.slice hp 3 hc) := by
    obtain ⟨d0, d1, d2, -, -, -⟩ := box3 HN30.out
    exact ⟨d0, d1, d2⟩
  refine hK.out _ _ hS30 (fun _ => ?_)
  clear hK hS29
  refine wpAnyH_take (i := 12) (oi := _) (v := .bool true) rfl (by kernel_rfl) (by kernel_rfl) (by kernel_rfl) (fun _ _ _ h => h) (Or.inl ⟨by kernel_rfl, fun V hV => ?_⟩) hS30 ?_
  · obtain ⟨a0, a1, a2⟩ := hV
    go_simp
  simp only [List.getElem_toArray, List.getElem_cons_zero, List.getElem_cons_succ, Act.put, List.setIfInBounds_toArray, List.set_cons_zero, List.set_cons_succ]
  refine wpAnyH_take (i := 13) (oi := _) (v := .bool true) rfl (by kernel_rfl) (by kernel_rfl) (by kernel_rfl) (fun _ _ _ h => h) (Or.inl ⟨by kernel_rfl, fun V hV => ?_⟩) hS30 ?_
  · obtain ⟨a0, a1, a2⟩ := hV
    go_simp
  simp only [List.getElem_toArray, List.getElem_cons_zero, List.getElem_cons_succ, Act.put, List.setIfInBounds_toArray, List.set_cons_zero, List.set_cons_succ]
  refine wpAnyH_take (i := 14) (oi := _) (v := .bool true) rfl (by kernel_rfl) (by kernel_rfl) (by kernel_rfl) (fun _ _ _ h => h) (Or.inl ⟨by kernel_rfl, fun V hV => ?_⟩) hS30 ?_
  · obtain ⟨a0, a1, a2⟩ := hV
    go_simp
  simp only [List.getElem_toArray, List.getElem_cons_zero, List.getElem_cons_succ, Act.put, List.setIfInBounds_toArray, List.set_cons_zero, List.set_cons_succ]
  refine wpAnyH_done (by kernel_rfl) ?_ _
  unfold OnlyN
  go_wp2_with fail
  have TA := (Turned.refl (fun _ => False) w30).alloc (.cells #[(.int .i64 0)] 3)
  have z1 := World.alloc_heap_new w30 (.cells #[(.int .i64 0)] 3)
  have h1 := at_block (l := ([0] : List Int)) (enc := intCells) (s := 1) (fun _ => rfl) z1 (Nat.le_refl _) (by decide)
  have HH1 := Lib.hid h1
  have HTA := Lib.hid TA
  clear TA z1 h1
  refine (xSameInts_any [0] _ _ _ _ _ _ _ (HSU30.out.on HTA.out) HH1.out).mono ?_
  rintro e w31 ⟨rfl, t2⟩
  have t := HTA.out.trans t2
  clear hS30 t2 HTA HH1
  have HSU31 := Lib.hid (HSU30.out.on t)
  have HOR31 := Lib.hid (HOR30.out.on t)
  have HLI31 := Lib.hid (And.intro (HLI30.out.1.on t) (HLI30.out.2.on t))
  have HX31 := Lib.hid (HX30.out.on t)
  have HT31 := Lib.hid (HT30.out.trans t)
  have HN31 := Lib.hid (keepB t HN30.out)
  have HRE31 := Lib.hid (HRE30.out.on t)
  have HMA31 := Lib.hid (HMA30.out.on t)
  clear t HSU30 HOR30 HLI30 HX30 HT30 HN30 HRE30 HMA30
  obtain ⟨d0, d1, d2, -, -, -⟩ := box3 HN31.out
  go_wp2_with fail
  have TA := (Turned.refl (fun _ => False) w31).alloc (.cells #[(.int .i64 0)] 3)
  have z1 := World.alloc_heap_new w31 (.cells #[(.int .i64 0)] 3)
  have h1 := at_block (l := ([0] : List Int)) (enc := intCells) (s := 1) (fun _ => rfl) z1 (Nat.le_refl _) (by decide)
  have HH1 := Lib.hid h1
  have HTA := Lib.hid TA
  clear TA z1 h1
  refine (xSameInts_any [0] _ _ _ _ _ _ _ (HMA31.out.on HTA.out) HH1.out).mono ?_
  rintro e w32 ⟨rfl, t2⟩
  have t := HTA.out.trans t2
  clear d0 d1 d2 t2 HTA HH1
  have HSU32 := Lib.hid (HSU31.out.on t)
  have HOR32 := Lib.hid (HOR31.out.on t)
  have HLI32 := Lib.hid (And.intro (HLI31.out.1.on t) (HLI31.out.2.on t))
  have HX32 := Lib.hid (HX31.out.on t)
  have HT32 := Lib.hid (HT31.out.trans t)
  have HN32 := Lib.hid (keepB t HN31.out)
  have HRE32 := Lib.hid (HRE31.out.on t)
  have HMA32 := Lib.hid (HMA31.out.on t)
  clear t HSU31 HOR31 HLI31 HX31 HT31 HN31 HRE31 HMA31
  obtain ⟨d0, d1, d2, -, -, -⟩ := box3 HN32.out
  go_wp2_with fail
  go_ret
  exact ⟨rfl, HT32.out⟩
end Go.Proofs.YtanhhdndgkhcfaaGreatDoor
