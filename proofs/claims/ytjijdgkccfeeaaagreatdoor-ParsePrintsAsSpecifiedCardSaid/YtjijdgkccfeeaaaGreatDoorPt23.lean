/- Part 23 of the proof of card: ParRefD, ParRefF. Conditions: those of each theorem. -/
import Derived.Test.YtjijdgkccfeeaaaGreatDoorPt01
import Derived.Test.YtjijdgkccfeeaaaGreatDoorPt11
import Derived.Test.YtjijdgkccfeeaaaGreatDoorPt12
import Derived.Test.YtjijdgkccfeeaaaGreatDoorPt22
set_option maxRecDepth 20000
set_option maxHeartbeats 8000000
namespace Go.Proofs.YtjijdgkccfeeaaaGreatDoor
open Go Go.Proofs Go.RowKit
attribute [local go_sem] Oper.semAt_some
theorem minus_step {g cap : Nat} {ts : List Tok} {f : Nat} (IH : HypG g cap ts f) (m k : Nat) (d : Int) (r : PR Ex) (w : World) (hm : m <= f) (hkl : k < ts.length) (hd0 : 0 <= d) (hd : d <= 30) (hr : runF ts m .neg k d = some r) (h : TQ g cap ts w) :
  Calls Tryz.prog 96 #[.slice (some ⟨g, 0, none⟩) ts.length cap, (.int .i64 ((k : Nat))), .int .i64 d] w (GX w r) := by
 obtain ⟨t, ht⟩ := some_of_lt hkl
 obtain ⟨m, rfl⟩ : ∃ m', m = m' + 1 := by
  cases m with
  | zero => simp [runF] at hr
  | succ m' => exact ⟨m', rfl⟩
 unfold runF at hr
 simp only [ht] at hr
 have S0 := SQ.start h
 have hkl2 : (k : Int) < (ts.length : Int) := by omega
 have hwk : IntKind.i64.wrap ((k : Int) + 1) = (k : Int) + 1 := IntWalk.i64_in _ (by have := h.ok.len; omega)
 have hwd : IntKind.i64.wrap (d + 1) = d + 1 := IntWalk.i64_in _ (by omega)
 by_cases hs : isS t ⟨#[45]⟩ = true
 ·have hk1 := h.ok.sign ht hs
  obtain ⟨u, hu⟩ := some_of_lt hk1
  rw [if_pos hs] at hr
  simp only [hu] at hr
  go_enter Tryz.func96, Tryz.ntmps96
  go_wp2_with fail
  obtain ⟨W1, rb, hW, hb, S1⟩ := SQ.box S0 (.cells #[.int .i64 0, .int .i64 0, .string ⟨#[]⟩, .slice none 0 0, .int .i64 0, .int .i64 0, .int .i64 0] 82)
  rw [<- hW, <- hb]
  clear hW hb S0
  refine (sign_tq S1.out.tq ht _ rfl _).mono ?_
  rintro e W2 ⟨rfl, rfl⟩
  go_wp2_with fail
  have HF := first_tq S1.out.tq hu ((k : Int) + 1) (by simp) (d + 1) false
  cases hfp : firstP u (d + 1) false with
  | some cc =>
   rw [hfp] at hr HF
   cases hr
   have hc := codeP_ne hfp
   refine HF.mono ?_
   rintro e W3 ⟨rfl, rfl⟩
   simp only [codeP]
   have hz2 := (SQ.boxAt S1 0 rfl).1
   obtain ⟨r0, r1, r2, r3, r4, r5, r6⟩ := seven_cells hz2
   have fq := free_of_box hz2
   go_wp2_with fail
   have SB := SQ.put S1 0 rfl (seven_turned _ rb (.int .i64 0) (.int .i64 0) (.string ⟨#[]⟩) (.slice none 0 0) (.int .i64 0) (.int .i64 ((k : Int) + 1)) (.int .i64 cc)) (seven_set hz2)
   refine bodyPost_ret (results_got rfl _ _ rb (.int .i64 0) (.int .i64 0) (.string ⟨#[]⟩) (.slice none 0 0) (.int .i64 0) (.int .i64 ((k : Int) + 1)) (.int .i64 cc) rfl (SQ.boxAt SB 0 rfl).1) rfl ?_
   exact ⟨SB.out.tur, rfl⟩
  | none =>
   rw [hfp] at hr HF
   have hd2 := firstP_le hfp
   clear hfp
   refine HF.mono ?_
   rintro e W3 ⟨rfl, rfl⟩
   simp only [codeP]
   go_wp2_with fail
   rcases PR.then_some hr with ⟨j, cc, h1, rfl⟩ | ⟨x, j, h1, h2⟩
   ·have hcc := (run_fits h.ok _ _ _ _ _ h1).2
    have hc : (cc != 0) = true := by simp; omega
    refine (IH.minus m (k + 1) _ (d + 1) _ _ (by omega) (by simp) (by omega) hd2 h1 S1.out.tq).mono ?_
    rintro e W4 ⟨ht2, rfl⟩
    have S2 := SQ.same S1 ht2
    have hz2 := (SQ.boxAt S2 0 rfl).1
    have hrl := (SQ.boxAt S2 0 rfl).2.2
    obtain ⟨r0, r1, r2, r3, r4, r5, r6⟩ := seven_cells hz2
    have fq := free_of_box hz2
    have S3 := SQ.put S2 0 rfl (seven_turned W4 rb (.int .i64 0) (.int .i64 0) (.string ⟨#[]⟩) (.slice none 0 0) (.int .i64 0) (.int .i64 ((j : Nat))) (.int .i64 cc)) (seven_set hz2)
    obtain ⟨W5, xb, hW5, -, S4⟩ := SQ.box S3 (.cells #[.int .i64 0, .int .i64 0, (.string ⟨#[]⟩), (.slice none 0 0), .int .i64 0, (.int .i64 ((j : Nat))), .int .i64 cc] 82)
    unfold set7 at hW5
    go_wp2_with fail
    rw [<- hW5]
    refine bodyPost_ret (results_got rfl _ _ rb (.int .i64 0) (.int .i64 0) (.string ⟨#[]⟩) (.slice none 0 0) (.int .i64 0) (.int .i64 ((j : Nat))) (.int .i64 cc) rfl (SQ.boxAt S4 1 rfl).1) rfl ?_
    exact ⟨S4.out.tur, rfl⟩
   ·cases h2
    refine (IH.minus m (k + 1) _ (d + 1) _ _ (by omega) (by simp) (by omega) hd2 h1 S1.out.tq).mono ?_
    rintro e W4 ⟨ht2, p, c, rfl, hk⟩
    have S2 := SQ.callK S1 ht2 hk
    clear S1 ht2 hk hr h1
    go_wp2_with fail
    obtain ⟨W5, xb, hW, hb, S7⟩ := SQ.box S2 (.cells #[.int .i64 x.op, .int .i64 x.n, .string x.s, .slice p x.kids.length c, .int .i64 x.at_, (.int .i64 ((j : Nat))), .int .i64 0] 82)
    rw [<- hW, <- hb]
    clear hW hb S2
    have t1 := (S7.out.tq.tok ht).2.1
    obtain ⟨x0, x1, x2, x3, x4, x5, x6⟩ := seven_cells (SQ.boxAt S7 0 rfl).1
    refine region_R (R := fun q V => q < 12 -> (fun V : World => V.cell? ⟨g, k * 4 + 1, none⟩ = some (.int .i64 t.at_) /\ V.cell? ⟨xb, 0, none⟩ = some (.int .i64 x.op) /\ V.cell? ⟨xb, 1, none⟩ = some (.int .i64 x.n) /\ V.cell? ⟨xb, 2, none⟩ = some (.string x.s) /\ V.cell? ⟨xb, 3, none⟩ = some (.slice p x.kids.length c) /\ V.cell? ⟨xb, 4, none⟩ = some (.int .i64 x.at_) /\ V.cell? ⟨xb, 5, none⟩ = some (.int .i64 ((j : Nat)))) V) (by kernel_rfl) ?_
    obtain ⟨Wd, hWd⟩ : ∃ Wd, Wd = W5.drew := ⟨_, rfl⟩
    rw [<- hWd]
    have S8 := SQ.same S7 (Turned.refl _ _).drew
    rw [<- hWd] at S8
    clear hWd S7 t1 x0 x1 x2 x3 x4 x5 x6
    have t1 := (S8.out.tq.tok ht).2.1
    obtain ⟨x0, x1, x2, x3, x4, x5, x6⟩ := seven_cells (SQ.boxAt S8 0 rfl).1
    refine tk (n := 12) 0 (.slice (some ⟨g, 0, none⟩) ts.length cap) rfl (.inl ⟨by rfl, ?_⟩) ⟨t1, x0, x1, x2, x3, x4, x5⟩ ?_
    ·rintro V ⟨v0, v1, v2, v3, v4, v5, v6⟩
     go_simp
    simp only [zz0, zz1, Act.put, zz3, zz4, zz5]
    refine tk (n := 12) 1 (.int .i64 ((k : Nat))) rfl (.inl ⟨by rfl, ?_⟩) ⟨t1, x0, x1, x2, x3, x4, x5⟩ ?_
    ·rintro V ⟨v0, v1, v2, v3, v4, v5, v6⟩
     go_simp
    simp only [zz0, zz1, zz2, Act.put, zz3, zz4, zz5]
    refine tk (n := 12) 2 (.pointer (some ⟨g, k * 4, none⟩)) rfl (.inl ⟨by rfl, ?_⟩) ⟨t1, x0, x1, x2, x3, x4, x5⟩ ?_
    ·rintro V ⟨v0, v1, v2, v3, v4, v5, v6⟩
     go_simp
    simp only [zz0, zz1, zz2, Act.put, zz3, zz4, zz5]
    refine tk (n := 12) 3 (.pointer (some ⟨g, k * 4 + 1, none⟩)) rfl (.inl ⟨by rfl, ?_⟩) ⟨t1, x0, x1, x2, x3, x4, x5⟩ ?_
    ·rintro V ⟨v0, v1, v2, v3, v4, v5, v6⟩
     go_simp
    simp only [zz0, zz1, zz2, Act.put, zz3, zz4, zz5]
    refine tk (n := 12) 4 (.int .i64 t.at_) rfl (.inl ⟨by rfl, ?_⟩) ⟨t1, x0, x1, x2, x3, x4, x5⟩ ?_
    ·rintro V ⟨v0, v1, v2, v3, v4, v5, v6⟩
     go_simp
    simp only [zz0, zz1, zz2, Act.put, zz3, zz4, zz5]
    refine tk (n := 12) 5 (.pointer (some ⟨xb, 0, none⟩)) rfl (.inl ⟨by rfl, ?_⟩) ⟨t1, x0, x1, x2, x3, x4, x5⟩ ?_
    ·rintro V ⟨v0, v1, v2, v3, v4, v5, v6⟩
     go_simp
    simp only [zz0, zz1, zz2, Act.put, zz3, zz4, zz5]
    refine tk (n := 12) 6 (.agg #[.int .i64 x.op, .int .i64 x.n, .string x.s, .slice p x.kids.length c, .int .i64 x.at_]) rfl (.inl ⟨by rfl, ?_⟩) ⟨t1, x0, x1, x2, x3, x4, x5⟩ ?_
    ·rintro V ⟨v0, v1, v2, v3, v4, v5, v6⟩
     go_simp
    simp only [zz0, zz1, zz2, Act.put, zz3, zz4, zz5]
    refine tk (n := 12) 9 (.pointer (some ⟨xb, 5, none⟩)) rfl (.inl ⟨by rfl, ?_⟩) ⟨t1, x0, x1, x2, x3, x4, x5⟩ ?_
    ·rintro V ⟨v0, v1, v2, v3, v4, v5, v6⟩
     go_simp
    simp only [zz0, zz1, zz2, Act.put, zz3, zz4, zz5]
    refine tk (n := 12) 10 (.int .i64 ((j : Nat))) rfl (.inl ⟨by rfl, ?_⟩) ⟨t1, x0, x1, x2, x3, x4, x5⟩ ?_
    ·rintro V ⟨v0, v1, v2, v3, v4, v5, v6⟩
     go_simp
    simp only [zz0, zz1, zz2, Act.put, zz3, zz4, zz5]
    refine wpAnyR_all (rs := [7]) (by kernel_rfl) (by simp) (fun i2 hi2 => ?_)
    obtain rfl : i2 = 7 := by simpa using hi2
    clear hi2
    refine wpOp_plain rfl rfl ?_
    simp only [zz0, zz1, zz2]
    go_simp
    obtain ⟨W10, nb, hW, hb, S9⟩ := SQ.box S8 (.cells #[.int .i64 x.op, .int .i64 x.n, .string x.s, .slice p x.kids.length c, .int .i64 x.at_] 31)
    rw [<- hW, <- hb]
    clear hW hb S8 t1 x0 x1 x2 x3 x4 x5 x6
    have t1 := (S9.out.tq.tok ht).2.1
    obtain ⟨x0, x1, x2, x3, x4, x5, x6⟩ := seven_cells (SQ.boxAt S9 1 rfl).1
    refine ⟨⟨t1, x0, x1, x2, x3, x4, x5⟩, ?_⟩
    refine wpAnyR_all (rs := [8]) (by kernel_rfl) (by simp) (fun i2 hi2 => ?_)
    obtain rfl : i2 = 8 := by simpa using hi2
    clear hi2
    refine wpOp_plain rfl rfl ?_
    simp only [zz0, zz1, zz2]
    go_simp
    refine wpAnyR_all (rs := [11]) (by kernel_rfl) (by simp) (fun i2 hi2 => ?_)
    obtain rfl : i2 = 11 := by simpa using hi2
    clear hi2
    refine wpOp_plain rfl rfl ?_
    simp only [zz0, zz1, zz2]
    go_simp
    have hz2 := (SQ.boxAt S9 2 rfl).1
    obtain ⟨r0, r1, r2, r3, r4, r5, r6⟩ := seven_cells hz2
    have fq := free_of_box hz2
    refine wpAnyR_all (rs := [12]) (by kernel_rfl) (by simp) (fun i2 hi2 => ?_)
    obtain rfl : i2 = 12 := by simpa using hi2
    clear hi2
    refine wpOp_plain rfl rfl ?_
    simp only [zz0, zz1, zz2]
    go_simp
    refine wpAnyR_done (by kernel_rfl) ?_ _
    go_wp2_with fail
    have SA := SQ.adopt S9 [(x, .slice p x.kids.length c)] rfl (by simp) 1
    have SB := SQ.put SA 1 rfl (seven_turned W10 rb (.int .i64 6) (.int .i64 0) (.string ⟨#[]⟩) (.slice (some ⟨nb, 0, none⟩) 1 1) (.int .i64 t.at_) (.int .i64 ((j : Nat))) (.int .i64 0)) (seven_set hz2)
    refine bodyPost_ret (results_got rfl _ _ rb (.int .i64 6) (.int .i64 0) (.string ⟨#[]⟩) (.slice (some ⟨nb, 0, none⟩) 1 1) (.int .i64 t.at_) (.int .i64 ((j : Nat))) (.int .i64 0) rfl (SQ.boxAt SB 1 rfl).1) rfl ?_
    exact ⟨SB.out.tur, some ⟨nb, 0, none⟩, 1, rfl, SQ.kidAt SB 0 rfl⟩
 ·have hs : isS t ⟨#[45]⟩ = false := by simpa using hs
  rw [if_neg (by rw [hs]; decide)] at hr
  go_enter Tryz.func96, Tryz.ntmps96
  go_wp2_with fail
  obtain ⟨W1, rb, hW, hb, S1⟩ := SQ.box S0 (.cells #[.int .i64 0, .int .i64 0, .string ⟨#[]⟩, .slice none 0 0, .int .i64 0, .int .i64 0, .int .i64 0] 82)
  rw [<- hW, <- hb]
  clear hW hb S0
  refine (sign_tq S1.out.tq ht _ rfl _).mono ?_
  rintro e W2 ⟨rfl, rfl⟩
  go_wp2_with fail
  cases r with
  | err j cc =>
   refine (IH.atom m k _ d _ _ (by omega) rfl hd0 hd hr S1.out.tq).mono ?_
   rintro e W3 ⟨ht2, rfl⟩
   have S2 := SQ.same S1 ht2
   have hz2 := (SQ.boxAt S2 0 rfl).1
   obtain ⟨r0, r1, r2, r3, r4, r5, r6⟩ := seven_cells hz2
   have fq := free_of_box hz2
   go_wp2_with fail
   have SB := SQ.put S2 0 rfl (seven_turned _ rb (.int .i64 0) (.int .i64 0) (.string ⟨#[]⟩) (.slice none 0 0) (.int .i64 0) (.int .i64 ((j : Nat))) (.int .i64 cc)) (seven_set hz2)
   refine bodyPost_ret (results_got rfl _ _ rb (.int .i64 0) (.int .i64 0) (.string ⟨#[]⟩) (.slice none 0 0) (.int .i64 0) (.int .i64 ((j : Nat))) (.int .i64 cc) rfl (SQ.boxAt SB 0 rfl).1) rfl ?_
   exact ⟨SB.out.tur, rfl⟩
  | ok x j =>
   refine (IH.atom m k _ d _ _ (by omega) rfl hd0 hd hr S1.out.tq).mono ?_
   rintro e W3 ⟨ht2, p, c, rfl, hk⟩
   have S2 := SQ.callK S1 ht2 hk
   have hz2 := (SQ.boxAt S2 0 rfl).1
   obtain ⟨r0, r1, r2, r3, r4, r5, r6⟩ := seven_cells hz2
   have fq := free_of_box hz2
   go_wp2_with fail
   have SB := SQ.put S2 0 rfl (seven_turned _ rb (.int .i64 x.op) (.int .i64 x.n) (.string x.s) (.slice p x.kids.length c) (.int .i64 x.at_) (.int .i64 ((j : Nat))) (.int .i64 0)) (seven_set hz2)
   refine bodyPost_ret (results_got rfl _ _ rb (.int .i64 x.op) (.int .i64 x.n) (.string x.s) (.slice p x.kids.length c) (.int .i64 x.at_) (.int .i64 ((j : Nat))) (.int .i64 0) rfl (SQ.boxAt SB 0 rfl).1) rfl ?_
   exact ⟨SB.out.tur, p, c, rfl, SQ.kidAt SB 0 rfl⟩
theorem bang_step {g cap : Nat} {ts : List Tok} {f : Nat} (IH : HypG g cap ts f) (m k : Nat) (d : Int) (r : PR Ex) (w : World) (hm : m <= f) (hkl : k < ts.length) (hd0 : 0 <= d) (hd : d <= 30) (hr : runF ts m (.level 3) k d = some r) (h : TQ g cap ts w) :
  Calls Tryz.prog 97 #[.slice (some ⟨g, 0, none⟩) ts.length cap, (.int .i64 ((k : Nat))), .int .i64 d] w (GX w r) := by
 obtain ⟨t, ht⟩ := some_of_lt hkl
 obtain ⟨m, rfl⟩ : ∃ m', m = m' + 1 := by
  cases m with
  | zero => simp [runF] at hr
  | succ m' => exact ⟨m', rfl⟩
 unfold runF at hr
 simp only [ht] at hr
 have S0 := SQ.start h
 have hkl2 : (k : Int) < (ts.length : Int) := by omega
 have hwk : IntKind.i64.wrap ((k : Int) + 1) = (k : Int) + 1 := IntWalk.i64_in _ (by have := h.ok.len; omega)
 have hwd : IntKind.i64.wrap (d + 1) = d + 1 := IntWalk.i64_in _ (by omega)
 rw [if_pos trivial] at hr
 by_cases hs : isS t ⟨#[33]⟩ = true
 ·have hk1 := h.ok.sign ht hs
  obtain ⟨u, hu⟩ := some_of_lt hk1
  rw [if_pos hs] at hr
  simp only [hu] at hr
  go_enter Tryz.func97, Tryz.ntmps97
  go_wp2_with fail
  obtain ⟨W1, rb, hW, hb, S1⟩ := SQ.box S0 (.cells #[.int .i64 0, .int .i64 0, .string ⟨#[]⟩, .slice none 0 0, .int .i64 0, .int .i64 0, .int .i64 0] 82)
  rw [<- hW, <- hb]
  clear hW hb S0
  refine (sign_tq S1.out.tq ht _ rfl _).mono ?_
  rintro e W2 ⟨rfl, rfl⟩
  go_wp2_with fail
  have HF := first_tq S1.out.tq hu ((k : Int) + 1) (by simp) (d + 1) true
  cases hfp : firstP u (d + 1) true with
  | some cc =>
   rw [hfp] at hr HF
   cases hr
   have hc := codeP_ne hfp
   refine HF.mono ?_
   rintro e W3 ⟨rfl, rfl⟩
   simp only [codeP]
   have hz2 := (SQ.boxAt S1 0 rfl).1
   obtain ⟨r0, r1, r2, r3, r4, r5, r6⟩ := seven_cells hz2
   have fq := free_of_box hz2
   go_wp2_with fail
   have SB := SQ.put S1 0 rfl (seven_turned _ rb (.int .i64 0) (.int .i64 0) (.string ⟨#[]⟩) (.slice none 0 0) (.int .i64 0) (.int .i64 ((k : Int) + 1)) (.int .i64 cc)) (seven_set hz2)
   refine bodyPost_ret (results_got rfl _ _ rb (.int .i64 0) (.int .i64 0) (.string ⟨#[]⟩) (.slice none 0 0) (.int .i64 0) (.int .i64 ((k : Int) + 1)) (.int .i64 cc) rfl (SQ.boxAt SB 0 rfl).1) rfl ?_
   exact ⟨SB.out.tur, rfl⟩
  | none =>
   rw [hfp] at hr HF
   have hd2 := firstP_le hfp
   clear hfp
   refine HF.mono ?_
   rintro e W3 ⟨rfl, rfl⟩
   simp only [codeP]
   go_wp2_with fail
   rcases PR.then_some hr with ⟨j, cc, h1, rfl⟩ | ⟨x, j, h1, h2⟩
   ·have hcc := (run_fits h.ok _ _ _ _ _ h1).2
    have hc : (cc != 0) = true := by simp; omega
    refine (IH.bang m (k + 1) _ (d + 1) _ _ (by omega) (by simp) (by omega) hd2 h1 S1.out.tq).mono ?_
    rintro e W4 ⟨ht2, rfl⟩
    have S2 := SQ.same S1 ht2
    have hz2 := (SQ.boxAt S2 0 rfl).1
    have hrl := (SQ.boxAt S2 0 rfl).2.2
    obtain ⟨r0, r1, r2, r3, r4, r5, r6⟩ := seven_cells hz2
    have fq := free_of_box hz2
    have S3 := SQ.put S2 0 rfl (seven_turned W4 rb (.int .i64 0) (.int .i64 0) (.string ⟨#[]⟩) (.slice none 0 0) (.int .i64 0) (.int .i64 ((j : Nat))) (.int .i64 cc)) (seven_set hz2)
    obtain ⟨W5, xb, hW5, -, S4⟩ := SQ.box S3 (.cells #[.int .i64 0, .int .i64 0, (.string ⟨#[]⟩), (.slice none 0 0), .int .i64 0, (.int .i64 ((j : Nat))), .int .i64 cc] 82)
    unfold set7 at hW5
    go_wp2_with fail
    rw [<- hW5]
    refine bodyPost_ret (results_got rfl _ _ rb (.int .i64 0) (.int .i64 0) (.string ⟨#[]⟩) (.slice none 0 0) (.int .i64 0) (.int .i64 ((j : Nat))) (.int .i64 cc) rfl (SQ.boxAt S4 1 rfl).1) rfl ?_
    exact ⟨S4.out.tur, rfl⟩
   ·cases h2
    refine (IH.bang m (k + 1) _ (d + 1) _ _ (by omega) (by simp) (by omega) hd2 h1 S1.out.tq).mono ?_
    rintro e W4 ⟨ht2, p, c, rfl, hk⟩
    have S2 := SQ.callK S1 ht2 hk
    clear S1 ht2 hk hr h1
    go_wp2_with fail
    obtain ⟨W5, xb, hW, hb, S7⟩ := SQ.box S2 (.cells #[.int .i64 x.op, .int .i64 x.n, .string x.s, .slice p x.kids.length c, .int .i64 x.at_, (.int .i64 ((j : Nat))), .int .i64 0] 82)
    rw [<- hW, <- hb]
    clear hW hb S2
    have t1 := (S7.out.tq.tok ht).2.1
    obtain ⟨x0, x1, x2, x3, x4, x5, x6⟩ := seven_cells (SQ.boxAt S7 0 rfl).1
    refine region_R (R := fun q V => q < 12 -> (fun V : World => V.cell? ⟨g, k * 4 + 1, none⟩ = some (.int .i64 t.at_) /\ V.cell? ⟨xb, 0, none⟩ = some (.int .i64 x.op) /\ V.cell? ⟨xb, 1, none⟩ = some (.int .i64 x.n) /\ V.cell? ⟨xb, 2, none⟩ = some (.string x.s) /\ V.cell? ⟨xb, 3, none⟩ = some (.slice p x.kids.length c) /\ V.cell? ⟨xb, 4, none⟩ = some (.int .i64 x.at_) /\ V.cell? ⟨xb, 5, none⟩ = some (.int .i64 ((j : Nat)))) V) (by kernel_rfl) ?_
    obtain ⟨Wd, hWd⟩ : ∃ Wd, Wd = W5.drew := ⟨_, rfl⟩
    rw [<- hWd]
    have S8 := SQ.same S7 (Turned.refl _ _).drew
    rw [<- hWd] at S8
    clear hWd S7 t1 x0 x1 x2 x3 x4 x5 x6
    have t1 := (S8.out.tq.tok ht).2.1
    obtain ⟨x0, x1, x2, x3, x4, x5, x6⟩ := seven_cells (SQ.boxAt S8 0 rfl).1
    refine tk (n := 12) 0 (.slice (some ⟨g, 0, none⟩) ts.length cap) rfl (.inl ⟨by rfl, ?_⟩) ⟨t1, x0, x1, x2, x3, x4, x5⟩ ?_
    ·rintro V ⟨v0, v1, v2, v3, v4, v5, v6⟩
     go_simp
    simp only [zz0, zz1, Act.put, zz3, zz4, zz5]
    refine tk (n := 12) 1 (.int .i64 ((k : Nat))) rfl (.inl ⟨by rfl, ?_⟩) ⟨t1, x0, x1, x2, x3, x4, x5⟩ ?_
    ·rintro V ⟨v0, v1, v2, v3, v4, v5, v6⟩
     go_simp
    simp only [zz0, zz1, zz2, Act.put, zz3, zz4, zz5]
    refine tk (n := 12) 2 (.pointer (some ⟨g, k * 4, none⟩)) rfl (.inl ⟨by rfl, ?_⟩) ⟨t1, x0, x1, x2, x3, x4, x5⟩ ?_
    ·rintro V ⟨v0, v1, v2, v3, v4, v5, v6⟩
     go_simp
    simp only [zz0, zz1, zz2, Act.put, zz3, zz4, zz5]
    refine tk (n := 12) 3 (.pointer (some ⟨g, k * 4 + 1, none⟩)) rfl (.inl ⟨by rfl, ?_⟩) ⟨t1, x0, x1, x2, x3, x4, x5⟩ ?_
    ·rintro V ⟨v0, v1, v2, v3, v4, v5, v6⟩
     go_simp
    simp only [zz0, zz1, zz2, Act.put, zz3, zz4, zz5]
    refine tk (n := 12) 4 (.int .i64 t.at_) rfl (.inl ⟨by rfl, ?_⟩) ⟨t1, x0, x1, x2, x3, x4, x5⟩ ?_
    ·rintro V ⟨v0, v1, v2, v3, v4, v5, v6⟩
     go_simp
    simp only [zz0, zz1, zz2, Act.put, zz3, zz4, zz5]
    refine tk (n := 12) 5 (.pointer (some ⟨xb, 0, none⟩)) rfl (.inl ⟨by rfl, ?_⟩) ⟨t1, x0, x1, x2, x3, x4, x5⟩ ?_
    ·rintro V ⟨v0, v1, v2, v3, v4, v5, v6⟩
     go_simp
    simp only [zz0, zz1, zz2, Act.put, zz3, zz4, zz5]
    refine tk (n := 12) 6 (.agg #[.int .i64 x.op, .int .i64 x.n, .string x.s, .slice p x.kids.length c, .int .i64 x.at_]) rfl (.inl ⟨by rfl, ?_⟩) ⟨t1, x0, x1, x2, x3, x4, x5⟩ ?_
    ·rintro V ⟨v0, v1, v2, v3, v4, v5, v6⟩
     go_simp
    simp only [zz0, zz1, zz2, Act.put, zz3, zz4, zz5]
    refine tk (n := 12) 9 (.pointer (some ⟨xb, 5, none⟩)) rfl (.inl ⟨by rfl, ?_⟩) ⟨t1, x0, x1, x2, x3, x4, x5⟩ ?_
    ·rintro V ⟨v0, v1, v2, v3, v4, v5, v6⟩
     go_simp
    simp only [zz0, zz1, zz2, Act.put, zz3, zz4, zz5]
    refine tk (n := 12) 10 (.int .i64 ((j : Nat))) rfl (.inl ⟨by rfl, ?_⟩) ⟨t1, x0, x1, x2, x3, x4, x5⟩ ?_
    ·rintro V ⟨v0, v1, v2, v3, v4, v5, v6⟩
     go_simp
    simp only [zz0, zz1, zz2, Act.put, zz3, zz4, zz5]
    refine wpAnyR_all (rs := [7]) (by kernel_rfl) (by simp) (fun i2 hi2 => ?_)
    obtain rfl : i2 = 7 := by simpa using hi2
    clear hi2
    refine wpOp_plain rfl rfl ?_
    simp only [zz0, zz1, zz2]
    go_simp
    obtain ⟨W10, nb, hW, hb, S9⟩ := SQ.box S8 (.cells #[.int .i64 x.op, .int .i64 x.n, .string x.s, .slice p x.kids.length c, .int .i64 x.at_] 31)
    rw [<- hW, <- hb]
    clear hW hb S8 t1 x0 x1 x2 x3 x4 x5 x6
    have t1 := (S9.out.tq.tok ht).2.1
    obtain ⟨x0, x1, x2, x3, x4, x5, x6⟩ := seven_cells (SQ.boxAt S9 1 rfl).1
    refine ⟨⟨t1, x0, x1, x2, x3, x4, x5⟩, ?_⟩
    refine wpAnyR_all (rs := [8]) (by kernel_rfl) (by simp) (fun i2 hi2 => ?_)
    obtain rfl : i2 = 8 := by simpa using hi2
    clear hi2
    refine wpOp_plain rfl rfl ?_
    simp only [zz0, zz1, zz2]
    go_simp
    refine wpAnyR_all (rs := [11]) (by kernel_rfl) (by simp) (fun i2 hi2 => ?_)
    obtain rfl : i2 = 11 := by simpa using hi2
    clear hi2
    refine wpOp_plain rfl rfl ?_
    simp only [zz0, zz1, zz2]
    go_simp
    have hz2 := (SQ.boxAt S9 2 rfl).1
    obtain ⟨r0, r1, r2, r3, r4, r5, r6⟩ := seven_cells hz2
    have fq := free_of_box hz2
    refine wpAnyR_all (rs := [12]) (by kernel_rfl) (by simp) (fun i2 hi2 => ?_)
    obtain rfl : i2 = 12 := by simpa using hi2
    clear hi2
    refine wpOp_plain rfl rfl ?_
    simp only [zz0, zz1, zz2]
    go_simp
    refine wpAnyR_done (by kernel_rfl) ?_ _
    go_wp2_with fail
    have SA := SQ.adopt S9 [(x, .slice p x.kids.length c)] rfl (by simp) 1
    have SB := SQ.put SA 1 rfl (seven_turned W10 rb (.int .i64 5) (.int .i64 0) (.string ⟨#[]⟩) (.slice (some ⟨nb, 0, none⟩) 1 1) (.int .i64 t.at_) (.int .i64 ((j : Nat))) (.int .i64 0)) (seven_set hz2)
    refine bodyPost_ret (results_got rfl _ _ rb (.int .i64 5) (.int .i64 0) (.string ⟨#[]⟩) (.slice (some ⟨nb, 0, none⟩) 1 1) (.int .i64 t.at_) (.int .i64 ((j : Nat))) (.int .i64 0) rfl (SQ.boxAt SB 1 rfl).1) rfl ?_
    exact ⟨SB.out.tur, some ⟨nb, 0, none⟩, 1, rfl, SQ.kidAt SB 0 rfl⟩
 ·have hs : isS t ⟨#[33]⟩ = false := by simpa using hs
  rw [if_neg (by rw [hs]; decide)] at hr
  go_enter Tryz.func97, Tryz.ntmps97
  go_wp2_with fail
  obtain ⟨W1, rb, hW, hb, S1⟩ := SQ.box S0 (.cells #[.int .i64 0, .int .i64 0, .string ⟨#[]⟩, .slice none 0 0, .int .i64 0, .int .i64 0, .int .i64 0] 82)
  rw [<- hW, <- hb]
  clear hW hb S0
  refine (sign_tq S1.out.tq ht _ rfl _).mono ?_
  rintro e W2 ⟨rfl, rfl⟩
  go_wp2_with fail
  cases r with
  | err j cc =>
   refine (IH.binary m 4 k _ 4 d _ _ (by omega) rfl rfl (by omega) (by omega) hd0 hd hr S1.out.tq).mono ?_
   rintro e W3 ⟨ht2, rfl⟩
   have S2 := SQ.same S1 ht2
   have hz2 := (SQ.boxAt S2 0 rfl).1
   obtain ⟨r0, r1, r2, r3, r4, r5, r6⟩ := seven_cells hz2
   have fq := free_of_box hz2
   go_wp2_with fail
   have SB := SQ.put S2 0 rfl (seven_turned _ rb (.int .i64 0) (.int .i64 0) (.string ⟨#[]⟩) (.slice none 0 0) (.int .i64 0) (.int .i64 ((j : Nat))) (.int .i64 cc)) (seven_set hz2)
   refine bodyPost_ret (results_got rfl _ _ rb (.int .i64 0) (.int .i64 0) (.string ⟨#[]⟩) (.slice none 0 0) (.int .i64 0) (.int .i64 ((j : Nat))) (.int .i64 cc) rfl (SQ.boxAt SB 0 rfl).1) rfl ?_
   exact ⟨SB.out.tur, rfl⟩
  | ok x j =>
   refine (IH.binary m 4 k _ 4 d _ _ (by omega) rfl rfl (by omega) (by omega) hd0 hd hr S1.out.tq).mono ?_
   rintro e W3 ⟨ht2, p, c, rfl, hk⟩
   have S2 := SQ.callK S1 ht2 hk
   have hz2 := (SQ.boxAt S2 0 rfl).1
   obtain ⟨r0, r1, r2, r3, r4, r5, r6⟩ := seven_cells hz2
   have fq := free_of_box hz2
   go_wp2_with fail
   have SB := SQ.put S2 0 rfl (seven_turned _ rb (.int .i64 x.op) (.int .i64 x.n) (.string x.s) (.slice p x.kids.length c) (.int .i64 x.at_) (.int .i64 ((j : Nat))) (.int .i64 0)) (seven_set hz2)
   refine bodyPost_ret (results_got rfl _ _ rb (.int .i64 x.op) (.int .i64 x.n) (.string x.s) (.slice p x.kids.length c) (.int .i64 x.at_) (.int .i64 ((j : Nat))) (.int .i64 0) rfl (SQ.boxAt SB 0 rfl).1) rfl ?_
   exact ⟨SB.out.tur, p, c, rfl, SQ.kidAt SB 0 rfl⟩
structure LQ (g cap : Nat) (ts : List Tok) (f : Nat) (w : World) (n : Nat) (d : Int) (r : PR Ex) (xb rb : Nat) (x : Ex) (px : Option Addr) (cx j m : Nat) (wr : World) : Prop where
 sq : Hid (SQ g cap ts w wr [(xb, .cells #[.int .i64 x.op, .int .i64 x.n, .string x.s, .slice px x.kids.length cx, .int .i64 x.at_, (.int .i64 ((j : Nat))), .int .i64 0] 82), (rb, .cells #[.int .i64 0, .int .i64 0, .string ⟨#[]⟩, .slice none 0 0, .int .i64 0, .int .i64 0, .int .i64 0] 82)] [(x.kids, .slice px x.kids.length cx)])
 lt : j < ts.length
 fuel : m <= f
 eq : runF ts m (.loop n x) j d = some r
theorem lvl_none {u : Tok} {n : Nat} (hn : 1 <= n) (h : opAt n u = none) : (lvlOf u).1 ≠ n := by
 intro he
 have := opAt_lvl u n hn
 rw [h, if_pos he] at this
 cases this
theorem lvl_some {u : Tok} {n : Nat} {op : Int} (hn : 1 <= n) (h : opAt n u = some op) : (lvlOf u).1 = n /\ (lvlOf u).2 = op := by
 have := opAt_lvl u n hn
 rw [h] at this
 split at this
 ·rename_i he; cases this; exact ⟨he, rfl⟩
 ·cases this
theorem binary_loop {g cap : Nat} {ts : List Tok} {f : Nat} (IH : HypG g cap ts f) (m n k : Nat) (d : Int) (r : PR Ex) (w : World) (hm : m <= f) (hkl : k < ts.length) (h3 : n ≠ 3) (h7 : n ≠ 7) (hn1 : 1 <= n) (hn7 : n <= 7) (hd0 : 0 <= d) (hd : d <= 30) (hr : runF ts m (.level n) k d = some r) (h : TQ g cap ts w) (y : Int) (hy : y = n) :
  Calls Tryz.prog 65 #[.slice (some ⟨g, 0, none⟩) ts.length cap, (.int .i64 ((k : Nat))), .int .i64 y, .int .i64 d] w (GX w r) := by
 obtain ⟨t, ht⟩ := some_of_lt hkl
 obtain ⟨m, rfl⟩ : ∃ m', m = m' + 1 := by
  cases m with
  | zero => simp [runF] at hr
  | succ m' => exact ⟨m', rfl⟩
 unfold runF at hr
 simp only [ht] at hr
 rw [if_neg h3, if_neg h7] at hr
 have hy6 : ¬ 6 < y := by omega
 have by3 : (y == 3) = false := by simp; omega
 have hy1 : 1 <= y := by omega
 have hy7 : y <= 6 := by omega
 have hwy : IntKind.i64.wrap (y + 1) = y + 1 := IntWalk.i64_in _ (by omega)
 have HY := Lib.hid hy
 clear hy
 have S0 := SQ.start h
 go_enter Tryz.func65, Tryz.ntmps65
 go_wp2_with fail
 obtain ⟨W1, rb, hW, hb, S1⟩ := SQ.box S0 (.cells #[.int .i64 0, .int .i64 0, .string ⟨#[]⟩, .slice none 0 0, .int .i64 0, .int .i64 0, .int .i64 0] 82)
 rw [<- hW, <- hb]
 clear hW hb S0
 rcases PR.then_some hr with ⟨j, cc, h1, rfl⟩ | ⟨x, j, h1, h2⟩
 ·have hcc := (run_fits h.ok _ _ _ _ _ h1).2
  have hc : (cc != 0) = true := by simp; omega
  have hc2 : (cc == 0) = false := by simp; omega
  refine (IH.binary m (n + 1) k _ (y + 1) d _ _ (by omega) rfl (by have := HY.out; omega) (by omega) (by omega) hd0 hd h1 S1.out.tq).mono ?_
  rintro e W4 ⟨ht2, rfl⟩
  have S2 := SQ.same S1 ht2
  go_wp2_with fail
  obtain ⟨W5, xb, hW, hb, S3⟩ := SQ.box S2 (.cells #[.int .i64 0, .int .i64 0, .string ⟨#[]⟩, .slice none 0 0, .int .i64 0, (.int .i64 ((j : Nat))), .int .i64 cc] 82)
  rw [<- hW, <- hb]
  clear hW hb S2
  go_loopw [10] (fun _ wr => W5 = wr) (fun _ _ => 0)
  case atStart => rfl
  case round =>
   subst hrel
   obtain ⟨x0, x1, x2, x3, x4, x5, x6⟩ := seven_cells (SQ.boxAt S3 0 rfl).1
   have hz2 := (SQ.boxAt S3 1 rfl).1
   obtain ⟨r0, r1, r2, r3, r4, r5, r6⟩ := seven_cells hz2
   have fq := free_of_box hz2
   go_wp2_with fail
   have SB := SQ.put S3 1 rfl (seven_turned _ rb (.int .i64 0) (.int .i64 0) (.string ⟨#[]⟩) (.slice none 0 0) (.int .i64 0) (.int .i64 ((j : Nat))) (.int .i64 cc)) (seven_set hz2)
   refine bodyPost_ret (results_got rfl _ _ rb (.int .i64 0) (.int .i64 0) (.string ⟨#[]⟩) (.slice none 0 0) (.int .i64 0) (.int .i64 ((j : Nat))) (.int .i64 cc) rfl (SQ.boxAt SB 1 rfl).1) rfl ?_
   exact ⟨SB.out.tur, rfl⟩
 have hjl := (run_fits h.ok _ _ _ _ _ h1).2
 refine (IH.binary m (n + 1) k _ (y + 1) d _ _ (by omega) rfl (by have := HY.out; omega) (by omega) (by omega) hd0 hd h1 S1.out.tq).mono ?_
 rintro e W4 ⟨ht2, px, cx, rfl, hk⟩
 have S2 := SQ.callK S1 ht2 hk
 clear S1 ht2 hk hr
 go_wp2_with fail
 obtain ⟨W5, xb, hW, hb, S3⟩ := SQ.box S2 (.cells #[.int .i64 x.op, .int .i64 x.n, .string x.s, .slice px x.kids.length cx, .int .i64 x.at_, (.int .i64 ((j : Nat))), .int .i64 0] 82)
 rw [<- hW, <- hb]
 clear hW hb S2
 go_loopw [10] (fun _ wr => ∃ (x : Ex) (px : Option Addr) (cx j m2 : Nat), Hid (LQ g cap ts f w n d r xb rb x px cx j m2 wr)) (fun _ wr => ts.length - (intOf ((wr.cell? ⟨xb, 5, none⟩).getD undef)).toNat)
 case atStart => exact ⟨x, px, cx, j, m, Lib.hid ⟨S3, hjl, by omega, h2⟩⟩
 case round =>
  clear h2 h1 S3 hjl
  obtain ⟨x, px, cx, j, m2, HL⟩ := hrel
  have S4 := HL.out.sq
  have hjl := HL.out.lt
  obtain ⟨u, hu⟩ := some_of_lt hjl
  obtain ⟨m3, rfl, hcase⟩ := loop_eq HL.out.eq hu
  have hm3 : m3 < f := by have := HL.out.fuel; omega
  clear HL
  obtain ⟨x0, x1, x2, x3, x4, x5, x6⟩ := seven_cells (SQ.boxAt S4 0 rfl).1
  have HM : Hid (ts.length - (intOf ((wr.cell? ⟨xb, 5, none⟩).getD undef)).toNat = ts.length - j) := by
   show _ = _
   rw [x5]; rfl
  have hwj : IntKind.i64.wrap ((j : Int) + 1) = (j : Int) + 1 := IntWalk.i64_in _ (by have := h.ok.len; omega)
  go_wp2_with fail
  refine (level_tq S4.out.tq hu _ rfl).mono ?_
  rintro e W7 ⟨rfl, ht2⟩
  have S5 := SQ.same S4 ht2
  clear S4 ht2 x0 x1 x2 x3 x4 x5 x6
  rcases hcase with ⟨ho, rfl⟩ | ⟨op, ho, h4⟩
  ·have bl : ((lvlOf u).1 != y) = true := by have := lvl_none hn1 ho; have := HY.out; simp; omega
   have bl2 : ((lvlOf u).1 == y) = false := by have := lvl_none hn1 ho; have := HY.out; simp; omega
   generalize lvlOf u = lv at bl bl2 ⊢
   obtain ⟨x0, x1, x2, x3, x4, x5, x6⟩ := seven_cells (SQ.boxAt S5 0 rfl).1
   have hxl := (SQ.boxAt S5 0 rfl).2.2
   have hz2 := (SQ.boxAt S5 1 rfl).1
   have hrl := (SQ.boxAt S5 1 rfl).2.2
   obtain ⟨r0, r1, r2, r3, r4, r5, r6⟩ := seven_cells hz2
   have fq := free_of_box hz2
   have S6 := SQ.put S5 1 rfl (seven_turned _ rb (.int .i64 x.op) (.int .i64 x.n) (.string x.s) (.slice px x.kids.length cx) (.int .i64 x.at_) (.int .i64 ((j : Nat))) (.int .i64 0)) (seven_set hz2)
   obtain ⟨W8, ob, hW8, -, S7⟩ := SQ.box S6 (.cells #[.int .i64 lv.1, .int .i64 lv.2] 152)
   unfold set7 at hW8
   have HW8 := Lib.hid hW8
   clear hW8
   go_wp2_with fail
   rw [<- HW8.out]
   refine bodyPost_ret (results_got rfl _ _ rb (.int .i64 x.op) (.int .i64 x.n) (.string x.s) (.slice px x.kids.length cx) (.int .i64 x.at_) (.int .i64 ((j : Nat))) (.int .i64 0) rfl (SQ.boxAt S7 2 rfl).1) rfl ?_
   exact ⟨S7.out.tur, px, cx, rfl, SQ.kidAt S7 0 rfl⟩
  ·obtain ⟨l1, l2⟩ := lvl_some hn1 ho
   rw [l1, l2]
   have hsu := (opAt_isS ho).elim fun s hs => h.ok.sign hu hs
   have hyn := HY.out
   rw [<- hyn]
   clear hyn l1 l2 ho
   obtain ⟨x0, x1, x2, x3, x4, x5, x6⟩ := seven_cells (SQ.boxAt S5 0 rfl).1
   have hxl := (SQ.boxAt S5 0 rfl).2.2
   go_wp2_with fail
   obtain ⟨W8, ob, hW8, hb8, S6⟩ := SQ.box S5 (.cells #[.int .i64 y, .int .i64 op] 152)
   rw [<- hW8, <- hb8]
   clear hW8 hb8 S5 x0 x1 x2 x3 x4 x5 x6 hxl
   rcases PR.then_some h4 with ⟨j3, cc, h5, rfl⟩ | ⟨z, j3, h5, h6⟩
   ·have hcc := (run_fits h.ok _ _ _ _ _ h5).2
    have hc : (cc != 0) = true := by simp; omega
    refine (IH.binary m3 (n + 1) (j + 1) _ (y + 1) d _ _ (by omega) (by simp) (by have := HY.out; omega) (by omega) (by omega) hd0 hd h5 S6.out.tq).mono ?_
    rintro e W9 ⟨ht2, rfl⟩
    have S2 := SQ.same S6 ht2
    have hz2 := (SQ.boxAt S2 2 rfl).1
    have hrl := (SQ.boxAt S2 2 rfl).2.2
    obtain ⟨r0, r1, r2, r3, r4, r5, r6⟩ := seven_cells hz2
    have fq := free_of_box hz2
    have S3e := SQ.put S2 2 rfl (seven_turned _ rb (.int .i64 0) (.int .i64 0) (.string ⟨#[]⟩) (.slice none 0 0) (.int .i64 0) (.int .i64 ((j3 : Nat))) (.int .i64 cc)) (seven_set hz2)
    obtain ⟨W5e, xbe, hW5e, -, S4e⟩ := SQ.box S3e (.cells #[.int .i64 0, .int .i64 0, .string ⟨#[]⟩, .slice none 0 0, .int .i64 0, (.int .i64 ((j3 : Nat))), .int .i64 cc] 82)
    unfold set7 at hW5e
    go_wp2_with fail
    rw [<- hW5e]
    refine bodyPost_ret (results_got rfl _ _ rb (.int .i64 0) (.int .i64 0) (.string ⟨#[]⟩) (.slice none 0 0) (.int .i64 0) (.int .i64 ((j3 : Nat))) (.int .i64 cc) rfl (SQ.boxAt S4e 3 rfl).1) rfl ?_
    exact ⟨S4e.out.tur, rfl⟩
   have hj3 : j + 1 <= j3 /\ j3 < ts.length := run_fits h.ok _ _ _ _ _ h5
   refine (IH.binary m3 (n + 1) (j + 1) _ (y + 1) d _ _ (by omega) (by simp) (by have := HY.out; omega) (by omega) (by omega) hd0 hd h5 S6.out.tq).mono ?_
   rintro e W9 ⟨ht2, pz, cz, rfl, hk⟩
   have S7 := SQ.callK S6 ht2 hk
   clear S6 ht2 hk h4
   obtain ⟨q0, q1⟩ : W9.cell? ⟨ob, 0, none⟩ = some (.int .i64 y) /\ W9.cell? ⟨ob, 1, none⟩ = some (.int .i64 op) := by
    have := (SQ.boxAt S7 0 rfl).1
    simp [World.cell?, this]
   have hol := (SQ.boxAt S7 0 rfl).2.2
   have hzx := (SQ.boxAt S7 1 rfl).1
   have hxl := (SQ.boxAt S7 1 rfl).2.2
   obtain ⟨x0, x1, x2, x3, x4, x5, x6⟩ := seven_cells hzx
   have fx := free_of_box hzx
   have S8 := SQ.put S7 1 rfl (seven_turned W9 xb (.int .i64 op) (.int .i64 0) (.string ⟨#[]⟩) (.slice (some ⟨W9.heap.size + 1, 0, none⟩) 2 2) (.int .i64 x.at_) (.int .i64 ((j3 : Nat))) (.int .i64 0)) (seven_set hzx)
   by_cases h4n : n = 4
   ·have b4 : (y == 4) = true := by have := HY.out; simp; omega
    have by4 : Hid (y = 4) := Lib.hid (by have := HY.out; omega)
    rw [if_pos h4n] at h6
    cases h6
    have hzr := (SQ.boxAt S7 2 rfl).1
    have hrl := (SQ.boxAt S7 2 rfl).2.2
    obtain ⟨r0, r1, r2, r3, r4, r5, r6⟩ := seven_cells hzr
    have fr := free_of_box hzr
    have hne1 : rb ≠ xb := dist_ne S7.out.dist (i := 1) (j := 2) rfl rfl (by decide)
    have hne2 : xb ≠ rb := fun h => hne1 h.symm
    have S9 := SQ.put S8 2 rfl (seven_turned _ rb (.int .i64 op) (.int .i64 0) (.string ⟨#[]⟩) (.slice (some ⟨W9.heap.size + 1, 0, none⟩) 2 2) (.int .i64 x.at_) (.int .i64 ((j3 : Nat))) (.int .i64 0)) (seven_set (SQ.boxAt S8 2 rfl).1)
    obtain ⟨W11, yb, hW11, hb11, SA⟩ := SQ.box S9 (.cells #[.int .i64 z.op, .int .i64 z.n, .string z.s, .slice pz z.kids.length cz, .int .i64 z.at_, (.int .i64 ((j3 : Nat))), .int .i64 0] 82)
    obtain ⟨W12, nb, hW12, hb12, SB⟩ := SQ.box SA (.cells #[.int .i64 x.op, .int .i64 x.n, .string x.s, .slice px x.kids.length cx, .int .i64 x.at_, .int .i64 z.op, .int .i64 z.n, .string z.s, .slice pz z.kids.length cz, .int .i64 z.at_] 31)
    have e12 : Hid (nb = W9.heap.size + 1) := Lib.hid (by rw [hb12, hW11]; simp [set7])
    unfold set7 at hW11
    have HW11 := Lib.hid hW11
    have HW12 := Lib.hid hW12
    clear hW11 hW12 hb11 hb12
    go_wp2_with fail
    rw [<- HW11.out, <- HW12.out]
    have SC := SQ.adopt SB [(x, .slice px x.kids.length cx), (z, .slice pz z.kids.length cz)] rfl (by simp) 2
    refine bodyPost_ret (results_got rfl _ _ rb (.int .i64 op) (.int .i64 0) (.string ⟨#[]⟩) (.slice (some ⟨W9.heap.size + 1, 0, none⟩) 2 2) (.int .i64 x.at_) (.int .i64 ((j3 : Nat))) (.int .i64 0) rfl (SQ.boxAt SB 4 rfl).1) rfl ?_
    exact ⟨SC.out.tur, some ⟨W9.heap.size + 1, 0, none⟩, 2, rfl, by rw [<- e12.out]; exact SQ.kidAt SC 0 rfl⟩
   ·have b4 : (y == 4) = false := by have := HY.out; simp; omega
    rw [if_neg h4n] at h6
    obtain ⟨W11, yb, hW11, hb11, SA⟩ := SQ.box S8 (.cells #[.int .i64 z.op, .int .i64 z.n, .string z.s, .slice pz z.kids.length cz, .int .i64 z.at_, (.int .i64 ((j3 : Nat))), .int .i64 0] 82)
    obtain ⟨W12, nb, hW12, hb12, SB⟩ := SQ.box SA (.cells #[.int .i64 x.op, .int .i64 x.n, .string x.s, .slice px x.kids.length cx, .int .i64 x.at_, .int .i64 z.op, .int .i64 z.n, .string z.s, .slice pz z.kids.length cz, .int .i64 z.at_] 31)
    have e12 : Hid (nb = W9.heap.size + 1) := Lib.hid (by rw [hb12, hW11]; simp [set7])
    unfold set7 at hW11
    have HW11 := Lib.hid hW11
    have HW12 := Lib.hid hW12
    clear hW11 hW12 hb11 hb12
    go_wp2_with fail
    go_roundw
    case rel =>
     rw [<- HW11.out, <- HW12.out]
     have SC := SQ.adopt SB [(x, .slice px x.kids.length cx), (z, .slice pz z.kids.length cz)] rfl (by simp) 2
     rw [e12.out] at SC
     exact ⟨.mk op 0 noB [x, z] x.at_, some ⟨W9.heap.size + 1, 0, none⟩, 2, j3, m3, Lib.hid ⟨SQ.dropK (SQ.forget (SQ.forget SC)) (K' := [([x, z], .slice (some ⟨W9.heap.size + 1, 0, none⟩) 2 2)]) (by simp), hj3.2, by omega, h6⟩⟩
    case measure =>
     rw [HM.out, <- HW11.out, <- HW12.out, (seven_cells (SQ.boxAt SB 3 rfl).1).2.2.2.2.2.1]
     show ts.length - j3 < ts.length - j
     omega
theorem binary_seven {g cap : Nat} {ts : List Tok} {f : Nat} (IH : HypG g cap ts f) (m k : Nat) (d : Int) (r : PR Ex) (w : World) (hm : m <= f) (hkl : k < ts.length) (hd0 : 0 <= d) (hd : d <= 30) (hr : runF ts m (.level 7) k d = some r) (h : TQ g cap ts w) :
  Calls Tryz.prog 65 #[.slice (some ⟨g, 0, none⟩) ts.length cap, (.int .i64 ((k : Nat))), .int .i64 7, .int .i64 d] w (GX w r) := by
 obtain ⟨t, ht⟩ := some_of_lt hkl
 obtain ⟨m, rfl⟩ : ∃ m', m = m' + 1 := by
  cases m with
  | zero => simp [runF] at hr
  | succ m' => exact ⟨m', rfl⟩
 unfold runF at hr
 simp only [ht] at hr
 rw [if_neg (by decide), if_pos trivial] at hr
 have S0 := SQ.start h
 go_enter Tryz.func65, Tryz.ntmps65
 go_wp2_with fail
 obtain ⟨W1, rb, hW, hb, S1⟩ := SQ.box S0 (.cells #[.int .i64 0, .int .i64 0, .string ⟨#[]⟩, .slice none 0 0, .int .i64 0, .int .i64 0, .int .i64 0] 82)
 rw [<- hW, <- hb]
 clear hW hb S0
 have HC := IH.minus m k _ d r _ (by omega) rfl hd0 hd hr S1.out.tq
 cases r with
 | err j cc =>
  refine HC.mono ?_
  rintro e W3 ⟨ht2, rfl⟩
  have S2 := SQ.same S1 ht2
  have hz2 := (SQ.boxAt S2 0 rfl).1
  obtain ⟨r0, r1, r2, r3, r4, r5, r6⟩ := seven_cells hz2
  have fq := free_of_box hz2
  go_wp2_with fail
  have SB := SQ.put S2 0 rfl (seven_turned _ rb (.int .i64 0) (.int .i64 0) (.string ⟨#[]⟩) (.slice none 0 0) (.int .i64 0) (.int .i64 ((j : Nat))) (.int .i64 cc)) (seven_set hz2)
  refine bodyPost_ret (results_got rfl _ _ rb (.int .i64 0) (.int .i64 0) (.string ⟨#[]⟩) (.slice none 0 0) (.int .i64 0) (.int .i64 ((j : Nat))) (.int .i64 cc) rfl (SQ.boxAt SB 0 rfl).1) rfl ?_
  exact ⟨SB.out.tur, rfl⟩
 | ok x j =>
  refine HC.mono ?_
  rintro e W3 ⟨ht2, p, c, rfl, hk⟩
  have S2 := SQ.callK S1 ht2 hk
  have hz2 := (SQ.boxAt S2 0 rfl).1
  obtain ⟨r0, r1, r2, r3, r4, r5, r6⟩ := seven_cells hz2
  have fq := free_of_box hz2
  go_wp2_with fail
  have SB := SQ.put S2 0 rfl (seven_turned _ rb (.int .i64 x.op) (.int .i64 x.n) (.string x.s) (.slice p x.kids.length c) (.int .i64 x.at_) (.int .i64 ((j : Nat))) (.int .i64 0)) (seven_set hz2)
  refine bodyPost_ret (results_got rfl _ _ rb (.int .i64 x.op) (.int .i64 x.n) (.string x.s) (.slice p x.kids.length c) (.int .i64 x.at_) (.int .i64 ((j : Nat))) (.int .i64 0) rfl (SQ.boxAt SB 0 rfl).1) rfl ?_
  exact ⟨SB.out.tur, p, c, rfl, SQ.kidAt SB 0 rfl⟩
theorem binary_three {g cap : Nat} {ts : List Tok} {f : Nat} (IH : HypG g cap ts f) (m k : Nat) (d : Int) (r : PR Ex) (w : World) (hm : m <= f) (hkl : k < ts.length) (hd0 : 0 <= d) (hd : d <= 30) (hr : runF ts m (.level 3) k d = some r) (h : TQ g cap ts w) :
  Calls Tryz.prog 65 #[.slice (some ⟨g, 0, none⟩) ts.length cap, (.int .i64 ((k : Nat))), .int .i64 3, .int .i64 d] w (GX w r) := by
 have S0 := SQ.start h
 go_enter Tryz.func65, Tryz.ntmps65
 go_wp2_with fail
 obtain ⟨W1, rb, hW, hb, S1⟩ := SQ.box S0 (.cells #[.int .i64 0, .int .i64 0, .string ⟨#[]⟩, .slice none 0 0, .int .i64 0, .int .i64 0, .int .i64 0] 82)
 rw [<- hW, <- hb]
 clear hW hb S0
 have HC := bang_step IH m k d r _ hm hkl hd0 hd hr S1.out.tq
 cases r with
 | err j cc =>
  refine HC.mono ?_
  rintro e W3 ⟨ht2, rfl⟩
  have S2 := SQ.same S1 ht2
  have hz2 := (SQ.boxAt S2 0 rfl).1
  obtain ⟨r0, r1, r2, r3, r4, r5, r6⟩ := seven_cells hz2
  have fq := free_of_box hz2
  go_wp2_with fail
  have SB := SQ.put S2 0 rfl (seven_turned _ rb (.int .i64 0) (.int .i64 0) (.string ⟨#[]⟩) (.slice none 0 0) (.int .i64 0) (.int .i64 ((j : Nat))) (.int .i64 cc)) (seven_set hz2)
  refine bodyPost_ret (results_got rfl _ _ rb (.int .i64 0) (.int .i64 0) (.string ⟨#[]⟩) (.slice none 0 0) (.int .i64 0) (.int .i64 ((j : Nat))) (.int .i64 cc) rfl (SQ.boxAt SB 0 rfl).1) rfl ?_
  exact ⟨SB.out.tur, rfl⟩
 | ok x j =>
  refine HC.mono ?_
  rintro e W3 ⟨ht2, p, c, rfl, hk⟩
  have S2 := SQ.callK S1 ht2 hk
  have hz2 := (SQ.boxAt S2 0 rfl).1
  obtain ⟨r0, r1, r2, r3, r4, r5, r6⟩ := seven_cells hz2
  have fq := free_of_box hz2
  go_wp2_with fail
  have SB := SQ.put S2 0 rfl (seven_turned _ rb (.int .i64 x.op) (.int .i64 x.n) (.string x.s) (.slice p x.kids.length c) (.int .i64 x.at_) (.int .i64 ((j : Nat))) (.int .i64 0)) (seven_set hz2)
  refine bodyPost_ret (results_got rfl _ _ rb (.int .i64 x.op) (.int .i64 x.n) (.string x.s) (.slice p x.kids.length c) (.int .i64 x.at_) (.int .i64 ((j : Nat))) (.int .i64 0) rfl (SQ.boxAt SB 0 rfl).1) rfl ?_
  exact ⟨SB.out.tur, p, c, rfl, SQ.kidAt SB 0 rfl⟩
theorem binary_step {g cap : Nat} {ts : List Tok} {f : Nat} (IH : HypG g cap ts f) (m n k : Nat) (y d : Int) (r : PR Ex) (w : World) (hm : m <= f) (hkl : k < ts.length) (hy : y = n) (hn1 : 1 <= n) (hn7 : n <= 7) (hd0 : 0 <= d) (hd : d <= 30) (hr : runF ts m (.level n) k d = some r) (h : TQ g cap ts w) :
  Calls Tryz.prog 65 #[.slice (some ⟨g, 0, none⟩) ts.length cap, (.int .i64 ((k : Nat))), .int .i64 y, .int .i64 d] w (GX w r) := by
 by_cases h3 : n = 3
 ·subst h3
  obtain rfl : y = 3 := hy
  exact binary_three IH m k d r w hm hkl hd0 hd hr h
 ·by_cases h7 : n = 7
  ·subst h7
   obtain rfl : y = 7 := hy
   exact binary_seven IH m k d r w hm hkl hd0 hd hr h
  ·exact binary_loop IH m n k d r w hm hkl h3 h7 hn1 hn7 hd0 hd hr h y hy
end Go.Proofs.YtjijdgkccfeeaaaGreatDoor
