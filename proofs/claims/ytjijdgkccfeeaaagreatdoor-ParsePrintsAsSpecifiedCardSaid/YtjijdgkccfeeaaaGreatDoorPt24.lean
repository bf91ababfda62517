/- Part 24 of the proof of card: ParRefE, ParRefG, ParRefH. Conditions: those of each theorem. -/
import Derived.Test.YtjijdgkccfeeaaaGreatDoorPt01
import Derived.Test.YtjijdgkccfeeaaaGreatDoorPt11
import Derived.Test.YtjijdgkccfeeaaaGreatDoorPt15
import Derived.Test.YtjijdgkccfeeaaaGreatDoorPt22
import Derived.Test.YtjijdgkccfeeaaaGreatDoorPt23
set_option maxRecDepth 20000
set_option maxHeartbeats 16000000
namespace Go.Proofs.YtjijdgkccfeeaaaGreatDoor
open Go Go.Proofs Go.RowKit
attribute [local go_sem] Oper.semAt_some
theorem rexpr_step {g cap : Nat} {ts : List Tok} {f : Nat} (IH : HypG g cap ts f) (m k : Nat) (d : Int) (r : PR Ex) (w : World) (hm : m <= f) (hkl : k < ts.length) (hd0 : 0 <= d) (hd : d <= 31) (hr : runF ts m .expr k d = some r) (h : TQ g cap ts w) :
  Calls Tryz.prog 34 #[.slice (some ⟨g, 0, none⟩) ts.length cap, (.int .i64 ((k : Nat))), .int .i64 d] w (GX w r) := by
 obtain ⟨t, ht⟩ := some_of_lt hkl
 obtain ⟨m, rfl⟩ : ∃ m', m = m' + 1 := by
  cases m with
  | zero => simp [runF] at hr
  | succ m' => exact ⟨m', rfl⟩
 unfold runF at hr
 simp only [ht] at hr
 have S0 := SQ.start h
 have hwd : IntKind.i64.wrap (d + 1) = d + 1 := IntWalk.i64_in _ (by omega)
 go_enter Tryz.func34, Tryz.ntmps34
 go_wp2_with fail
 obtain ⟨W1, rb, hW, hb, S1⟩ := SQ.box S0 (.cells #[.int .i64 0, .int .i64 0, .string ⟨#[]⟩, .slice none 0 0, .int .i64 0, .int .i64 0, .int .i64 0] 82)
 rw [<- hW, <- hb]
 clear hW hb S0
 have HF := first_tq S1.out.tq ht _ rfl d true
 cases hfp : firstP t d true with
 | some cc =>
  rw [hfp] at hr HF
  cases hr
  have hc := codeP_ne hfp
  refine HF.mono ?_
  rintro e W3 ⟨rfl, rfl⟩
  simp only [codeP]
  have hz2 := (SQ.boxAt S1 0 rfl).1
  obtain ⟨r0, r1, r2, r3, r4, r5, r6⟩ := seven_cells hz2
  have fq := free_of_box hz2
  go_wp2_with fail
  have SB := SQ.put S1 0 rfl (seven_turned _ rb (.int .i64 0) (.int .i64 0) (.string ⟨#[]⟩) (.slice none 0 0) (.int .i64 0) (.int .i64 ((k : Nat))) (.int .i64 cc)) (seven_set hz2)
  refine bodyPost_ret (results_got rfl _ _ rb (.int .i64 0) (.int .i64 0) (.string ⟨#[]⟩) (.slice none 0 0) (.int .i64 0) (.int .i64 ((k : Nat))) (.int .i64 cc) rfl (SQ.boxAt SB 0 rfl).1) rfl ?_
  exact ⟨SB.out.tur, rfl⟩
 | none =>
  rw [hfp] at hr HF
  have hd2 := firstP_le hfp
  clear hfp
  refine HF.mono ?_
  rintro e W3 ⟨rfl, rfl⟩
  simp only [codeP]
  clear HF
  go_wp2_with fail
  rcases PR.then_some hr with ⟨j, cc, h1, rfl⟩ | ⟨x, j, h1, h2⟩
  ·have hcc := (run_fits h.ok _ _ _ _ _ h1).2
   have hc : (cc != 0) = true := by simp; omega
   refine (IH.binary m 1 k _ 1 d _ _ (by omega) rfl rfl (by omega) (by omega) hd0 hd2 h1 S1.out.tq).mono ?_
   rintro e W4 ⟨ht2, rfl⟩
   have S2 := SQ.same S1 ht2
   have hz2 := (SQ.boxAt S2 0 rfl).1
   have hrl := (SQ.boxAt S2 0 rfl).2.2
   obtain ⟨r0, r1, r2, r3, r4, r5, r6⟩ := seven_cells hz2
   have fq := free_of_box hz2
   have S3e := SQ.put S2 0 rfl (seven_turned _ rb (.int .i64 0) (.int .i64 0) (.string ⟨#[]⟩) (.slice none 0 0) (.int .i64 0) (.int .i64 ((j : Nat))) (.int .i64 cc)) (seven_set hz2)
   obtain ⟨W5e, xbe, hW5e, -, S4e⟩ := SQ.box S3e (.cells #[.int .i64 0, .int .i64 0, .string ⟨#[]⟩, .slice none 0 0, .int .i64 0, (.int .i64 ((j : Nat))), .int .i64 cc] 82)
   unfold set7 at hW5e
   go_wp2_with fail
   rw [<- hW5e]
   refine bodyPost_ret (results_got rfl _ _ rb (.int .i64 0) (.int .i64 0) (.string ⟨#[]⟩) (.slice none 0 0) (.int .i64 0) (.int .i64 ((j : Nat))) (.int .i64 cc) rfl (SQ.boxAt S4e 1 rfl).1) rfl ?_
   exact ⟨S4e.out.tur, rfl⟩
  have hjl := (run_fits h.ok _ _ _ _ _ h1).2
  have hjk := (run_fits h.ok _ _ _ _ _ h1).1
  refine (IH.binary m 1 k _ 1 d _ _ (by omega) rfl rfl (by omega) (by omega) hd0 hd2 h1 S1.out.tq).mono ?_
  rintro e W4 ⟨ht2, px, cx, rfl, hk⟩
  have S2 := SQ.callK S1 ht2 hk
  clear S1 ht2 hk hr
  obtain ⟨u, hu⟩ := some_of_lt hjl
  simp only [hu] at h2
  have hwj : IntKind.i64.wrap ((j : Int) + 1) = (j : Int) + 1 := IntWalk.i64_in _ (by have := h.ok.len; omega)
  go_wp2_with fail
  obtain ⟨W5, xb, hW, hb, S3⟩ := SQ.box S2 (.cells #[.int .i64 x.op, .int .i64 x.n, .string x.s, .slice px x.kids.length cx, .int .i64 x.at_, (.int .i64 ((j : Nat))), .int .i64 0] 82)
  rw [<- hW, <- hb]
  clear hW hb S2
  refine (sign_tq S3.out.tq hu _ rfl _).mono ?_
  rintro e W6 ⟨rfl, rfl⟩
  obtain ⟨x0, x1, x2, x3, x4, x5, x6⟩ := seven_cells (SQ.boxAt S3 0 rfl).1
  by_cases hq : isS u ⟨#[63]⟩ = true
  ·rw [if_neg (by rw [hq]; decide)] at h2
   have hk1 := h.ok.sign hu hq
   go_wp2_with fail
   rcases PR.then_some h2 with ⟨j2, cc, h3, rfl⟩ | ⟨a, j2, h3, h4⟩
   ·have hcc := (run_fits h.ok _ _ _ _ _ h3).2
    have hc : (cc != 0) = true := by simp; omega
    refine (IH.expr m (j + 1) _ (d + 1) _ _ (by omega) (by simp) (by omega) (by omega) h3 S3.out.tq).mono ?_
    rintro e W7 ⟨ht2, rfl⟩
    have S2 := SQ.same S3 ht2
    have hz2 := (SQ.boxAt S2 1 rfl).1
    have hrl := (SQ.boxAt S2 1 rfl).2.2
    obtain ⟨r0, r1, r2, r3, r4, r5, r6⟩ := seven_cells hz2
    have fq := free_of_box hz2
    have S3e := SQ.put S2 1 rfl (seven_turned _ rb (.int .i64 0) (.int .i64 0) (.string ⟨#[]⟩) (.slice none 0 0) (.int .i64 0) (.int .i64 ((j2 : Nat))) (.int .i64 cc)) (seven_set hz2)
    obtain ⟨W5e, xbe, hW5e, -, S4e⟩ := SQ.box S3e (.cells #[.int .i64 0, .int .i64 0, .string ⟨#[]⟩, .slice none 0 0, .int .i64 0, (.int .i64 ((j2 : Nat))), .int .i64 cc] 82)
    unfold set7 at hW5e
    go_wp2_with fail
    rw [<- hW5e]
    refine bodyPost_ret (results_got rfl _ _ rb (.int .i64 0) (.int .i64 0) (.string ⟨#[]⟩) (.slice none 0 0) (.int .i64 0) (.int .i64 ((j2 : Nat))) (.int .i64 cc) rfl (SQ.boxAt S4e 2 rfl).1) rfl ?_
    exact ⟨S4e.out.tur, rfl⟩
   have hj2 := (run_fits h.ok _ _ _ _ _ h3).2
   refine (IH.expr m (j + 1) _ (d + 1) _ _ (by omega) (by simp) (by omega) (by omega) h3 S3.out.tq).mono ?_
   rintro e W7 ⟨ht2, pa, ca, rfl, hk⟩
   have S4 := SQ.callK S3 ht2 hk
   clear S3 ht2 hk h2
   obtain ⟨v, hv⟩ := some_of_lt hj2
   simp only [hv] at h4
   have hwj2 : IntKind.i64.wrap ((j2 : Int) + 1) = (j2 : Int) + 1 := IntWalk.i64_in _ (by have := h.ok.len; omega)
   go_wp2_with fail
   obtain ⟨W8, ab, hW, hb, S5⟩ := SQ.box S4 (.cells #[.int .i64 a.op, .int .i64 a.n, .string a.s, .slice pa a.kids.length ca, .int .i64 a.at_, (.int .i64 ((j2 : Nat))), .int .i64 0] 82)
   rw [<- hW, <- hb]
   clear hW hb S4 x0 x1 x2 x3 x4 x5 x6
   refine (sign_tq S5.out.tq hv _ rfl _).mono ?_
   rintro e W9 ⟨rfl, rfl⟩
   obtain ⟨a0, a1, a2, a3, a4, a5, a6⟩ := seven_cells (SQ.boxAt S5 0 rfl).1
   obtain ⟨x0, x1, x2, x3, x4, x5, x6⟩ := seven_cells (SQ.boxAt S5 1 rfl).1
   by_cases hcl : isS v ⟨#[58]⟩ = true
   ·rw [if_neg (by rw [hcl]; decide)] at h4
    go_wp2_with fail
    rcases PR.then_some h4 with ⟨j3, cc, h5, rfl⟩ | ⟨b, j3, h5, h6⟩
    ·have hcc := (run_fits h.ok _ _ _ _ _ h5).2
     have hc : (cc != 0) = true := by simp; omega
     refine (IH.expr m (j2 + 1) _ (d + 1) _ _ (by omega) (by simp) (by omega) (by omega) h5 S5.out.tq).mono ?_
     rintro e W10 ⟨ht2, rfl⟩
     have S2 := SQ.same S5 ht2
     have hz2 := (SQ.boxAt S2 2 rfl).1
     have hrl := (SQ.boxAt S2 2 rfl).2.2
     obtain ⟨r0, r1, r2, r3, r4, r5, r6⟩ := seven_cells hz2
     have fq := free_of_box hz2
     have S3e := SQ.put S2 2 rfl (seven_turned _ rb (.int .i64 0) (.int .i64 0) (.string ⟨#[]⟩) (.slice none 0 0) (.int .i64 0) (.int .i64 ((j3 : Nat))) (.int .i64 cc)) (seven_set hz2)
     obtain ⟨W5e, xbe, hW5e, -, S4e⟩ := SQ.box S3e (.cells #[.int .i64 0, .int .i64 0, .string ⟨#[]⟩, .slice none 0 0, .int .i64 0, (.int .i64 ((j3 : Nat))), .int .i64 cc] 82)
     unfold set7 at hW5e
     go_wp2_with fail
     rw [<- hW5e]
     refine bodyPost_ret (results_got rfl _ _ rb (.int .i64 0) (.int .i64 0) (.string ⟨#[]⟩) (.slice none 0 0) (.int .i64 0) (.int .i64 ((j3 : Nat))) (.int .i64 cc) rfl (SQ.boxAt S4e 3 rfl).1) rfl ?_
     exact ⟨S4e.out.tur, rfl⟩
    cases h6
    refine (IH.expr m (j2 + 1) _ (d + 1) _ _ (by omega) (by simp) (by omega) (by omega) h5 S5.out.tq).mono ?_
    rintro e W10 ⟨ht2, pb, cb, rfl, hk⟩
    have S6 := SQ.callK S5 ht2 hk
    clear S5 ht2 hk h4 a0 a1 a2 a3 a4 a5 a6 x0 x1 x2 x3 x4 x5 x6
    obtain ⟨a0, a1, a2, a3, a4, a5, a6⟩ := seven_cells (SQ.boxAt S6 0 rfl).1
    obtain ⟨x0, x1, x2, x3, x4, x5, x6⟩ := seven_cells (SQ.boxAt S6 1 rfl).1
    have hz2 := (SQ.boxAt S6 2 rfl).1
    have hrl := (SQ.boxAt S6 2 rfl).2.2
    have hal := (SQ.boxAt S6 0 rfl).2.2
    have hxl := (SQ.boxAt S6 1 rfl).2.2
    obtain ⟨r0, r1, r2, r3, r4, r5, r6⟩ := seven_cells hz2
    have fq := free_of_box hz2
    have S7 := SQ.put S6 2 rfl (seven_turned W10 rb (.int .i64 20) (.int .i64 0) (.string ⟨#[]⟩) (.slice (some ⟨W10.heap.size + 1, 0, none⟩) 3 3) (.int .i64 x.at_) (.int .i64 ((j3 : Nat))) (.int .i64 0)) (seven_set hz2)
    obtain ⟨W11, bb, hW11, hb11, S8⟩ := SQ.box S7 (.cells #[.int .i64 b.op, .int .i64 b.n, .string b.s, .slice pb b.kids.length cb, .int .i64 b.at_, (.int .i64 ((j3 : Nat))), .int .i64 0] 82)
    obtain ⟨W12, nb, hW12, hb12, S9⟩ := SQ.box S8 (.cells #[.int .i64 x.op, .int .i64 x.n, .string x.s, .slice px x.kids.length cx, .int .i64 x.at_, .int .i64 a.op, .int .i64 a.n, .string a.s, .slice pa a.kids.length ca, .int .i64 a.at_, .int .i64 b.op, .int .i64 b.n, .string b.s, .slice pb b.kids.length cb, .int .i64 b.at_] 31)
    have e12 : Hid (nb = W10.heap.size + 1) := Lib.hid (by rw [hb12, hW11]; simp [set7])
    unfold set7 at hW11
    have HW11 := Lib.hid hW11
    have HW12 := Lib.hid hW12
    clear hW11 hW12 hb11 hb12
    go_wp2_with fail
    rw [<- HW11.out, <- HW12.out]
    have SA := SQ.adopt S9 [(x, .slice px x.kids.length cx), (a, .slice pa a.kids.length ca), (b, .slice pb b.kids.length cb)] rfl (by simp) 3
    refine bodyPost_ret (results_got rfl _ _ rb (.int .i64 20) (.int .i64 0) (.string ⟨#[]⟩) (.slice (some ⟨W10.heap.size + 1, 0, none⟩) 3 3) (.int .i64 x.at_) (.int .i64 ((j3 : Nat))) (.int .i64 0) rfl (SQ.boxAt S9 4 rfl).1) rfl ?_
    exact ⟨SA.out.tur, some ⟨W10.heap.size + 1, 0, none⟩, 3, rfl, by rw [<- e12.out]; exact SQ.kidAt SA 0 rfl⟩
   ·have hcl : isS v ⟨#[58]⟩ = false := by simpa using hcl
    rw [if_pos (by rw [hcl]; rfl)] at h4
    cases h4
    have hz2 := (SQ.boxAt S5 2 rfl).1
    obtain ⟨r0, r1, r2, r3, r4, r5, r6⟩ := seven_cells hz2
    have fq := free_of_box hz2
    go_wp2_with fail
    have SB := SQ.put S5 2 rfl (seven_turned _ rb (.int .i64 0) (.int .i64 0) (.string ⟨#[]⟩) (.slice none 0 0) (.int .i64 0) (.int .i64 ((j2 : Nat))) (.int .i64 5)) (seven_set hz2)
    refine bodyPost_ret (results_got rfl _ _ rb (.int .i64 0) (.int .i64 0) (.string ⟨#[]⟩) (.slice none 0 0) (.int .i64 0) (.int .i64 ((j2 : Nat))) (.int .i64 5) rfl (SQ.boxAt SB 2 rfl).1) rfl ?_
    exact ⟨SB.out.tur, rfl⟩
  ·have hq : isS u ⟨#[63]⟩ = false := by simpa using hq
   rw [if_pos (by rw [hq]; rfl)] at h2
   cases h2
   have hz2 := (SQ.boxAt S3 1 rfl).1
   obtain ⟨r0, r1, r2, r3, r4, r5, r6⟩ := seven_cells hz2
   have fq := free_of_box hz2
   go_wp2_with fail
   have SB := SQ.put S3 1 rfl (seven_turned _ rb (.int .i64 x.op) (.int .i64 x.n) (.string x.s) (.slice px x.kids.length cx) (.int .i64 x.at_) (.int .i64 ((j : Nat))) (.int .i64 0)) (seven_set hz2)
   refine bodyPost_ret (results_got rfl _ _ rb (.int .i64 x.op) (.int .i64 x.n) (.string x.s) (.slice px x.kids.length cx) (.int .i64 x.at_) (.int .i64 ((j : Nat))) (.int .i64 0) rfl (SQ.boxAt SB 1 rfl).1) rfl ?_
   exact ⟨SB.out.tur, px, cx, rfl, SQ.kidAt SB 0 rfl⟩
def ArgsG (g cap : Nat) (ts : List Tok) (f : Nat) : Prop := ∀ (m k : Nat) (d : Int) (r : PR Ex) (w : World) (t v : Tok), m < f -> 0 <= d -> d <= 30 -> ts[k]? = some t -> t.kind = 1 -> ts[k + 2]? = some v -> (if isS v ⟨#[41]⟩ then some (.ok (.mk 4 0 t.s [] t.at_) (k + 3)) else runF ts m (.args t []) (k + 2) d) = some r -> TQ g cap ts w -> Calls Tryz.prog 132 #[.slice (some ⟨g, 0, none⟩) ts.length cap, (.int .i64 ((k : Nat))), .int .i64 d] w (GX w r)
theorem ratom_paren {g cap : Nat} {ts : List Tok} {f : Nat} (IH : HypG g cap ts f) (m k : Nat) (d : Int) (r : PR Ex) (w : World) (hm : m < f) (hd0 : 0 <= d) (hd : d <= 30) (h : TQ g cap ts w) (t : Tok) (ht : ts[k]? = some t) (hs : isS t ⟨#[40]⟩ = true)
  (hr : (PR.then_ (runF ts m .expr (k + 1) (d + 1)) fun x j => match ts[j]? with | none => none | some u => if isS u ⟨#[41]⟩ then some (.ok x (j + 1)) else some (.err j 5)) = some r) :
  Calls Tryz.prog 117 #[.slice (some ⟨g, 0, none⟩) ts.length cap, (.int .i64 ((k : Nat))), .int .i64 d] w (GX w r) := by
 have hkl := lt_of_some ht
 have hkl2 : (k : Int) < (ts.length : Int) := by omega
 have hwk : IntKind.i64.wrap ((k : Int) + 1) = (k : Int) + 1 := IntWalk.i64_in _ (by have := h.ok.len; omega)
 have hwd : IntKind.i64.wrap (d + 1) = d + 1 := IntWalk.i64_in _ (by omega)
 obtain ⟨t0, t1, t2, t3⟩ := h.tok ht
 have hg := h.ltg
 have S0 := SQ.start h
 go_enter Tryz.func117, Tryz.ntmps117
 go_wp2_with fail
 obtain ⟨W1, rb, hW1, hb1, S1⟩ := SQ.box S0 (.cells #[.int .i64 0, .int .i64 0, .string ⟨#[]⟩, .slice none 0 0, .int .i64 0, .int .i64 0, .int .i64 0] 82)
 obtain ⟨W2, tb, hW2, hb2, S2⟩ := SQ.box S1 (.cells #[.int .i64 t.kind, .int .i64 t.at_, .string t.s, .int .i64 t.n] 68)
 have e2 : tb = w.heap.size + 1 := by rw [hb2, hW1]; simp
 rw [<- hW1, <- hW2, <- e2, <- hb1]
 clear hW1 hW2 e2 hb1 hb2 S0 S1 t0 t1 t2 t3
 refine (sign_tq S2.out.tq ht _ rfl _).mono ?_
 rintro e W3 ⟨rfl, rfl⟩
 go_wp2_with fail
 rcases PR.then_some hr with ⟨j, cc, h1, rfl⟩ | ⟨x, j, h1, h2⟩
 ·have hcc := (run_fits h.ok _ _ _ _ _ h1).2
  have hc : (cc != 0) = true := by simp; omega
  refine (IH.expr m (k + 1) _ (d + 1) _ _ (by omega) (by simp) (by omega) (by omega) h1 S2.out.tq).mono ?_
  rintro e W4 ⟨ht2, rfl⟩
  have S2 := SQ.same S2 ht2
  have hz2 := (SQ.boxAt S2 1 rfl).1
  have hrl := (SQ.boxAt S2 1 rfl).2.2
  obtain ⟨r0, r1, r2, r3, r4, r5, r6⟩ := seven_cells hz2
  have fq := free_of_box hz2
  have S3e := SQ.put S2 1 rfl (seven_turned _ rb (.int .i64 0) (.int .i64 0) (.string ⟨#[]⟩) (.slice none 0 0) (.int .i64 0) (.int .i64 ((j : Nat))) (.int .i64 cc)) (seven_set hz2)
  obtain ⟨W5e, xbe, hW5e, -, S4e⟩ := SQ.box S3e (.cells #[.int .i64 0, .int .i64 0, .string ⟨#[]⟩, .slice none 0 0, .int .i64 0, (.int .i64 ((j : Nat))), .int .i64 cc] 82)
  unfold set7 at hW5e
  go_wp2_with fail
  rw [<- hW5e]
  refine bodyPost_ret (results_got rfl _ _ rb (.int .i64 0) (.int .i64 0) (.string ⟨#[]⟩) (.slice none 0 0) (.int .i64 0) (.int .i64 ((j : Nat))) (.int .i64 cc) rfl (SQ.boxAt S4e 2 rfl).1) rfl ?_
  exact ⟨S4e.out.tur, rfl⟩
 have hjl := (run_fits h.ok _ _ _ _ _ h1).2
 have hwj : IntKind.i64.wrap ((j : Int) + 1) = (j : Int) + 1 := IntWalk.i64_in _ (by have := h.ok.len; omega)
 refine (IH.expr m (k + 1) _ (d + 1) _ _ (by omega) (by simp) (by omega) (by omega) h1 S2.out.tq).mono ?_
 rintro e W4 ⟨ht2, p, c, rfl, hk⟩
 have S3 := SQ.callK S2 ht2 hk
 clear S2 ht2 hk hr
 obtain ⟨u, hu⟩ := some_of_lt hjl
 simp only [hu] at h2
 go_wp2_with fail
 obtain ⟨W5, xb, hW, hb, S4⟩ := SQ.box S3 (.cells #[.int .i64 x.op, .int .i64 x.n, .string x.s, .slice p x.kids.length c, .int .i64 x.at_, (.int .i64 ((j : Nat))), .int .i64 0] 82)
 rw [<- hW, <- hb]
 clear hW hb S3
 refine (sign_tq S4.out.tq hu _ rfl _).mono ?_
 rintro e W6 ⟨rfl, rfl⟩
 obtain ⟨x0, x1, x2, x3, x4, x5, x6⟩ := seven_cells (SQ.boxAt S4 0 rfl).1
 have hz2 := (SQ.boxAt S4 2 rfl).1
 obtain ⟨r0, r1, r2, r3, r4, r5, r6⟩ := seven_cells hz2
 have fq := free_of_box hz2
 by_cases hc : isS u ⟨#[41]⟩ = true
 ·rw [if_pos hc] at h2
  cases h2
  go_wp2_with fail
  have SB := SQ.put S4 2 rfl (seven_turned _ rb (.int .i64 x.op) (.int .i64 x.n) (.string x.s) (.slice p x.kids.length c) (.int .i64 x.at_) (.int .i64 ((j : Int) + 1)) (.int .i64 0)) (seven_set hz2)
  refine bodyPost_ret (results_got rfl _ _ rb (.int .i64 x.op) (.int .i64 x.n) (.string x.s) (.slice p x.kids.length c) (.int .i64 x.at_) (.int .i64 ((j : Int) + 1)) (.int .i64 0) rfl (SQ.boxAt SB 2 rfl).1) rfl ?_
  exact ⟨SB.out.tur, p, c, by simp, SQ.kidAt SB 0 rfl⟩
 ·have hc : isS u ⟨#[41]⟩ = false := by simpa using hc
  rw [if_neg (by rw [hc]; decide)] at h2
  cases h2
  go_wp2_with fail
  have SB := SQ.put S4 2 rfl (seven_turned _ rb (.int .i64 0) (.int .i64 0) (.string ⟨#[]⟩) (.slice none 0 0) (.int .i64 0) (.int .i64 ((j : Nat))) (.int .i64 5)) (seven_set hz2)
  refine bodyPost_ret (results_got rfl _ _ rb (.int .i64 0) (.int .i64 0) (.string ⟨#[]⟩) (.slice none 0 0) (.int .i64 0) (.int .i64 ((j : Nat))) (.int .i64 5) rfl (SQ.boxAt SB 2 rfl).1) rfl ?_
  exact ⟨SB.out.tur, rfl⟩
theorem ratom_leaf {g cap : Nat} {ts : List Tok} {f : Nat} (AG : ArgsG g cap ts f) (m k : Nat) (d : Int) (r : PR Ex) (w : World) (hm : m < f) (hd0 : 0 <= d) (hd : d <= 30) (h : TQ g cap ts w) (t : Tok) (ht : ts[k]? = some t) (hs : isS t ⟨#[40]⟩ = false)
  (hr : (if t.kind = 2 then some (.ok (.mk 1 t.n noB [] t.at_) (k + 1))
    else if t.kind = 3 then some (.ok (.mk 2 0 t.s [] t.at_) (k + 1))
    else if t.kind = 1 then
     match ts[k + 1]? with
     | none => none
     | some u => if !isS u ⟨#[40]⟩ then some (.ok (.mk 3 0 t.s [] t.at_) (k + 1)) else
      match ts[k + 2]? with
      | none => none
      | some v => if isS v ⟨#[41]⟩ then some (.ok (.mk 4 0 t.s [] t.at_) (k + 3)) else runF ts m (.args t []) (k + 2) d
    else some (.err k 5)) = some r) :
  Calls Tryz.prog 117 #[.slice (some ⟨g, 0, none⟩) ts.length cap, (.int .i64 ((k : Nat))), .int .i64 d] w (GX w r) := by
 have hkl := lt_of_some ht
 have hkl2 : (k : Int) < (ts.length : Int) := by omega
 have hwk : IntKind.i64.wrap ((k : Int) + 1) = (k : Int) + 1 := IntWalk.i64_in _ (by have := h.ok.len; omega)
 obtain ⟨t0, t1, t2, t3⟩ := h.tok ht
 have hg := h.ltg
 have S0 := SQ.start h
 go_enter Tryz.func117, Tryz.ntmps117
 go_wp2_with fail
 obtain ⟨W1, rb, hW1, hb1, S1⟩ := SQ.box S0 (.cells #[.int .i64 0, .int .i64 0, .string ⟨#[]⟩, .slice none 0 0, .int .i64 0, .int .i64 0, .int .i64 0] 82)
 obtain ⟨W2, tb, hW2, hb2, S2⟩ := SQ.box S1 (.cells #[.int .i64 t.kind, .int .i64 t.at_, .string t.s, .int .i64 t.n] 68)
 have e2 : tb = w.heap.size + 1 := by rw [hb2, hW1]; simp
 rw [<- hW1, <- hW2, <- e2, <- hb1]
 clear hW1 hW2 e2 hb1 hb2 S0 S1 t0 t1 t2 t3
 refine (sign_tq S2.out.tq ht _ rfl _).mono ?_
 rintro e W3 ⟨rfl, rfl⟩
 obtain ⟨t0, t1, t2, t3⟩ : W2.cell? ⟨tb, 0, none⟩ = some (.int .i64 t.kind) /\ W2.cell? ⟨tb, 1, none⟩ = some (.int .i64 t.at_) /\ W2.cell? ⟨tb, 2, none⟩ = some (.string t.s) /\ W2.cell? ⟨tb, 3, none⟩ = some (.int .i64 t.n) := cellsFour (SQ.boxAt S2 0 rfl).1
 have hz2 := (SQ.boxAt S2 1 rfl).1
 obtain ⟨r0, r1, r2, r3, r4, r5, r6⟩ := seven_cells hz2
 have fq := free_of_box hz2
 by_cases h2 : t.kind = 2
 ·rw [if_pos h2] at hr
  cases hr
  have b2 : (t.kind == 2) = true := by simpa using h2
  clear h2
  go_wp2_with fail
  have SB := SQ.put S2 1 rfl (seven_turned _ rb (.int .i64 1) (.int .i64 t.n) (.string ⟨#[]⟩) (.slice none 0 0) (.int .i64 t.at_) (.int .i64 ((k : Int) + 1)) (.int .i64 0)) (seven_set hz2)
  refine bodyPost_ret (results_got rfl _ _ rb (.int .i64 1) (.int .i64 t.n) (.string ⟨#[]⟩) (.slice none 0 0) (.int .i64 t.at_) (.int .i64 ((k : Int) + 1)) (.int .i64 0) rfl (SQ.boxAt SB 1 rfl).1) rfl ?_
  exact ⟨SB.out.tur, none, 0, by simp [Ex.op, Ex.n, Ex.s, Ex.at_, Ex.kids, noB], .nil _ _⟩
 rw [if_neg h2] at hr
 have b2 : (t.kind == 2) = false := by simpa using h2
 by_cases h3 : t.kind = 3
 ·rw [if_pos h3] at hr
  cases hr
  have b3 : (t.kind == 3) = true := by simpa using h3
  clear h3 h2
  go_wp2_with fail
  have SB := SQ.put S2 1 rfl (seven_turned _ rb (.int .i64 2) (.int .i64 0) (.string t.s) (.slice none 0 0) (.int .i64 t.at_) (.int .i64 ((k : Int) + 1)) (.int .i64 0)) (seven_set hz2)
  refine bodyPost_ret (results_got rfl _ _ rb (.int .i64 2) (.int .i64 0) (.string t.s) (.slice none 0 0) (.int .i64 t.at_) (.int .i64 ((k : Int) + 1)) (.int .i64 0) rfl (SQ.boxAt SB 1 rfl).1) rfl ?_
  exact ⟨SB.out.tur, none, 0, by simp [Ex.op, Ex.n, Ex.s, Ex.at_, Ex.kids], .nil _ _⟩
 rw [if_neg h3] at hr
 have b3 : (t.kind == 3) = false := by simpa using h3
 by_cases h1 : t.kind = 1
 ·rw [if_pos h1] at hr
  have b1 : (t.kind != 1) = false := by simpa using h1
  have b1' : (t.kind == 1) = true := by simpa using h1
  have hk1 := h.ok.next _ _ ht (by rw [h1]; decide)
  have H1 := Lib.hid h1
  clear h1 h2 h3
  obtain ⟨u, hu⟩ := some_of_lt hk1
  simp only [hu] at hr
  go_wp2_with fail
  refine (sign_tq S2.out.tq hu _ (by simp) _).mono ?_
  rintro e W3 ⟨rfl, rfl⟩
  by_cases hc : isS u ⟨#[40]⟩ = true
  ·rw [if_neg (by rw [hc]; decide)] at hr
   have hk2 := h.ok.sign hu hc
   obtain ⟨v, hv⟩ := some_of_lt hk2
   have hv2 : ts[k + 2]? = some v := hv
   simp only [hv2] at hr
   go_wp2_with fail
   have HC := AG m k d r _ t v hm hd0 hd ht H1.out hv2 hr S2.out.tq
   cases r with
   | err j cc =>
    refine HC.mono ?_
    rintro e W4 ⟨ht2, rfl⟩
    have S3 := SQ.same S2 ht2
    clear hz2 r0 r1 r2 r3 r4 r5 r6 fq
    have hz2 := (SQ.boxAt S3 1 rfl).1
    obtain ⟨r0, r1, r2, r3, r4, r5, r6⟩ := seven_cells hz2
    have fq := free_of_box hz2
    go_wp2_with fail
    have SB := SQ.put S3 1 rfl (seven_turned _ rb (.int .i64 0) (.int .i64 0) (.string ⟨#[]⟩) (.slice none 0 0) (.int .i64 0) (.int .i64 ((j : Nat))) (.int .i64 cc)) (seven_set hz2)
    refine bodyPost_ret (results_got rfl _ _ rb (.int .i64 0) (.int .i64 0) (.string ⟨#[]⟩) (.slice none 0 0) (.int .i64 0) (.int .i64 ((j : Nat))) (.int .i64 cc) rfl (SQ.boxAt SB 1 rfl).1) rfl ?_
    exact ⟨SB.out.tur, rfl⟩
   | ok x j =>
    refine HC.mono ?_
    rintro e W4 ⟨ht2, p, c, rfl, hk⟩
    have S3 := SQ.callK S2 ht2 hk
    clear hz2 r0 r1 r2 r3 r4 r5 r6 fq
    have hz2 := (SQ.boxAt S3 1 rfl).1
    obtain ⟨r0, r1, r2, r3, r4, r5, r6⟩ := seven_cells hz2
    have fq := free_of_box hz2
    go_wp2_with fail
    have SB := SQ.put S3 1 rfl (seven_turned _ rb (.int .i64 x.op) (.int .i64 x.n) (.string x.s) (.slice p x.kids.length c) (.int .i64 x.at_) (.int .i64 ((j : Nat))) (.int .i64 0)) (seven_set hz2)
    refine bodyPost_ret (results_got rfl _ _ rb (.int .i64 x.op) (.int .i64 x.n) (.string x.s) (.slice p x.kids.length c) (.int .i64 x.at_) (.int .i64 ((j : Nat))) (.int .i64 0) rfl (SQ.boxAt SB 1 rfl).1) rfl ?_
    exact ⟨SB.out.tur, p, c, rfl, SQ.kidAt SB 0 rfl⟩
  ·have hc : isS u ⟨#[40]⟩ = false := by simpa using hc
   rw [if_pos (by rw [hc]; rfl)] at hr
   cases hr
   go_wp2_with fail
   have SB := SQ.put S2 1 rfl (seven_turned _ rb (.int .i64 3) (.int .i64 0) (.string t.s) (.slice none 0 0) (.int .i64 t.at_) (.int .i64 ((k : Int) + 1)) (.int .i64 0)) (seven_set hz2)
   refine bodyPost_ret (results_got rfl _ _ rb (.int .i64 3) (.int .i64 0) (.string t.s) (.slice none 0 0) (.int .i64 t.at_) (.int .i64 ((k : Int) + 1)) (.int .i64 0) rfl (SQ.boxAt SB 1 rfl).1) rfl ?_
   exact ⟨SB.out.tur, none, 0, by simp [Ex.op, Ex.n, Ex.s, Ex.at_, Ex.kids], .nil _ _⟩
 ·rw [if_neg h1] at hr
  cases hr
  have b1 : (t.kind != 1) = true := by simpa using h1
  have b1' : (t.kind == 1) = false := by simpa using h1
  clear h1 h2 h3
  go_wp2_with fail
  have SB := SQ.put S2 1 rfl (seven_turned _ rb (.int .i64 0) (.int .i64 0) (.string ⟨#[]⟩) (.slice none 0 0) (.int .i64 0) (.int .i64 ((k : Nat))) (.int .i64 5)) (seven_set hz2)
  refine bodyPost_ret (results_got rfl _ _ rb (.int .i64 0) (.int .i64 0) (.string ⟨#[]⟩) (.slice none 0 0) (.int .i64 0) (.int .i64 ((k : Nat))) (.int .i64 5) rfl (SQ.boxAt SB 1 rfl).1) rfl ?_
  exact ⟨SB.out.tur, rfl⟩
structure AQ (g cap : Nat) (ts : List Tok) (f : Nat) (w : World) (d : Int) (r : PR Ex) (t : Tok) (eb rb : Nat) (v : Value) (ps : List (Ex × Value)) (j m : Nat) (wr : World) : Prop where
 sq : Hid (SQ g cap ts w wr [(eb, .cells #[.int .i64 4, .int .i64 0, .string t.s, v, .int .i64 t.at_] 31), (rb, .cells #[.int .i64 0, .int .i64 0, .string ⟨#[]⟩, .slice none 0 0, .int .i64 0, .int .i64 0, .int .i64 0] 82)] [])
 own : Hid (Own wr (eb + 1) 31 5 exEnc exAt v ps.length ps)
 len : ps.length <= 40
 lt : j < ts.length
 fuel : m < f
 eq : runF ts m (.args t (ps.map (·.1))) j d = some r
theorem expr_at_err {ts : List Tok} {k : Nat} {t : Tok} {d c : Int} (ht : ts[k]? = some t) (h : firstP t d true = some c) (m : Nat) : runF ts (m + 1) .expr k d = some (.err k c) := by
 unfold runF
 simp only [ht, h]
theorem firstP_zero {t : Tok} {d : Int} (h : firstP t d true ≠ some 5) : firstP t 0 true = none := by
 unfold firstP at h ⊢
 split
 ·rename_i h1; rw [if_pos h1] at h; exact absurd rfl h
 ·rfl
theorem firstP_five {t : Tok} {d : Int} (h : firstP t d true = some 5) : firstP t 0 true = some 5 := by
 unfold firstP at h ⊢
 split
 ·rfl
 ·rename_i h1
  rw [if_neg h1] at h
  split at h <;> cases h
theorem rargs_step {g cap : Nat} {ts : List Tok} {f : Nat} (IH : HypG g cap ts f) (m k : Nat) (d : Int) (r : PR Ex) (w : World) (t v : Tok) (hm : m < f) (hd0 : 0 <= d) (hd : d <= 30) (ht : ts[k]? = some t) (hv : ts[k + 2]? = some v) (hr : (if isS v ⟨#[41]⟩ then some (.ok (.mk 4 0 t.s [] t.at_) (k + 3)) else runF ts m (.args t []) (k + 2) d) = some r) (h : TQ g cap ts w) :
  Calls Tryz.prog 132 #[.slice (some ⟨g, 0, none⟩) ts.length cap, (.int .i64 ((k : Nat))), .int .i64 d] w (GX w r) := by
 have hkl := lt_of_some ht
 have hkl2 : (k : Int) < (ts.length : Int) := by omega
 have hvl := lt_of_some hv
 have hln := h.ok.len
 have hwk : IntKind.i64.wrap ((k : Int) + 2) = (k : Int) + 2 := IntWalk.i64_in _ (by omega)
 have hwk3 : IntKind.i64.wrap ((k : Int) + 2 + 1) = (k : Int) + 2 + 1 := IntWalk.i64_in _ (by omega)
 have hwd : IntKind.i64.wrap (d + 1) = d + 1 := IntWalk.i64_in _ (by omega)
 obtain ⟨i0, hif, hz0, hz1, hz2⟩ := info_parts infoExpr
 have S0 := SQ.start h
 go_enter Tryz.func132, Tryz.ntmps132
 go_wp2_with fail
 obtain ⟨W1, rb, hW1, hb1, S1⟩ := SQ.box S0 (.cells #[.int .i64 0, .int .i64 0, .string ⟨#[]⟩, .slice none 0 0, .int .i64 0, .int .i64 0, .int .i64 0] 82)
 rw [<- hW1, <- hb1]
 clear hW1 hb1 S0
 have t1 := (S1.out.tq.tok ht).2.1
 have t2 := (S1.out.tq.tok ht).2.2.1
 refine region_R (R := fun q V => q < 12 -> (fun V : World => V.cell? ⟨g, k * 4 + 1, none⟩ = some (.int .i64 t.at_) /\ V.cell? ⟨g, k * 4 + 2, none⟩ = some (.string t.s)) V) (by kernel_rfl) ?_
 obtain ⟨Wd, hWd⟩ : ∃ Wd, Wd = W1.drew := ⟨_, rfl⟩
 rw [<- hWd]
 have S2 := SQ.same S1 (Turned.refl _ _).drew
 rw [<- hWd] at S2
 clear hWd S1 t1 t2
 have t1 := (S2.out.tq.tok ht).2.1
 have t2 := (S2.out.tq.tok ht).2.2.1
 refine tk (n := 12) 0 (.slice (some ⟨g, 0, none⟩) ts.length cap) rfl (.inl ⟨by rfl, ?_⟩) ⟨t1, t2⟩ ?_
 ·rintro V ⟨v0, v1⟩
  go_simp
 simp only [zz0, zz1, Act.put, zz3, zz4, zz5]
 refine tk (n := 12) 1 (.int .i64 ((k : Nat))) rfl (.inl ⟨by rfl, ?_⟩) ⟨t1, t2⟩ ?_
 ·rintro V ⟨v0, v1⟩
  go_simp
 simp only [zz0, zz1, zz2, Act.put, zz3, zz4, zz5]
 refine tk (n := 12) 2 (.pointer (some ⟨g, k * 4, none⟩)) rfl (.inl ⟨by rfl, ?_⟩) ⟨t1, t2⟩ ?_
 ·rintro V ⟨v0, v1⟩
  go_simp
 simp only [zz0, zz1, zz2, Act.put, zz3, zz4, zz5]
 refine tk (n := 12) 3 (.pointer (some ⟨g, k * 4 + 2, none⟩)) rfl (.inl ⟨by rfl, ?_⟩) ⟨t1, t2⟩ ?_
 ·rintro V ⟨v0, v1⟩
  go_simp
 simp only [zz0, zz1, zz2, Act.put, zz3, zz4, zz5]
 refine tk (n := 12) 4 (.string t.s) rfl (.inl ⟨by rfl, ?_⟩) ⟨t1, t2⟩ ?_
 ·rintro V ⟨v0, v1⟩
  go_simp
 simp only [zz0, zz1, zz2, Act.put, zz3, zz4, zz5]
 refine tk (n := 12) 5 (.slice (some ⟨g, 0, none⟩) ts.length cap) rfl (.inl ⟨by rfl, ?_⟩) ⟨t1, t2⟩ ?_
 ·rintro V ⟨v0, v1⟩
  go_simp
 simp only [zz0, zz1, zz2, Act.put, zz3, zz4, zz5]
 refine tk (n := 12) 6 (.int .i64 ((k : Nat))) rfl (.inl ⟨by rfl, ?_⟩) ⟨t1, t2⟩ ?_
 ·rintro V ⟨v0, v1⟩
  go_simp
 simp only [zz0, zz1, zz2, Act.put, zz3, zz4, zz5]
 refine tk (n := 12) 7 (.pointer (some ⟨g, k * 4, none⟩)) rfl (.inl ⟨by rfl, ?_⟩) ⟨t1, t2⟩ ?_
 ·rintro V ⟨v0, v1⟩
  go_simp
 simp only [zz0, zz1, zz2, Act.put, zz3, zz4, zz5]
 refine tk (n := 12) 8 (.pointer (some ⟨g, k * 4 + 1, none⟩)) rfl (.inl ⟨by rfl, ?_⟩) ⟨t1, t2⟩ ?_
 ·rintro V ⟨v0, v1⟩
  go_simp
 simp only [zz0, zz1, zz2, Act.put, zz3, zz4, zz5]
 refine tk (n := 12) 9 (.int .i64 t.at_) rfl (.inl ⟨by rfl, ?_⟩) ⟨t1, t2⟩ ?_
 ·rintro V ⟨v0, v1⟩
  go_simp
 simp only [zz0, zz1, zz2, Act.put, zz3, zz4, zz5]
 refine tk (n := 12) 10 (.agg #[.int .i64 4, .int .i64 0, .string t.s, .slice none 0 0, .int .i64 t.at_]) rfl (.inl ⟨by rfl, ?_⟩) ⟨t1, t2⟩ ?_
 ·rintro V ⟨v0, v1⟩
  go_simp
 simp only [zz0, zz1, zz2, Act.put, zz3, zz4, zz5]
 have ltg := S2.out.tq.ltg
 refine wpAnyR_all (rs := [11]) (by kernel_rfl) (by simp) (fun i2 hi2 => ?_)
 obtain rfl : i2 = 11 := by simpa using hi2
 clear hi2
 refine wpOp_plain rfl rfl ?_
 simp only [zz0, zz1, zz2]
 go_simp
 refine wpAnyR_all (rs := [12]) (by kernel_rfl) (by simp) (fun i2 hi2 => ?_)
 obtain rfl : i2 = 12 := by simpa using hi2
 clear hi2
 refine wpOp_plain rfl rfl ?_
 simp only [zz0, zz1, zz2]
 go_simp
 refine wpAnyR_done (by kernel_rfl) ?_ _
 go_wp2_with fail
 obtain ⟨W3, eb, hW, hb, S3⟩ := SQ.box S2 (.cells #[.int .i64 4, .int .i64 0, .string t.s, .slice none 0 0, .int .i64 t.at_] 31)
 rw [<- hW, <- hb]
 have hrbW := (SQ.boxAt S2 0 rfl).2.2
 clear hW S2 t1 t2 ltg
 have hwe : w.heap.size <= eb := (SQ.boxAt S3 0 rfl).2.1
 have hrbe : rb < eb := by omega
 clear hb
 refine (sign_tq S3.out.tq hv _ (by simp) _).mono ?_
 rintro e W4 ⟨rfl, rfl⟩
 by_cases hs : isS v ⟨#[41]⟩ = true
 ·rw [if_pos hs] at hr
  cases hr
  obtain ⟨x0, x1, x2, x3, x4⟩ := cellsFive (SQ.boxAt S3 0 rfl).1
  have hzr := (SQ.boxAt S3 1 rfl).1
  obtain ⟨r0, r1, r2, r3, r4, r5, r6⟩ := seven_cells hzr
  have fq := free_of_box hzr
  go_wp2_with fail
  have SB := SQ.put S3 1 rfl (seven_turned _ rb (.int .i64 4) (.int .i64 0) (.string t.s) (.slice none 0 0) (.int .i64 t.at_) (.int .i64 ((k : Int) + 2 + 1)) (.int .i64 0)) (seven_set hzr)
  refine bodyPost_ret (results_got rfl _ _ rb (.int .i64 4) (.int .i64 0) (.string t.s) (.slice none 0 0) (.int .i64 t.at_) (.int .i64 ((k : Int) + 2 + 1)) (.int .i64 0) rfl (SQ.boxAt SB 1 rfl).1) rfl ?_
  refine ⟨SB.out.tur, none, 0, ?_, .nil _ _⟩
  have e3 : (k : Int) + 2 + 1 = ((k + 3 : Nat) : Int) := by omega
  rw [e3]; rfl
 ·have hs : isS v ⟨#[41]⟩ = false := by simpa using hs
  rw [if_neg (by rw [hs]; decide)] at hr
  go_wp2_with fail
  go_loopw [8] (fun u wr => ∃ (v : Value) (ps : List (Ex × Value)) (j m2 : Nat), u = (.int .i64 ((j : Nat))) /\ Hid (AQ g cap ts f w d r t eb rb v ps j m2 wr)) (fun u _ => ts.length - (intOf u).toNat)
  case atStart => exact ⟨_, [], k + 2, m, by simp, Lib.hid ⟨S3, Own.start (SQ.boxAt S3 0 rfl).2.2, by simp, hvl, hm, hr⟩⟩
  case round =>
   clear S3 hr
   obtain ⟨v9, ps, j, m2, rfl, HA⟩ := hrel
   have S4 := HA.out.sq
   have OV := HA.out.own
   have hlen := HA.out.len
   have hjl := HA.out.lt
   have heq := HA.out.eq
   have hm2 := HA.out.fuel
   clear HA
   obtain ⟨va, vc, rfl⟩ := owns_shape OV.out.own
   obtain ⟨u, hu⟩ := some_of_lt hjl
   obtain ⟨m3, rfl⟩ : ∃ m', m2 = m' + 1 := by
    cases m2 with
    | zero => simp [runF] at heq
    | succ m' => exact ⟨m', rfl⟩
   unfold runF at heq
   simp only [hu, List.length_map] at heq
   have HF := first_tq S4.out.tq hu _ rfl (d + 1) true
   obtain ⟨x0, x1, x2, x3, x4⟩ := cellsFive (SQ.boxAt S4 0 rfl).1
   have hzr := (SQ.boxAt S4 1 rfl).1
   obtain ⟨r0, r1, r2, r3, r4, r5, r6⟩ := seven_cells hzr
   have fq := free_of_box hzr
   go_wp2_with fail
   cases hfp : firstP u (d + 1) true with
   | some c0 =>
    rw [hfp] at HF
    refine HF.mono ?_
    rintro e W5 ⟨rfl, rfl⟩
    simp only [codeP]
    rcases firstP_ne hfp with rfl | rfl
    ·obtain ⟨cc, hcc⟩ : ∃ cc : Int, cc = 5 := ⟨_, rfl⟩
     have hre5 : r = .err j cc := by
      rw [hcc]
      by_cases h40 : ps.length = 40
      ·rw [if_pos h40, firstP_five hfp] at heq; cases heq; rfl
      ·rw [if_neg h40] at heq
       cases m3 with
       | zero => simp [runF, PR.then_] at heq
       | succ m4 => rw [expr_at_err hu hfp m4] at heq; cases heq; rfl
     subst hre5
     have HCC := Lib.hid hcc
     clear heq hcc
     go_wp2_with fail
     refine (IH.expr 1 j _ (d + 1) _ _ (by omega) rfl (by omega) (by omega) (show runF ts 1 .expr j (d + 1) = some (.err j cc) by rw [HCC.out]; exact expr_at_err hu hfp 0) S4.out.tq).mono ?_
     rintro e W6 ⟨ht2, rfl⟩
     have S2 := SQ.same S4 ht2
     have hc : (cc != 0) = true := by rw [HCC.out]; rfl
     clear x0 x1 x2 x3 x4 r0 r1 r2 r3 r4 r5 r6 fq hzr
     have hz2 := (SQ.boxAt S2 1 rfl).1
     have hrl := (SQ.boxAt S2 1 rfl).2.2
     obtain ⟨r0, r1, r2, r3, r4, r5, r6⟩ := seven_cells hz2
     have fq := free_of_box hz2
     have S3e := SQ.put S2 1 rfl (seven_turned _ rb (.int .i64 0) (.int .i64 0) (.string ⟨#[]⟩) (.slice none 0 0) (.int .i64 0) (.int .i64 ((j : Nat))) (.int .i64 cc)) (seven_set hz2)
     obtain ⟨W5e, xbe, hW5e, -, S4e⟩ := SQ.box S3e (.cells #[.int .i64 0, .int .i64 0, .string ⟨#[]⟩, .slice none 0 0, .int .i64 0, (.int .i64 ((j : Nat))), .int .i64 cc] 82)
     unfold set7 at hW5e
     go_wp2_with fail
     rw [<- hW5e]
     refine bodyPost_ret (results_got rfl _ _ rb (.int .i64 0) (.int .i64 0) (.string ⟨#[]⟩) (.slice none 0 0) (.int .i64 0) (.int .i64 ((j : Nat))) (.int .i64 cc) rfl (SQ.boxAt S4e 2 rfl).1) rfl ?_
     exact ⟨S4e.out.tur, rfl⟩
    ·have hre2 : r = .err j 2 := by
      by_cases h40 : ps.length = 40
      ·rw [if_pos h40, firstP_zero (by rw [hfp]; simp)] at heq; cases heq; rfl
      ·rw [if_neg h40] at heq
       cases m3 with
       | zero => simp [runF, PR.then_] at heq
       | succ m4 => rw [expr_at_err hu hfp m4] at heq; cases heq; rfl
     subst hre2
     clear heq
     go_wp2_with fail
     have SB := SQ.put S4 1 rfl (seven_turned _ rb (.int .i64 0) (.int .i64 0) (.string ⟨#[]⟩) (.slice none 0 0) (.int .i64 0) (.int .i64 ((j : Nat))) (.int .i64 2)) (seven_set hzr)
     refine bodyPost_ret (results_got rfl _ _ rb (.int .i64 0) (.int .i64 0) (.string ⟨#[]⟩) (.slice none 0 0) (.int .i64 0) (.int .i64 ((j : Nat))) (.int .i64 2) rfl (SQ.boxAt SB 1 rfl).1) rfl ?_
     exact ⟨SB.out.tur, rfl⟩
   | none =>
    rw [hfp] at HF
    refine HF.mono ?_
    rintro e W5 ⟨rfl, rfl⟩
    simp only [codeP]
    by_cases h40 : ps.length = 40
    ·rw [if_pos h40, firstP_zero (by rw [hfp]; simp)] at heq
     cases heq
     have h4b : ((ps.length : Int) == 40) = true := by simp; omega
     clear h40
     go_wp2_with fail
     have SB := SQ.put S4 1 rfl (seven_turned _ rb (.int .i64 0) (.int .i64 0) (.string ⟨#[]⟩) (.slice none 0 0) (.int .i64 0) (.int .i64 ((j : Nat))) (.int .i64 2)) (seven_set hzr)
     refine bodyPost_ret (results_got rfl _ _ rb (.int .i64 0) (.int .i64 0) (.string ⟨#[]⟩) (.slice none 0 0) (.int .i64 0) (.int .i64 ((j : Nat))) (.int .i64 2) rfl (SQ.boxAt SB 1 rfl).1) rfl ?_
     exact ⟨SB.out.tur, rfl⟩
    rw [if_neg h40] at heq
    have h4b : ((ps.length : Int) == 40) = false := by simp; omega
    go_wp2_with fail
    rcases PR.then_some heq with ⟨j3, cc, h5, rfl⟩ | ⟨y, j3, h5, h6⟩
    ·have hcc := (run_fits h.ok _ _ _ _ _ h5).2
     have hc : (cc != 0) = true := by simp; omega
     refine (IH.expr m3 j _ (d + 1) _ _ (by omega) rfl (by omega) (by omega) h5 S4.out.tq).mono ?_
     rintro e W6 ⟨ht2, rfl⟩
     have S2 := SQ.same S4 ht2
     clear x0 x1 x2 x3 x4 r0 r1 r2 r3 r4 r5 r6 fq hzr
     have hz2 := (SQ.boxAt S2 1 rfl).1
     have hrl := (SQ.boxAt S2 1 rfl).2.2
     obtain ⟨r0, r1, r2, r3, r4, r5, r6⟩ := seven_cells hz2
     have fq := free_of_box hz2
     have S3e := SQ.put S2 1 rfl (seven_turned _ rb (.int .i64 0) (.int .i64 0) (.string ⟨#[]⟩) (.slice none 0 0) (.int .i64 0) (.int .i64 ((j3 : Nat))) (.int .i64 cc)) (seven_set hz2)
     obtain ⟨W5e, xbe, hW5e, -, S4e⟩ := SQ.box S3e (.cells #[.int .i64 0, .int .i64 0, .string ⟨#[]⟩, .slice none 0 0, .int .i64 0, (.int .i64 ((j3 : Nat))), .int .i64 cc] 82)
     unfold set7 at hW5e
     go_wp2_with fail
     rw [<- hW5e]
     refine bodyPost_ret (results_got rfl _ _ rb (.int .i64 0) (.int .i64 0) (.string ⟨#[]⟩) (.slice none 0 0) (.int .i64 0) (.int .i64 ((j3 : Nat))) (.int .i64 cc) rfl (SQ.boxAt S4e 2 rfl).1) rfl ?_
     exact ⟨S4e.out.tur, rfl⟩
    clear heq
    have hj3 : j <= j3 /\ j3 < ts.length := run_fits h.ok _ _ _ _ _ h5
    refine (IH.expr m3 j _ (d + 1) _ _ (by omega) rfl (by omega) (by omega) h5 S4.out.tq).mono ?_
    rintro e W9 ⟨ht2, py, cy, rfl, hk⟩
    have S5 := SQ.same S4 ht2
    have HY : Hid (exAt W9 (fun b => eb + 1 <= b /\ ∀ g, (Value.slice va ps.length vc).ownBlock = some g -> b ≠ g) (y, .slice py y.kids.length cy)) := Lib.hid (Own.fresh OV exMov (p := (y, .slice py y.kids.length cy)) hk)
    have OW := Own.move OV exMov ht2 (fun _ h => h.elim)
    clear S4 OV ht2 hk x0 x1 x2 x3 x4 r0 r1 r2 r3 r4 r5 r6 fq hzr
    obtain ⟨x0, x1, x2, x3, x4⟩ := cellsFive (SQ.boxAt S5 0 rfl).1
    have hel := (SQ.boxAt S5 0 rfl).2.2
    obtain ⟨W10, xb, hW10, hb10, S6⟩ := SQ.box S5 (.cells #[.int .i64 y.op, .int .i64 y.n, .string y.s, .slice py y.kids.length cy, .int .i64 y.at_, (.int .i64 ((j3 : Nat))), .int .i64 0] 82)
    obtain ⟨W11, kb, hW11, hb11, S7⟩ := SQ.box S6 (.cells #[.int .i64 y.op, .int .i64 y.n, .string y.s, .slice py y.kids.length cy, .int .i64 y.at_] 31)
    have SF := SQ.forget S7
    have ekb : kb = W9.heap.size + 1 := by rw [hb11, hW10]; simp
    have t9 : Turned (fun _ => False) W9 W11 := by rw [hW11, hW10]; exact ((Turned.refl _ _).alloc _).alloc _
    have OX := Own.move OW exMov t9 (fun _ h => h.elim)
    have HYX : Hid (exAt W11 (fun b => eb + 1 <= b /\ ∀ g, (Value.slice va ps.length vc).ownBlock = some g -> b ≠ g) (y, .slice py y.kids.length cy)) := Lib.hid (exMov _ _ _ _ _ _ HY.out t9 (fun _ _ => id) (fun _ hb _ => hb))
    have hcell : ∀ j u, [(.int .i64 y.op), .int .i64 y.n, .string y.s, .slice py y.kids.length cy, .int .i64 y.at_][j]? = some u -> W11.cell? ((⟨kb, 0, none⟩ : Addr).add j) = some u := by rw [hW11, hb11]; exact cells_list W10 [(.int .i64 y.op), .int .i64 y.n, .string y.s, .slice py y.kids.length cy, .int .i64 y.at_] 31
    have hown9 : ∀ b, (Value.slice va ps.length vc).ownBlock = some b -> eb + 1 <= b /\ b < W9.heap.size := fun b hb => ownsRow_block OW.out.own b hb
    have hwj3 : IntKind.i64.wrap ((j3 : Int) + 1) = (j3 : Int) + 1 := IntWalk.i64_in _ (by omega)
    clear S5 S6 S7 OW HY t9 hb11
    subst hW11
    subst hW10
    subst hb10
    subst ekb
    have HOX := OX.out.own
    have HTOP := OX.out.top
    go_wp2_with (at_builtin; refine wpList_append_exact _ rfl _ _ 29 rfl (eb + 1) 31 i0 (.agg #[.int .i64 0, .int .i64 0, .string ⟨#[]⟩, .slice none 0 0, .int .i64 0]) 5 64 Tryz.underlying29 hif hz0 hz1 hz2 rfl (by decide) (.slice va ps.length vc) ps.length (ps.flatMap exEnc) rfl HOX ⟨W9.heap.size + 1, 0, none⟩ 1 1 [(.int .i64 y.op), .int .i64 y.n, .string y.s, .slice py y.kids.length cy, .int .i64 y.at_] rfl rfl hcell (by simp [Value.oneCell']) (by unfold maxLen; omega) (by omega) HTOP ?_; intro v' w4 hown' hgrow hex; obtain ⟨ga, cap', rfl⟩ := ownsRow_succ hown'; have htG := Own.turned_grown (B := 0) OX hgrow; have SG := SQ.turn SF htG.1 (fun b hb => ⟨by have := hown9 b hb; omega, by have := hown9 b hb; simp; omega⟩); have OG := Own.grown OX exMov HYX.out hgrow hown' hex; clear hown' hgrow hex htG HYX OX SF hcell HOX HTOP x0 x1 x2 x3 x4; have hze := (SQ.boxAt SG 1 rfl).1; have fe := free_of_box hze; obtain ⟨x0, x1, x2, x3, x4⟩ := cellsFive hze; obtain ⟨g0, g1, g2, g3, g4, g5, g6⟩ := seven_cells (SQ.boxAt SG 0 rfl).1)
    have SX := SQ.put SG 1 rfl (one_turned w4 eb 3 (.slice (some ⟨ga, 0, none⟩) (ps.length + 1) cap')) (five_set3 hze)
    have OZ := Own.move OG exMov (one_turned w4 eb 3 (.slice (some ⟨ga, 0, none⟩) (ps.length + 1) cap')) (fun b hb => by omega)
    have hlen2 : (ps ++ [(y, Value.slice py y.kids.length cy)]).length = ps.length + 1 := by simp
    obtain ⟨Wx, hWx⟩ : ∃ Wx, Wx = w4.setCell ⟨eb, 3, none⟩ (.slice (some ⟨ga, 0, none⟩) (ps.length + 1) cap') := ⟨_, rfl⟩
    rw [<- hWx] at SX OZ ⊢
    clear hWx SG OG x0 x1 x2 x3 x4 g0 g1 g2 g3 g4 g5 g6 hze fe
    obtain ⟨u9, hu9⟩ := some_of_lt hj3.2
    simp only [hu9] at h6
    refine (sign_tq SX.out.tq hu9 _ rfl _).mono ?_
    rintro e W13 ⟨rfl, rfl⟩
    obtain ⟨x0, x1, x2, x3, x4⟩ := cellsFive (SQ.boxAt SX 1 rfl).1
    obtain ⟨g0, g1, g2, g3, g4, g5, g6⟩ := seven_cells (SQ.boxAt SX 0 rfl).1
    have hzr := (SQ.boxAt SX 2 rfl).1
    obtain ⟨r0, r1, r2, r3, r4, r5, r6⟩ := seven_cells hzr
    have fq := free_of_box hzr
    by_cases hc : isS u9 ⟨#[41]⟩ = true
    ·rw [if_pos hc] at h6
     cases h6
     go_wp2_with fail
     have tS := seven_turned Wx rb (.int .i64 4) (.int .i64 0) (.string t.s) (.slice (some ⟨ga, 0, none⟩) (ps.length + 1) cap') (.int .i64 t.at_) (.int .i64 ((j3 : Int) + 1)) (.int .i64 0)
     have SB := SQ.put SX 2 rfl tS (seven_set hzr)
     refine bodyPost_ret (results_got rfl _ _ rb (.int .i64 4) (.int .i64 0) (.string t.s) (.slice (some ⟨ga, 0, none⟩) (ps.length + 1) cap') (.int .i64 t.at_) (.int .i64 ((j3 : Int) + 1)) (.int .i64 0) rfl (SQ.boxAt SB 2 rfl).1) rfl ?_
     have hk := (Own.kidsAt OZ (by simp)).move tS (fun b hb => by omega) (M := fun b => w.heap.size <= b) (fun b hb _ => by omega)
     unfold set7 at hk
     exact ⟨SB.out.tur, some ⟨ga, 0, none⟩, cap', by simp [Ex.op, Ex.n, Ex.s, Ex.at_, Ex.kids], by simpa [Ex.kids] using hk⟩
    ·have hc : isS u9 ⟨#[41]⟩ = false := by simpa using hc
     rw [if_neg (by rw [hc]; decide)] at h6
     go_wp2_with fail
     refine (sign_tq SX.out.tq hu9 _ rfl _).mono ?_
     rintro e W13 ⟨rfl, rfl⟩
     by_cases hcm : isS u9 ⟨#[44]⟩ = true
     ·rw [if_pos hcm] at h6
      have hk3 := h.ok.sign hu9 hcm
      go_wp2_with fail
      go_roundw
      case rel => exact ⟨_, ps ++ [(y, .slice py y.kids.length cy)], j3 + 1, m3, by go_num, Lib.hid ⟨SQ.forget SX, (by rw [hlen2]; exact OZ), by omega, hk3, by omega, by rw [List.map_append]; exact h6⟩⟩
      case measure => simp [intOf]; omega
     ·have hcm : isS u9 ⟨#[44]⟩ = false := by simpa using hcm
      rw [if_neg (by rw [hcm]; decide)] at h6
      cases h6
      go_wp2_with fail
      have SB := SQ.put SX 2 rfl (seven_turned _ rb (.int .i64 0) (.int .i64 0) (.string ⟨#[]⟩) (.slice none 0 0) (.int .i64 0) (.int .i64 ((j3 : Nat))) (.int .i64 5)) (seven_set hzr)
      refine bodyPost_ret (results_got rfl _ _ rb (.int .i64 0) (.int .i64 0) (.string ⟨#[]⟩) (.slice none 0 0) (.int .i64 0) (.int .i64 ((j3 : Nat))) (.int .i64 5) rfl (SQ.boxAt SB 2 rfl).1) rfl ?_
      exact ⟨SB.out.tur, rfl⟩
theorem run_lt {ts : List Tok} {m k : Nat} {q : Qn} {d : Int} {r : PR Ex} (h : runF ts m q k d = some r) : k < ts.length := by
 cases m with
 | zero => simp [runF] at h
 | succ m =>
  unfold runF at h
  split at h
  ·cases h
  ·rename_i t ht; exact lt_of_some ht
theorem ratom_step {g cap : Nat} {ts : List Tok} {f : Nat} (IH : HypG g cap ts f) (m k : Nat) (d : Int) (r : PR Ex) (w : World) (hm : m <= f) (hd0 : 0 <= d) (hd : d <= 30) (hr : runF ts m .atom k d = some r) (h : TQ g cap ts w) :
  Calls Tryz.prog 117 #[.slice (some ⟨g, 0, none⟩) ts.length cap, (.int .i64 ((k : Nat))), .int .i64 d] w (GX w r) := by
 obtain ⟨t, ht⟩ := some_of_lt (run_lt hr)
 obtain ⟨m, rfl⟩ : ∃ m', m = m' + 1 := by
  cases m with
  | zero => simp [runF] at hr
  | succ m' => exact ⟨m', rfl⟩
 unfold runF at hr
 simp only [ht] at hr
 by_cases hs : isS t ⟨#[40]⟩ = true
 ·rw [if_pos hs] at hr
  exact ratom_paren IH m k d r w (by omega) hd0 hd h t ht hs hr
 ·rw [if_neg hs] at hr
  exact ratom_leaf (f := f) (fun m k d r w t v hm hd0 hd ht _ hv hr h => rargs_step IH m k d r w t v hm hd0 hd ht hv hr h) m k d r w (by omega) hd0 hd h t ht (by simpa using hs) hr
theorem refReaders (g cap : Nat) (ts : List Tok) : ∀ f, HypG g cap ts f
 | 0 => ⟨fun m _ _ _ _ _ hm => absurd hm (Nat.not_lt_zero m), fun m _ _ _ _ _ _ _ hm => absurd hm (Nat.not_lt_zero m), fun m _ _ _ _ _ hm => absurd hm (Nat.not_lt_zero m), fun m _ _ _ _ _ hm => absurd hm (Nat.not_lt_zero m), fun m _ _ _ _ _ hm => absurd hm (Nat.not_lt_zero m)⟩
 | f + 1 => ⟨fun m k z d r w hm hz hd0 hd hr h => by subst hz; exact rexpr_step (refReaders g cap ts f) m k d r w (Nat.le_of_lt_succ hm) (run_lt hr) hd0 hd hr h,
   fun m n k z y d r w hm hz hy h1 h7 hd0 hd hr h => by subst hz; exact binary_step (refReaders g cap ts f) m n k y d r w (Nat.le_of_lt_succ hm) (run_lt hr) hy h1 h7 hd0 hd hr h,
   fun m k z d r w hm hz hd0 hd hr h => by subst hz; exact bang_step (refReaders g cap ts f) m k d r w (Nat.le_of_lt_succ hm) (run_lt hr) hd0 hd hr h,
   fun m k z d r w hm hz hd0 hd hr h => by subst hz; exact minus_step (refReaders g cap ts f) m k d r w (Nat.le_of_lt_succ hm) (run_lt hr) hd0 hd hr h,
   fun m k z d r w hm hz hd0 hd hr h => by subst hz; exact ratom_step (refReaders g cap ts f) m k d r w (Nat.le_of_lt_succ hm) hd0 hd hr h⟩
theorem rexpr_tq {g cap : Nat} {ts : List Tok} (m k : Nat) (z d : Int) (r : PR Ex) (w : World) (hz : z = k) (hd0 : 0 <= d) (hd : d <= 31) (hr : runF ts m .expr k d = some r) (h : TQ g cap ts w) : Calls Tryz.prog 34 #[.slice (some ⟨g, 0, none⟩) ts.length cap, .int .i64 z, .int .i64 d] w (GX w r) :=
 (refReaders g cap ts (m + 1)).expr m k z d r w (Nat.lt_succ_self m) hz hd0 hd hr h
end Go.Proofs.YtjijdgkccfeeaaaGreatDoor
