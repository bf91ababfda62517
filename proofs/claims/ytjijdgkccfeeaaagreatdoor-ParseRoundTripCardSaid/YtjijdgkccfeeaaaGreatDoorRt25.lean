/- Part 25 of the proof of card: ParTripW. Conditions: those of each theorem. -/
import Derived.Test.YtjijdgkccfeeaaaGreatDoorRt01
import Derived.Test.YtjijdgkccfeeaaaGreatDoorRt18
import Derived.Test.YtjijdgkccfeeaaaGreatDoorRt19
import Derived.Test.YtjijdgkccfeeaaaGreatDoorRt24
namespace Go.Proofs.YtjijdgkccfeeaaaGreatDoor
open Go Go.Proofs Go.RowKit
attribute [local go_sem] Oper.semAt_some
theorem same_forms (l m : List Fm) (h : sameFs false l m = true) (u v : Value) (W : World) (h1 : FormsAt W (fun _ => True) l u) (h2 : FormsAt W (fun _ => True) m v) : Calls Tryz.prog 24 #[u, v] W fun e w' => e = .returned (.bool true) ∧ Turned (fun _ => False) W w' := by
  have := same_any l m u v _ W h1 h2
  rw [h] at this
  exact this
theorem print_forms {l : List Fm} {v : Value} {s : ByteArray} {c : Int} (hp : printFs l = (s, c)) (hs : smallFs l = true) (hl : (showFs l).1.length ≤ 100000) (hf : FitT (showFs l).1) (W : World) (hv : PV W.heap.size W) (h : FormsAt W (fun _ => True) l v) :
    Calls Tryz.prog 20 #[v] W fun e w' => e = .returned (.tuple #[.string s, (.int .i64 c)]) ∧ Turned (fun _ => False) W w' := by
  have := print_any' l v W hv (h.move (Turned.refl (fun _ => False) _) (fun _ _ => id) (fun _ _ hb => hb)) hl hs hf
  rw [hp] at this
  exact this
theorem print_ex {x : Ex} {v : Value} {s : ByteArray} {c : Int} (hp : printX x = (s, c)) (hs : smallX x = true) (hl : (showX x).2.1.length ≤ 100000) (hf : FitT (showX x).2.1) (W : World) (hv : PV W.heap.size W) (h : KidsAt W (fun _ => True) x.kids v) :
    Calls Tryz.prog 21 #[exA x v] W fun e w' => e = .returned (.tuple #[.string s, (.int .i64 c)]) ∧ Turned (fun _ => False) W w' := by
  have := printExpr_any x v W hv (h.move (Turned.refl (fun _ => False) _) (fun _ _ => id) (fun _ _ hb => hb)) hl hs hf
  rw [hp] at this
  exact this
set_option maxRecDepth 20000 in
set_option maxHeartbeats 16000000 in
theorem trip_any (l : List Fm) (x : Ex) (src : ByteArray) (vl vx : Value) (w : World) (hv : PV w.heap.size w) (hl : FormsAt w (fun _ => True) l vl) (hx : KidsAt w (fun _ => True) x.kids vx) (wl : ∀ f ∈ l, WfF f) (wx : WfX x) :
    Calls Tryz.prog 7 #[vl, exA x vx, .string src] w fun e w' => e = .returned (.bool true) ∧ Below w.heap.size w w' := by
  obtain ⟨n, hn⟩ : ∃ n, n = w.heap.size := ⟨_, rfl⟩
  rw [← hn] at hv
  have hn2 := Nat.le_of_eq hn
  clear hn
  have HPV : Hid (∀ W, PV n W → n ≤ W.heap.size → PV W.heap.size W) := Lib.hid fun W h hm => h.mono hm
  have S0 := St.more (St.more (St.start (T := PV n) hv (stays_pv n)) hl (stays_forms _ _)) hx (stays_kids _ _)
  have HN := Lib.hid hn2
  have HS := Lib.hid (fun W (h : PV W.heap.size W) => sanity_any W h)
  obtain ⟨pL, cL, rfl⟩ := hl.shape
  obtain ⟨pX, cX, rfl⟩ := hx.shape
  have W1 := Lib.hid wl
  have W2 := Lib.hid wx
  clear hv hn2 hl hx wl wx
  have F1 := Lib.hid (fun (W : World) (h : FormsAt W (fun _ => True) l (.slice pL l.length cL)) => few_any l 200 _ W (by decide) (by decide) h)
  have F2 := Lib.hid (fun (W : World) (h : KidsAt W (fun _ => True) x.kids (.slice pX x.kids.length cX)) => exprs_any _ x (Nat.le_refl _) 200 _ W (by decide) (by decide) h)
  unfold exA at F2 ⊢
  by_cases h1 : 0 ≤ fewL l 200
  rotate_left
  · rw [decide_eq_false h1] at F1
    clear h1 F2 W1 W2
    go_enter Tryz.func7, Tryz.ntmps7
    go_upto_region 1 with fail
    obtain ⟨V1, b4, hW, hB, hbl, S1⟩ := St.box S0 (.cells #[(.int .i64 (x.op)), (.int .i64 (x.n)), .string x.s, .slice pX x.kids.length cX, (.int .i64 (x.at_))] 31)
    have hsz : V1.heap.size = b4 + 1 := by rw [hW, hB]; simp
    rw [← hW, ← hB]
    clear hW hB hbl S0
    clear hsz
    obtain ⟨x0, x1, x2, x3, x4⟩ := St.cells5 S1 0 rfl
    go_wp2_with (first | (have hq := S2; clear hq; go_at_call 8; refine (HS.out _ (HPV.out _ S2.out.tab.1.1 (Nat.le_trans HN.out S2.out.bel.size))).mono ?_; rintro e U ⟨rfl, hb⟩; have SU := St.call S2 hb; clear hb) | (go_at_call 18; refine (F1.out _ S1.out.tab.1.2).mono ?_; rintro e U1 ⟨rfl, ht⟩; have S2 := St.call S1 (below_turned ht); clear ht S1 x0 x1 x2 x3 x4; obtain ⟨x0, x1, x2, x3, x4⟩ := St.cells5 S2 0 rfl))
    go_ret
    exact ⟨rfl, SU.out.bel⟩
  have HL := Lib.hid (few_q W1.out (by decide) h1)
  rw [decide_eq_true h1] at F1
  clear h1 W1
  by_cases h3 : 0 ≤ fewX x 200
  rotate_left
  · have h3b : fewX x 200 < 0 := by omega
    clear h3 W2 HL
    generalize fewX x 200 = zx at F2 h3b
    go_enter Tryz.func7, Tryz.ntmps7
    go_upto_region 1 with fail
    obtain ⟨V1, b4, hW, hB, hbl, S1⟩ := St.box S0 (.cells #[(.int .i64 (x.op)), (.int .i64 (x.n)), .string x.s, .slice pX x.kids.length cX, (.int .i64 (x.at_))] 31)
    have hsz : V1.heap.size = b4 + 1 := by rw [hW, hB]; simp
    rw [← hW, ← hB]
    clear hW hB hbl S0
    clear hsz
    obtain ⟨x0, x1, x2, x3, x4⟩ := St.cells5 S1 0 rfl
    go_wp2_with (first | (have hq := S3; clear hq; go_at_call 8; refine (HS.out _ (HPV.out _ S3.out.tab.1.1 (Nat.le_trans HN.out S3.out.bel.size))).mono ?_; rintro e U ⟨rfl, hb⟩; have SU := St.call S3 hb; clear hb) | (have hq := S2; clear hq; go_at_call 19; refine (F2.out _ S2.out.tab.2).mono ?_; rintro e U2 ⟨rfl, ht⟩; have S3 := St.call S2 (below_turned ht); clear ht S2 x0 x1 x2 x3 x4) | (go_at_call 18; refine (F1.out _ S1.out.tab.1.2).mono ?_; rintro e U1 ⟨rfl, ht⟩; have S2 := St.call S1 (below_turned ht); clear ht S1 x0 x1 x2 x3 x4; obtain ⟨x0, x1, x2, x3, x4⟩ := St.cells5 S2 0 rfl))
    go_ret
    exact ⟨rfl, SU.out.bel⟩
  have HX := Lib.hid (few_p W2.out (by decide) h3)
  have h3b : ¬ fewX x 200 < 0 := by omega
  clear h3 W2
  generalize fewX x 200 = zx at F2 h3b
  by_cases h5 : 500 < src.size
  · have h5b : (500 : Int) < (src.size : Int) := by omega
    clear h5 HL HX
    go_enter Tryz.func7, Tryz.ntmps7
    go_upto_region 1 with fail
    obtain ⟨V1, b4, hW, hB, hbl, S1⟩ := St.box S0 (.cells #[(.int .i64 (x.op)), (.int .i64 (x.n)), .string x.s, .slice pX x.kids.length cX, (.int .i64 (x.at_))] 31)
    have hsz : V1.heap.size = b4 + 1 := by rw [hW, hB]; simp
    rw [← hW, ← hB]
    clear hW hB hbl S0
    clear hsz
    obtain ⟨x0, x1, x2, x3, x4⟩ := St.cells5 S1 0 rfl
    go_wp2_with (first | (have hq := S3; clear hq; go_at_call 8; refine (HS.out _ (HPV.out _ S3.out.tab.1.1 (Nat.le_trans HN.out S3.out.bel.size))).mono ?_; rintro e U ⟨rfl, hb⟩; have SU := St.call S3 hb; clear hb) | (have hq := S2; clear hq; go_at_call 19; refine (F2.out _ S2.out.tab.2).mono ?_; rintro e U2 ⟨rfl, ht⟩; have S3 := St.call S2 (below_turned ht); clear ht S2 x0 x1 x2 x3 x4) | (go_at_call 18; refine (F1.out _ S1.out.tab.1.2).mono ?_; rintro e U1 ⟨rfl, ht⟩; have S2 := St.call S1 (below_turned ht); clear ht S1 x0 x1 x2 x3 x4; obtain ⟨x0, x1, x2, x3, x4⟩ := St.cells5 S2 0 rfl))
    go_ret
    exact ⟨rfl, SU.out.bel⟩
  have h5b : ¬ (500 : Int) < (src.size : Int) := by omega
  have HZ : Hid (src.size ≤ 500) := Lib.hid (by omega)
  clear h5
  obtain ⟨ps, pe, hp⟩ : ∃ s c, printFs l = (s, c) := ⟨_, _, rfl⟩
  obtain ⟨qs, qe, hq⟩ : ∃ s c, printX x = (s, c) := ⟨_, _, rfl⟩
  have G1 := Lib.hid (fun (W : World) (hv : PV W.heap.size W) (h : FormsAt W (fun _ => True) l (.slice pL l.length cL)) => print_forms hp HL.out.2.2.1 HL.out.2.2.2.1 HL.out.2.2.2.2 W hv h)
  have G2 := Lib.hid (fun (W : World) (hv : PV W.heap.size W) (h : KidsAt W (fun _ => True) x.kids (.slice pX x.kids.length cX)) => print_ex hq HX.out.2.1 HX.out.2.2.1 HX.out.2.2.2 W hv h)
  unfold exA at G2
  have HP := Lib.hid hp
  have HQ := Lib.hid hq
  clear hp hq HL HX
  go_enter Tryz.func7, Tryz.ntmps7
  go_upto_region 1 with fail
  obtain ⟨V1, b4, hW, hB, hbl, S1⟩ := St.box S0 (.cells #[(.int .i64 (x.op)), (.int .i64 (x.n)), .string x.s, .slice pX x.kids.length cX, (.int .i64 (x.at_))] 31)
  have hsz : V1.heap.size = b4 + 1 := by rw [hW, hB]; simp
  rw [← hW, ← hB]
  clear hW hB hbl S0
  clear hsz
  obtain ⟨x0, x1, x2, x3, x4⟩ := St.cells5 S1 0 rfl
  go_upto_region 3 with (first | (have hq := S2; clear hq; go_at_call 19; refine (F2.out _ S2.out.tab.2).mono ?_; rintro e U2 ⟨rfl, ht⟩; have S3 := St.call S2 (below_turned ht); clear ht S2 x0 x1 x2 x3 x4) | (go_at_call 18; refine (F1.out _ S1.out.tab.1.2).mono ?_; rintro e U1 ⟨rfl, ht⟩; have S2 := St.call S1 (below_turned ht); clear ht S1 x0 x1 x2 x3 x4; obtain ⟨x0, x1, x2, x3, x4⟩ := St.cells5 S2 0 rfl))
  clear F1 F2 h3b h5b
  go_upto_region 4 with (go_at_call 20; refine (G1.out _ (HPV.out _ S3.out.tab.1.1 (Nat.le_trans HN.out S3.out.bel.size)) S3.out.tab.1.2).mono ?_; rintro e V4 ⟨rfl, ht⟩; have S4 := St.call S3 (below_turned ht); clear ht)
  clear S3 G1
  by_cases hc : pe = 0
  · subst hc
    obtain ⟨m1, k1, k2⟩ := printFs_back HP.out
    have E1 := Lib.hid (fun (W : World) (h : PV W.heap.size W) => forms_ok ps m1 k1 W h)
    have E2 := Lib.hid (fun (W : World) (u v : Value) (h1 : FormsAt W (fun _ => True) l u) (h2 : FormsAt W (fun _ => True) m1 v) => same_forms l m1 k2 u v W h1 h2)
    clear k1 k2 HP
    go_upto_region 6 with (go_at_call 9; refine (E1.out _ (HPV.out _ S4.out.tab.1.1 (Nat.le_trans HN.out S4.out.bel.size))).mono ?_; rintro e V5 ⟨hb, p1, c1, rfl, hF⟩; have S5 := St.more (St.call S4 hb) hF (stays_forms _ _); clear hb hF)
    clear S4 E1
    obtain ⟨V6, b10, hW, hB, hbl, S6⟩ := St.box S5 (.cells #[(.int .i64 0), (.int .i64 0)] 26)
    have hsz : V6.heap.size = b10 + 1 := by rw [hW, hB]; simp
    rw [← hW, ← hB]
    clear hW hB hbl S5
    clear hsz
    obtain ⟨y0, y1⟩ := St.cells2 S6 0 rfl
    go_upto_region 8 with (go_at_call 24; refine (E2.out _ _ _ S6.out.tab.1.1.2 S6.out.tab.2).mono ?_; rintro e V7 ⟨rfl, ht⟩; have S7 := St.call S6 (below_turned ht); clear ht)
    clear S6 E2 y0 y1
    obtain ⟨x0, x1, x2, x3, x4⟩ := St.cells5 S7 1 rfl
    go_upto_region 9 with (go_at_call 21; refine (G2.out _ (HPV.out _ S7.out.tab.1.1.1 (Nat.le_trans HN.out S7.out.bel.size)) S7.out.tab.1.2).mono ?_; rintro e V8 ⟨rfl, ht⟩; have S8 := St.call S7 (below_turned ht); clear ht)
    clear S7 G2 x0 x1 x2 x3 x4
    by_cases hc : qe = 0
    · subst hc
      obtain ⟨z1, k1, k2⟩ := printX_back HQ.out
      have E1 := Lib.hid (fun (W : World) (h : PV W.heap.size W) => expr_ok qs z1 k1 W h)
      have E2 := Lib.hid (fun (W : World) (u v : Value) (h1 : KidsAt W (fun _ => True) x.kids u) (h2 : KidsAt W (fun _ => True) z1.kids v) => same_true x z1 k2 u v W h1 h2)
      unfold exA at E2
      clear k1 k2 HQ
      go_upto_region 11 with (go_at_call 10; refine (E1.out _ (HPV.out _ S8.out.tab.1.1.1 (Nat.le_trans HN.out S8.out.bel.size))).mono ?_; rintro e V9 ⟨hb, p2, c2, rfl, hF⟩; have S9 := St.more (St.call S8 hb) hF (stays_kids _ _); clear hb hF)
      clear S8 E1
      obtain ⟨V10, b13, hW, hB, hbl, S10⟩ := St.box S9 (.cells #[(.int .i64 (z1.op)), (.int .i64 (z1.n)), .string z1.s, .slice p2 z1.kids.length c2, (.int .i64 (z1.at_))] 31)
      have hsz : V10.heap.size = b13 + 1 := by rw [hW, hB]; simp
      rw [← hW, ← hB]
      clear hW hB hbl S9
      have hs : V10.heap.size = b13 + 1 := hsz
      obtain ⟨V11, b14, hW, hB, hbl, S11⟩ := St.box S10 (.cells #[(.int .i64 0), (.int .i64 0)] 26)
      have hsz : V11.heap.size = b14 + 1 := by rw [hW, hB]; simp
      rw [hs] at hB
      rw [← hW, ← hB]
      clear hW hB hbl S10 hs
      clear hsz
      obtain ⟨x0, x1, x2, x3, x4⟩ := St.cells5 S11 3 rfl
      obtain ⟨y0, y1, y2, y3, y4⟩ := St.cells5 S11 1 rfl
      obtain ⟨z0, z1⟩ := St.cells2 S11 0 rfl
      go_upto_region 13 with (go_at_call 16; refine (E2.out _ _ _ S11.out.tab.1.1.2 S11.out.tab.2).mono ?_; rintro e V12 ⟨rfl, ht⟩; have S12 := St.call S11 (below_turned ht); clear ht)
      clear S11 E2 x0 x1 x2 x3 x4 y0 y1 y2 y3 y4 z0 z1
      cases hr : formsP src with
      | bad a c =>
        have hc : (c == 0) = false := by simpa using formsP_err hr
        have E1 := Lib.hid (fun (W : World) (h : PV W.heap.size W) => forms_bad src a c hr W h)
        clear hr
        go_upto_region 14 with (go_at_call 9; refine (E1.out _ (HPV.out _ S12.out.tab.1.1.1.1 (Nat.le_trans HN.out S12.out.bel.size))).mono ?_; rintro e V13 ⟨hb, rfl⟩; have S13 := St.call S12 hb; clear hb)
        clear S12 E1
        obtain ⟨V14, b16, hW, hB, hbl, S14⟩ := St.box S13 (.cells #[(.int .i64 a), (.int .i64 c)] 26)
        have hsz : V14.heap.size = b16 + 1 := by rw [hW, hB]; simp
        rw [← hW, ← hB]
        clear hW hB hbl S13
        clear hsz
        obtain ⟨y0, y1⟩ := St.cells2 S14 0 rfl
        go_upto_region 20 with fail
        clear y0 y1 hc
        cases hr : exprP src with
        | bad a c =>
          have hc : (c != 0) = true := by simpa using exprP_err hr
          have E1 := Lib.hid (fun (W : World) (h : PV W.heap.size W) => expr_bad src a c hr W h)
          clear hr
          go_upto_region 21 with (go_at_call 10; refine (E1.out _ (HPV.out _ S14.out.tab.1.1.1.1 (Nat.le_trans HN.out S14.out.bel.size))).mono ?_; rintro e V15 ⟨hb, rfl⟩; have S15 := St.call S14 hb; clear hb)
          clear S14 E1
          obtain ⟨V16, b23, hW, hB, hbl, S16⟩ := St.box S15 (.cells #[(.int .i64 0), (.int .i64 0), .string ⟨#[]⟩, .slice none 0 0, (.int .i64 0)] 31)
          have hsz : V16.heap.size = b23 + 1 := by rw [hW, hB]; simp
          rw [← hW, ← hB]
          clear hW hB hbl S15
          have hs : V16.heap.size = b23 + 1 := hsz
          obtain ⟨V17, b24, hW, hB, hbl, S17⟩ := St.box S16 (.cells #[(.int .i64 a), (.int .i64 c)] 26)
          have hsz : V17.heap.size = b24 + 1 := by rw [hW, hB]; simp
          rw [hs] at hB
          rw [← hW, ← hB]
          clear hW hB hbl S16 hs
          clear hsz
          obtain ⟨y0, y1⟩ := St.cells2 S17 0 rfl
          go_wp2_with (go_at_call 8; refine (HS.out _ (HPV.out _ S17.out.tab.1.1.1.1 (Nat.le_trans HN.out S17.out.bel.size))).mono ?_; rintro e U ⟨rfl, hb⟩; have SU := St.call S17 hb; clear hb)
          go_ret
          exact ⟨rfl, SU.out.bel⟩
        | ok y =>
          obtain ⟨s1, s2, s3, u2, z2, k1, k2, k3⟩ := expr_all HZ.out hr
          have E1 := Lib.hid (fun (W : World) (h : PV W.heap.size W) => expr_ok src y hr W h)
          have E2 := Lib.hid (fun (W : World) (v : Value) (hv : PV W.heap.size W) (h : KidsAt W (fun _ => True) y.kids v) => print_ex k1 s1 s2 s3 W hv h)
          have E3 := Lib.hid (fun (W : World) (h : PV W.heap.size W) => expr_ok u2 z2 k2 W h)
          have E4 := Lib.hid (fun (W : World) (u v : Value) (h1 : KidsAt W (fun _ => True) y.kids u) (h2 : KidsAt W (fun _ => True) z2.kids v) => same_true y z2 k3 u v W h1 h2)
          unfold exA at E2 E4
          clear hr k1 k2 k3 s1 s2 s3
          go_upto_region 21 with (go_at_call 10; refine (E1.out _ (HPV.out _ S14.out.tab.1.1.1.1 (Nat.le_trans HN.out S14.out.bel.size))).mono ?_; rintro e V15 ⟨hb, p5, c5, rfl, hF⟩; have S15 := St.more (St.call S14 hb) hF (stays_kids _ _); clear hb hF)
          clear S14 E1
          obtain ⟨V16, b23, hW, hB, hbl, S16⟩ := St.box S15 (.cells #[(.int .i64 (y.op)), (.int .i64 (y.n)), .string y.s, .slice p5 y.kids.length c5, (.int .i64 (y.at_))] 31)
          have hsz : V16.heap.size = b23 + 1 := by rw [hW, hB]; simp
          rw [← hW, ← hB]
          clear hW hB hbl S15
          have hs : V16.heap.size = b23 + 1 := hsz
          obtain ⟨V17, b24, hW, hB, hbl, S17⟩ := St.box S16 (.cells #[(.int .i64 0), (.int .i64 0)] 26)
          have hsz : V17.heap.size = b24 + 1 := by rw [hW, hB]; simp
          rw [hs] at hB
          rw [← hW, ← hB]
          clear hW hB hbl S16 hs
          clear hsz
          obtain ⟨z0, z1⟩ := St.cells2 S17 0 rfl
          obtain ⟨y0, y1, y2, y3, y4⟩ := St.cells5 S17 1 rfl
          go_upto_region 24 with (go_at_call 21; refine (E2.out _ _ (HPV.out _ S17.out.tab.1.1.1.1.1 (Nat.le_trans HN.out S17.out.bel.size)) S17.out.tab.2).mono ?_; rintro e V18 ⟨rfl, ht⟩; have S18 := St.call S17 (below_turned ht); clear ht)
          clear S17 E2 z0 z1 y0 y1 y2 y3 y4
          go_upto_region 25 with (go_at_call 10; refine (E3.out _ (HPV.out _ S18.out.tab.1.1.1.1.1 (Nat.le_trans HN.out S18.out.bel.size))).mono ?_; rintro e V19 ⟨hb, p6, c6, rfl, hF⟩; have S19 := St.more (St.call S18 hb) hF (stays_kids _ _); clear hb hF)
          clear S18 E3
          obtain ⟨V20, b27, hW, hB, hbl, S20⟩ := St.box S19 (.cells #[(.int .i64 (z2.op)), (.int .i64 (z2.n)), .string z2.s, .slice p6 z2.kids.length c6, (.int .i64 (z2.at_))] 31)
          have hsz : V20.heap.size = b27 + 1 := by rw [hW, hB]; simp
          rw [← hW, ← hB]
          clear hW hB hbl S19
          have hs : V20.heap.size = b27 + 1 := hsz
          obtain ⟨V21, b28, hW, hB, hbl, S21⟩ := St.box S20 (.cells #[(.int .i64 0), (.int .i64 0)] 26)
          have hsz : V21.heap.size = b28 + 1 := by rw [hW, hB]; simp
          rw [hs] at hB
          rw [← hW, ← hB]
          clear hW hB hbl S20 hs
          clear hsz
          go_wp2_with (first | (have hq := S22; clear hq; go_at_call 16; refine (E4.out _ _ _ S22.out.tab.1.2 S22.out.tab.2).mono ?_; rintro e UU ⟨rfl, ht⟩; have SU := St.call S22 (below_turned ht); clear ht) | (go_at_call 8; refine (HS.out _ (HPV.out _ S21.out.tab.1.1.1.1.1.1 (Nat.le_trans HN.out S21.out.bel.size))).mono ?_; rintro e U ⟨rfl, hb⟩; have S22 := St.call S21 hb; clear hb; obtain ⟨y0, y1, y2, y3, y4⟩ := St.cells5 S22 3 rfl; obtain ⟨x0, x1, x2, x3, x4⟩ := St.cells5 S22 1 rfl; obtain ⟨z0, z1⟩ := St.cells2 S22 0 rfl))
          go_ret
          exact ⟨rfl, SU.out.bel⟩
      | ok m =>
        obtain ⟨⟨s1, s2, s3⟩, u, m2, k1, k2, k3, k4, s4, s5, s6⟩ := forms_all' HZ.out hr
        have E1 := Lib.hid (fun (W : World) (h : PV W.heap.size W) => forms_ok src m hr W h)
        have E2 := Lib.hid (fun (W : World) (v : Value) (hv : PV W.heap.size W) (h : FormsAt W (fun _ => True) m v) => print_forms k1 s1 s2 s3 W hv h)
        have E3 := Lib.hid (fun (W : World) (h : PV W.heap.size W) => forms_ok u m2 k2 W h)
        have E4 := Lib.hid (fun (W : World) (v : Value) (hv : PV W.heap.size W) (h : FormsAt W (fun _ => True) m2 v) => print_forms k4 s4 s5 s6 W hv h)
        have E5 := Lib.hid (fun (W : World) (u v : Value) (h1 : FormsAt W (fun _ => True) m u) (h2 : FormsAt W (fun _ => True) m2 v) => same_forms m m2 k3 u v W h1 h2)
        clear hr k1 k2 k3 k4 s1 s2 s3 s4 s5 s6
        go_upto_region 14 with (go_at_call 9; refine (E1.out _ (HPV.out _ S12.out.tab.1.1.1.1 (Nat.le_trans HN.out S12.out.bel.size))).mono ?_; rintro e V13 ⟨hb, p3, c3, rfl, hF⟩; have S13 := St.more (St.call S12 hb) hF (stays_forms _ _); clear hb hF)
        clear S12 E1
        obtain ⟨V14, b16, hW, hB, hbl, S14⟩ := St.box S13 (.cells #[(.int .i64 0), (.int .i64 0)] 26)
        have hsz : V14.heap.size = b16 + 1 := by rw [hW, hB]; simp
        rw [← hW, ← hB]
        clear hW hB hbl S13
        clear hsz
        obtain ⟨y0, y1⟩ := St.cells2 S14 0 rfl
        go_upto_region 15 with fail
        clear y0 y1
        go_upto_region 16 with (go_at_call 20; refine (E2.out _ _ (HPV.out _ S14.out.tab.1.1.1.1.1 (Nat.le_trans HN.out S14.out.bel.size)) S14.out.tab.2).mono ?_; rintro e V15 ⟨rfl, ht⟩; have S15 := St.call S14 (below_turned ht); clear ht)
        clear S14 E2
        go_upto_region 17 with (go_at_call 9; refine (E3.out _ (HPV.out _ S15.out.tab.1.1.1.1.1 (Nat.le_trans HN.out S15.out.bel.size))).mono ?_; rintro e V16 ⟨hb, p4, c4, rfl, hF⟩; have S16 := St.more (St.call S15 hb) hF (stays_forms _ _); clear hb hF)
        clear S15 E3
        obtain ⟨V17, b20, hW, hB, hbl, S17⟩ := St.box S16 (.cells #[(.int .i64 0), (.int .i64 0)] 26)
        have hsz : V17.heap.size = b20 + 1 := by rw [hW, hB]; simp
        rw [← hW, ← hB]
        clear hW hB hbl S16
        clear hsz
        go_upto_region 18 with (go_at_call 20; refine (E4.out _ _ (HPV.out _ S17.out.tab.1.1.1.1.1.1 (Nat.le_trans HN.out S17.out.bel.size)) S17.out.tab.2).mono ?_; rintro e V18 ⟨rfl, ht⟩; have S18 := St.call S17 (below_turned ht); clear ht)
        clear S17 E4
        obtain ⟨y0, y1⟩ := St.cells2 S18 0 rfl
        go_upto_region 20 with (go_at_call 24; refine (E5.out _ _ _ S18.out.tab.1.2 S18.out.tab.2).mono ?_; rintro e V19 ⟨rfl, ht⟩; have S19 := St.call S18 (below_turned ht); clear ht)
        clear S18 E5 y0 y1
        cases hr : exprP src with
        | bad a c =>
          have hc : (c != 0) = true := by simpa using exprP_err hr
          have E1 := Lib.hid (fun (W : World) (h : PV W.heap.size W) => expr_bad src a c hr W h)
          clear hr
          go_upto_region 21 with (go_at_call 10; refine (E1.out _ (HPV.out _ S19.out.tab.1.1.1.1.1.1 (Nat.le_trans HN.out S19.out.bel.size))).mono ?_; rintro e V20 ⟨hb, rfl⟩; have S20 := St.call S19 hb; clear hb)
          clear S19 E1
          obtain ⟨V21, b23, hW, hB, hbl, S21⟩ := St.box S20 (.cells #[(.int .i64 0), (.int .i64 0), .string ⟨#[]⟩, .slice none 0 0, (.int .i64 0)] 31)
          have hsz : V21.heap.size = b23 + 1 := by rw [hW, hB]; simp
          rw [← hW, ← hB]
          clear hW hB hbl S20
          have hs : V21.heap.size = b23 + 1 := hsz
          obtain ⟨V22, b24, hW, hB, hbl, S22⟩ := St.box S21 (.cells #[(.int .i64 a), (.int .i64 c)] 26)
          have hsz : V22.heap.size = b24 + 1 := by rw [hW, hB]; simp
          rw [hs] at hB
          rw [← hW, ← hB]
          clear hW hB hbl S21 hs
          clear hsz
          obtain ⟨y0, y1⟩ := St.cells2 S22 0 rfl
          go_wp2_with (go_at_call 8; refine (HS.out _ (HPV.out _ S22.out.tab.1.1.1.1.1.1 (Nat.le_trans HN.out S22.out.bel.size))).mono ?_; rintro e U ⟨rfl, hb⟩; have SU := St.call S22 hb; clear hb)
          go_ret
          exact ⟨rfl, SU.out.bel⟩
        | ok y =>
          obtain ⟨s1, s2, s3, u2, z2, k1, k2, k3⟩ := expr_all HZ.out hr
          have E1 := Lib.hid (fun (W : World) (h : PV W.heap.size W) => expr_ok src y hr W h)
          have E2 := Lib.hid (fun (W : World) (v : Value) (hv : PV W.heap.size W) (h : KidsAt W (fun _ => True) y.kids v) => print_ex k1 s1 s2 s3 W hv h)
          have E3 := Lib.hid (fun (W : World) (h : PV W.heap.size W) => expr_ok u2 z2 k2 W h)
          have E4 := Lib.hid (fun (W : World) (u v : Value) (h1 : KidsAt W (fun _ => True) y.kids u) (h2 : KidsAt W (fun _ => True) z2.kids v) => same_true y z2 k3 u v W h1 h2)
          unfold exA at E2 E4
          clear hr k1 k2 k3 s1 s2 s3
          go_upto_region 21 with (go_at_call 10; refine (E1.out _ (HPV.out _ S19.out.tab.1.1.1.1.1.1 (Nat.le_trans HN.out S19.out.bel.size))).mono ?_; rintro e V20 ⟨hb, p5, c5, rfl, hF⟩; have S20 := St.more (St.call S19 hb) hF (stays_kids _ _); clear hb hF)
          clear S19 E1
          obtain ⟨V21, b23, hW, hB, hbl, S21⟩ := St.box S20 (.cells #[(.int .i64 (y.op)), (.int .i64 (y.n)), .string y.s, .slice p5 y.kids.length c5, (.int .i64 (y.at_))] 31)
          have hsz : V21.heap.size = b23 + 1 := by rw [hW, hB]; simp
          rw [← hW, ← hB]
          clear hW hB hbl S20
          have hs : V21.heap.size = b23 + 1 := hsz
          obtain ⟨V22, b24, hW, hB, hbl, S22⟩ := St.box S21 (.cells #[(.int .i64 0), (.int .i64 0)] 26)
          have hsz : V22.heap.size = b24 + 1 := by rw [hW, hB]; simp
          rw [hs] at hB
          rw [← hW, ← hB]
          clear hW hB hbl S21 hs
          clear hsz
          obtain ⟨z0, z1⟩ := St.cells2 S22 0 rfl
          obtain ⟨y0, y1, y2, y3, y4⟩ := St.cells5 S22 1 rfl
          go_upto_region 24 with (go_at_call 21; refine (E2.out _ _ (HPV.out _ S22.out.tab.1.1.1.1.1.1.1 (Nat.le_trans HN.out S22.out.bel.size)) S22.out.tab.2).mono ?_; rintro e V23 ⟨rfl, ht⟩; have S23 := St.call S22 (below_turned ht); clear ht)
          clear S22 E2 z0 z1 y0 y1 y2 y3 y4
          go_upto_region 25 with (go_at_call 10; refine (E3.out _ (HPV.out _ S23.out.tab.1.1.1.1.1.1.1 (Nat.le_trans HN.out S23.out.bel.size))).mono ?_; rintro e V24 ⟨hb, p6, c6, rfl, hF⟩; have S24 := St.more (St.call S23 hb) hF (stays_kids _ _); clear hb hF)
          clear S23 E3
          obtain ⟨V25, b27, hW, hB, hbl, S25⟩ := St.box S24 (.cells #[(.int .i64 (z2.op)), (.int .i64 (z2.n)), .string z2.s, .slice p6 z2.kids.length c6, (.int .i64 (z2.at_))] 31)
          have hsz : V25.heap.size = b27 + 1 := by rw [hW, hB]; simp
          rw [← hW, ← hB]
          clear hW hB hbl S24
          have hs : V25.heap.size = b27 + 1 := hsz
          obtain ⟨V26, b28, hW, hB, hbl, S26⟩ := St.box S25 (.cells #[(.int .i64 0), (.int .i64 0)] 26)
          have hsz : V26.heap.size = b28 + 1 := by rw [hW, hB]; simp
          rw [hs] at hB
          rw [← hW, ← hB]
          clear hW hB hbl S25 hs
          clear hsz
          go_wp2_with (first | (have hq := S27; clear hq; go_at_call 16; refine (E4.out _ _ _ S27.out.tab.1.2 S27.out.tab.2).mono ?_; rintro e UU ⟨rfl, ht⟩; have SU := St.call S27 (below_turned ht); clear ht) | (go_at_call 8; refine (HS.out _ (HPV.out _ S26.out.tab.1.1.1.1.1.1.1.1 (Nat.le_trans HN.out S26.out.bel.size))).mono ?_; rintro e U ⟨rfl, hb⟩; have S27 := St.call S26 hb; clear hb; obtain ⟨y0, y1, y2, y3, y4⟩ := St.cells5 S27 3 rfl; obtain ⟨x0, x1, x2, x3, x4⟩ := St.cells5 S27 1 rfl; obtain ⟨z0, z1⟩ := St.cells2 S27 0 rfl))
          go_ret
          exact ⟨rfl, SU.out.bel⟩
    · have hcb : (qe == 0) = false := by simpa using hc
      clear hc HQ
      go_upto_region 13 with fail
      clear hcb
      cases hr : formsP src with
      | bad a c =>
        have hc : (c == 0) = false := by simpa using formsP_err hr
        have E1 := Lib.hid (fun (W : World) (h : PV W.heap.size W) => forms_bad src a c hr W h)
        clear hr
        go_upto_region 14 with (go_at_call 9; refine (E1.out _ (HPV.out _ S8.out.tab.1.1.1 (Nat.le_trans HN.out S8.out.bel.size))).mono ?_; rintro e V9 ⟨hb, rfl⟩; have S9 := St.call S8 hb; clear hb)
        clear S8 E1
        obtain ⟨V10, b16, hW, hB, hbl, S10⟩ := St.box S9 (.cells #[(.int .i64 a), (.int .i64 c)] 26)
        have hsz : V10.heap.size = b16 + 1 := by rw [hW, hB]; simp
        rw [← hW, ← hB]
        clear hW hB hbl S9
        clear hsz
        obtain ⟨y0, y1⟩ := St.cells2 S10 0 rfl
        go_upto_region 20 with fail
        clear y0 y1 hc
        cases hr : exprP src with
        | bad a c =>
          have hc : (c != 0) = true := by simpa using exprP_err hr
          have E1 := Lib.hid (fun (W : World) (h : PV W.heap.size W) => expr_bad src a c hr W h)
          clear hr
          go_upto_region 21 with (go_at_call 10; refine (E1.out _ (HPV.out _ S10.out.tab.1.1.1 (Nat.le_trans HN.out S10.out.bel.size))).mono ?_; rintro e V11 ⟨hb, rfl⟩; have S11 := St.call S10 hb; clear hb)
          clear S10 E1
          obtain ⟨V12, b23, hW, hB, hbl, S12⟩ := St.box S11 (.cells #[(.int .i64 0), (.int .i64 0), .string ⟨#[]⟩, .slice none 0 0, (.int .i64 0)] 31)
          have hsz : V12.heap.size = b23 + 1 := by rw [hW, hB]; simp
          rw [← hW, ← hB]
          clear hW hB hbl S11
          have hs : V12.heap.size = b23 + 1 := hsz
          obtain ⟨V13, b24, hW, hB, hbl, S13⟩ := St.box S12 (.cells #[(.int .i64 a), (.int .i64 c)] 26)
          have hsz : V13.heap.size = b24 + 1 := by rw [hW, hB]; simp
          rw [hs] at hB
          rw [← hW, ← hB]
          clear hW hB hbl S12 hs
          clear hsz
          obtain ⟨y0, y1⟩ := St.cells2 S13 0 rfl
          go_wp2_with (go_at_call 8; refine (HS.out _ (HPV.out _ S13.out.tab.1.1.1 (Nat.le_trans HN.out S13.out.bel.size))).mono ?_; rintro e U ⟨rfl, hb⟩; have SU := St.call S13 hb; clear hb)
          go_ret
          exact ⟨rfl, SU.out.bel⟩
        | ok y =>
          obtain ⟨s1, s2, s3, u2, z2, k1, k2, k3⟩ := expr_all HZ.out hr
          have E1 := Lib.hid (fun (W : World) (h : PV W.heap.size W) => expr_ok src y hr W h)
          have E2 := Lib.hid (fun (W : World) (v : Value) (hv : PV W.heap.size W) (h : KidsAt W (fun _ => True) y.kids v) => print_ex k1 s1 s2 s3 W hv h)
          have E3 := Lib.hid (fun (W : World) (h : PV W.heap.size W) => expr_ok u2 z2 k2 W h)
          have E4 := Lib.hid (fun (W : World) (u v : Value) (h1 : KidsAt W (fun _ => True) y.kids u) (h2 : KidsAt W (fun _ => True) z2.kids v) => same_true y z2 k3 u v W h1 h2)
          unfold exA at E2 E4
          clear hr k1 k2 k3 s1 s2 s3
          go_upto_region 21 with (go_at_call 10; refine (E1.out _ (HPV.out _ S10.out.tab.1.1.1 (Nat.le_trans HN.out S10.out.bel.size))).mono ?_; rintro e V11 ⟨hb, p5, c5, rfl, hF⟩; have S11 := St.more (St.call S10 hb) hF (stays_kids _ _); clear hb hF)
          clear S10 E1
          obtain ⟨V12, b23, hW, hB, hbl, S12⟩ := St.box S11 (.cells #[(.int .i64 (y.op)), (.int .i64 (y.n)), .string y.s, .slice p5 y.kids.length c5, (.int .i64 (y.at_))] 31)
          have hsz : V12.heap.size = b23 + 1 := by rw [hW, hB]; simp
          rw [← hW, ← hB]
          clear hW hB hbl S11
          have hs : V12.heap.size = b23 + 1 := hsz
          obtain ⟨V13, b24, hW, hB, hbl, S13⟩ := St.box S12 (.cells #[(.int .i64 0), (.int .i64 0)] 26)
          have hsz : V13.heap.size = b24 + 1 := by rw [hW, hB]; simp
          rw [hs] at hB
          rw [← hW, ← hB]
          clear hW hB hbl S12 hs
          clear hsz
          obtain ⟨z0, z1⟩ := St.cells2 S13 0 rfl
          obtain ⟨y0, y1, y2, y3, y4⟩ := St.cells5 S13 1 rfl
          go_upto_region 24 with (go_at_call 21; refine (E2.out _ _ (HPV.out _ S13.out.tab.1.1.1.1 (Nat.le_trans HN.out S13.out.bel.size)) S13.out.tab.2).mono ?_; rintro e V14 ⟨rfl, ht⟩; have S14 := St.call S13 (below_turned ht); clear ht)
          clear S13 E2 z0 z1 y0 y1 y2 y3 y4
          go_upto_region 25 with (go_at_call 10; refine (E3.out _ (HPV.out _ S14.out.tab.1.1.1.1 (Nat.le_trans HN.out S14.out.bel.size))).mono ?_; rintro e V15 ⟨hb, p6, c6, rfl, hF⟩; have S15 := St.more (St.call S14 hb) hF (stays_kids _ _); clear hb hF)
          clear S14 E3
          obtain ⟨V16, b27, hW, hB, hbl, S16⟩ := St.box S15 (.cells #[(.int .i64 (z2.op)), (.int .i64 (z2.n)), .string z2.s, .slice p6 z2.kids.length c6, (.int .i64 (z2.at_))] 31)
          have hsz : V16.heap.size = b27 + 1 := by rw [hW, hB]; simp
          rw [← hW, ← hB]
          clear hW hB hbl S15
          have hs : V16.heap.size = b27 + 1 := hsz
          obtain ⟨V17, b28, hW, hB, hbl, S17⟩ := St.box S16 (.cells #[(.int .i64 0), (.int .i64 0)] 26)
          have hsz : V17.heap.size = b28 + 1 := by rw [hW, hB]; simp
          rw [hs] at hB
          rw [← hW, ← hB]
          clear hW hB hbl S16 hs
          clear hsz
          go_wp2_with (first | (have hq := S18; clear hq; go_at_call 16; refine (E4.out _ _ _ S18.out.tab.1.2 S18.out.tab.2).mono ?_; rintro e UU ⟨rfl, ht⟩; have SU := St.call S18 (below_turned ht); clear ht) | (go_at_call 8; refine (HS.out _ (HPV.out _ S17.out.tab.1.1.1.1.1 (Nat.le_trans HN.out S17.out.bel.size))).mono ?_; rintro e U ⟨rfl, hb⟩; have S18 := St.call S17 hb; clear hb; obtain ⟨y0, y1, y2, y3, y4⟩ := St.cells5 S18 3 rfl; obtain ⟨x0, x1, x2, x3, x4⟩ := St.cells5 S18 1 rfl; obtain ⟨z0, z1⟩ := St.cells2 S18 0 rfl))
          go_ret
          exact ⟨rfl, SU.out.bel⟩
      | ok m =>
        obtain ⟨⟨s1, s2, s3⟩, u, m2, k1, k2, k3, k4, s4, s5, s6⟩ := forms_all' HZ.out hr
        have E1 := Lib.hid (fun (W : World) (h : PV W.heap.size W) => forms_ok src m hr W h)
        have E2 := Lib.hid (fun (W : World) (v : Value) (hv : PV W.heap.size W) (h : FormsAt W (fun _ => True) m v) => print_forms k1 s1 s2 s3 W hv h)
        have E3 := Lib.hid (fun (W : World) (h : PV W.heap.size W) => forms_ok u m2 k2 W h)
        have E4 := Lib.hid (fun (W : World) (v : Value) (hv : PV W.heap.size W) (h : FormsAt W (fun _ => True) m2 v) => print_forms k4 s4 s5 s6 W hv h)
        have E5 := Lib.hid (fun (W : World) (u v : Value) (h1 : FormsAt W (fun _ => True) m u) (h2 : FormsAt W (fun _ => True) m2 v) => same_forms m m2 k3 u v W h1 h2)
        clear hr k1 k2 k3 k4 s1 s2 s3 s4 s5 s6
        go_upto_region 14 with (go_at_call 9; refine (E1.out _ (HPV.out _ S8.out.tab.1.1.1 (Nat.le_trans HN.out S8.out.bel.size))).mono ?_; rintro e V9 ⟨hb, p3, c3, rfl, hF⟩; have S9 := St.more (St.call S8 hb) hF (stays_forms _ _); clear hb hF)
        clear S8 E1
        obtain ⟨V10, b16, hW, hB, hbl, S10⟩ := St.box S9 (.cells #[(.int .i64 0), (.int .i64 0)] 26)
        have hsz : V10.heap.size = b16 + 1 := by rw [hW, hB]; simp
        rw [← hW, ← hB]
        clear hW hB hbl S9
        clear hsz
        obtain ⟨y0, y1⟩ := St.cells2 S10 0 rfl
        go_upto_region 15 with fail
        clear y0 y1
        go_upto_region 16 with (go_at_call 20; refine (E2.out _ _ (HPV.out _ S10.out.tab.1.1.1.1 (Nat.le_trans HN.out S10.out.bel.size)) S10.out.tab.2).mono ?_; rintro e V11 ⟨rfl, ht⟩; have S11 := St.call S10 (below_turned ht); clear ht)
        clear S10 E2
        go_upto_region 17 with (go_at_call 9; refine (E3.out _ (HPV.out _ S11.out.tab.1.1.1.1 (Nat.le_trans HN.out S11.out.bel.size))).mono ?_; rintro e V12 ⟨hb, p4, c4, rfl, hF⟩; have S12 := St.more (St.call S11 hb) hF (stays_forms _ _); clear hb hF)
        clear S11 E3
        obtain ⟨V13, b20, hW, hB, hbl, S13⟩ := St.box S12 (.cells #[(.int .i64 0), (.int .i64 0)] 26)
        have hsz : V13.heap.size = b20 + 1 := by rw [hW, hB]; simp
        rw [← hW, ← hB]
        clear hW hB hbl S12
        clear hsz
        go_upto_region 18 with (go_at_call 20; refine (E4.out _ _ (HPV.out _ S13.out.tab.1.1.1.1.1 (Nat.le_trans HN.out S13.out.bel.size)) S13.out.tab.2).mono ?_; rintro e V14 ⟨rfl, ht⟩; have S14 := St.call S13 (below_turned ht); clear ht)
        clear S13 E4
        obtain ⟨y0, y1⟩ := St.cells2 S14 0 rfl
        go_upto_region 20 with (go_at_call 24; refine (E5.out _ _ _ S14.out.tab.1.2 S14.out.tab.2).mono ?_; rintro e V15 ⟨rfl, ht⟩; have S15 := St.call S14 (below_turned ht); clear ht)
        clear S14 E5 y0 y1
        cases hr : exprP src with
        | bad a c =>
          have hc : (c != 0) = true := by simpa using exprP_err hr
          have E1 := Lib.hid (fun (W : World) (h : PV W.heap.size W) => expr_bad src a c hr W h)
          clear hr
          go_upto_region 21 with (go_at_call 10; refine (E1.out _ (HPV.out _ S15.out.tab.1.1.1.1.1 (Nat.le_trans HN.out S15.out.bel.size))).mono ?_; rintro e V16 ⟨hb, rfl⟩; have S16 := St.call S15 hb; clear hb)
          clear S15 E1
          obtain ⟨V17, b23, hW, hB, hbl, S17⟩ := St.box S16 (.cells #[(.int .i64 0), (.int .i64 0), .string ⟨#[]⟩, .slice none 0 0, (.int .i64 0)] 31)
          have hsz : V17.heap.size = b23 + 1 := by rw [hW, hB]; simp
          rw [← hW, ← hB]
          clear hW hB hbl S16
          have hs : V17.heap.size = b23 + 1 := hsz
          obtain ⟨V18, b24, hW, hB, hbl, S18⟩ := St.box S17 (.cells #[(.int .i64 a), (.int .i64 c)] 26)
          have hsz : V18.heap.size = b24 + 1 := by rw [hW, hB]; simp
          rw [hs] at hB
          rw [← hW, ← hB]
          clear hW hB hbl S17 hs
          clear hsz
          obtain ⟨y0, y1⟩ := St.cells2 S18 0 rfl
          go_wp2_with (go_at_call 8; refine (HS.out _ (HPV.out _ S18.out.tab.1.1.1.1.1 (Nat.le_trans HN.out S18.out.bel.size))).mono ?_; rintro e U ⟨rfl, hb⟩; have SU := St.call S18 hb; clear hb)
          go_ret
          exact ⟨rfl, SU.out.bel⟩
        | ok y =>
          obtain ⟨s1, s2, s3, u2, z2, k1, k2, k3⟩ := expr_all HZ.out hr
          have E1 := Lib.hid (fun (W : World) (h : PV W.heap.size W) => expr_ok src y hr W h)
          have E2 := Lib.hid (fun (W : World) (v : Value) (hv : PV W.heap.size W) (h : KidsAt W (fun _ => True) y.kids v) => print_ex k1 s1 s2 s3 W hv h)
          have E3 := Lib.hid (fun (W : World) (h : PV W.heap.size W) => expr_ok u2 z2 k2 W h)
          have E4 := Lib.hid (fun (W : World) (u v : Value) (h1 : KidsAt W (fun _ => True) y.kids u) (h2 : KidsAt W (fun _ => True) z2.kids v) => same_true y z2 k3 u v W h1 h2)
          unfold exA at E2 E4
          clear hr k1 k2 k3 s1 s2 s3
          go_upto_region 21 with (go_at_call 10; refine (E1.out _ (HPV.out _ S15.out.tab.1.1.1.1.1 (Nat.le_trans HN.out S15.out.bel.size))).mono ?_; rintro e V16 ⟨hb, p5, c5, rfl, hF⟩; have S16 := St.more (St.call S15 hb) hF (stays_kids _ _); clear hb hF)
          clear S15 E1
          obtain ⟨V17, b23, hW, hB, hbl, S17⟩ := St.box S16 (.cells #[(.int .i64 (y.op)), (.int .i64 (y.n)), .string y.s, .slice p5 y.kids.length c5, (.int .i64 (y.at_))] 31)
          have hsz : V17.heap.size = b23 + 1 := by rw [hW, hB]; simp
          rw [← hW, ← hB]
          clear hW hB hbl S16
          have hs : V17.heap.size = b23 + 1 := hsz
          obtain ⟨V18, b24, hW, hB, hbl, S18⟩ := St.box S17 (.cells #[(.int .i64 0), (.int .i64 0)] 26)
          have hsz : V18.heap.size = b24 + 1 := by rw [hW, hB]; simp
          rw [hs] at hB
          rw [← hW, ← hB]
          clear hW hB hbl S17 hs
          clear hsz
          obtain ⟨z0, z1⟩ := St.cells2 S18 0 rfl
          obtain ⟨y0, y1, y2, y3, y4⟩ := St.cells5 S18 1 rfl
          go_upto_region 24 with (go_at_call 21; refine (E2.out _ _ (HPV.out _ S18.out.tab.1.1.1.1.1.1 (Nat.le_trans HN.out S18.out.bel.size)) S18.out.tab.2).mono ?_; rintro e V19 ⟨rfl, ht⟩; have S19 := St.call S18 (below_turned ht); clear ht)
          clear S18 E2 z0 z1 y0 y1 y2 y3 y4
          go_upto_region 25 with (go_at_call 10; refine (E3.out _ (HPV.out _ S19.out.tab.1.1.1.1.1.1 (Nat.le_trans HN.out S19.out.bel.size))).mono ?_; rintro e V20 ⟨hb, p6, c6, rfl, hF⟩; have S20 := St.more (St.call S19 hb) hF (stays_kids _ _); clear hb hF)
          clear S19 E3
          obtain ⟨V21, b27, hW, hB, hbl, S21⟩ := St.box S20 (.cells #[(.int .i64 (z2.op)), (.int .i64 (z2.n)), .string z2.s, .slice p6 z2.kids.length c6, (.int .i64 (z2.at_))] 31)
          have hsz : V21.heap.size = b27 + 1 := by rw [hW, hB]; simp
          rw [← hW, ← hB]
          clear hW hB hbl S20
          have hs : V21.heap.size = b27 + 1 := hsz
          obtain ⟨V22, b28, hW, hB, hbl, S22⟩ := St.box S21 (.cells #[(.int .i64 0), (.int .i64 0)] 26)
          have hsz : V22.heap.size = b28 + 1 := by rw [hW, hB]; simp
          rw [hs] at hB
          rw [← hW, ← hB]
          clear hW hB hbl S21 hs
          clear hsz
          go_wp2_with (first | (have hq := S23; clear hq; go_at_call 16; refine (E4.out _ _ _ S23.out.tab.1.2 S23.out.tab.2).mono ?_; rintro e UU ⟨rfl, ht⟩; have SU := St.call S23 (below_turned ht); clear ht) | (go_at_call 8; refine (HS.out _ (HPV.out _ S22.out.tab.1.1.1.1.1.1.1 (Nat.le_trans HN.out S22.out.bel.size))).mono ?_; rintro e U ⟨rfl, hb⟩; have S23 := St.call S22 hb; clear hb; obtain ⟨y0, y1, y2, y3, y4⟩ := St.cells5 S23 3 rfl; obtain ⟨x0, x1, x2, x3, x4⟩ := St.cells5 S23 1 rfl; obtain ⟨z0, z1⟩ := St.cells2 S23 0 rfl))
          go_ret
          exact ⟨rfl, SU.out.bel⟩
  · have hcb : (pe == 0) = false := by simpa using hc
    clear hc HP
    go_upto_region 8 with fail
    clear hcb
    obtain ⟨x0, x1, x2, x3, x4⟩ := St.cells5 S4 0 rfl
    go_upto_region 9 with (go_at_call 21; refine (G2.out _ (HPV.out _ S4.out.tab.1.1 (Nat.le_trans HN.out S4.out.bel.size)) S4.out.tab.2).mono ?_; rintro e V5 ⟨rfl, ht⟩; have S5 := St.call S4 (below_turned ht); clear ht)
    clear S4 G2 x0 x1 x2 x3 x4
    by_cases hc : qe = 0
    · subst hc
      obtain ⟨z1, k1, k2⟩ := printX_back HQ.out
      have E1 := Lib.hid (fun (W : World) (h : PV W.heap.size W) => expr_ok qs z1 k1 W h)
      have E2 := Lib.hid (fun (W : World) (u v : Value) (h1 : KidsAt W (fun _ => True) x.kids u) (h2 : KidsAt W (fun _ => True) z1.kids v) => same_true x z1 k2 u v W h1 h2)
      unfold exA at E2
      clear k1 k2 HQ
      go_upto_region 11 with (go_at_call 10; refine (E1.out _ (HPV.out _ S5.out.tab.1.1 (Nat.le_trans HN.out S5.out.bel.size))).mono ?_; rintro e V6 ⟨hb, p2, c2, rfl, hF⟩; have S6 := St.more (St.call S5 hb) hF (stays_kids _ _); clear hb hF)
      clear S5 E1
      obtain ⟨V7, b13, hW, hB, hbl, S7⟩ := St.box S6 (.cells #[(.int .i64 (z1.op)), (.int .i64 (z1.n)), .string z1.s, .slice p2 z1.kids.length c2, (.int .i64 (z1.at_))] 31)
      have hsz : V7.heap.size = b13 + 1 := by rw [hW, hB]; simp
      rw [← hW, ← hB]
      clear hW hB hbl S6
      have hs : V7.heap.size = b13 + 1 := hsz
      obtain ⟨V8, b14, hW, hB, hbl, S8⟩ := St.box S7 (.cells #[(.int .i64 0), (.int .i64 0)] 26)
      have hsz : V8.heap.size = b14 + 1 := by rw [hW, hB]; simp
      rw [hs] at hB
      rw [← hW, ← hB]
      clear hW hB hbl S7 hs
      clear hsz
      obtain ⟨x0, x1, x2, x3, x4⟩ := St.cells5 S8 2 rfl
      obtain ⟨y0, y1, y2, y3, y4⟩ := St.cells5 S8 1 rfl
      obtain ⟨z0, z1⟩ := St.cells2 S8 0 rfl
      go_upto_region 13 with (go_at_call 16; refine (E2.out _ _ _ S8.out.tab.1.2 S8.out.tab.2).mono ?_; rintro e V9 ⟨rfl, ht⟩; have S9 := St.call S8 (below_turned ht); clear ht)
      clear S8 E2 x0 x1 x2 x3 x4 y0 y1 y2 y3 y4 z0 z1
      cases hr : formsP src with
      | bad a c =>
        have hc : (c == 0) = false := by simpa using formsP_err hr
        have E1 := Lib.hid (fun (W : World) (h : PV W.heap.size W) => forms_bad src a c hr W h)
        clear hr
        go_upto_region 14 with (go_at_call 9; refine (E1.out _ (HPV.out _ S9.out.tab.1.1.1 (Nat.le_trans HN.out S9.out.bel.size))).mono ?_; rintro e V10 ⟨hb, rfl⟩; have S10 := St.call S9 hb; clear hb)
        clear S9 E1
        obtain ⟨V11, b16, hW, hB, hbl, S11⟩ := St.box S10 (.cells #[(.int .i64 a), (.int .i64 c)] 26)
        have hsz : V11.heap.size = b16 + 1 := by rw [hW, hB]; simp
        rw [← hW, ← hB]
        clear hW hB hbl S10
        clear hsz
        obtain ⟨y0, y1⟩ := St.cells2 S11 0 rfl
        go_upto_region 20 with fail
        clear y0 y1 hc
        cases hr : exprP src with
        | bad a c =>
          have hc : (c != 0) = true := by simpa using exprP_err hr
          have E1 := Lib.hid (fun (W : World) (h : PV W.heap.size W) => expr_bad src a c hr W h)
          clear hr
          go_upto_region 21 with (go_at_call 10; refine (E1.out _ (HPV.out _ S11.out.tab.1.1.1 (Nat.le_trans HN.out S11.out.bel.size))).mono ?_; rintro e V12 ⟨hb, rfl⟩; have S12 := St.call S11 hb; clear hb)
          clear S11 E1
          obtain ⟨V13, b23, hW, hB, hbl, S13⟩ := St.box S12 (.cells #[(.int .i64 0), (.int .i64 0), .string ⟨#[]⟩, .slice none 0 0, (.int .i64 0)] 31)
          have hsz : V13.heap.size = b23 + 1 := by rw [hW, hB]; simp
          rw [← hW, ← hB]
          clear hW hB hbl S12
          have hs : V13.heap.size = b23 + 1 := hsz
          obtain ⟨V14, b24, hW, hB, hbl, S14⟩ := St.box S13 (.cells #[(.int .i64 a), (.int .i64 c)] 26)
          have hsz : V14.heap.size = b24 + 1 := by rw [hW, hB]; simp
          rw [hs] at hB
          rw [← hW, ← hB]
          clear hW hB hbl S13 hs
          clear hsz
          obtain ⟨y0, y1⟩ := St.cells2 S14 0 rfl
          go_wp2_with (go_at_call 8; refine (HS.out _ (HPV.out _ S14.out.tab.1.1.1 (Nat.le_trans HN.out S14.out.bel.size))).mono ?_; rintro e U ⟨rfl, hb⟩; have SU := St.call S14 hb; clear hb)
          go_ret
          exact ⟨rfl, SU.out.bel⟩
        | ok y =>
          obtain ⟨s1, s2, s3, u2, z2, k1, k2, k3⟩ := expr_all HZ.out hr
          have E1 := Lib.hid (fun (W : World) (h : PV W.heap.size W) => expr_ok src y hr W h)
          have E2 := Lib.hid (fun (W : World) (v : Value) (hv : PV W.heap.size W) (h : KidsAt W (fun _ => True) y.kids v) => print_ex k1 s1 s2 s3 W hv h)
          have E3 := Lib.hid (fun (W : World) (h : PV W.heap.size W) => expr_ok u2 z2 k2 W h)
          have E4 := Lib.hid (fun (W : World) (u v : Value) (h1 : KidsAt W (fun _ => True) y.kids u) (h2 : KidsAt W (fun _ => True) z2.kids v) => same_true y z2 k3 u v W h1 h2)
          unfold exA at E2 E4
          clear hr k1 k2 k3 s1 s2 s3
          go_upto_region 21 with (go_at_call 10; refine (E1.out _ (HPV.out _ S11.out.tab.1.1.1 (Nat.le_trans HN.out S11.out.bel.size))).mono ?_; rintro e V12 ⟨hb, p5, c5, rfl, hF⟩; have S12 := St.more (St.call S11 hb) hF (stays_kids _ _); clear hb hF)
          clear S11 E1
          obtain ⟨V13, b23, hW, hB, hbl, S13⟩ := St.box S12 (.cells #[(.int .i64 (y.op)), (.int .i64 (y.n)), .string y.s, .slice p5 y.kids.length c5, (.int .i64 (y.at_))] 31)
          have hsz : V13.heap.size = b23 + 1 := by rw [hW, hB]; simp
          rw [← hW, ← hB]
          clear hW hB hbl S12
          have hs : V13.heap.size = b23 + 1 := hsz
          obtain ⟨V14, b24, hW, hB, hbl, S14⟩ := St.box S13 (.cells #[(.int .i64 0), (.int .i64 0)] 26)
          have hsz : V14.heap.size = b24 + 1 := by rw [hW, hB]; simp
          rw [hs] at hB
          rw [← hW, ← hB]
          clear hW hB hbl S13 hs
          clear hsz
          obtain ⟨z0, z1⟩ := St.cells2 S14 0 rfl
          obtain ⟨y0, y1, y2, y3, y4⟩ := St.cells5 S14 1 rfl
          go_upto_region 24 with (go_at_call 21; refine (E2.out _ _ (HPV.out _ S14.out.tab.1.1.1.1 (Nat.le_trans HN.out S14.out.bel.size)) S14.out.tab.2).mono ?_; rintro e V15 ⟨rfl, ht⟩; have S15 := St.call S14 (below_turned ht); clear ht)
          clear S14 E2 z0 z1 y0 y1 y2 y3 y4
          go_upto_region 25 with (go_at_call 10; refine (E3.out _ (HPV.out _ S15.out.tab.1.1.1.1 (Nat.le_trans HN.out S15.out.bel.size))).mono ?_; rintro e V16 ⟨hb, p6, c6, rfl, hF⟩; have S16 := St.more (St.call S15 hb) hF (stays_kids _ _); clear hb hF)
          clear S15 E3
          obtain ⟨V17, b27, hW, hB, hbl, S17⟩ := St.box S16 (.cells #[(.int .i64 (z2.op)), (.int .i64 (z2.n)), .string z2.s, .slice p6 z2.kids.length c6, (.int .i64 (z2.at_))] 31)
          have hsz : V17.heap.size = b27 + 1 := by rw [hW, hB]; simp
          rw [← hW, ← hB]
          clear hW hB hbl S16
          have hs : V17.heap.size = b27 + 1 := hsz
          obtain ⟨V18, b28, hW, hB, hbl, S18⟩ := St.box S17 (.cells #[(.int .i64 0), (.int .i64 0)] 26)
          have hsz : V18.heap.size = b28 + 1 := by rw [hW, hB]; simp
          rw [hs] at hB
          rw [← hW, ← hB]
          clear hW hB hbl S17 hs
          clear hsz
          go_wp2_with (first | (have hq := S19; clear hq; go_at_call 16; refine (E4.out _ _ _ S19.out.tab.1.2 S19.out.tab.2).mono ?_; rintro e UU ⟨rfl, ht⟩; have SU := St.call S19 (below_turned ht); clear ht) | (go_at_call 8; refine (HS.out _ (HPV.out _ S18.out.tab.1.1.1.1.1 (Nat.le_trans HN.out S18.out.bel.size))).mono ?_; rintro e U ⟨rfl, hb⟩; have S19 := St.call S18 hb; clear hb; obtain ⟨y0, y1, y2, y3, y4⟩ := St.cells5 S19 3 rfl; obtain ⟨x0, x1, x2, x3, x4⟩ := St.cells5 S19 1 rfl; obtain ⟨z0, z1⟩ := St.cells2 S19 0 rfl))
          go_ret
          exact ⟨rfl, SU.out.bel⟩
      | ok m =>
        obtain ⟨⟨s1, s2, s3⟩, u, m2, k1, k2, k3, k4, s4, s5, s6⟩ := forms_all' HZ.out hr
        have E1 := Lib.hid (fun (W : World) (h : PV W.heap.size W) => forms_ok src m hr W h)
        have E2 := Lib.hid (fun (W : World) (v : Value) (hv : PV W.heap.size W) (h : FormsAt W (fun _ => True) m v) => print_forms k1 s1 s2 s3 W hv h)
        have E3 := Lib.hid (fun (W : World) (h : PV W.heap.size W) => forms_ok u m2 k2 W h)
        have E4 := Lib.hid (fun (W : World) (v : Value) (hv : PV W.heap.size W) (h : FormsAt W (fun _ => True) m2 v) => print_forms k4 s4 s5 s6 W hv h)
        have E5 := Lib.hid (fun (W : World) (u v : Value) (h1 : FormsAt W (fun _ => True) m u) (h2 : FormsAt W (fun _ => True) m2 v) => same_forms m m2 k3 u v W h1 h2)
        clear hr k1 k2 k3 k4 s1 s2 s3 s4 s5 s6
        go_upto_region 14 with (go_at_call 9; refine (E1.out _ (HPV.out _ S9.out.tab.1.1.1 (Nat.le_trans HN.out S9.out.bel.size))).mono ?_; rintro e V10 ⟨hb, p3, c3, rfl, hF⟩; have S10 := St.more (St.call S9 hb) hF (stays_forms _ _); clear hb hF)
        clear S9 E1
        obtain ⟨V11, b16, hW, hB, hbl, S11⟩ := St.box S10 (.cells #[(.int .i64 0), (.int .i64 0)] 26)
        have hsz : V11.heap.size = b16 + 1 := by rw [hW, hB]; simp
        rw [← hW, ← hB]
        clear hW hB hbl S10
        clear hsz
        obtain ⟨y0, y1⟩ := St.cells2 S11 0 rfl
        go_upto_region 15 with fail
        clear y0 y1
        go_upto_region 16 with (go_at_call 20; refine (E2.out _ _ (HPV.out _ S11.out.tab.1.1.1.1 (Nat.le_trans HN.out S11.out.bel.size)) S11.out.tab.2).mono ?_; rintro e V12 ⟨rfl, ht⟩; have S12 := St.call S11 (below_turned ht); clear ht)
        clear S11 E2
        go_upto_region 17 with (go_at_call 9; refine (E3.out _ (HPV.out _ S12.out.tab.1.1.1.1 (Nat.le_trans HN.out S12.out.bel.size))).mono ?_; rintro e V13 ⟨hb, p4, c4, rfl, hF⟩; have S13 := St.more (St.call S12 hb) hF (stays_forms _ _); clear hb hF)
        clear S12 E3
        obtain ⟨V14, b20, hW, hB, hbl, S14⟩ := St.box S13 (.cells #[(.int .i64 0), (.int .i64 0)] 26)
        have hsz : V14.heap.size = b20 + 1 := by rw [hW, hB]; simp
        rw [← hW, ← hB]
        clear hW hB hbl S13
        clear hsz
        go_upto_region 18 with (go_at_call 20; refine (E4.out _ _ (HPV.out _ S14.out.tab.1.1.1.1.1 (Nat.le_trans HN.out S14.out.bel.size)) S14.out.tab.2).mono ?_; rintro e V15 ⟨rfl, ht⟩; have S15 := St.call S14 (below_turned ht); clear ht)
        clear S14 E4
        obtain ⟨y0, y1⟩ := St.cells2 S15 0 rfl
        go_upto_region 20 with (go_at_call 24; refine (E5.out _ _ _ S15.out.tab.1.2 S15.out.tab.2).mono ?_; rintro e V16 ⟨rfl, ht⟩; have S16 := St.call S15 (below_turned ht); clear ht)
        clear S15 E5 y0 y1
        cases hr : exprP src with
        | bad a c =>
          have hc : (c != 0) = true := by simpa using exprP_err hr
          have E1 := Lib.hid (fun (W : World) (h : PV W.heap.size W) => expr_bad src a c hr W h)
          clear hr
          go_upto_region 21 with (go_at_call 10; refine (E1.out _ (HPV.out _ S16.out.tab.1.1.1.1.1 (Nat.le_trans HN.out S16.out.bel.size))).mono ?_; rintro e V17 ⟨hb, rfl⟩; have S17 := St.call S16 hb; clear hb)
          clear S16 E1
          obtain ⟨V18, b23, hW, hB, hbl, S18⟩ := St.box S17 (.cells #[(.int .i64 0), (.int .i64 0), .string ⟨#[]⟩, .slice none 0 0, (.int .i64 0)] 31)
          have hsz : V18.heap.size = b23 + 1 := by rw [hW, hB]; simp
          rw [← hW, ← hB]
          clear hW hB hbl S17
          have hs : V18.heap.size = b23 + 1 := hsz
          obtain ⟨V19, b24, hW, hB, hbl, S19⟩ := St.box S18 (.cells #[(.int .i64 a), (.int .i64 c)] 26)
          have hsz : V19.heap.size = b24 + 1 := by rw [hW, hB]; simp
          rw [hs] at hB
          rw [← hW, ← hB]
          clear hW hB hbl S18 hs
          clear hsz
          obtain ⟨y0, y1⟩ := St.cells2 S19 0 rfl
          go_wp2_with (go_at_call 8; refine (HS.out _ (HPV.out _ S19.out.tab.1.1.1.1.1 (Nat.le_trans HN.out S19.out.bel.size))).mono ?_; rintro e U ⟨rfl, hb⟩; have SU := St.call S19 hb; clear hb)
          go_ret
          exact ⟨rfl, SU.out.bel⟩
        | ok y =>
          obtain ⟨s1, s2, s3, u2, z2, k1, k2, k3⟩ := expr_all HZ.out hr
          have E1 := Lib.hid (fun (W : World) (h : PV W.heap.size W) => expr_ok src y hr W h)
          have E2 := Lib.hid (fun (W : World) (v : Value) (hv : PV W.heap.size W) (h : KidsAt W (fun _ => True) y.kids v) => print_ex k1 s1 s2 s3 W hv h)
          have E3 := Lib.hid (fun (W : World) (h : PV W.heap.size W) => expr_ok u2 z2 k2 W h)
          have E4 := Lib.hid (fun (W : World) (u v : Value) (h1 : KidsAt W (fun _ => True) y.kids u) (h2 : KidsAt W (fun _ => True) z2.kids v) => same_true y z2 k3 u v W h1 h2)
          unfold exA at E2 E4
          clear hr k1 k2 k3 s1 s2 s3
          go_upto_region 21 with (go_at_call 10; refine (E1.out _ (HPV.out _ S16.out.tab.1.1.1.1.1 (Nat.le_trans HN.out S16.out.bel.size))).mono ?_; rintro e V17 ⟨hb, p5, c5, rfl, hF⟩; have S17 := St.more (St.call S16 hb) hF (stays_kids _ _); clear hb hF)
          clear S16 E1
          obtain ⟨V18, b23, hW, hB, hbl, S18⟩ := St.box S17 (.cells #[(.int .i64 (y.op)), (.int .i64 (y.n)), .string y.s, .slice p5 y.kids.length c5, (.int .i64 (y.at_))] 31)
          have hsz : V18.heap.size = b23 + 1 := by rw [hW, hB]; simp
          rw [← hW, ← hB]
          clear hW hB hbl S17
          have hs : V18.heap.size = b23 + 1 := hsz
          obtain ⟨V19, b24, hW, hB, hbl, S19⟩ := St.box S18 (.cells #[(.int .i64 0), (.int .i64 0)] 26)
          have hsz : V19.heap.size = b24 + 1 := by rw [hW, hB]; simp
          rw [hs] at hB
          rw [← hW, ← hB]
          clear hW hB hbl S18 hs
          clear hsz
          obtain ⟨z0, z1⟩ := St.cells2 S19 0 rfl
          obtain ⟨y0, y1, y2, y3, y4⟩ := St.cells5 S19 1 rfl
          go_upto_region 24 with (go_at_call 21; refine (E2.out _ _ (HPV.out _ S19.out.tab.1.1.1.1.1.1 (Nat.le_trans HN.out S19.out.bel.size)) S19.out.tab.2).mono ?_; rintro e V20 ⟨rfl, ht⟩; have S20 := St.call S19 (below_turned ht); clear ht)
          clear S19 E2 z0 z1 y0 y1 y2 y3 y4
          go_upto_region 25 with (go_at_call 10; refine (E3.out _ (HPV.out _ S20.out.tab.1.1.1.1.1.1 (Nat.le_trans HN.out S20.out.bel.size))).mono ?_; rintro e V21 ⟨hb, p6, c6, rfl, hF⟩; have S21 := St.more (St.call S20 hb) hF (stays_kids _ _); clear hb hF)
          clear S20 E3
          obtain ⟨V22, b27, hW, hB, hbl, S22⟩ := St.box S21 (.cells #[(.int .i64 (z2.op)), (.int .i64 (z2.n)), .string z2.s, .slice p6 z2.kids.length c6, (.int .i64 (z2.at_))] 31)
          have hsz : V22.heap.size = b27 + 1 := by rw [hW, hB]; simp
          rw [← hW, ← hB]
          clear hW hB hbl S21
          have hs : V22.heap.size = b27 + 1 := hsz
          obtain ⟨V23, b28, hW, hB, hbl, S23⟩ := St.box S22 (.cells #[(.int .i64 0), (.int .i64 0)] 26)
          have hsz : V23.heap.size = b28 + 1 := by rw [hW, hB]; simp
          rw [hs] at hB
          rw [← hW, ← hB]
          clear hW hB hbl S22 hs
          clear hsz
          go_wp2_with (first | (have hq := S24; clear hq; go_at_call 16; refine (E4.out _ _ _ S24.out.tab.1.2 S24.out.tab.2).mono ?_; rintro e UU ⟨rfl, ht⟩; have SU := St.call S24 (below_turned ht); clear ht) | (go_at_call 8; refine (HS.out _ (HPV.out _ S23.out.tab.1.1.1.1.1.1.1 (Nat.le_trans HN.out S23.out.bel.size))).mono ?_; rintro e U ⟨rfl, hb⟩; have S24 := St.call S23 hb; clear hb; obtain ⟨y0, y1, y2, y3, y4⟩ := St.cells5 S24 3 rfl; obtain ⟨x0, x1, x2, x3, x4⟩ := St.cells5 S24 1 rfl; obtain ⟨z0, z1⟩ := St.cells2 S24 0 rfl))
          go_ret
          exact ⟨rfl, SU.out.bel⟩
    · have hcb : (qe == 0) = false := by simpa using hc
      clear hc HQ
      go_upto_region 13 with fail
      clear hcb
      cases hr : formsP src with
      | bad a c =>
        have hc : (c == 0) = false := by simpa using formsP_err hr
        have E1 := Lib.hid (fun (W : World) (h : PV W.heap.size W) => forms_bad src a c hr W h)
        clear hr
        go_upto_region 14 with (go_at_call 9; refine (E1.out _ (HPV.out _ S5.out.tab.1.1 (Nat.le_trans HN.out S5.out.bel.size))).mono ?_; rintro e V6 ⟨hb, rfl⟩; have S6 := St.call S5 hb; clear hb)
        clear S5 E1
        obtain ⟨V7, b16, hW, hB, hbl, S7⟩ := St.box S6 (.cells #[(.int .i64 a), (.int .i64 c)] 26)
        have hsz : V7.heap.size = b16 + 1 := by rw [hW, hB]; simp
        rw [← hW, ← hB]
        clear hW hB hbl S6
        clear hsz
        obtain ⟨y0, y1⟩ := St.cells2 S7 0 rfl
        go_upto_region 20 with fail
        clear y0 y1 hc
        cases hr : exprP src with
        | bad a c =>
          have hc : (c != 0) = true := by simpa using exprP_err hr
          have E1 := Lib.hid (fun (W : World) (h : PV W.heap.size W) => expr_bad src a c hr W h)
          clear hr
          go_upto_region 21 with (go_at_call 10; refine (E1.out _ (HPV.out _ S7.out.tab.1.1 (Nat.le_trans HN.out S7.out.bel.size))).mono ?_; rintro e V8 ⟨hb, rfl⟩; have S8 := St.call S7 hb; clear hb)
          clear S7 E1
          obtain ⟨V9, b23, hW, hB, hbl, S9⟩ := St.box S8 (.cells #[(.int .i64 0), (.int .i64 0), .string ⟨#[]⟩, .slice none 0 0, (.int .i64 0)] 31)
          have hsz : V9.heap.size = b23 + 1 := by rw [hW, hB]; simp
          rw [← hW, ← hB]
          clear hW hB hbl S8
          have hs : V9.heap.size = b23 + 1 := hsz
          obtain ⟨V10, b24, hW, hB, hbl, S10⟩ := St.box S9 (.cells #[(.int .i64 a), (.int .i64 c)] 26)
          have hsz : V10.heap.size = b24 + 1 := by rw [hW, hB]; simp
          rw [hs] at hB
          rw [← hW, ← hB]
          clear hW hB hbl S9 hs
          clear hsz
          obtain ⟨y0, y1⟩ := St.cells2 S10 0 rfl
          go_wp2_with (go_at_call 8; refine (HS.out _ (HPV.out _ S10.out.tab.1.1 (Nat.le_trans HN.out S10.out.bel.size))).mono ?_; rintro e U ⟨rfl, hb⟩; have SU := St.call S10 hb; clear hb)
          go_ret
          exact ⟨rfl, SU.out.bel⟩
        | ok y =>
          obtain ⟨s1, s2, s3, u2, z2, k1, k2, k3⟩ := expr_all HZ.out hr
          have E1 := Lib.hid (fun (W : World) (h : PV W.heap.size W) => expr_ok src y hr W h)
          have E2 := Lib.hid (fun (W : World) (v : Value) (hv : PV W.heap.size W) (h : KidsAt W (fun _ => True) y.kids v) => print_ex k1 s1 s2 s3 W hv h)
          have E3 := Lib.hid (fun (W : World) (h : PV W.heap.size W) => expr_ok u2 z2 k2 W h)
          have E4 := Lib.hid (fun (W : World) (u v : Value) (h1 : KidsAt W (fun _ => True) y.kids u) (h2 : KidsAt W (fun _ => True) z2.kids v) => same_true y z2 k3 u v W h1 h2)
          unfold exA at E2 E4
          clear hr k1 k2 k3 s1 s2 s3
          go_upto_region 21 with (go_at_call 10; refine (E1.out _ (HPV.out _ S7.out.tab.1.1 (Nat.le_trans HN.out S7.out.bel.size))).mono ?_; rintro e V8 ⟨hb, p5, c5, rfl, hF⟩; have S8 := St.more (St.call S7 hb) hF (stays_kids _ _); clear hb hF)
          clear S7 E1
          obtain ⟨V9, b23, hW, hB, hbl, S9⟩ := St.box S8 (.cells #[(.int .i64 (y.op)), (.int .i64 (y.n)), .string y.s, .slice p5 y.kids.length c5, (.int .i64 (y.at_))] 31)
          have hsz : V9.heap.size = b23 + 1 := by rw [hW, hB]; simp
          rw [← hW, ← hB]
          clear hW hB hbl S8
          have hs : V9.heap.size = b23 + 1 := hsz
          obtain ⟨V10, b24, hW, hB, hbl, S10⟩ := St.box S9 (.cells #[(.int .i64 0), (.int .i64 0)] 26)
          have hsz : V10.heap.size = b24 + 1 := by rw [hW, hB]; simp
          rw [hs] at hB
          rw [← hW, ← hB]
          clear hW hB hbl S9 hs
          clear hsz
          obtain ⟨z0, z1⟩ := St.cells2 S10 0 rfl
          obtain ⟨y0, y1, y2, y3, y4⟩ := St.cells5 S10 1 rfl
          go_upto_region 24 with (go_at_call 21; refine (E2.out _ _ (HPV.out _ S10.out.tab.1.1.1 (Nat.le_trans HN.out S10.out.bel.size)) S10.out.tab.2).mono ?_; rintro e V11 ⟨rfl, ht⟩; have S11 := St.call S10 (below_turned ht); clear ht)
          clear S10 E2 z0 z1 y0 y1 y2 y3 y4
          go_upto_region 25 with (go_at_call 10; refine (E3.out _ (HPV.out _ S11.out.tab.1.1.1 (Nat.le_trans HN.out S11.out.bel.size))).mono ?_; rintro e V12 ⟨hb, p6, c6, rfl, hF⟩; have S12 := St.more (St.call S11 hb) hF (stays_kids _ _); clear hb hF)
          clear S11 E3
          obtain ⟨V13, b27, hW, hB, hbl, S13⟩ := St.box S12 (.cells #[(.int .i64 (z2.op)), (.int .i64 (z2.n)), .string z2.s, .slice p6 z2.kids.length c6, (.int .i64 (z2.at_))] 31)
          have hsz : V13.heap.size = b27 + 1 := by rw [hW, hB]; simp
          rw [← hW, ← hB]
          clear hW hB hbl S12
          have hs : V13.heap.size = b27 + 1 := hsz
          obtain ⟨V14, b28, hW, hB, hbl, S14⟩ := St.box S13 (.cells #[(.int .i64 0), (.int .i64 0)] 26)
          have hsz : V14.heap.size = b28 + 1 := by rw [hW, hB]; simp
          rw [hs] at hB
          rw [← hW, ← hB]
          clear hW hB hbl S13 hs
          clear hsz
          go_wp2_with (first | (have hq := S15; clear hq; go_at_call 16; refine (E4.out _ _ _ S15.out.tab.1.2 S15.out.tab.2).mono ?_; rintro e UU ⟨rfl, ht⟩; have SU := St.call S15 (below_turned ht); clear ht) | (go_at_call 8; refine (HS.out _ (HPV.out _ S14.out.tab.1.1.1.1 (Nat.le_trans HN.out S14.out.bel.size))).mono ?_; rintro e U ⟨rfl, hb⟩; have S15 := St.call S14 hb; clear hb; obtain ⟨y0, y1, y2, y3, y4⟩ := St.cells5 S15 3 rfl; obtain ⟨x0, x1, x2, x3, x4⟩ := St.cells5 S15 1 rfl; obtain ⟨z0, z1⟩ := St.cells2 S15 0 rfl))
          go_ret
          exact ⟨rfl, SU.out.bel⟩
      | ok m =>
        obtain ⟨⟨s1, s2, s3⟩, u, m2, k1, k2, k3, k4, s4, s5, s6⟩ := forms_all' HZ.out hr
        have E1 := Lib.hid (fun (W : World) (h : PV W.heap.size W) => forms_ok src m hr W h)
        have E2 := Lib.hid (fun (W : World) (v : Value) (hv : PV W.heap.size W) (h : FormsAt W (fun _ => True) m v) => print_forms k1 s1 s2 s3 W hv h)
        have E3 := Lib.hid (fun (W : World) (h : PV W.heap.size W) => forms_ok u m2 k2 W h)
        have E4 := Lib.hid (fun (W : World) (v : Value) (hv : PV W.heap.size W) (h : FormsAt W (fun _ => True) m2 v) => print_forms k4 s4 s5 s6 W hv h)
        have E5 := Lib.hid (fun (W : World) (u v : Value) (h1 : FormsAt W (fun _ => True) m u) (h2 : FormsAt W (fun _ => True) m2 v) => same_forms m m2 k3 u v W h1 h2)
        clear hr k1 k2 k3 k4 s1 s2 s3 s4 s5 s6
        go_upto_region 14 with (go_at_call 9; refine (E1.out _ (HPV.out _ S5.out.tab.1.1 (Nat.le_trans HN.out S5.out.bel.size))).mono ?_; rintro e V6 ⟨hb, p3, c3, rfl, hF⟩; have S6 := St.more (St.call S5 hb) hF (stays_forms _ _); clear hb hF)
        clear S5 E1
        obtain ⟨V7, b16, hW, hB, hbl, S7⟩ := St.box S6 (.cells #[(.int .i64 0), (.int .i64 0)] 26)
        have hsz : V7.heap.size = b16 + 1 := by rw [hW, hB]; simp
        rw [← hW, ← hB]
        clear hW hB hbl S6
        clear hsz
        obtain ⟨y0, y1⟩ := St.cells2 S7 0 rfl
        go_upto_region 15 with fail
        clear y0 y1
        go_upto_region 16 with (go_at_call 20; refine (E2.out _ _ (HPV.out _ S7.out.tab.1.1.1 (Nat.le_trans HN.out S7.out.bel.size)) S7.out.tab.2).mono ?_; rintro e V8 ⟨rfl, ht⟩; have S8 := St.call S7 (below_turned ht); clear ht)
        clear S7 E2
        go_upto_region 17 with (go_at_call 9; refine (E3.out _ (HPV.out _ S8.out.tab.1.1.1 (Nat.le_trans HN.out S8.out.bel.size))).mono ?_; rintro e V9 ⟨hb, p4, c4, rfl, hF⟩; have S9 := St.more (St.call S8 hb) hF (stays_forms _ _); clear hb hF)
        clear S8 E3
        obtain ⟨V10, b20, hW, hB, hbl, S10⟩ := St.box S9 (.cells #[(.int .i64 0), (.int .i64 0)] 26)
        have hsz : V10.heap.size = b20 + 1 := by rw [hW, hB]; simp
        rw [← hW, ← hB]
        clear hW hB hbl S9
        clear hsz
        go_upto_region 18 with (go_at_call 20; refine (E4.out _ _ (HPV.out _ S10.out.tab.1.1.1.1 (Nat.le_trans HN.out S10.out.bel.size)) S10.out.tab.2).mono ?_; rintro e V11 ⟨rfl, ht⟩; have S11 := St.call S10 (below_turned ht); clear ht)
        clear S10 E4
        obtain ⟨y0, y1⟩ := St.cells2 S11 0 rfl
        go_upto_region 20 with (go_at_call 24; refine (E5.out _ _ _ S11.out.tab.1.2 S11.out.tab.2).mono ?_; rintro e V12 ⟨rfl, ht⟩; have S12 := St.call S11 (below_turned ht); clear ht)
        clear S11 E5 y0 y1
        cases hr : exprP src with
        | bad a c =>
          have hc : (c != 0) = true := by simpa using exprP_err hr
          have E1 := Lib.hid (fun (W : World) (h : PV W.heap.size W) => expr_bad src a c hr W h)
          clear hr
          go_upto_region 21 with (go_at_call 10; refine (E1.out _ (HPV.out _ S12.out.tab.1.1.1.1 (Nat.le_trans HN.out S12.out.bel.size))).mono ?_; rintro e V13 ⟨hb, rfl⟩; have S13 := St.call S12 hb; clear hb)
          clear S12 E1
          obtain ⟨V14, b23, hW, hB, hbl, S14⟩ := St.box S13 (.cells #[(.int .i64 0), (.int .i64 0), .string ⟨#[]⟩, .slice none 0 0, (.int .i64 0)] 31)
          have hsz : V14.heap.size = b23 + 1 := by rw [hW, hB]; simp
          rw [← hW, ← hB]
          clear hW hB hbl S13
          have hs : V14.heap.size = b23 + 1 := hsz
          obtain ⟨V15, b24, hW, hB, hbl, S15⟩ := St.box S14 (.cells #[(.int .i64 a), (.int .i64 c)] 26)
          have hsz : V15.heap.size = b24 + 1 := by rw [hW, hB]; simp
          rw [hs] at hB
          rw [← hW, ← hB]
          clear hW hB hbl S14 hs
          clear hsz
          obtain ⟨y0, y1⟩ := St.cells2 S15 0 rfl
          go_wp2_with (go_at_call 8; refine (HS.out _ (HPV.out _ S15.out.tab.1.1.1.1 (Nat.le_trans HN.out S15.out.bel.size))).mono ?_; rintro e U ⟨rfl, hb⟩; have SU := St.call S15 hb; clear hb)
          go_ret
          exact ⟨rfl, SU.out.bel⟩
        | ok y =>
          obtain ⟨s1, s2, s3, u2, z2, k1, k2, k3⟩ := expr_all HZ.out hr
          have E1 := Lib.hid (fun (W : World) (h : PV W.heap.size W) => expr_ok src y hr W h)
          have E2 := Lib.hid (fun (W : World) (v : Value) (hv : PV W.heap.size W) (h : KidsAt W (fun _ => True) y.kids v) => print_ex k1 s1 s2 s3 W hv h)
          have E3 := Lib.hid (fun (W : World) (h : PV W.heap.size W) => expr_ok u2 z2 k2 W h)
          have E4 := Lib.hid (fun (W : World) (u v : Value) (h1 : KidsAt W (fun _ => True) y.kids u) (h2 : KidsAt W (fun _ => True) z2.kids v) => same_true y z2 k3 u v W h1 h2)
          unfold exA at E2 E4
          clear hr k1 k2 k3 s1 s2 s3
          go_upto_region 21 with (go_at_call 10; refine (E1.out _ (HPV.out _ S12.out.tab.1.1.1.1 (Nat.le_trans HN.out S12.out.bel.size))).mono ?_; rintro e V13 ⟨hb, p5, c5, rfl, hF⟩; have S13 := St.more (St.call S12 hb) hF (stays_kids _ _); clear hb hF)
          clear S12 E1
          obtain ⟨V14, b23, hW, hB, hbl, S14⟩ := St.box S13 (.cells #[(.int .i64 (y.op)), (.int .i64 (y.n)), .string y.s, .slice p5 y.kids.length c5, (.int .i64 (y.at_))] 31)
          have hsz : V14.heap.size = b23 + 1 := by rw [hW, hB]; simp
          rw [← hW, ← hB]
          clear hW hB hbl S13
          have hs : V14.heap.size = b23 + 1 := hsz
          obtain ⟨V15, b24, hW, hB, hbl, S15⟩ := St.box S14 (.cells #[(.int .i64 0), (.int .i64 0)] 26)
          have hsz : V15.heap.size = b24 + 1 := by rw [hW, hB]; simp
          rw [hs] at hB
          rw [← hW, ← hB]
          clear hW hB hbl S14 hs
          clear hsz
          obtain ⟨z0, z1⟩ := St.cells2 S15 0 rfl
          obtain ⟨y0, y1, y2, y3, y4⟩ := St.cells5 S15 1 rfl
          go_upto_region 24 with (go_at_call 21; refine (E2.out _ _ (HPV.out _ S15.out.tab.1.1.1.1.1 (Nat.le_trans HN.out S15.out.bel.size)) S15.out.tab.2).mono ?_; rintro e V16 ⟨rfl, ht⟩; have S16 := St.call S15 (below_turned ht); clear ht)
          clear S15 E2 z0 z1 y0 y1 y2 y3 y4
          go_upto_region 25 with (go_at_call 10; refine (E3.out _ (HPV.out _ S16.out.tab.1.1.1.1.1 (Nat.le_trans HN.out S16.out.bel.size))).mono ?_; rintro e V17 ⟨hb, p6, c6, rfl, hF⟩; have S17 := St.more (St.call S16 hb) hF (stays_kids _ _); clear hb hF)
          clear S16 E3
          obtain ⟨V18, b27, hW, hB, hbl, S18⟩ := St.box S17 (.cells #[(.int .i64 (z2.op)), (.int .i64 (z2.n)), .string z2.s, .slice p6 z2.kids.length c6, (.int .i64 (z2.at_))] 31)
          have hsz : V18.heap.size = b27 + 1 := by rw [hW, hB]; simp
          rw [← hW, ← hB]
          clear hW hB hbl S17
          have hs : V18.heap.size = b27 + 1 := hsz
          obtain ⟨V19, b28, hW, hB, hbl, S19⟩ := St.box S18 (.cells #[(.int .i64 0), (.int .i64 0)] 26)
          have hsz : V19.heap.size = b28 + 1 := by rw [hW, hB]; simp
          rw [hs] at hB
          rw [← hW, ← hB]
          clear hW hB hbl S18 hs
          clear hsz
          go_wp2_with (first | (have hq := S20; clear hq; go_at_call 16; refine (E4.out _ _ _ S20.out.tab.1.2 S20.out.tab.2).mono ?_; rintro e UU ⟨rfl, ht⟩; have SU := St.call S20 (below_turned ht); clear ht) | (go_at_call 8; refine (HS.out _ (HPV.out _ S19.out.tab.1.1.1.1.1.1 (Nat.le_trans HN.out S19.out.bel.size))).mono ?_; rintro e U ⟨rfl, hb⟩; have S20 := St.call S19 hb; clear hb; obtain ⟨y0, y1, y2, y3, y4⟩ := St.cells5 S20 3 rfl; obtain ⟨x0, x1, x2, x3, x4⟩ := St.cells5 S20 1 rfl; obtain ⟨z0, z1⟩ := St.cells2 S20 0 rfl))
          go_ret
          exact ⟨rfl, SU.out.bel⟩
end Go.Proofs.YtjijdgkccfeeaaaGreatDoor
