/- Part 33 of the proof of card: ParPrintsW, ParOpenV, ParLaid, ParCardPrints. Conditions: those of each theorem. -/
import Derived.Deep.RegionHeld3
import Derived.Stop.LaidErr
import Derived.LaidSub
import Derived.LaidMore
import Derived.Lib.LaidTab
import Derived.Lib.SmallJoins
import Derived.Deep.DeepWitnessRowRef
import Derived.ChangeMaps5
import Derived.Test.YtjijdgkccfeeaaaGreatDoorPt01
import Derived.Test.YtjijdgkccfeeaaaGreatDoorPt10
import Derived.Test.YtjijdgkccfeeaaaGreatDoorPt18
import Derived.Test.YtjijdgkccfeeaaaGreatDoorPt19
import Derived.Test.YtjijdgkccfeeaaaGreatDoorPt29
import Derived.Test.YtjijdgkccfeeaaaGreatDoorPt30
import Derived.Test.YtjijdgkccfeeaaaGreatDoorPt32
set_option maxRecDepth 100000
set_option maxHeartbeats 8000000
namespace Go.Proofs.YtjijdgkccfeeaaaGreatDoor
open Go Go.Proofs Go.RowKit
attribute [local go_sem] Oper.semAt_some
theorem prints_any (a b : List Fm) (x y : Ex) (va vb ax ay : Value) (w : World) (hv : PV w.heap.size w) (ha : FormsAt w (fun _ => True) a va) (hb : FormsAt w (fun _ => True) b vb) (hx : KidsAt w (fun _ => True) x.kids ax) (hy : KidsAt w (fun _ => True) y.kids ay) (wa : ∀ f ∈ a, WfF f) (wx : WfX x) :
  Calls Tryz.prog 6 #[va, vb, exA x ax, exA y ay] w fun e w' => e = .returned (.bool true) /\ Below w.heap.size w w' := by
 obtain ⟨n, hn⟩ : ∃ n, n = w.heap.size := ⟨_, rfl⟩
 rw [<- hn] at hv
 have hn2 := Nat.le_of_eq hn
 clear hn
 have HPV : Hid (∀ W, PV n W -> n <= W.heap.size -> PV W.heap.size W) := Lib.hid fun W h hm => h.mono hm
 have S0 := St.more (St.more (St.more (St.more (St.start (T := PV n) hv (stays_pv n)) ha (stays_forms _ _)) hb (stays_forms _ _)) hx (stays_kids _ _)) hy (stays_kids _ _)
 have HN := Lib.hid hn2
 have HS := Lib.hid (fun W (h : PV W.heap.size W) => sanity_any W h)
 obtain ⟨pA, cA, rfl⟩ := ha.shape
 obtain ⟨pB, cB, rfl⟩ := hb.shape
 obtain ⟨pX, cX, rfl⟩ := hx.shape
 obtain ⟨pY, cY, rfl⟩ := hy.shape
 have W1 := Lib.hid wa
 have W2 := Lib.hid wx
 clear hv hn2 ha hb hx hy wa wx
 have F1 := Lib.hid (fun (W : World) (h : FormsAt W (fun _ => True) a (.slice pA a.length cA)) => few_any a 200 _ W (by decide) (by decide) h)
 have F2 := Lib.hid (fun (W : World) (h : FormsAt W (fun _ => True) b (.slice pB b.length cB)) => few_any b 200 _ W (by decide) (by decide) h)
 have F3 := Lib.hid (fun (W : World) (h : KidsAt W (fun _ => True) x.kids (.slice pX x.kids.length cX)) => exprs_any _ x (Nat.le_refl _) 200 _ W (by decide) (by decide) h)
 have F4 := Lib.hid (fun (W : World) (h : KidsAt W (fun _ => True) y.kids (.slice pY y.kids.length cY)) => exprs_any _ y (Nat.le_refl _) 200 _ W (by decide) (by decide) h)
 unfold exA at F3 F4 ⊢
 by_cases h1 : 0 <= fewL a 200
 rotate_left
 ·rw [decide_eq_false h1] at F1
  clear h1 F2 F3 F4 W1 W2
  go_enter Tryz.func6, Tryz.ntmps6
  go_upto_region 1 with fail
  obtain ⟨V1, b6, hW, hB, hbl, S1⟩ := St.box S0 (.cells #[.int .i64 x.op, .int .i64 x.n, .string x.s, .slice pX x.kids.length cX, .int .i64 x.at_] 31)
  have hs : V1.heap.size = b6 + 1 := by rw [hW, hB]; simp
  rw [<- hW, <- hB]
  clear hW hB hbl S0
  obtain ⟨V2, b7, hW, hB, hbl, S2⟩ := St.box S1 (.cells #[.int .i64 y.op, .int .i64 y.n, .string y.s, .slice pY y.kids.length cY, .int .i64 y.at_] 31)
  rw [hs] at hB
  rw [<- hW, <- hB]
  clear hW hB hbl hs S1
  obtain ⟨x0, x1, x2, x3, x4⟩ := St.cells5 S2 1 rfl
  obtain ⟨y0, y1, y2, y3, y4⟩ := St.cells5 S2 0 rfl
  go_wp2_with (first | (have hq := S3; clear hq; go_at_call 8; refine (HS.out _ (HPV.out _ S3.out.tab.1.1.1.1 (Nat.le_trans HN.out S3.out.bel.size))).mono ?_; rintro e U ⟨rfl, hb⟩; have SU := St.call S3 hb; clear hb) | (have hq := S2; clear hq; go_at_call 18; refine (F1.out _ S2.out.tab.1.1.1.2).mono ?_; rintro e U1 ⟨rfl, ht⟩; have S3 := St.call S2 (below_turned ht); clear ht S2; clear x0 x1 x2 x3 x4 y0 y1 y2 y3 y4; obtain ⟨x0, x1, x2, x3, x4⟩ := St.cells5 S3 1 rfl; obtain ⟨y0, y1, y2, y3, y4⟩ := St.cells5 S3 0 rfl))
  go_ret
  exact ⟨rfl, SU.out.bel⟩
 have HA := Lib.hid (few_l W1.out (by decide) h1)
 rw [decide_eq_true h1] at F1
 clear h1 W1
 by_cases h2 : 0 <= fewL b 200
 rotate_left
 ·rw [decide_eq_false h2] at F2
  clear h2 F3 F4 W2 HA
  go_enter Tryz.func6, Tryz.ntmps6
  go_upto_region 1 with fail
  obtain ⟨V1, b6, hW, hB, hbl, S1⟩ := St.box S0 (.cells #[.int .i64 x.op, .int .i64 x.n, .string x.s, .slice pX x.kids.length cX, .int .i64 x.at_] 31)
  have hs : V1.heap.size = b6 + 1 := by rw [hW, hB]; simp
  rw [<- hW, <- hB]
  clear hW hB hbl S0
  obtain ⟨V2, b7, hW, hB, hbl, S2⟩ := St.box S1 (.cells #[.int .i64 y.op, .int .i64 y.n, .string y.s, .slice pY y.kids.length cY, .int .i64 y.at_] 31)
  rw [hs] at hB
  rw [<- hW, <- hB]
  clear hW hB hbl hs S1
  obtain ⟨x0, x1, x2, x3, x4⟩ := St.cells5 S2 1 rfl
  obtain ⟨y0, y1, y2, y3, y4⟩ := St.cells5 S2 0 rfl
  go_wp2_with (first | (have hq := S4; clear hq; go_at_call 8; refine (HS.out _ (HPV.out _ S4.out.tab.1.1.1.1 (Nat.le_trans HN.out S4.out.bel.size))).mono ?_; rintro e U ⟨rfl, hb⟩; have SU := St.call S4 hb; clear hb) | (have hq := S3; clear hq; go_at_call 18; refine (F2.out _ S3.out.tab.1.1.2).mono ?_; rintro e U2 ⟨rfl, ht⟩; have S4 := St.call S3 (below_turned ht); clear ht S3; clear x0 x1 x2 x3 x4 y0 y1 y2 y3 y4; obtain ⟨x0, x1, x2, x3, x4⟩ := St.cells5 S4 1 rfl; obtain ⟨y0, y1, y2, y3, y4⟩ := St.cells5 S4 0 rfl) | (have hq := S2; clear hq; go_at_call 18; refine (F1.out _ S2.out.tab.1.1.1.2).mono ?_; rintro e U1 ⟨rfl, ht⟩; have S3 := St.call S2 (below_turned ht); clear ht S2; clear x0 x1 x2 x3 x4 y0 y1 y2 y3 y4; obtain ⟨x0, x1, x2, x3, x4⟩ := St.cells5 S3 1 rfl; obtain ⟨y0, y1, y2, y3, y4⟩ := St.cells5 S3 0 rfl))
  go_ret
  exact ⟨rfl, SU.out.bel⟩
 rw [decide_eq_true h2] at F2
 clear h2
 by_cases h3 : 0 <= fewX x 200
 rotate_left
 ·have h3b : fewX x 200 < 0 := by omega
  clear h3 F4 W2 HA
  generalize fewX x 200 = zx at F3 h3b
  go_enter Tryz.func6, Tryz.ntmps6
  go_upto_region 1 with fail
  obtain ⟨V1, b6, hW, hB, hbl, S1⟩ := St.box S0 (.cells #[.int .i64 x.op, .int .i64 x.n, .string x.s, .slice pX x.kids.length cX, .int .i64 x.at_] 31)
  have hs : V1.heap.size = b6 + 1 := by rw [hW, hB]; simp
  rw [<- hW, <- hB]
  clear hW hB hbl S0
  obtain ⟨V2, b7, hW, hB, hbl, S2⟩ := St.box S1 (.cells #[.int .i64 y.op, .int .i64 y.n, .string y.s, .slice pY y.kids.length cY, .int .i64 y.at_] 31)
  rw [hs] at hB
  rw [<- hW, <- hB]
  clear hW hB hbl hs S1
  obtain ⟨x0, x1, x2, x3, x4⟩ := St.cells5 S2 1 rfl
  obtain ⟨y0, y1, y2, y3, y4⟩ := St.cells5 S2 0 rfl
  go_wp2_with (first | (have hq := S5; clear hq; go_at_call 8; refine (HS.out _ (HPV.out _ S5.out.tab.1.1.1.1 (Nat.le_trans HN.out S5.out.bel.size))).mono ?_; rintro e U ⟨rfl, hb⟩; have SU := St.call S5 hb; clear hb) | (have hq := S4; clear hq; go_at_call 19; refine (F3.out _ S4.out.tab.1.2).mono ?_; rintro e U3 ⟨rfl, ht⟩; have S5 := St.call S4 (below_turned ht); clear ht S4; clear x0 x1 x2 x3 x4 y0 y1 y2 y3 y4; obtain ⟨x0, x1, x2, x3, x4⟩ := St.cells5 S5 1 rfl; obtain ⟨y0, y1, y2, y3, y4⟩ := St.cells5 S5 0 rfl) | (have hq := S3; clear hq; go_at_call 18; refine (F2.out _ S3.out.tab.1.1.2).mono ?_; rintro e U2 ⟨rfl, ht⟩; have S4 := St.call S3 (below_turned ht); clear ht S3; clear x0 x1 x2 x3 x4 y0 y1 y2 y3 y4; obtain ⟨x0, x1, x2, x3, x4⟩ := St.cells5 S4 1 rfl; obtain ⟨y0, y1, y2, y3, y4⟩ := St.cells5 S4 0 rfl) | (have hq := S2; clear hq; go_at_call 18; refine (F1.out _ S2.out.tab.1.1.1.2).mono ?_; rintro e U1 ⟨rfl, ht⟩; have S3 := St.call S2 (below_turned ht); clear ht S2; clear x0 x1 x2 x3 x4 y0 y1 y2 y3 y4; obtain ⟨x0, x1, x2, x3, x4⟩ := St.cells5 S3 1 rfl; obtain ⟨y0, y1, y2, y3, y4⟩ := St.cells5 S3 0 rfl))
  go_ret
  exact ⟨rfl, SU.out.bel⟩
 have HX := Lib.hid (few_x W2.out (by decide) h3)
 have h3b : ¬ fewX x 200 < 0 := by omega
 clear h3 W2
 generalize fewX x 200 = zx at F3 h3b
 by_cases h4 : 0 <= fewX y 200
 rotate_left
 ·have h4b : fewX y 200 < 0 := by omega
  clear h4 HA HX
  generalize fewX y 200 = zy at F4 h4b
  go_enter Tryz.func6, Tryz.ntmps6
  go_upto_region 1 with fail
  obtain ⟨V1, b6, hW, hB, hbl, S1⟩ := St.box S0 (.cells #[.int .i64 x.op, .int .i64 x.n, .string x.s, .slice pX x.kids.length cX, .int .i64 x.at_] 31)
  have hs : V1.heap.size = b6 + 1 := by rw [hW, hB]; simp
  rw [<- hW, <- hB]
  clear hW hB hbl S0
  obtain ⟨V2, b7, hW, hB, hbl, S2⟩ := St.box S1 (.cells #[.int .i64 y.op, .int .i64 y.n, .string y.s, .slice pY y.kids.length cY, .int .i64 y.at_] 31)
  rw [hs] at hB
  rw [<- hW, <- hB]
  clear hW hB hbl hs S1
  obtain ⟨x0, x1, x2, x3, x4⟩ := St.cells5 S2 1 rfl
  obtain ⟨y0, y1, y2, y3, y4⟩ := St.cells5 S2 0 rfl
  go_wp2_with (first | (have hq := S6; clear hq; go_at_call 8; refine (HS.out _ (HPV.out _ S6.out.tab.1.1.1.1 (Nat.le_trans HN.out S6.out.bel.size))).mono ?_; rintro e U ⟨rfl, hb⟩; have SU := St.call S6 hb; clear hb) | (have hq := S5; clear hq; go_at_call 19; refine (F4.out _ S5.out.tab.2).mono ?_; rintro e U4 ⟨rfl, ht⟩; have S6 := St.call S5 (below_turned ht); clear ht S5; clear x0 x1 x2 x3 x4 y0 y1 y2 y3 y4; obtain ⟨x0, x1, x2, x3, x4⟩ := St.cells5 S6 1 rfl; obtain ⟨y0, y1, y2, y3, y4⟩ := St.cells5 S6 0 rfl) | (have hq := S4; clear hq; go_at_call 19; refine (F3.out _ S4.out.tab.1.2).mono ?_; rintro e U3 ⟨rfl, ht⟩; have S5 := St.call S4 (below_turned ht); clear ht S4; clear x0 x1 x2 x3 x4 y0 y1 y2 y3 y4; obtain ⟨x0, x1, x2, x3, x4⟩ := St.cells5 S5 1 rfl; obtain ⟨y0, y1, y2, y3, y4⟩ := St.cells5 S5 0 rfl) | (have hq := S3; clear hq; go_at_call 18; refine (F2.out _ S3.out.tab.1.1.2).mono ?_; rintro e U2 ⟨rfl, ht⟩; have S4 := St.call S3 (below_turned ht); clear ht S3; clear x0 x1 x2 x3 x4 y0 y1 y2 y3 y4; obtain ⟨x0, x1, x2, x3, x4⟩ := St.cells5 S4 1 rfl; obtain ⟨y0, y1, y2, y3, y4⟩ := St.cells5 S4 0 rfl) | (have hq := S2; clear hq; go_at_call 18; refine (F1.out _ S2.out.tab.1.1.1.2).mono ?_; rintro e U1 ⟨rfl, ht⟩; have S3 := St.call S2 (below_turned ht); clear ht S2; clear x0 x1 x2 x3 x4 y0 y1 y2 y3 y4; obtain ⟨x0, x1, x2, x3, x4⟩ := St.cells5 S3 1 rfl; obtain ⟨y0, y1, y2, y3, y4⟩ := St.cells5 S3 0 rfl))
  go_ret
  exact ⟨rfl, SU.out.bel⟩
 have h4b : ¬ fewX y 200 < 0 := by omega
 clear h4
 generalize fewX y 200 = zy at F4 h4b
 obtain ⟨ps, pe, hp⟩ : ∃ s c, printFs a = (s, c) := ⟨_, _, rfl⟩
 obtain ⟨qs, qe, hq⟩ : ∃ s c, printX x = (s, c) := ⟨_, _, rfl⟩
 have G1 := Lib.hid (fun (W : World) (hv : PV W.heap.size W) (h : FormsAt W (fun _ => True) a (.slice pA a.length cA)) => print_any' a _ W hv (h.move (Turned.refl (fun _ => False) _) (fun _ _ => id) (fun _ _ hb => hb)) HA.out.2.2.2.2.1 HA.out.2.2.2.1 HA.out.2.2.2.2.2)
 have G2 := Lib.hid (fun (W : World) (hv : PV W.heap.size W) (h : KidsAt W (fun _ => True) x.kids (.slice pX x.kids.length cX)) => printExpr_any x _ W hv (h.move (Turned.refl (fun _ => False) _) (fun _ _ => id) (fun _ _ hb => hb)) HX.out.2.2.2.1 HX.out.2.2.1 HX.out.2.2.2.2)
 have G3 := Lib.hid (fun (W : World) (h : FormsAt W (fun _ => True) a (.slice pA a.length cA)) => sprint_any a HA.out.2.1 HA.out.2.2.1 pA cA W h)
 have G4 := Lib.hid (fun (W : World) (h : KidsAt W (fun _ => True) x.kids (.slice pX x.kids.length cX)) => sprintExpr_any x HX.out.2.1 _ W h)
 rw [shownFs_eq] at G3
 rw [shownX_eq] at G4
 simp only [hp] at G1 G3
 simp only [hq] at G2 G4
 unfold exA at G2 G4
 clear hp hq HA HX
 go_enter Tryz.func6, Tryz.ntmps6
 go_upto_region 1 with fail
 obtain ⟨V1, b6, hW, hB, hbl, S1⟩ := St.box S0 (.cells #[.int .i64 x.op, .int .i64 x.n, .string x.s, .slice pX x.kids.length cX, .int .i64 x.at_] 31)
 have hs : V1.heap.size = b6 + 1 := by rw [hW, hB]; simp
 rw [<- hW, <- hB]
 clear hW hB hbl S0
 obtain ⟨V2, b7, hW, hB, hbl, S2⟩ := St.box S1 (.cells #[.int .i64 y.op, .int .i64 y.n, .string y.s, .slice pY y.kids.length cY, .int .i64 y.at_] 31)
 rw [hs] at hB
 rw [<- hW, <- hB]
 clear hW hB hbl hs S1
 obtain ⟨x0, x1, x2, x3, x4⟩ := St.cells5 S2 1 rfl
 obtain ⟨y0, y1, y2, y3, y4⟩ := St.cells5 S2 0 rfl
 go_upto_region 3 with (first | (have hq := S5; clear hq; go_at_call 19; refine (F4.out _ S5.out.tab.2).mono ?_; rintro e U4 ⟨rfl, ht⟩; have S6 := St.call S5 (below_turned ht); clear ht S5; clear x0 x1 x2 x3 x4 y0 y1 y2 y3 y4; obtain ⟨x0, x1, x2, x3, x4⟩ := St.cells5 S6 1 rfl; obtain ⟨y0, y1, y2, y3, y4⟩ := St.cells5 S6 0 rfl) | (have hq := S4; clear hq; go_at_call 19; refine (F3.out _ S4.out.tab.1.2).mono ?_; rintro e U3 ⟨rfl, ht⟩; have S5 := St.call S4 (below_turned ht); clear ht S4; clear x0 x1 x2 x3 x4 y0 y1 y2 y3 y4; obtain ⟨x0, x1, x2, x3, x4⟩ := St.cells5 S5 1 rfl; obtain ⟨y0, y1, y2, y3, y4⟩ := St.cells5 S5 0 rfl) | (have hq := S3; clear hq; go_at_call 18; refine (F2.out _ S3.out.tab.1.1.2).mono ?_; rintro e U2 ⟨rfl, ht⟩; have S4 := St.call S3 (below_turned ht); clear ht S3; clear x0 x1 x2 x3 x4 y0 y1 y2 y3 y4; obtain ⟨x0, x1, x2, x3, x4⟩ := St.cells5 S4 1 rfl; obtain ⟨y0, y1, y2, y3, y4⟩ := St.cells5 S4 0 rfl) | (have hq := S2; clear hq; go_at_call 18; refine (F1.out _ S2.out.tab.1.1.1.2).mono ?_; rintro e U1 ⟨rfl, ht⟩; have S3 := St.call S2 (below_turned ht); clear ht S2; clear x0 x1 x2 x3 x4 y0 y1 y2 y3 y4; obtain ⟨x0, x1, x2, x3, x4⟩ := St.cells5 S3 1 rfl; obtain ⟨y0, y1, y2, y3, y4⟩ := St.cells5 S3 0 rfl))
 clear F1 F2 F3 F4 h3b h4b
 go_upto_region 4 with (go_at_call 20; refine (G1.out _ (HPV.out _ S6.out.tab.1.1.1.1 (Nat.le_trans HN.out S6.out.bel.size)) S6.out.tab.1.1.1.2).mono ?_; rintro e U5 ⟨rfl, ht⟩; have S7 := St.call S6 (below_turned ht); clear ht)
 clear x0 x1 x2 x3 x4 y0 y1 y2 y3 y4 S6 G1
 obtain ⟨x0, x1, x2, x3, x4⟩ := St.cells5 S7 1 rfl
 go_upto_region 5 with (go_at_call 21; refine (G2.out _ (HPV.out _ S7.out.tab.1.1.1.1 (Nat.le_trans HN.out S7.out.bel.size)) S7.out.tab.1.2).mono ?_; rintro e U6 ⟨rfl, ht⟩; have S8 := St.call S7 (below_turned ht); clear ht)
 clear x0 x1 x2 x3 x4 S7 G2
 go_upto_region 6 with (go_at_call 22; refine (G3.out _ S8.out.tab.1.1.1.2).mono ?_; rintro e U7 ⟨rfl, ht⟩; have S9 := St.call S8 (below_turned ht); clear ht)
 clear S8 G3
 obtain ⟨V10, b13, hW, hB, hbl, S10⟩ := St.box S9 (.cells #[.string ps, .int .i64 pe] 57)
 rw [<- hW, <- hB]
 clear hW hB hbl S9
 obtain ⟨x0, x1, x2, x3, x4⟩ := St.cells5 S10 2 rfl
 go_upto_region 7 with (go_at_call 23; refine (G4.out _ S10.out.tab.1.2).mono ?_; rintro e U8 ⟨rfl, ht⟩; have S11 := St.call S10 (below_turned ht); clear ht)
 clear x0 x1 x2 x3 x4 S10 G4
 obtain ⟨V12, b14, hW, hB, hbl, S12⟩ := St.box S11 (.cells #[.string qs, .int .i64 qe] 57)
 rw [<- hW, <- hB]
 clear hW hB hbl S11
 obtain ⟨s0, s1⟩ := St.cells2 S12 1 rfl
 obtain ⟨t0, t1⟩ := St.cells2 S12 0 rfl
 have E1 := Lib.hid (fun (W : World) (h : FormsAt W (fun _ => True) a (.slice pA a.length cA)) => same_true_forms a _ W h)
 have E2 := Lib.hid (fun (W : World) (h : KidsAt W (fun _ => True) x.kids (.slice pX x.kids.length cX)) => same_true x x (sameX_refl _ _) _ _ W h h)
 unfold exA at E2
 go_upto_region 9 with (first | (have hq := S13; clear hq; go_at_call 16; refine (E2.out _ S13.out.tab.1.2).mono ?_; rintro e U10 ⟨rfl, ht⟩; have S14 := St.call S13 (below_turned ht); clear ht S13 x0 x1 x2 x3 x4) | (go_at_call 24; refine (E1.out _ S12.out.tab.1.1.1.2).mono ?_; rintro e U9 ⟨rfl, ht⟩; have S13 := St.call S12 (below_turned ht); clear ht S12 s0 s1 t0 t1; obtain ⟨x0, x1, x2, x3, x4⟩ := St.cells5 S13 3 rfl))
 clear E1 E2
 have HC : Hid (∀ W, Below U10.heap.size U10 W -> (W.cell? ⟨b6, 0, none⟩ = some (.int .i64 x.op) /\ W.cell? ⟨b6, 1, none⟩ = some (.int .i64 x.n) /\ W.cell? ⟨b6, 2, none⟩ = some (.string x.s) /\ W.cell? ⟨b6, 3, none⟩ = some (.slice pX x.kids.length cX) /\ W.cell? ⟨b6, 4, none⟩ = some (.int .i64 x.at_) /\ W.cell? ⟨b7, 0, none⟩ = some (.int .i64 y.op) /\ W.cell? ⟨b7, 1, none⟩ = some (.int .i64 y.n) /\ W.cell? ⟨b7, 2, none⟩ = some (.string y.s) /\ W.cell? ⟨b7, 3, none⟩ = some (.slice pY y.kids.length cY) /\ W.cell? ⟨b7, 4, none⟩ = some (.int .i64 y.at_))) := Lib.hid fun W hb => by
  have S := St.call S14 hb
  obtain ⟨q0, q1, q2, q3, q4⟩ := St.cells5 S 3 rfl
  obtain ⟨r0, r1, r2, r3, r4⟩ := St.cells5 S 2 rfl
  exact ⟨q0, q1, q2, q3, q4, r0, r1, r2, r3, r4⟩
 have B0 := Lib.hid (Below.drew (Below.refl U10.heap.size U10))
 have T0 := Lib.hid (fun W (hb : Below U10.heap.size U10 W) => have S := St.call S14 hb; sanity_any W (HPV.out _ S.out.tab.1.1.1.1 (Nat.le_trans HN.out S.out.bel.size)))
 have T1 := Lib.hid (fun W (hb : Below U10.heap.size U10 W) => have S := St.call S14 hb; same_any a b _ _ _ W S.out.tab.1.1.1.2 S.out.tab.1.1.2)
 have T2 := Lib.hid (fun W (hb : Below U10.heap.size U10 W) => have S := St.call S14 hb; rsame_any _ a (Nat.le_refl _) false b _ _ W S.out.tab.1.1.1.2 S.out.tab.1.1.2)
 have T3 := Lib.hid (fun W (hb : Below U10.heap.size U10 W) => have S := St.call S14 hb; sameExpr_any _ x (Nat.le_refl _) y _ _ W S.out.tab.1.2 S.out.tab.2)
 have T4 := Lib.hid (fun W (hb : Below U10.heap.size U10 W) => have S := St.call S14 hb; rsameExpr_any _ x (Nat.le_refl _) false y _ _ W S.out.tab.1.2 S.out.tab.2)
 unfold exA at T3 T4
 generalize sameFs false a b = m1 at T1 T2
 generalize sameX false x y = m2 at T3 T4
 clear HPV HN HS
 cases m1 <;> cases m2 <;> (
  go_region_held3 (fun W => W.cell? ⟨b6, 0, none⟩ = some (.int .i64 x.op) /\ W.cell? ⟨b6, 1, none⟩ = some (.int .i64 x.n) /\ W.cell? ⟨b6, 2, none⟩ = some (.string x.s) /\ W.cell? ⟨b6, 3, none⟩ = some (.slice pX x.kids.length cX) /\ W.cell? ⟨b6, 4, none⟩ = some (.int .i64 x.at_) /\ W.cell? ⟨b7, 0, none⟩ = some (.int .i64 y.op) /\ W.cell? ⟨b7, 1, none⟩ = some (.int .i64 y.n) /\ W.cell? ⟨b7, 2, none⟩ = some (.string y.s) /\ W.cell? ⟨b7, 3, none⟩ = some (.slice pY y.kids.length cY) /\ W.cell? ⟨b7, 4, none⟩ = some (.int .i64 y.at_))
   (first | exact HC.out _ B0.out | exact HC.out _ B1.out | exact HC.out _ B2.out | exact HC.out _ B3.out | exact HC.out _ B4.out | exact HC.out _ B5.out | go_keep)
   (first | (have hq := B4; clear hq; go_at_call 14; refine (T4.out _ B4.out).mono ?_; rintro e Q4 ⟨rfl, ht⟩; have B5 := Lib.hid (B4.out.trans ((below_turned ht).mono B4.out.size)); clear ht) | (have hq := B3; clear hq; go_at_call 16; refine (T3.out _ B3.out).mono ?_; rintro e Q3 ⟨rfl, ht⟩; have B4 := Lib.hid (B3.out.trans ((below_turned ht).mono B3.out.size)); clear ht) | (have hq := B2; clear hq; go_at_call 13; refine (T2.out _ B2.out).mono ?_; rintro e Q2 ⟨rfl, ht⟩; have B3 := Lib.hid (B2.out.trans ((below_turned ht).mono B2.out.size)); clear ht) | (have hq := B1; clear hq; go_at_call 24; refine (T1.out _ B1.out).mono ?_; rintro e Q1 ⟨rfl, ht⟩; have B2 := Lib.hid (B1.out.trans ((below_turned ht).mono B1.out.size)); clear ht) | (have hq := B0; clear hq; go_at_call 8; refine (T0.out _ B0.out).mono ?_; rintro e Q0 ⟨rfl, hb⟩; have B1 := Lib.hid (B0.out.trans (hb.mono B0.out.size)); clear hb))
  go_wp2_with fail
  go_ret
  exact ⟨rfl, (St.call S14 B5.out).out.bel⟩)
open Go.WideShapes Go.ChangeShapes Go.Deep
section
variable {H : Type} {enc : TypeId × Value -> H} {w : World} {held : Bool} {r : Reach} {b0 : Nat} {v : Value} {d : DataW H} {p : List MemPlace}
theorem forms_param (hv : Value.okWide Tryz.prog w r b0 23 v) (h : DataW.Trod enc Tryz.prog w 0 (fun _ => true) held 23 v d p) : ∃ fs, FormsAt w (fun _ => True) fs v /\ ∀ f ∈ fs, WfF f := by
 obtain ⟨a, len, cap, rfl⟩ := okWide_slice Tryz.underlying23 hv
 obtain ⟨fuel, hf⟩ := h
 obtain ⟨fs, -, h1, h2, -⟩ := forms_open fuel _ _ hf
 exact ⟨fs, h1.move (Turned.refl (fun _ => False) _) (fun _ _ => id) (fun _ _ _ => trivial), h2⟩
theorem ex_param (hv : Value.okWide Tryz.prog w r b0 31 v) (h : DataW.Trod enc Tryz.prog w 0 (fun _ => true) held 31 v d p) : ∃ e u, v = exA e u /\ KidsAt w (fun _ => True) e.kids u /\ WfX e := by
 obtain ⟨cs, rfl, hsz⟩ := okWide_struct Tryz.underlying31 hv
 obtain ⟨fuel, hf⟩ := h
 obtain ⟨e, u, h1, h2, h3⟩ := ex_open (by rw [cExpr] at hsz; simpa [Value.cells] using hsz) hf
 refine ⟨e, u, ?_, h2.move (Turned.refl (fun _ => False) _) (fun _ _ => id) (fun _ _ _ => trivial), h3⟩
 unfold exA
 congr 1
 apply Array.ext'
 exact h1
end
open Go.Shelf
def parLaid : List (String × DataW Unit) := [("math/bits.deBruijn32tab", Rows.laid_math_bits_deBruijn32tab), ("math/bits.deBruijn64tab", Rows.laid_math_bits_deBruijn64tab), ("internal/strconv.uint64pow10", Rows.laid_internal_strconv_uint64pow10), ("strconv.ErrRange", Rows.laid_strconv_ErrRange), ("strconv.ErrSyntax", Rows.laid_strconv_ErrSyntax), ("unicode.White_Space", Rows.laid_unicode_White_Space), ("strings.asciiSpace", Rows.laid_strings_asciiSpace)]
theorem gES : Tryz.prog.globalNamed "strconv.ErrSyntax" = some 4 := by kernel_rfl
theorem gER : Tryz.prog.globalNamed "strconv.ErrRange" = some 5 := by kernel_rfl
theorem gAS : Tryz.prog.globalNamed "strings.asciiSpace" = some 0 := by kernel_rfl
theorem gPW : Tryz.prog.globalNamed "internal/strconv.uint64pow10" = some 1 := by kernel_rfl
theorem gESType : (Tryz.prog.globals[4]?).map (·.type) = some 176 := by kernel_rfl
theorem gERType : (Tryz.prog.globals[5]?).map (·.type) = some 176 := by kernel_rfl
theorem gASType : (Tryz.prog.globals[0]?).map (·.type) = some 209 := by kernel_rfl
theorem starErr : "*" ++ "errors.errorString" = "*errors.errorString" := by decide
theorem rowErrStr (u : TypeId) (h : Tryz.prog.typeName? 3 u = some "*errors.errorString") : u = 284 :=
 typeName_ptr_named (nm := "errors.errorString") (by rw [starErr]; kernel_rfl) (by kernel_rfl) (by decide) u (by rw [starErr]; exact h)
theorem cellsErrStr : Tryz.prog.cellsOf 286 = 1 := by kernel_rfl
theorem cellsStr : Tryz.prog.cellsOf 9 = 1 := by kernel_rfl
theorem cellsU8 : Tryz.prog.cellsOf 5 = 1 := by kernel_rfl
theorem cellsA256 : Tryz.prog.cellsOf 209 = 256 := by kernel_rfl
theorem gPWType : (Tryz.prog.globals[1]?).map (·.type) = some 224 := by kernel_rfl
theorem cellsU64 : Tryz.prog.cellsOf 196 = 1 := by kernel_rfl
theorem cellsA20 : Tryz.prog.cellsOf 224 = 20 := by kernel_rfl
theorem laid_one {W : World} (h : laidMetH Tryz.prog parLaid W) (nm : String) (d : DataW Unit) (hf : parLaid.filter (fun x => x.1 == nm) = [(nm, d)]) (hh : d.handleName?.isNone = true) : laidMet Tryz.prog [(nm, d)] W := by
 have h1 := h.filter fun x => x.1 == nm
 rw [hf] at h1
 have h2 := (laidMetH_iff.1 h1).1
 simpa [hh] using h2
theorem var_lt {W : World} {nm : String} {cs : Array Value} {g : Nat} (h : W.var? Tryz.prog nm = some cs) (hg : Tryz.prog.globalNamed nm = some g) : g < W.heap.size := by
 unfold World.var? at h
 rw [hg] at h
 simp only [Option.bind_some] at h
 rcases Nat.lt_or_ge g W.heap.size with h' | h'
 ·exact h'
 ·simp [Array.getElem?_eq_none h'] at h
theorem pv_of_laid {W : World} (h : laidMetH Tryz.prog parLaid W) : PV W.heap.size W := by
 obtain ⟨a0, s0, hv0, -, -, -⟩ := laid_sentinel (r := []) (laid_one h "strconv.ErrSyntax" Rows.laid_strconv_ErrSyntax (by kernel_rfl) (by kernel_rfl)) gES gESType Tryz.underlying176 rowErrStr Tryz.underlying284 Tryz.underlying286 rfl rfl Tryz.underlying9 cellsErrStr cellsStr
 obtain ⟨a1, s1, hv1, -, -, -⟩ := laid_sentinel (r := []) (laid_one h "strconv.ErrRange" Rows.laid_strconv_ErrRange (by kernel_rfl) (by kernel_rfl)) gER gERType Tryz.underlying176 rowErrStr Tryz.underlying284 Tryz.underlying286 rfl rfl Tryz.underlying9 cellsErrStr cellsStr
 have h2 : Lib.TabIs Tryz.prog W "strings.asciiSpace" .u8 Lib.asciiSpaceTab :=
  Lib.tabIs_of_head (rest := []) gAS gASType Tryz.underlying209 Tryz.underlying5 cellsU8 cellsA256 (laid_one h "strings.asciiSpace" (Lib.tabData .u8 Lib.asciiSpaceTab) (by kernel_rfl) (by kernel_rfl))
 have h3 : Lib.TabIs Tryz.prog W "internal/strconv.uint64pow10" .u64 Lib.pow10Tab :=
  Lib.tabIs_of_head (rest := []) gPW gPWType Tryz.underlying224 Tryz.underlying196 cellsU64 cellsA20 (laid_one h "internal/strconv.uint64pow10" (Lib.tabData .u64 Lib.pow10Tab) (by kernel_rfl) (by kernel_rfl))
 have hs := var_lt hv1 gER
 have lt : ∀ {nm : String} {g0 : Nat}, Tryz.prog.globalNamed nm = some g0 -> g0 < 6 -> ∀ g, Tryz.prog.globalNamed nm = some g -> g < W.heap.size := fun h0 hl g hg => by
  rw [h0] at hg; cases hg; omega
 refine ⟨⟨⟨_, _, hv0, lt gES (by omega)⟩, ⟨_, _, hv1, lt gER (by omega)⟩, h2, lt gAS (by omega)⟩, h3, lt gPW (by omega)⟩
end Go.Proofs.YtjijdgkccfeeaaaGreatDoor
namespace Go.Proofs.YtjijdgkccfeeaaaGreatDoor.lawPrints
open Go.ChangeShapes Go.WideShapes Go.ChangeAt Go.RowKit
theorem contract (H : Type) (enc : TypeId × Value -> H) (W : World) (base : Nat) (args : Array Value) (ds gs : List (DataW H)) (before : List MemPlace)
  (hval : ∀ (j : Nat) t v, Tryz.f6.params[j]? = some t -> args[j]? = some v -> Value.okWide Tryz.prog W .any base t v)
  (hW : DataW.Whole enc Tryz.prog Tryz.f6.params.toList Rows.parsePrintsAsSpecifiedSpec.vars false W args.toList ds gs before) (hL : laidMetH Tryz.prog Rows.parsePrintsAsSpecifiedRow.laid W) :
  Calls Tryz.prog 6 args W fun e W' => ∃ v, e = .returned v /\ Rows.parsePrintsAsSpecifiedSpec.post enc Tryz.prog Tryz.f6 false true false false W args v W' := by
 have hW' := hW
 obtain ⟨p, q, hA0, hV, rfl, hfz, hnd⟩ := hW
 have hlt : ∀ x ∈ p, x.block < W.heap.size := fun x hx => hW'.lt x (List.mem_append_left _ hx)
 have hA : DataW.TrodAll enc Tryz.prog W 0 (fun _ => true) true Tryz.f6.params.toList args.toList ds p := hA0
 rw [Tryz.params6] at hA hval
 obtain ⟨v0, vs0, d0, ds0, p0, q0, hargs, rfl, rfl, h0, r0⟩ := trodAll_cons hA
 obtain ⟨v1, vs1, d1, ds1, p1, q1, rfl, rfl, rfl, h1, r1⟩ := trodAll_cons r0
 obtain ⟨v2, vs2, d2, ds2, p2, q2, rfl, rfl, rfl, h2, r2⟩ := trodAll_cons r1
 obtain ⟨v3, vs3, d3, ds3, p3, q3, rfl, rfl, rfl, h3, r3⟩ := trodAll_cons r2
 obtain ⟨rfl, rfl, rfl⟩ := trodAll_nil r3
 obtain rfl : args = #[v0, v1, v2, v3] := by cases args; simp_all
 have hv0 := hval 0 23 v0 rfl rfl
 have hv1 := hval 1 23 v1 rfl rfl
 have hv2 := hval 2 31 v2 rfl rfl
 have hv3 := hval 3 31 v3 rfl rfl
 refine law_post (tb := 4) (by kernel_rfl) (by kernel_rfl) rfl Tryz.underlying4 rfl hW' ⟨rfl, rfl, rfl⟩ ?_
 clear hA0 hW' hV hfz hnd hargs hval
 obtain ⟨a, ha, wa⟩ := forms_param hv0 h0
 obtain ⟨b, hb, wb⟩ := forms_param hv1 h1
 obtain ⟨x, ux, rfl, hx, wx⟩ := ex_param hv2 h2
 obtain ⟨y, uy, rfl, hy, wy⟩ := ex_param hv3 h3
 exact prints_any a b x y v0 v1 ux uy W (pv_of_laid hL) ha hb hx hy wa wx
theorem laid_met (os : Os) : laidMet Tryz.prog Rows.parsePrintsAsSpecifiedRow.laid ((World.doorLaid Tryz.prog 4000 os).forCall (fun _ _ => 0) ⟨#[], #[.slice none 0 0, .slice none 0 0, .agg #[.int .i64 0, .int .i64 0, .string ⟨#[]⟩, .slice none 0 0, .int .i64 0], .agg #[.int .i64 0, .int .i64 0, .string ⟨#[]⟩, .slice none 0 0, .int .i64 0]], []⟩).memory :=
 laidMet_of_run' 8 (by kernel_rfl) (by kernel_rfl)
theorem reads (os : Os) {H : Type} (enc : TypeId × Value -> H) : ∃ places, DataW.whole enc Tryz.prog ((World.doorLaid Tryz.prog 4000 os).forCall (fun _ _ => 0) ⟨#[], #[.slice none 0 0, .slice none 0 0, .agg #[.int .i64 0, .int .i64 0, .string ⟨#[]⟩, .slice none 0 0, .int .i64 0], .agg #[.int .i64 0, .int .i64 0, .string ⟨#[]⟩, .slice none 0 0, .int .i64 0]], []⟩).memory Tryz.f6.params.toList Rows.parsePrintsAsSpecifiedSpec.vars false (#[.slice none 0 0, .slice none 0 0, .agg #[.int .i64 0, .int .i64 0, .string ⟨#[]⟩, .slice none 0 0, .int .i64 0], .agg #[.int .i64 0, .int .i64 0, .string ⟨#[]⟩, .slice none 0 0, .int .i64 0]] : Array Value).toList 8 = some ([.nil, .nil, .agg [.lit (.int .i64 0), .lit (.int .i64 0), .lit (.string []), .nil, .lit (.int .i64 0)], .agg [.lit (.int .i64 0), .lit (.int .i64 0), .lit (.string []), .nil, .lit (.int .i64 0)]], [], places) :=
 ⟨[], by kernel_rfl⟩
theorem lifted (os : Os) (started : os.Started) (H : Type) (enc : TypeId × Value -> H) (F : Stop.Interp) :
  ReturnsInHanded {} Tryz.checked os 6 .any ((OpenSpec.ofChange Rows.parsePrintsAsSpecifiedSpec).preRow enc Tryz.prog Tryz.f6 Rows.parsePrintsAsSpecifiedRow.domain false Rows.parsePrintsAsSpecifiedRow.laid) (((OpenSpec.ofChange Rows.parsePrintsAsSpecifiedSpec).at F).post enc Tryz.prog Tryz.f6 false true false false) := by
 obtain ⟨places, hx⟩ := reads os enc
 refine returnsInHanded_of_row (C := Tryz.checked) (s := (OpenSpec.ofChange Rows.parsePrintsAsSpecifiedSpec)) ownNone started (by kernel_rfl) Tryz.func6
  (witness_row_atRef (enc := enc) (C := Tryz.checked) false (World.doorLaid Tryz.prog 4000 os) #[.slice none 0 0, .slice none 0 0, .agg #[.int .i64 0, .int .i64 0, .string ⟨#[]⟩, .slice none 0 0, .int .i64 0], .agg #[.int .i64 0, .int .i64 0, .string ⟨#[]⟩, .slice none 0 0, .int .i64 0]] rfl (by kernel_rfl) (by kernel_rfl) (by kernel_rfl)
   (OpenSpec.preRow_of_cond 8 hx (by kernel_rfl) (fun k hk => by cases hk) (by kernel_rfl) (laid_met os))) ?_
 intro W base args ds gs before hval hW _ _ _ hL _ _
 exact contract H enc W base args ds gs before hval hW hL
theorem said : Rows.ParsePrintsAsSpecifiedSaid :=
 OpenClaim.holds_of_cond 6 Tryz.f6 rfl rfl rfl rfl rfl rfl rfl ⟨rfl, rfl, rfl, rfl, rfl⟩ rfl rfl rfl rfl rfl (by kernel_rfl) Tryz.func6 (by kernel_rfl)
  (of_decide_eq_true (by kernel_rfl)) (by unfold Func.isWrapper; first | (rw [if_pos (by decide +kernel)]; kernel_rfl) | (rw [if_neg (by decide +kernel)]; exact ⟨rfl, rfl⟩))
  (fun os started H enc _ F => by rw [OpenClaim.pre_eq_preRow]; exact lifted os started H enc F)
theorem plain (f : FuncId) (fn : Func) (hf : Tryz.pinned.checked.prog.funcNamed "rivermark/rivermarklaw08.ParsePrintsAsSpecified" = some f) (hfn : Tryz.pinned.checked.prog.funcs[f]? = some fn) :
  true = Tryz.pinned.checked.prog.looks [] /\ ∀ (j : Nat) t, fn.params[j]? = some t -> Tryz.pinned.checked.prog.wantsStandIn t = false := by
 obtain rfl : f = 6 := Option.some.inj ((show Tryz.prog.funcNamed "rivermark/rivermarklaw08.ParsePrintsAsSpecified" = some 6 by kernel_rfl).symm.trans hf) |>.symm
 obtain rfl : fn = Tryz.f6 := (Option.some.inj (Tryz.func6.symm.trans hfn)).symm
 refine ⟨by kernel_rfl, fun j t ht => ?_⟩
 have hall : (Tryz.f6.params.toList.all fun u => !Tryz.prog.wantsStandIn u) = true := by kernel_rfl
 have hm : t ∈ Tryz.f6.params.toList := by simpa using Array.mem_of_getElem? ht
 exact (show Tryz.prog.wantsStandIn t = false by simpa using List.all_eq_true.1 hall t hm)
theorem card : Rows.ParsePrintsAsSpecifiedCardSaid :=
 Claim7.holds_tied_plain_at .later [] _ _ _ _ said (fun _ h => by cases h) (by kernel_rfl) (fun _ h => by cases h) parsePrintsAsSpecified_row_tie rfl ⟨rfl, rfl⟩ (by kernel_rfl) rfl plain (by kernel_rfl)
#print axioms card
end Go.Proofs.YtjijdgkccfeeaaaGreatDoor.lawPrints
