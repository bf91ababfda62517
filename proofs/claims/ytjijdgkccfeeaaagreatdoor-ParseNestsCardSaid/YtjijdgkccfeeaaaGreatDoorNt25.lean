/- Part 25 of the proofs about parse: ParNestsW, ParCardNests. Conditions: those of each theorem. -/
import Derived.Deep.DeepWitnessRowRef
import Derived.ChangeMaps5
import Derived.Test.YtjijdgkccfeeaaaGreatDoorNt01
import Derived.Test.YtjijdgkccfeeaaaGreatDoorNt22
import Derived.Test.YtjijdgkccfeeaaaGreatDoorNt24
namespace Go.Proofs.YtjijdgkccfeeaaaGreatDoor
open Go Go.Proofs Go.RowKit
attribute [local go_sem] Oper.semAt_some
theorem expr_of_v {s : ByteArray} {x : Ex} {a c : Int} (h : exprV s = (x, a, c)) (hc : c = 0) : exprP s = .ok x ∧ a = 0 := by
  cases hr : exprP s with
  | ok y => rw [exprV_ok hr] at h; cases h; exact ⟨rfl, rfl⟩
  | bad b e => rw [exprV_bad hr] at h; cases h; exact absurd hc (exprP_err hr)
theorem fits_of {s : ByteArray} {w : Ex} (h : NestOK (exprP s) w) : ∃ g a c, exprV s = (g, a, c) ∧ (c = 2 ∨ (c = 0 ∧ sameX false g w = true)) := by
  rcases h with ⟨g, h, hs⟩ | ⟨i, h⟩
  · exact ⟨g, 0, 0, exprV_ok h, .inr ⟨rfl, hs⟩⟩
  · exact ⟨noEx, i, 2, exprV_bad h, .inl rfl⟩
def rowK (k : Nat) : ByteArray × Int × Nat := opRows.getD k (noB, 0, 0)
theorem rowK_mem {k : Nat} (h : k < 13) : rowK k ∈ opRows := by
  unfold rowK
  rw [List.getD_eq_getElem?_getD, List.getElem?_eq_getElem (show k < opRows.length from h)]
  exact List.getElem_mem _
theorem rowK_op {k : Nat} (h : k < 13) : (rowK k).2.1 = 7 + (k : Int) ∧ (rowK k).1.size ≤ 2 := by
  rcases (by omega : k = 0 ∨ k = 1 ∨ k = 2 ∨ k = 3 ∨ k = 4 ∨ k = 5 ∨ k = 6 ∨ k = 7 ∨ k = 8 ∨ k = 9 ∨ k = 10 ∨ k = 11 ∨ k = 12) with rfl | rfl | rfl | rfl | rfl | rfl | rfl | rfl | rfl | rfl | rfl | rfl | rfl <;> decide
def signCells : Array Value := (opRows.map fun r => Value.string r.1).toArray
theorem signCells_get {k : Nat} (h : k < 13) : signCells[k]? = some (.string (rowK k).1) := by
  rcases (by omega : k = 0 ∨ k = 1 ∨ k = 2 ∨ k = 3 ∨ k = 4 ∨ k = 5 ∨ k = 6 ∨ k = 7 ∨ k = 8 ∨ k = 9 ∨ k = 10 ∨ k = 11 ∨ k = 12) with rfl | rfl | rfl | rfl | rfl | rfl | rfl | rfl | rfl | rfl | rfl | rfl | rfl <;> rfl
theorem nest_strings {a b : ByteArray} {x y : Ex} (ha : exprP a = .ok x) (hb : exprP b = .ok y) (ha3 : a.size ≤ 300) (hb3 : b.size ≤ 300) {k : Nat} (hk : k < 13) :
    NestOK (exprP (⟨#[40]⟩ ++ a ++ ⟨#[10, 41]⟩)) x ∧ NestOK (exprP (⟨#[40]⟩ ++ a ++ ⟨#[10, 41]⟩ ++ (rowK k).1 ++ ⟨#[40]⟩ ++ b ++ ⟨#[10, 41]⟩)) (.mk (7 + k) 0 noB [x, y] 0) ∧ NestOK (exprP (⟨#[102, 40]⟩ ++ a ++ ⟨#[10, 44]⟩ ++ b ++ ⟨#[10, 41]⟩)) (.mk 4 0 ⟨#[102]⟩ [x, y] 0) ∧
    NestOK (exprP (⟨#[45, 40]⟩ ++ a ++ ⟨#[10, 41]⟩)) (.mk 6 0 noB [x] 0) ∧ NestOK (exprP (⟨#[33, 40]⟩ ++ a ++ ⟨#[10, 41]⟩)) (.mk 5 0 noB [x] 0) ∧ ∃ z u v w, formsP (⟨#[119, 32, 40]⟩ ++ a ++ ⟨#[10, 41, 59]⟩) = .ok [.mk z [⟨5, 0, noB, u, v⟩] [] w] ∧ sameX false u x = true := by
  have hr := rowK_op hk
  have z2 : (⟨#[10, 41]⟩ : ByteArray).size = 2 := rfl
  have z1 : (⟨#[40]⟩ : ByteArray).size = 1 := rfl
  have z3 : (⟨#[102, 40]⟩ : ByteArray).size = 2 := rfl
  have z4 : (⟨#[10, 44]⟩ : ByteArray).size = 2 := rfl
  have z5 : (⟨#[45, 40]⟩ : ByteArray).size = 2 := rfl
  have z6 : (⟨#[33, 40]⟩ : ByteArray).size = 2 := rfl
  have z7 : (⟨#[119, 32, 40]⟩ : ByteArray).size = 3 := rfl
  have z8 : (⟨#[10, 41, 59]⟩ : ByteArray).size = 3 := rfl
  refine ⟨nest_one ha (by simp) (by simp only [ByteArray.size_append]; omega), ?_, nest_call ha hb (by simp) (by simp only [ByteArray.size_append]; omega), nest_neg ha (by simp) (by simp only [ByteArray.size_append]; omega), nest_not ha (by simp) (by simp only [ByteArray.size_append]; omega), nest_form ha (by simp) (by simp only [ByteArray.size_append]; omega)⟩
  have := nest_two (s := ⟨#[40]⟩ ++ a ++ ⟨#[10, 41]⟩ ++ (rowK k).1 ++ ⟨#[40]⟩ ++ b ++ ⟨#[10, 41]⟩) ha hb (rowK k) (rowK_mem hk) (by simp) (by simp only [ByteArray.size_append]; omega)
  rw [hr.1] at this
  exact this
set_option maxRecDepth 20000 in
set_option maxHeartbeats 4000000 in
theorem nests_any (a b : ByteArray) (z : Int) (hz0 : 0 ≤ z) (hz1 : z ≤ 255) (w : World) (hv : PV w.heap.size w) : Calls Tryz.prog 5 #[.string a, .string b, .int .u8 z] w fun e w' => e = .returned (.bool true) ∧ Below w.heap.size w w' := by
  obtain ⟨n, hn⟩ : ∃ n, n = w.heap.size := ⟨_, rfl⟩
  rw [← hn] at hv
  have hn2 := Nat.le_of_eq hn
  clear hn
  have HPV : Hid (∀ W, PV n W → n ≤ W.heap.size → PV W.heap.size W) := Lib.hid fun W h hm => h.mono hm
  have S0 := St.start (T := PV n) hv (stays_pv n)
  have HN := Lib.hid hn2
  clear hv hn2
  obtain ⟨x, pa, pc, hx⟩ : ∃ u v e, exprV a = (u, v, e) := ⟨_, _, _, rfl⟩
  obtain ⟨y, qa, qc, hy⟩ : ∃ u v e, exprV b = (u, v, e) := ⟨_, _, _, rfl⟩
  have F1 := Lib.hid (fun W (h : PV W.heap.size W) => expr_v a W h)
  have F2 := Lib.hid (fun W (h : PV W.heap.size W) => expr_v b W h)
  simp only [hx] at F1
  simp only [hy] at F2
  have HX := Lib.hid hx
  have HY := Lib.hid hy
  clear hx hy
  have HS := Lib.hid (fun W (h : PV W.heap.size W) => sanity_any W h)
  go_enter Tryz.func5, Tryz.ntmps5
  go_upto_region 2 with (go_at_call 10; refine (F1.out _ (HPV.out _ S0.out.tab (Nat.le_trans HN.out S0.out.bel.size))).mono ?_; rintro e V1a ⟨pX, cX, rfl, hF, hb⟩; have S1a := St.more (St.call S0 hb) hF (stays_kids _ _); clear hb hF)
  clear S0 F1
  obtain ⟨V1b, b1x, hW, hB, hbl, S1b⟩ := St.box S1a (.cells #[(.int .i64 (x.op)), (.int .i64 (x.n)), .string x.s, .slice pX x.kids.length cX, (.int .i64 (x.at_))] 31)
  have hs : V1b.heap.size = b1x + 1 := by rw [hW, hB]; simp
  rw [← hW, ← hB]
  clear hW hB hbl S1a
  obtain ⟨V1, b1p, hW, hB, hbl, S1⟩ := St.box S1b (.cells #[(.int .i64 pa), (.int .i64 pc)] 26)
  rw [hs] at hB
  rw [← hW, ← hB]
  clear hW hB hbl hs S1b
  go_upto_region 3 with (go_at_call 10; refine (F2.out _ (HPV.out _ S1.out.tab.1 (Nat.le_trans HN.out S1.out.bel.size))).mono ?_; rintro e V2a ⟨pY, cY, rfl, hF, hb⟩; have S2a := St.more (St.call S1 hb) hF (stays_kids _ _); clear hb hF)
  clear S1 F2
  obtain ⟨V2b, b2x, hW, hB, hbl, S2b⟩ := St.box S2a (.cells #[(.int .i64 (y.op)), (.int .i64 (y.n)), .string y.s, .slice pY y.kids.length cY, (.int .i64 (y.at_))] 31)
  have hs : V2b.heap.size = b2x + 1 := by rw [hW, hB]; simp
  rw [← hW, ← hB]
  clear hW hB hbl S2a
  obtain ⟨V2, b2p, hW, hB, hbl, S2⟩ := St.box S2b (.cells #[(.int .i64 qa), (.int .i64 qc)] 26)
  rw [hs] at hB
  rw [← hW, ← hB]
  clear hW hB hbl hs S2b
  obtain ⟨y0, y1⟩ := St.cells2 S2 0 rfl
  obtain ⟨x0, x1⟩ := St.cells2 S2 2 rfl
  by_cases hp : pc = 0
  rotate_left
  · have hp2 : (pc != 0) = true := by simpa using hp
    clear hp
    have HSN := Lib.hid (HS.out _ (HPV.out _ S2.out.tab.1.1 (Nat.le_trans HN.out S2.out.bel.size)))
    go_wp2_with (go_at_call 8; refine HSN.out.mono ?_; rintro e U ⟨rfl, hb⟩; have SU := St.call S2 hb; clear hb)
    go_ret
    exact ⟨rfl, SU.out.bel⟩
  by_cases hq : qc = 0
  rotate_left
  · have hp2 : (pc != 0) = false := by simpa using hp
    have hq2 : (qc != 0) = true := by simpa using hq
    clear hp hq
    have HSN := Lib.hid (HS.out _ (HPV.out _ S2.out.tab.1.1 (Nat.le_trans HN.out S2.out.bel.size)))
    go_wp2_with (go_at_call 8; refine HSN.out.mono ?_; rintro e U ⟨rfl, hb⟩; have SU := St.call S2 hb; clear hb)
    go_ret
    exact ⟨rfl, SU.out.bel⟩
  by_cases ha : 300 < a.size
  · have hp2 : (pc != 0) = false := by simpa using hp
    have hq2 : (qc != 0) = false := by simpa using hq
    have ha2 : (300 : Int) < (a.size : Int) := by omega
    clear hp hq ha
    have HSN := Lib.hid (HS.out _ (HPV.out _ S2.out.tab.1.1 (Nat.le_trans HN.out S2.out.bel.size)))
    go_wp2_with (go_at_call 8; refine HSN.out.mono ?_; rintro e U ⟨rfl, hb⟩; have SU := St.call S2 hb; clear hb)
    go_ret
    exact ⟨rfl, SU.out.bel⟩
  by_cases hb : 300 < b.size
  · have hp2 : (pc != 0) = false := by simpa using hp
    have hq2 : (qc != 0) = false := by simpa using hq
    have ha2 : ¬ (300 : Int) < (a.size : Int) := by omega
    have hb2 : (300 : Int) < (b.size : Int) := by omega
    clear hp hq ha hb
    have HSN := Lib.hid (HS.out _ (HPV.out _ S2.out.tab.1.1 (Nat.le_trans HN.out S2.out.bel.size)))
    go_wp2_with (go_at_call 8; refine HSN.out.mono ?_; rintro e U ⟨rfl, hb⟩; have SU := St.call S2 hb; clear hb)
    go_ret
    exact ⟨rfl, SU.out.bel⟩
  have hp2 : (pc != 0) = false := by simpa using hp
  have hq2 : (qc != 0) = false := by simpa using hq
  have ha2 : ¬ (300 : Int) < (a.size : Int) := by omega
  have hb2 : ¬ (300 : Int) < (b.size : Int) := by omega
  obtain ⟨k, hkz, hk⟩ : ∃ k : Nat, z.tmod 13 = (k : Int) ∧ k < 13 := ⟨(z.tmod 13).toNat, by have := Int.tmod_nonneg 13 hz0; omega, by have := Int.tmod_lt_of_pos z (show (0 : Int) < 13 by decide); omega⟩
  have hzw : IntKind.i64.wrap z = z := IntWalk.i64_in _ (by omega)
  obtain ⟨N1, N2, N3, N4, N5, fz, fu, fv, fw, N6, N7⟩ := nest_strings (expr_of_v HX.out hp).1 (expr_of_v HY.out hq).1 (by omega) (by omega) hk
  obtain ⟨g1, ga1, gc1, gv1, gf1⟩ := fits_of N1
  obtain ⟨g2, ga2, gc2, gv2, gf2⟩ := fits_of N2
  obtain ⟨g3, ga3, gc3, gv3, gf3⟩ := fits_of N3
  obtain ⟨g4, ga4, gc4, gv4, gf4⟩ := fits_of N4
  obtain ⟨g5, ga5, gc5, gv5, gf5⟩ := fits_of N5
  have gv6 := formsV_ok N6
  have G1 := Lib.hid (fun W (h : PV W.heap.size W) => expr_v (⟨#[40]⟩ ++ a ++ ⟨#[10, 41]⟩) W h)
  simp only [gv1] at G1
  have gh1 := Lib.hid gf1
  clear gv1 gf1
  have G2 := Lib.hid (fun W (h : PV W.heap.size W) => expr_v (⟨#[40]⟩ ++ a ++ ⟨#[10, 41]⟩ ++ (rowK k).1 ++ ⟨#[40]⟩ ++ b ++ ⟨#[10, 41]⟩) W h)
  simp only [gv2] at G2
  have gh2 := Lib.hid gf2
  clear gv2 gf2
  have G3 := Lib.hid (fun W (h : PV W.heap.size W) => expr_v (⟨#[102, 40]⟩ ++ a ++ ⟨#[10, 44]⟩ ++ b ++ ⟨#[10, 41]⟩) W h)
  simp only [gv3] at G3
  have gh3 := Lib.hid gf3
  clear gv3 gf3
  have G4 := Lib.hid (fun W (h : PV W.heap.size W) => expr_v (⟨#[45, 40]⟩ ++ a ++ ⟨#[10, 41]⟩) W h)
  simp only [gv4] at G4
  have gh4 := Lib.hid gf4
  clear gv4 gf4
  have G5 := Lib.hid (fun W (h : PV W.heap.size W) => expr_v (⟨#[33, 40]⟩ ++ a ++ ⟨#[10, 41]⟩) W h)
  simp only [gv5] at G5
  have gh5 := Lib.hid gf5
  clear gv5 gf5
  have G6 := Lib.hid (fun W (h : PV W.heap.size W) => forms_v (⟨#[119, 32, 40]⟩ ++ a ++ ⟨#[10, 41, 59]⟩) W h)
  simp only [gv6] at G6
  have HU := Lib.hid N7
  clear gv6 N1 N2 N3 N4 N5 N6 N7
  have HK := Lib.hid hk
  have hk0 : (0 : Int) ≤ (k : Int) := by omega
  have hk1 : (k : Int) < 13 := by omega
  have ha5 : a.size ≤ 300 := by omega
  have hb5 : b.size ≤ 300 := by omega
  have hr5 := (rowK_op hk).2
  clear hk hp hq ha hb
  go_upto_region 6 with fail
  clear hp2 hq2 ha2 hb2 x0 x1 y0 y1
  obtain ⟨V3, b3, hW, hB, hbl, S3⟩ := St.box S2 (.cells signCells 9)
  unfold signCells at hW
  simp only [opRows, List.map_cons, List.map_nil] at hW
  rw [← hW, ← hB]
  clear hW hB hbl S2
  go_upto_region 7 with fail
  go_upto_region 8 with (go_at_call 10; refine (G1.out _ (HPV.out _ S3.out.tab.1.1 (Nat.le_trans HN.out S3.out.bel.size))).mono ?_; rintro e V4a ⟨p1, c1, rfl, hF, hb⟩; have S4a := St.more (St.call S3 hb) hF (stays_kids _ _); clear hb hF)
  clear S3 G1
  obtain ⟨V4b, b4x, hW, hB, hbl, S4b⟩ := St.box S4a (.cells #[(.int .i64 (g1.op)), (.int .i64 (g1.n)), .string g1.s, .slice p1 g1.kids.length c1, (.int .i64 (g1.at_))] 31)
  have hs : V4b.heap.size = b4x + 1 := by rw [hW, hB]; simp
  rw [← hW, ← hB]
  clear hW hB hbl S4a
  obtain ⟨V4, b4p, hW, hB, hbl, S4⟩ := St.box S4b (.cells #[(.int .i64 ga1), (.int .i64 gc1)] 26)
  rw [hs] at hB
  rw [← hW, ← hB]
  clear hW hB hbl hs S4b
  have hsg : V4.cell? ⟨b3, k, none⟩ = some (.string (rowK k).1) := by simp only [World.cell?, S4.out.lays.get 2 rfl]; exact signCells_get HK.out
  go_upto_region 9 with (go_at_call 10; refine (G2.out _ (HPV.out _ S4.out.tab.1.1.1 (Nat.le_trans HN.out S4.out.bel.size))).mono ?_; rintro e V5a ⟨p2, c2, rfl, hF, hb⟩; have S5a := St.more (St.call S4 hb) hF (stays_kids _ _); clear hb hF)
  clear S4 G2
  obtain ⟨V5b, b5x, hW, hB, hbl, S5b⟩ := St.box S5a (.cells #[(.int .i64 (g2.op)), (.int .i64 (g2.n)), .string g2.s, .slice p2 g2.kids.length c2, (.int .i64 (g2.at_))] 31)
  have hs : V5b.heap.size = b5x + 1 := by rw [hW, hB]; simp
  rw [← hW, ← hB]
  clear hW hB hbl S5a
  obtain ⟨V5, b5p, hW, hB, hbl, S5⟩ := St.box S5b (.cells #[(.int .i64 ga2), (.int .i64 gc2)] 26)
  rw [hs] at hB
  rw [← hW, ← hB]
  clear hW hB hbl hs S5b
  clear hsg
  go_upto_region 10 with (go_at_call 10; refine (G3.out _ (HPV.out _ S5.out.tab.1.1.1.1 (Nat.le_trans HN.out S5.out.bel.size))).mono ?_; rintro e V6a ⟨p3, c3, rfl, hF, hb⟩; have S6a := St.more (St.call S5 hb) hF (stays_kids _ _); clear hb hF)
  clear S5 G3
  obtain ⟨V6b, b6x, hW, hB, hbl, S6b⟩ := St.box S6a (.cells #[(.int .i64 (g3.op)), (.int .i64 (g3.n)), .string g3.s, .slice p3 g3.kids.length c3, (.int .i64 (g3.at_))] 31)
  have hs : V6b.heap.size = b6x + 1 := by rw [hW, hB]; simp
  rw [← hW, ← hB]
  clear hW hB hbl S6a
  obtain ⟨V6, b6p, hW, hB, hbl, S6⟩ := St.box S6b (.cells #[(.int .i64 ga3), (.int .i64 gc3)] 26)
  rw [hs] at hB
  rw [← hW, ← hB]
  clear hW hB hbl hs S6b
  go_upto_region 11 with (go_at_call 10; refine (G4.out _ (HPV.out _ S6.out.tab.1.1.1.1.1 (Nat.le_trans HN.out S6.out.bel.size))).mono ?_; rintro e V7a ⟨p4, c4, rfl, hF, hb⟩; have S7a := St.more (St.call S6 hb) hF (stays_kids _ _); clear hb hF)
  clear S6 G4
  obtain ⟨V7b, b7x, hW, hB, hbl, S7b⟩ := St.box S7a (.cells #[(.int .i64 (g4.op)), (.int .i64 (g4.n)), .string g4.s, .slice p4 g4.kids.length c4, (.int .i64 (g4.at_))] 31)
  have hs : V7b.heap.size = b7x + 1 := by rw [hW, hB]; simp
  rw [← hW, ← hB]
  clear hW hB hbl S7a
  obtain ⟨V7, b7p, hW, hB, hbl, S7⟩ := St.box S7b (.cells #[(.int .i64 ga4), (.int .i64 gc4)] 26)
  rw [hs] at hB
  rw [← hW, ← hB]
  clear hW hB hbl hs S7b
  go_upto_region 12 with (go_at_call 10; refine (G5.out _ (HPV.out _ S7.out.tab.1.1.1.1.1.1 (Nat.le_trans HN.out S7.out.bel.size))).mono ?_; rintro e V8a ⟨p5, c5, rfl, hF, hb⟩; have S8a := St.more (St.call S7 hb) hF (stays_kids _ _); clear hb hF)
  clear S7 G5
  obtain ⟨V8b, b8x, hW, hB, hbl, S8b⟩ := St.box S8a (.cells #[(.int .i64 (g5.op)), (.int .i64 (g5.n)), .string g5.s, .slice p5 g5.kids.length c5, (.int .i64 (g5.at_))] 31)
  have hs : V8b.heap.size = b8x + 1 := by rw [hW, hB]; simp
  rw [← hW, ← hB]
  clear hW hB hbl S8a
  obtain ⟨V8, b8p, hW, hB, hbl, S8⟩ := St.box S8b (.cells #[(.int .i64 ga5), (.int .i64 gc5)] 26)
  rw [hs] at hB
  rw [← hW, ← hB]
  clear hW hB hbl hs S8b
  go_upto_region 13 with (go_at_call 9; refine (G6.out _ (HPV.out _ S8.out.tab.1.1.1.1.1.1.1 (Nat.le_trans HN.out S8.out.bel.size))).mono ?_; rintro e V9a ⟨p6, c6, rfl, hF, hb⟩; have S9a := St.more (St.call S8 hb) hF (stays_forms _ _); clear hb hF)
  clear S8 G6
  obtain ⟨V9, b9, hW, hB, hbl, S9⟩ := St.box S9a (.cells #[(.int .i64 0), (.int .i64 0)] 26)
  rw [← hW, ← hB]
  clear hW hB hbl S9a
  obtain ⟨fb, fa, fk, fm, he, ⟨-, x1, -, -⟩, HKA, -⟩ := formsAt_get (i := 0) S9.out.tab.2 rfl
  subst he
  obtain ⟨pk, ck, rfl⟩ := HKA.shape
  obtain ⟨ab, aa, ak, he, ⟨-, -, -, u3, u4, u5, u6, u7, -⟩, HKE⟩ := argsAt_get (i := 0) HKA rfl
  subst he
  obtain ⟨pe, ce, rfl⟩ := HKE.shape
  simp only [Nat.zero_mul, Nat.add_zero] at x1 u3 u4 u5 u6 u7
  clear HKA
  dsimp only [Fm.args, List.length_cons, List.length_nil, Nat.zero_add] at x1
  have HC : Hid (∀ W, Below V9.heap.size V9 W → (W.cell? ⟨b9, 0, none⟩ = some (.int .i64 0) ∧ W.cell? ⟨b9, 1, none⟩ = some (.int .i64 0) ∧ W.cell? ⟨fb, fa + 1, none⟩ = some (.slice (some ⟨ab, aa, none⟩) 1 ck) ∧ W.cell? ⟨ab, aa + 3, none⟩ = some (.int .i64 (fu.op)) ∧ W.cell? ⟨ab, aa + 4, none⟩ = some (.int .i64 (fu.n)) ∧ W.cell? ⟨ab, aa + 5, none⟩ = some (.string fu.s) ∧ W.cell? ⟨ab, aa + 6, none⟩ = some (.slice pe fu.kids.length ce) ∧ W.cell? ⟨ab, aa + 7, none⟩ = some (.int .i64 (fu.at_)) ∧ W.cell? ⟨b1x, 0, none⟩ = some (.int .i64 (x.op)) ∧ W.cell? ⟨b1x, 1, none⟩ = some (.int .i64 (x.n)) ∧ W.cell? ⟨b1x, 2, none⟩ = some (.string x.s) ∧ W.cell? ⟨b1x, 3, none⟩ = some (.slice pX x.kids.length cX) ∧ W.cell? ⟨b1x, 4, none⟩ = some (.int .i64 (x.at_)))) := Lib.hid fun W hb => by
    have S := St.call S9 hb
    obtain ⟨q0, q1⟩ := St.cells2 S 0 rfl
    obtain ⟨r0, r1, r2, r3, r4⟩ := St.cells5 S 15 rfl
    have ht : Turned (fun _ => False) V9 W := Turned.of_new hb
    exact ⟨q0, q1, cell_turned ht id x1, cell_turned ht id u3, cell_turned ht id u4, cell_turned ht id u5, cell_turned ht id u6, cell_turned ht id u7, r0, r1, r2, r3, r4⟩
  have B0 := Lib.hid (Below.drew (Below.refl V9.heap.size V9))
  have E0 := Lib.hid (fun (W : World) (hb : Below V9.heap.size V9 W) => same_off fu x HU.out (.slice pe fu.kids.length ce) (.slice pX x.kids.length cX) W (HKE.all (Turned.of_new hb)) ((St.call S9 hb).out.tab.1.1.1.1.1.1.1.2))
  unfold exA at E0
  clear x1 u3 u4 u5 u6 u7 HKE
  go_region_held3 (fun W => W.cell? ⟨b9, 0, none⟩ = some (.int .i64 0) ∧ W.cell? ⟨b9, 1, none⟩ = some (.int .i64 0) ∧ W.cell? ⟨fb, fa + 1, none⟩ = some (.slice (some ⟨ab, aa, none⟩) 1 ck) ∧ W.cell? ⟨ab, aa + 3, none⟩ = some (.int .i64 (fu.op)) ∧ W.cell? ⟨ab, aa + 4, none⟩ = some (.int .i64 (fu.n)) ∧ W.cell? ⟨ab, aa + 5, none⟩ = some (.string fu.s) ∧ W.cell? ⟨ab, aa + 6, none⟩ = some (.slice pe fu.kids.length ce) ∧ W.cell? ⟨ab, aa + 7, none⟩ = some (.int .i64 (fu.at_)) ∧ W.cell? ⟨b1x, 0, none⟩ = some (.int .i64 (x.op)) ∧ W.cell? ⟨b1x, 1, none⟩ = some (.int .i64 (x.n)) ∧ W.cell? ⟨b1x, 2, none⟩ = some (.string x.s) ∧ W.cell? ⟨b1x, 3, none⟩ = some (.slice pX x.kids.length cX) ∧ W.cell? ⟨b1x, 4, none⟩ = some (.int .i64 (x.at_)))
    (first | exact HC.out _ B0.out | exact HC.out _ B1.out | go_keep)
    (first | (have hq := B0; clear hq; go_at_call 16; refine (E0.out _ B0.out).mono ?_; rintro e U1 ⟨rfl, ht⟩; have B1 := Lib.hid (B0.out.trans ((below_turned ht).mono B0.out.size)); clear ht))
  have S10 := St.call S9 B1.out
  clear S9 HC B0 B1 E0 HU
  have E1 := Lib.hid (fun (W : World) (h1 : KidsAt W (fun _ => True) g1.kids (.slice p1 g1.kids.length c1)) (h2 : KidsAt W (fun _ => True) x.kids (.slice pX x.kids.length cX)) => fits_true g1 x ga1 gc1 gh1.out (.slice p1 g1.kids.length c1) (.slice pX x.kids.length cX) W h1 h2)
  unfold exA at E1
  clear gh1
  have E2 := Lib.hid (fun (W : World) (g : Nat) (h1 : KidsAt W (fun _ => True) g2.kids (.slice p2 g2.kids.length c2)) (h2 : KidsAt W (fun _ => True) [x, y] (.slice (some ⟨g, 0, none⟩) 2 2)) => fits_true g2 (.mk (7 + k) 0 ⟨#[]⟩ [x, y] 0) ga2 gc2 gh2.out (.slice p2 g2.kids.length c2) (.slice (some ⟨g, 0, none⟩) 2 2) W h1 h2)
  unfold exA at E2
  clear gh2
  have E3 := Lib.hid (fun (W : World) (g : Nat) (h1 : KidsAt W (fun _ => True) g3.kids (.slice p3 g3.kids.length c3)) (h2 : KidsAt W (fun _ => True) [x, y] (.slice (some ⟨g, 0, none⟩) 2 2)) => fits_true g3 (.mk 4 0 ⟨#[102]⟩ [x, y] 0) ga3 gc3 gh3.out (.slice p3 g3.kids.length c3) (.slice (some ⟨g, 0, none⟩) 2 2) W h1 h2)
  unfold exA at E3
  clear gh3
  have E4 := Lib.hid (fun (W : World) (g : Nat) (h1 : KidsAt W (fun _ => True) g4.kids (.slice p4 g4.kids.length c4)) (h2 : KidsAt W (fun _ => True) [x] (.slice (some ⟨g, 0, none⟩) 1 1)) => fits_true g4 (.mk 6 0 ⟨#[]⟩ [x] 0) ga4 gc4 gh4.out (.slice p4 g4.kids.length c4) (.slice (some ⟨g, 0, none⟩) 1 1) W h1 h2)
  unfold exA at E4
  clear gh4
  have E5 := Lib.hid (fun (W : World) (g : Nat) (h1 : KidsAt W (fun _ => True) g5.kids (.slice p5 g5.kids.length c5)) (h2 : KidsAt W (fun _ => True) [x] (.slice (some ⟨g, 0, none⟩) 1 1)) => fits_true g5 (.mk 5 0 ⟨#[]⟩ [x] 0) ga5 gc5 gh5.out (.slice p5 g5.kids.length c5) (.slice (some ⟨g, 0, none⟩) 1 1) W h1 h2)
  unfold exA at E5
  clear gh5
  have hwk : IntKind.i64.wrap (7 + (k : Int)) = 7 + (k : Int) := IntWalk.i64_in _ (by omega)
  obtain ⟨q10, q11⟩ := St.cells2 S10 9 rfl
  obtain ⟨g10, g11, g12, g13, g14⟩ := St.cells5 S10 10 rfl
  obtain ⟨x0, x1, x2, x3, x4⟩ := St.cells5 S10 15 rfl
  go_upto_region 17 with (first | (have hq := S13; clear hq; obtain ⟨VS14, e3, hW, hB, hbl, S14⟩ := St.box S13 (.cells #[(.int .i64 (x.op)), (.int .i64 (x.n)), .string x.s, .slice pX x.kids.length cX, (.int .i64 (x.at_)), (.int .i64 (y.op)), (.int .i64 (y.n)), .string y.s, .slice pY y.kids.length cY, (.int .i64 (y.at_))] 31); have hK : KidsAt VS14 (fun _ => True) [x, y] (.slice (some ⟨e3, 0, none⟩) 2 2) := (by rw [hW]; exact kids_new _ 31 [(x, .slice pX x.kids.length cX), (y, .slice pY y.kids.length cY)] (by simp [maxLen]) (by intro p hp; simp only [List.mem_cons, List.not_mem_nil, or_false] at hp; rcases hp with rfl | rfl; exact S13.out.tab.1.1.1.1.1.1.1.2; exact S13.out.tab.1.1.1.1.1.1.2) _ 2 hB _ rfl); rw [← hW, ← hB]; clear hW hB hbl; go_at_call 17; refine (E3.out _ e3 S14.out.tab.1.1.1.2 hK).mono ?_; rintro e US15 ⟨rfl, ht⟩; have S15 := St.call S14 (below_turned ht); clear ht hK S13; clear q30 q31; clear g30 g31 g32 g33 g34; clear x0 x1 x2 x3 x4; clear y0 y1 y2 y3 y4) | (have hq := S11; clear hq; obtain ⟨VS12, e2, hW, hB, hbl, S12⟩ := St.box S11 (.cells #[(.int .i64 (x.op)), (.int .i64 (x.n)), .string x.s, .slice pX x.kids.length cX, (.int .i64 (x.at_)), (.int .i64 (y.op)), (.int .i64 (y.n)), .string y.s, .slice pY y.kids.length cY, (.int .i64 (y.at_))] 31); have hK : KidsAt VS12 (fun _ => True) [x, y] (.slice (some ⟨e2, 0, none⟩) 2 2) := (by rw [hW]; exact kids_new _ 31 [(x, .slice pX x.kids.length cX), (y, .slice pY y.kids.length cY)] (by simp [maxLen]) (by intro p hp; simp only [List.mem_cons, List.not_mem_nil, or_false] at hp; rcases hp with rfl | rfl; exact S11.out.tab.1.1.1.1.1.1.1.2; exact S11.out.tab.1.1.1.1.1.1.2) _ 2 hB _ rfl); rw [← hW, ← hB]; clear hW hB hbl; go_at_call 17; refine (E2.out _ e2 S12.out.tab.1.1.1.1.2 hK).mono ?_; rintro e US13 ⟨rfl, ht⟩; have S13 := St.call S12 (below_turned ht); clear ht hK S11; clear q20 q21; clear g20 g21 g22 g23 g24; clear x0 x1 x2 x3 x4; clear y0 y1 y2 y3 y4; obtain ⟨q30, q31⟩ := St.cells2 S13 6 rfl; obtain ⟨g30, g31, g32, g33, g34⟩ := St.cells5 S13 7 rfl; obtain ⟨x0, x1, x2, x3, x4⟩ := St.cells5 S13 16 rfl; obtain ⟨y0, y1, y2, y3, y4⟩ := St.cells5 S13 14 rfl) | (have hq := S10; clear hq; go_at_call 17; refine (E1.out _ S10.out.tab.1.1.1.1.1.2 S10.out.tab.1.1.1.1.1.1.1.2).mono ?_; rintro e US11 ⟨rfl, ht⟩; have S11 := St.call S10 (below_turned ht); clear ht S10; clear q10 q11; clear g10 g11 g12 g13 g14; clear x0 x1 x2 x3 x4; obtain ⟨q20, q21⟩ := St.cells2 S11 7 rfl; obtain ⟨g20, g21, g22, g23, g24⟩ := St.cells5 S11 8 rfl; obtain ⟨x0, x1, x2, x3, x4⟩ := St.cells5 S11 15 rfl; obtain ⟨y0, y1, y2, y3, y4⟩ := St.cells5 S11 13 rfl))
  clear E1 E2 E3
  go_wp2_with (first | (have hq := S18; clear hq; obtain ⟨VS19, e5, hW, hB, hbl, S19⟩ := St.box S18 (.cells #[(.int .i64 (x.op)), (.int .i64 (x.n)), .string x.s, .slice pX x.kids.length cX, (.int .i64 (x.at_))] 31); have hK : KidsAt VS19 (fun _ => True) [x] (.slice (some ⟨e5, 0, none⟩) 1 1) := (by rw [hW]; exact kids_new _ 31 [(x, .slice pX x.kids.length cX)] (by simp [maxLen]) (by intro p hp; simp only [List.mem_cons, List.not_mem_nil, or_false] at hp; subst hp; exact S18.out.tab.1.1.1.1.1.1.1.2) _ 1 hB _ rfl); rw [← hW, ← hB]; clear hW hB hbl; go_at_call 17; refine (E5.out _ e5 S19.out.tab.1.2 hK).mono ?_; rintro e US20 ⟨rfl, ht⟩; have S20 := St.call S19 (below_turned ht); clear ht hK S18; clear q50 q51; clear g50 g51 g52 g53 g54; clear x0 x1 x2 x3 x4) | (have hq := S16; clear hq; obtain ⟨VS17, e4, hW, hB, hbl, S17⟩ := St.box S16 (.cells #[(.int .i64 (x.op)), (.int .i64 (x.n)), .string x.s, .slice pX x.kids.length cX, (.int .i64 (x.at_))] 31); have hK : KidsAt VS17 (fun _ => True) [x] (.slice (some ⟨e4, 0, none⟩) 1 1) := (by rw [hW]; exact kids_new _ 31 [(x, .slice pX x.kids.length cX)] (by simp [maxLen]) (by intro p hp; simp only [List.mem_cons, List.not_mem_nil, or_false] at hp; subst hp; exact S16.out.tab.1.1.1.1.1.1.1.2) _ 1 hB _ rfl); rw [← hW, ← hB]; clear hW hB hbl; go_at_call 17; refine (E4.out _ e4 S17.out.tab.1.1.2 hK).mono ?_; rintro e US18 ⟨rfl, ht⟩; have S18 := St.call S17 (below_turned ht); clear ht hK S16; clear q40 q41; clear g40 g41 g42 g43 g44; clear x0 x1 x2 x3 x4; obtain ⟨q50, q51⟩ := St.cells2 S18 4 rfl; obtain ⟨g50, g51, g52, g53, g54⟩ := St.cells5 S18 5 rfl; obtain ⟨x0, x1, x2, x3, x4⟩ := St.cells5 S18 18 rfl) | (have hq := S15; clear hq; go_at_call 8; refine (HS.out _ (HPV.out _ S15.out.tab.1.1.1.1.1.1.1.1 (Nat.le_trans HN.out S15.out.bel.size))).mono ?_; rintro e US16 ⟨rfl, hb⟩; have S16 := St.call S15 hb; clear hb S15; obtain ⟨q40, q41⟩ := St.cells2 S16 5 rfl; obtain ⟨g40, g41, g42, g43, g44⟩ := St.cells5 S16 6 rfl; obtain ⟨x0, x1, x2, x3, x4⟩ := St.cells5 S16 17 rfl))
  go_ret
  exact ⟨rfl, S20.out.bel⟩
end Go.Proofs.YtjijdgkccfeeaaaGreatDoor
namespace Go.Proofs.YtjijdgkccfeeaaaGreatDoor.lawNests
open Go.ChangeShapes Go.WideShapes Go.ChangeAt Go.RowKit
set_option maxRecDepth 100000 in
theorem contract (H : Type) (enc : TypeId × Value → H) (W : World) (base : Nat) (args : Array Value) (ds gs : List (DataW H)) (before : List MemPlace)
    (hval : ∀ (j : Nat) t v, Tryz.f5.params[j]? = some t → args[j]? = some v → Value.okWide Tryz.prog W .any base t v)
    (hW : DataW.Whole enc Tryz.prog Tryz.f5.params.toList Rows.parseNestsSpec.vars false W args.toList ds gs before) (hL : laidMetH Tryz.prog Rows.parseNestsRow.laid W) :
    Calls Tryz.prog 5 args W fun e W' => ∃ v, e = .returned v ∧ Rows.parseNestsSpec.post enc Tryz.prog Tryz.f5 false true false false W args v W' := by
  have hW' := hW
  obtain ⟨p, q, hA0, hV, rfl, hfz, hnd⟩ := hW
  have hlt : ∀ x ∈ p, x.block < W.heap.size := fun x hx => hW'.lt x (List.mem_append_left _ hx)
  have hA : DataW.TrodAll enc Tryz.prog W 0 (fun _ => true) true Tryz.f5.params.toList args.toList ds p := hA0
  rw [Tryz.params5] at hA hval
  obtain ⟨v0, vs0, d0, ds0, p0, q0, hargs, rfl, rfl, h0, r0⟩ := trodAll_cons hA
  obtain ⟨v1, vs1, d1, ds1, p1, q1, rfl, rfl, rfl, h1, r1⟩ := trodAll_cons r0
  obtain ⟨v2, vs2, d2, ds2, p2, q2, rfl, rfl, rfl, h2, r2⟩ := trodAll_cons r1
  obtain ⟨rfl, rfl, rfl⟩ := trodAll_nil r2
  obtain rfl : args = #[v0, v1, v2] := by cases args; simp_all
  have hv0 := hval 0 9 v0 rfl rfl
  have hv1 := hval 1 9 v1 rfl rfl
  have hv2 := hval 2 5 v2 rfl rfl
  refine law_post (tb := 4) (by kernel_rfl) (by kernel_rfl) rfl Tryz.underlying4 rfl hW' ⟨rfl, rfl, rfl⟩ ?_
  clear hA0 hW' hV hfz hnd hargs hval
  obtain ⟨a, rfl, -, -, -⟩ := Go.ChangeMaps.open_string Tryz.underlying9 hv0 h0
  obtain ⟨b, rfl, -, -, -⟩ := Go.ChangeMaps.open_string Tryz.underlying9 hv1 h1
  obtain ⟨z, rfl, -, -, wz⟩ := Go.ChangeShapes.open_int Tryz.underlying5 hv2 h2
  have hz : IntKind.u8.min ≤ z ∧ z ≤ IntKind.u8.max := by simpa [Lit.wf] using wz
  exact nests_any a b z hz.1 hz.2 W (pv_of_laid hL)
theorem laid_met (os : Os) : laidMet Tryz.prog Rows.parseNestsRow.laid ((World.doorLaid Tryz.prog 4000 os).forCall (fun _ _ => 0) ⟨#[], #[.string ⟨#[]⟩, .string ⟨#[]⟩, .int .u8 0], []⟩).memory :=
  laidMet_of_run' 8 (by kernel_rfl) (by kernel_rfl)
theorem reads (os : Os) {H : Type} (enc : TypeId × Value → H) : ∃ places, DataW.whole enc Tryz.prog ((World.doorLaid Tryz.prog 4000 os).forCall (fun _ _ => 0) ⟨#[], #[.string ⟨#[]⟩, .string ⟨#[]⟩, .int .u8 0], []⟩).memory Tryz.f5.params.toList Rows.parseNestsSpec.vars false (#[.string ⟨#[]⟩, .string ⟨#[]⟩, .int .u8 0] : Array Value).toList 8 = some ([.lit (.string []), .lit (.string []), .lit (.int .u8 0)], [], places) :=
  ⟨[], by kernel_rfl⟩
set_option maxRecDepth 100000 in
theorem lifted (os : Os) (started : os.Started) (H : Type) (enc : TypeId × Value → H) (F : Stop.Interp) :
    ReturnsInHanded {} Tryz.checked os 5 .any ((OpenSpec.ofChange Rows.parseNestsSpec).preRow enc Tryz.prog Tryz.f5 Rows.parseNestsRow.domain false Rows.parseNestsRow.laid) (((OpenSpec.ofChange Rows.parseNestsSpec).at F).post enc Tryz.prog Tryz.f5 false true false false) := by
  obtain ⟨places, hx⟩ := reads os enc
  refine returnsInHanded_of_row (C := Tryz.checked) (s := (OpenSpec.ofChange Rows.parseNestsSpec)) ownNone started (by kernel_rfl) Tryz.func5
    (witness_row_atRef (enc := enc) (C := Tryz.checked) false (World.doorLaid Tryz.prog 4000 os) #[.string ⟨#[]⟩, .string ⟨#[]⟩, .int .u8 0] rfl (by kernel_rfl) (by kernel_rfl) (by kernel_rfl)
      (OpenSpec.preRow_of_cond 8 hx (by kernel_rfl) (fun k hk => by cases hk) (by kernel_rfl) (laid_met os))) ?_
  intro W base args ds gs before hval hW _ _ _ hL _ _
  exact contract H enc W base args ds gs before hval hW hL
theorem said : Rows.ParseNestsSaid :=
  OpenClaim.holds_of_cond 5 Tryz.f5 rfl rfl rfl rfl rfl rfl rfl ⟨rfl, rfl, rfl, rfl, rfl⟩ rfl rfl rfl rfl rfl (by kernel_rfl) Tryz.func5 (by kernel_rfl)
    (of_decide_eq_true (by kernel_rfl)) (by unfold Func.isWrapper; first | (rw [if_pos (by decide +kernel)]; kernel_rfl) | (rw [if_neg (by decide +kernel)]; exact ⟨rfl, rfl⟩))
    (fun os started H enc _ F => by rw [OpenClaim.pre_eq_preRow]; exact lifted os started H enc F)
theorem plain (f : FuncId) (fn : Func) (hf : Tryz.pinned.checked.prog.funcNamed "rivermark/rivermarklaw08.ParseNests" = some f) (hfn : Tryz.pinned.checked.prog.funcs[f]? = some fn) :
    true = Tryz.pinned.checked.prog.looks [] ∧ ∀ (j : Nat) t, fn.params[j]? = some t → Tryz.pinned.checked.prog.wantsStandIn t = false := by
  obtain rfl : f = 5 := Option.some.inj ((show Tryz.prog.funcNamed "rivermark/rivermarklaw08.ParseNests" = some 5 by kernel_rfl).symm.trans hf) |>.symm
  obtain rfl : fn = Tryz.f5 := (Option.some.inj (Tryz.func5.symm.trans hfn)).symm
  refine ⟨by kernel_rfl, fun j t ht => ?_⟩
  have hall : (Tryz.f5.params.toList.all fun u => !Tryz.prog.wantsStandIn u) = true := by kernel_rfl
  have hm : t ∈ Tryz.f5.params.toList := by simpa using Array.mem_of_getElem? ht
  exact (show Tryz.prog.wantsStandIn t = false by simpa using List.all_eq_true.1 hall t hm)
theorem card : Rows.ParseNestsCardSaid :=
  Claim7.holds_tied_plain_at .later [] _ _ _ _ said (fun _ h => by cases h) (by kernel_rfl) (fun _ h => by cases h) parseNests_row_tie rfl ⟨rfl, rfl⟩ (by kernel_rfl) rfl plain (by kernel_rfl)
#print axioms card
end Go.Proofs.YtjijdgkccfeeaaaGreatDoor.lawNests
