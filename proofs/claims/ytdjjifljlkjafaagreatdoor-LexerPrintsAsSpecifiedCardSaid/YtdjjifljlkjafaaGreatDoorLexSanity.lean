/- Walk of the lexer's law: sanity. Conditions: those of each theorem. -/
import Derived.Test.YtdjjifljlkjafaaGreatDoorLexWalkI
import Derived.Test.YtdjjifljlkjafaaGreatDoorLexWalkJ
import Derived.Test.YtdjjifljlkjafaaGreatDoorLexSane
import Derived.Test.YtdjjifljlkjafaaGreatDoorLays
namespace Go.Proofs.YtdjjifljlkjafaaGreatDoor
open Go Go.Proofs Go.RowKit
attribute [local go_sem] Oper.semAt_some

/-- the variables that the lexer and its law read -/
def LV (n : Nat) (W : World) : Prop := Vars n W ∧ VarAt n W "internal/strconv.uint64pow10" (Lib.pow10Tab.map fun z => Value.int .u64 z).toArray
theorem LV.mono {n m : Nat} {W : World} (h : LV n W) (hm : n ≤ m) : LV m W := ⟨h.1.mono hm, h.2.1, fun g hg => Nat.lt_of_lt_of_le (h.2.2 g hg) hm⟩
theorem stays_lv (n : Nat) : Stays (LV n) := fun _ _ h hb => ⟨h.1.turned (Turned.of_new hb) fun _ _ => id, h.2.turned (C := fun _ => False) (Turned.of_new hb) fun _ _ => id⟩
theorem stays_toks (g o : Nat) (ts : List Tok) : Stays (fun W => ToksAt W g o ts) := fun _ _ h hb => h.turned (Turned.of_new hb)
theorem below_of_turned {A B : World} (h : Turned (fun _ => False) A B) : Below A.heap.size A B := h.below (Nat.le_refl _) fun _ h => h.elim
theorem flat_at : ∀ (ts : List Tok) (j i : Nat) (t : Tok), ts[j]? = some t → i < 4 → (ts.flatMap tokV)[j * 4 + i]? = (tokV t)[i]?
  | [], j, i, t, h, _ => by simp at h
  | a :: ts, 0, i, t, h, hi => by
    simp at h; subst h
    rw [List.flatMap_cons, List.getElem?_append_left (by simp [tokV]; omega)]
    simp
  | a :: ts, j + 1, i, t, h, hi => by
    simp at h
    rw [List.flatMap_cons, List.getElem?_append_right (by simp [tokV]; omega), show (j + 1) * 4 + i - (tokV a).length = j * 4 + i by simp [tokV]; omega]
    exact flat_at ts j i t h hi
/-- a row of tokens that is owned: its slice and its cells -/
theorem own_toks {W : World} {base : Nat} {v : Value} {ts : List Tok} (h : W.ownsRow base 33 4 v ts.length (ts.flatMap tokV)) (hne : ts ≠ []) : ∃ g cap, v = .slice (some ⟨g, 0, none⟩) ts.length cap ∧ ts.length ≤ cap ∧ cap ≤ maxLen ∧ ToksAt W g 0 ts := by
  obtain ⟨hl, h2⟩ := h
  rcases h2 with ⟨rfl, h0⟩ | ⟨g, cap, cur, rfl, hg, hh, hc, hm, hs, ht⟩
  · exact absurd (List.length_eq_zero_iff.1 h0) hne
  · refine ⟨g, cap, rfl, hc, hm, getElem?_lt hh, fun j t hj => ?_⟩
    have hlt : j < ts.length := (List.getElem?_eq_some_iff.1 hj).1
    have key : ∀ i, i < 4 → W.cell? ⟨g, j * 4 + i, none⟩ = (tokV t)[i]? := fun i hi => by
      rw [← flat_at ts j i t hj hi, ← ht, List.getElem?_take_of_lt (by omega)]
      simp [World.cell?, hh]
    have k0 := key 0 (by omega)
    have k1 := key 1 (by omega)
    have k2 := key 2 (by omega)
    have k3 := key 3 (by omega)
    simp only [Nat.zero_add]
    exact ⟨k0, k1, k2, k3⟩
theorem tok_ok (s : ByteArray) (ts : List Tok) (hr : tokensP s = .ok ts) (hne : ts ≠ []) (n : Nat) (W : World) (h : LV n W) (hn : n ≤ W.heap.size) : Calls Tryz.prog 12 #[.string s] W fun e w' =>
    ∃ g cap, e = .returned (.tuple #[.slice (some ⟨g, 0, none⟩) ts.length cap, .agg #[(.int .i64 0), (.int .i64 0)]]) ∧ ts.length ≤ cap ∧ cap ≤ maxLen ∧ ToksAt w' g 0 ts ∧ Below W.heap.size W w' := by
  refine (tokens_any s W (h.1.mono hn)).mono ?_
  intro e w' hh
  rw [hr] at hh
  obtain ⟨v, rfl, ho, ht⟩ := hh
  obtain ⟨g, cap, rfl, h1, h2, h3⟩ := own_toks ho hne
  exact ⟨g, cap, rfl, h1, h2, h3, below_of_turned ht⟩
theorem tok_err (s : ByteArray) (k : Nat) (c : Int) (hr : tokensP s = .err k c) (n : Nat) (W : World) (h : LV n W) (hn : n ≤ W.heap.size) : Calls Tryz.prog 12 #[.string s] W fun e w' =>
    e = .returned (.tuple #[.slice none 0 0, .agg #[(.int .i64 k), (.int .i64 c)]]) ∧ Below W.heap.size W w' := by
  refine (tokens_any s W (h.1.mono hn)).mono ?_
  intro e w' hh
  rw [hr] at hh
  exact ⟨hh.1, below_of_turned hh.2⟩
theorem tok_cells {W : World} {g : Nat} {ts : List Tok} (h : ToksAt W g 0 ts) (j : Nat) (t : Tok) (hj : ts[j]? = some t) (o0 o1 o2 o3 : Nat) (h0 : o0 = j * 4) (h1 : o1 = o0 + 1) (h2 : o2 = o0 + 2) (h3 : o3 = o0 + 3) :
    W.cell? ⟨g, o0, none⟩ = some (.int .i64 (t.kind)) ∧ W.cell? ⟨g, o1, none⟩ = some (.int .i64 (t.at_)) ∧ W.cell? ⟨g, o2, none⟩ = some (.string t.s) ∧ W.cell? ⟨g, o3, none⟩ = some (.int .i64 (t.n)) := by
  subst h1 h2 h3 h0
  have := h.2 j t hj
  simpa only [Nat.zero_add] using this
theorem textA : textOf toksA = ⟨#[97, 32, 45, 62, 32, 98, 49, 32, 49, 50, 32, 46, 46, 32, 51]⟩ := by kernel_rfl
theorem placeA : posP ⟨#[97, 10, 98, 99]⟩ 3 = (2, 2) := by kernel_rfl
theorem printA (g cap : Nat) (W : World) (hT : ToksAt W g 0 toksA) (n : Nat) (h : LV n W) : Calls Tryz.prog 14 #[.slice (some ⟨g, 0, none⟩) 7 cap] W fun e w' => e = .returned (.string ⟨#[97, 32, 45, 62, 32, 98, 49, 32, 49, 50, 32, 46, 46, 32, 51]⟩) ∧ Below W.heap.size W w' := by
  refine (print_any g 0 cap toksA W n hT (by decide) (by decide) h.2 (by decide +kernel)).mono ?_
  rintro e w' ⟨rfl, ht⟩
  rw [textA]
  exact ⟨rfl, below_of_turned ht⟩
theorem placeB (W : World) : Calls Tryz.prog 16 #[.string ⟨#[97, 10, 98, 99]⟩, (.int .i64 3)] W fun e w' => e = .returned (.tuple #[(.int .i64 2), (.int .i64 2)]) ∧ Below W.heap.size W w' := by
  refine (position_any ⟨#[97, 10, 98, 99]⟩ 3 W (by decide)).mono ?_
  rintro e w' ⟨rfl, ht⟩
  rw [placeA]
  exact ⟨rfl, below_of_turned ht⟩
set_option maxRecDepth 20000 in
set_option maxHeartbeats 4000000 in
theorem sanity_any (w : World) (hv : LV w.heap.size w) : Calls Tryz.prog 11 #[] w fun e w' => e = .returned (.bool true) ∧ Below w.heap.size w w' := by
  have ST0 := St.start hv (stays_lv w.heap.size)
  have HL := Lib.hid (fun (T : World → Prop) (W : World) (L : List (Nat × Obj)) (h : Hid (St T w W L)) => h.out.bel.size)
  go_enter Tryz.func11, Tryz.ntmps11
  go_wp2_with fail
  refine (tok_ok srcA toksA readA (by decide) _ _ (ST0.out.tab) (HL.out _ _ _ ST0)).mono ?_
  rintro e X1 ⟨g1, cap1, rfl, hc1, hm1, hT1, hb⟩
  have SA1 := St.call ST0 hb
  have SB1 := St.more SA1 hT1 (stays_toks g1 0 toksA)
  clear ST0 SA1 hT1 hb
  go_wp2_with fail
  obtain ⟨Y1, B1, hW, hB, -, SC1⟩ := St.box SB1 (.cells #[(.int .i64 0), (.int .i64 0)] 26)
  rw [← hW, ← hB]
  clear SB1 hW hB
  refine (tok_ok srcB toksB readB (by decide) _ _ (SC1.out.tab.1) (HL.out _ _ _ SC1)).mono ?_
  rintro e X2 ⟨g2, cap2, rfl, hc2, hm2, hT2, hb⟩
  have SA2 := St.call SC1 hb
  have SB2 := St.more SA2 hT2 (stays_toks g2 0 toksB)
  clear SC1 SA2 hT2 hb
  go_wp2_with fail
  obtain ⟨Y2, B2, hW, hB, -, SC2⟩ := St.box SB2 (.cells #[(.int .i64 0), (.int .i64 0)] 26)
  rw [← hW, ← hB]
  clear SB2 hW hB
  refine (tok_ok srcC toksC readC (by decide) _ _ (SC2.out.tab.1.1) (HL.out _ _ _ SC2)).mono ?_
  rintro e X3 ⟨g3, cap3, rfl, hc3, hm3, hT3, hb⟩
  have SA3 := St.call SC2 hb
  have SB3 := St.more SA3 hT3 (stays_toks g3 0 toksC)
  clear SC2 SA3 hT3 hb
  go_wp2_with fail
  obtain ⟨Y3, B3, hW, hB, -, SC3⟩ := St.box SB3 (.cells #[(.int .i64 0), (.int .i64 0)] 26)
  rw [← hW, ← hB]
  clear SB3 hW hB
  refine (tok_err _ _ _ readD _ _ (SC3.out.tab.1.1.1) (HL.out _ _ _ SC3)).mono ?_
  rintro e X4 ⟨rfl, hb⟩
  have SA4 := St.call SC3 hb
  clear SC3 hb
  go_wp2_with fail
  obtain ⟨Y4, B4, hW, hB, -, SC4⟩ := St.box SA4 (.cells #[(.int .i64 2), (.int .i64 27)] 26)
  rw [← hW, ← hB]
  clear SA4 hW hB
  refine (tok_err _ _ _ readE _ _ (SC4.out.tab.1.1.1) (HL.out _ _ _ SC4)).mono ?_
  rintro e X5 ⟨rfl, hb⟩
  have SA5 := St.call SC4 hb
  clear SC4 hb
  go_wp2_with fail
  obtain ⟨Y5, B5, hW, hB, -, SC5⟩ := St.box SA5 (.cells #[(.int .i64 2), (.int .i64 27)] 26)
  rw [← hW, ← hB]
  clear SA5 hW hB
  refine (tok_err _ _ _ readF _ _ (SC5.out.tab.1.1.1) (HL.out _ _ _ SC5)).mono ?_
  rintro e X6 ⟨rfl, hb⟩
  have SA6 := St.call SC5 hb
  clear SC5 hb
  go_wp2_with fail
  obtain ⟨Y6, B6, hW, hB, -, SC6⟩ := St.box SA6 (.cells #[(.int .i64 0), (.int .i64 28)] 26)
  rw [← hW, ← hB]
  clear SA6 hW hB
  refine (tok_err _ _ _ readG _ _ (SC6.out.tab.1.1.1) (HL.out _ _ _ SC6)).mono ?_
  rintro e X7 ⟨rfl, hb⟩
  have SA7 := St.call SC6 hb
  clear SC6 hb
  go_wp2_with fail
  obtain ⟨Y7, B7, hW, hB, -, SC7⟩ := St.box SA7 (.cells #[(.int .i64 2), (.int .i64 26)] 26)
  rw [← hW, ← hB]
  clear SA7 hW hB
  refine (placeB _).mono ?_
  rintro e Z0 ⟨rfl, hb⟩
  have SZ := St.call SC7 hb
  clear SC7 hb
  obtain ⟨p1, q1⟩ := St.cells2 SZ 6 rfl
  obtain ⟨p2, q2⟩ := St.cells2 SZ 5 rfl
  obtain ⟨p3, q3⟩ := St.cells2 SZ 4 rfl
  obtain ⟨p4, q4⟩ := St.cells2 SZ 3 rfl
  obtain ⟨p5, q5⟩ := St.cells2 SZ 2 rfl
  obtain ⟨p6, q6⟩ := St.cells2 SZ 1 rfl
  obtain ⟨p7, q7⟩ := St.cells2 SZ 0 rfl
  obtain ⟨a0, a1, a2, a3⟩ := tok_cells SZ.out.tab.1.1.2 1 _ rfl 4 5 6 7 rfl rfl rfl rfl
  obtain ⟨b0, b1, b2, b3⟩ := tok_cells SZ.out.tab.1.1.2 3 _ rfl 12 13 14 15 rfl rfl rfl rfl
  obtain ⟨c0, c1, c2, c3⟩ := tok_cells SZ.out.tab.1.1.2 6 _ rfl 24 25 26 27 rfl rfl rfl rfl
  obtain ⟨d0, d1, d2, d3⟩ := tok_cells SZ.out.tab.1.2 0 _ rfl 0 1 2 3 rfl rfl rfl rfl
  obtain ⟨e0, e1, e2, e3⟩ := tok_cells SZ.out.tab.2 0 _ rfl 0 1 2 3 rfl rfl rfl rfl
  obtain ⟨f0, f1, f2, f3⟩ := tok_cells SZ.out.tab.2 1 _ rfl 4 5 6 7 rfl rfl rfl rfl
  obtain ⟨g0, g1', g2', g3'⟩ := tok_cells SZ.out.tab.2 2 _ rfl 8 9 10 11 rfl rfl rfl rfl
  obtain ⟨h0, h1, h2, h3⟩ := tok_cells SZ.out.tab.2 3 _ rfl 12 13 14 15 rfl rfl rfl rfl
  simp only at a0 a1 a2 a3 b0 b1 b2 b3 c0 c1 c2 c3 d0 d1 d2 d3 e0 e1 e2 e3 f0 f1 f2 f3 g0 g1' g2' g3' h0 h1 h2 h3
  simp only [show toksA.length = 7 from rfl, show toksB.length = 2 from rfl, show toksC.length = 5 from rfl] at *
  have HPr := Lib.hid (printA g1 cap1 Z0 SZ.out.tab.1.1.2 _ SZ.out.tab.1.1.1)
  go_wp2_with (go_at_call 14; refine HPr.out.mono ?_; rintro e Z1 ⟨rfl, hb⟩; have SY := St.call SZ hb; clear hb)
  go_ret
  exact ⟨rfl, SY.out.bel⟩
end Go.Proofs.YtdjjifljlkjafaaGreatDoor
