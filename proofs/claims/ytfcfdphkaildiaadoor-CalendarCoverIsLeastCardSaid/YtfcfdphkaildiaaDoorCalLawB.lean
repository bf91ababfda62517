/- Walk of the calendar's statement CalendarDatesAsSpecified. Conditions: TabOK. -/
import Derived.Test.YtfcfdphkaildiaaDoorCalWalkS
import Derived.Deep.RegionHeld3
namespace Go.Proofs.YtfcfdphkaildiaaDoor
open Go Go.Proofs Go.RowKit
attribute [local go_sem] Oper.semAt_some

theorem dates_agree (day : Int) : ∃ a b c e, dateV day = .tuple #[(.int .i64 a), (.int .i64 b), (.int .i64 c), (.int .i64 e)] ∧ rdateV day = (.agg #[(.int .i64 a), (.int .i64 b), (.int .i64 c), (.int .i64 e)]) := by
  unfold dateV rdateV
  split
  · exact ⟨_, _, _, _, rfl, rfl⟩
  · exact ⟨_, _, _, _, rfl, rfl⟩

/-- a box that holds three, four numbers, two numbers -/
def Box3 (W : World) (b : Nat) (t : TypeId) (x y z : Int) : Prop := W.heap[b]? = some (.cells #[(.int .i64 x), (.int .i64 y), (.int .i64 z)] t (0, 0))
def Box4 (W : World) (b : Nat) (t : TypeId) (x y z u : Int) : Prop := W.heap[b]? = some (.cells #[(.int .i64 x), (.int .i64 y), (.int .i64 z), (.int .i64 u)] t (0, 0))
def Box2 (W : World) (b : Nat) (t : TypeId) (x y : Int) : Prop := W.heap[b]? = some (.cells #[(.int .i64 x), (.int .i64 y)] t (0, 0))
theorem box_below {w W : World} {b : Nat} {o : Obj} (h : w.heap[b]? = some o) (hb : Below w.heap.size w W) : W.heap[b]? = some o := (hb.block b (getElem?_lt h)).trans h

theorem cells_of_two {W : World} {B T : Nat} {a b : Value} (h : W.heap[B]? = some (.cells #[a, b] T (0, 0))) : W.cell? ⟨B, 0, none⟩ = some a ∧ W.cell? ⟨B, 1, none⟩ = some b := by simp [World.cell?, h]
theorem cells_of_four {W : World} {B T : Nat} {a b c d : Value} (h : W.heap[B]? = some (.cells #[a, b, c, d] T (0, 0))) : W.cell? ⟨B, 0, none⟩ = some a ∧ W.cell? ⟨B, 1, none⟩ = some b ∧ W.cell? ⟨B, 2, none⟩ = some c ∧ W.cell? ⟨B, 3, none⟩ = some d := by simp [World.cell?, h]
/-- the cells that the last test of the law loads -/
theorem dates_cells {V W : World} {B0 B1 B2 T0 T1 T2 : Nat} {n0 n1 n2 a b c e x z : Value} (h : V.heap[B0]? = some (.cells #[n0, n1, n2] T0 (0, 0)) ∧ V.heap[B1]? = some (.cells #[a, b, c, e] T1 (0, 0)) ∧ V.heap[B2]? = some (.cells #[x, z] T2 (0, 0))) (hb : Below V.heap.size V W) :
    W.cell? ⟨B0, 0, none⟩ = some n0 ∧ W.cell? ⟨B1, 0, none⟩ = some a ∧ W.cell? ⟨B1, 1, none⟩ = some b ∧ W.cell? ⟨B1, 2, none⟩ = some c ∧ W.cell? ⟨B1, 3, none⟩ = some e ∧ W.cell? ⟨B2, 0, none⟩ = some x ∧ W.cell? ⟨B2, 1, none⟩ = some z := by
  obtain ⟨h0, h1, h2⟩ := h
  obtain ⟨p, -, -⟩ := cells_of_three (box_below h0 hb)
  obtain ⟨q0, q1, q2, q3⟩ := cells_of_four (box_below h1 hb)
  obtain ⟨r0, r1⟩ := cells_of_two (box_below h2 hb)
  exact ⟨p, q0, q1, q2, q3, r0, r1⟩

set_option maxHeartbeats 1000000 in
theorem dates_any (day n0 n1 n2 : Int) (w : World) (hT : Hid (TabOK w)) : Calls Tryd.prog 3 #[(.int .i64 day), (.agg #[(.int .i64 n0), (.int .i64 n1), (.int .i64 n2)])] w fun e w' => e = .returned (.bool true) ∧ Below w.heap.size w w' := by
  obtain ⟨a, b, c, e, hA, hB⟩ := dates_agree day
  have HA : Hid (∀ W, Hid (TabOK W) → Calls Tryd.prog 9 #[(.int .i64 day)] W fun r w' => r = .returned (.tuple #[(.int .i64 a), (.int .i64 b), (.int .i64 c), (.int .i64 e)]) ∧ W = w') := fun W h => by have := date_any day W h; rwa [hA] at this
  have HB : Hid (∀ W, Calls Tryd.prog 10 #[(.int .i64 day)] W fun r w' => r = .returned (.agg #[(.int .i64 a), (.int .i64 b), (.int .i64 c), (.int .i64 e)]) ∧ Below W.heap.size W w') := fun W => by have := rdate_any day W; rwa [hB] at this
  clear hA hB
  obtain ⟨x, hx⟩ : ∃ x, dayN n0 n1 n2 = x := ⟨_, rfl⟩
  obtain ⟨z, hz⟩ : ∃ x, dayE n0 n1 n2 = x := ⟨_, rfl⟩
  obtain ⟨lb, hlb⟩ : ∃ x, leapB n0 = x := ⟨_, rfl⟩
  have HC : Hid (∀ W, Hid (TabOK W) → Calls Tryd.prog 11 #[(.int .i64 n0), (.int .i64 n1), (.int .i64 n2)] W fun r w' => r = .returned (.tuple #[(.int .i64 x), (.int .i64 z)]) ∧ W = w') := fun W h => by have := day_any n0 n1 n2 W h; rwa [hx, hz] at this
  have HD : Hid (∀ W, Calls Tryd.prog 12 #[(.int .i64 n0), (.int .i64 n1), (.int .i64 n2)] W fun r w' => r = .returned (.agg #[(.int .i64 x), (.int .i64 z)]) ∧ Below W.heap.size W w') := fun W => by have := rday_any n0 n1 n2 W; rwa [hx, hz] at this
  have HE : Hid (∀ W, Calls Tryd.prog 14 #[(.int .i64 n0)] W fun r w' => r = .returned (.bool lb) ∧ w' = W) := fun W => (leap_any n0 W).mono fun _ _ h => ⟨by rw [h.1, hlb], h.2.symm⟩
  have HF : Hid (∀ W, Calls Tryd.prog 15 #[(.int .i64 n0)] W fun r w' => r = .returned (.bool lb) ∧ w' = W) := fun W => (rleap_any n0 W).mono fun _ _ h => ⟨by rw [h.1, hlb], h.2.symm⟩
  clear hx hz hlb
  have ba : (a == a) = true := by simp
  have bb : (b == b) = true := by simp
  have bc : (c == c) = true := by simp
  have be : (e == e) = true := by simp
  have bx : (x == x) = true := by simp
  have bz : (z == z) = true := by simp
  have bl : (lb == lb) = true := by simp
  have HW0 := Lib.hid (below_new w (.cells #[(.int .i64 n0), (.int .i64 n1), (.int .i64 n2)] 22))
  go_enter Tryd.func3, Tryd.ntmps3
  go_wp2_with fail
  refine (HA.out _ (TabOK.below' hT HW0.out)).mono ?_
  rintro r w' ⟨rfl, rfl⟩
  go_wp2_with fail
  refine (HB.out _).mono ?_
  rintro r w1 ⟨rfl, hb⟩
  have hn : w1.heap[w.heap.size]? = some (.cells #[(.int .i64 n0), (.int .i64 n1), (.int .i64 n2)] 22 (0, 0)) := box_below (World.alloc_heap_new _ _) hb
  have hb1 : Below w.heap.size w w1 := HW0.out.trans (hb.mono HW0.out.size)
  have HT1 := TabOK.below' hT hb1
  obtain ⟨c1, c2, c3⟩ := cells_of_three hn
  obtain ⟨B1, hB1⟩ : ∃ B, B = w1.heap.size := ⟨_, rfl⟩
  have hlt1 : w.heap.size < w1.heap.size := getElem?_lt hn
  have H1 := Lib.hid (And.intro hn (And.intro hb1 hB1))
  clear hn hb1 hB1 hb HW0
  go_wp2_with fail
  refine (HC.out _ (TabOK.below' HT1 (below_new _ _))).mono ?_
  rintro r w' ⟨rfl, rfl⟩
  go_wp2_with fail
  refine (HD.out _).mono ?_
  rintro r w2 ⟨rfl, hb⟩
  obtain ⟨hn, hb1, hB1⟩ := H1.out
  have hbn := (below_new w1 (.cells #[(.int .i64 a), (.int .i64 b), (.int .i64 c), (.int .i64 e)] 27)).trans (hb.mono (below_new w1 _).size)
  have hn2 := box_below hn hbn
  have hm2 : w2.heap[B1]? = some (.cells #[(.int .i64 a), (.int .i64 b), (.int .i64 c), (.int .i64 e)] 27 (0, 0)) := box_below (by rw [hB1]; exact World.alloc_heap_new _ _) hb
  rw [← hB1]
  clear c1 c2 c3
  have HT2 := TabOK.below' HT1 hbn
  have hb2 := hb1.trans (hbn.mono hb1.size)
  clear H1 hb hb1 hbn hn hB1 hlt1 HT1 w1
  go_wp2_with fail
  obtain ⟨W3, hW3⟩ : ∃ W, W = w2.alloc (.cells #[(.int .i64 x), (.int .i64 z)] 32) := ⟨_, rfl⟩
  obtain ⟨B2, hB2⟩ : ∃ B, B = w2.heap.size := ⟨_, rfl⟩
  obtain ⟨B0, hB0⟩ : ∃ B, B = w.heap.size := ⟨_, rfl⟩
  have hbn : Below w2.heap.size w2 W3 := by rw [hW3]; exact below_new _ _
  have hk2 : W3.heap[B2]? = some (.cells #[(.int .i64 x), (.int .i64 z)] 32 (0, 0)) := by rw [hW3, hB2]; exact World.alloc_heap_new _ _
  have hn3 := box_below hn2 hbn
  have hm3 := box_below hm2 hbn
  have HT3 := TabOK.below' HT2 hbn
  have hb3 := Lib.hid (hb2.trans (hbn.mono hb2.size))
  rw [← hW3, ← hB2, ← hB0]
  rw [← hB0] at hn3
  clear hW3 hB2 hn2 hm2 HT2 hb2 hbn w2
  have HK := Lib.hid (And.intro hn3 (And.intro hm3 hk2))
  have HS' := Lib.hid (dates_cells HK.out (Below.refl _ _).drew)
  have HSan := Lib.hid (sanity_any W3.drew (TabOK.below' HT3 (Below.refl _ _).drew))
  have HB0 := Lib.hid hB0
  clear hn3 hm3 hk2 hB0
  go_region_held3 (fun W => W.cell? ⟨B0, 0, none⟩ = some (.int .i64 n0) ∧ W.cell? ⟨B1, 0, none⟩ = some (.int .i64 a) ∧ W.cell? ⟨B1, 1, none⟩ = some (.int .i64 b) ∧ W.cell? ⟨B1, 2, none⟩ = some (.int .i64 c) ∧ W.cell? ⟨B1, 3, none⟩ = some (.int .i64 e) ∧ W.cell? ⟨B2, 0, none⟩ = some (.int .i64 x) ∧ W.cell? ⟨B2, 1, none⟩ = some (.int .i64 z))
    (first | exact HS'.out | exact HS4.out | go_keep)
    (first | (go_at_call 13; refine HSan.out.mono ?_; rintro r w4 ⟨rfl, hb⟩; have HS4 := Lib.hid (dates_cells HK.out ((Below.refl _ _).drew.trans (hb.mono (Nat.le_refl _))))) | (go_at_call 14; refine (HE.out _).mono ?_; rintro r w' ⟨rfl, rfl⟩) | (go_at_call 15; refine (HF.out _).mono ?_; rintro r w' ⟨rfl, rfl⟩))
  go_wp2
  go_ret
  exact ⟨rfl, hb3.out.trans (((Below.refl _ _).drew.trans (hb.mono (Nat.le_refl _))).mono hb3.out.size)⟩
end Go.Proofs.YtfcfdphkaildiaaDoor
