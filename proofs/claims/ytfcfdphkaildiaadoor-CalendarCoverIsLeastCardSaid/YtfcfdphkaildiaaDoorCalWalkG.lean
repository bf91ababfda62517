/- Walks of the calendar: lists of calendar blocks that are read (Same, follows). Conditions: the lists can be read. -/
import Derived.Test.YtfcfdphkaildiaaDoorCalWalkF
namespace Go.Proofs.YtfcfdphkaildiaaDoor
open Go Go.Proofs Go.RowKit

theorem bin_neq (a b c x y z : Int) (W : World) : (binOp .neq 38 (.agg #[(.int .i64 a), (.int .i64 b), (.int .i64 c)]) (.agg #[(.int .i64 x), (.int .i64 y), (.int .i64 z)])).run Tryd.prog W = .ok (.bool (!(a == x && (b == y && c == z)))) W := by
  go_simp
  by_cases h1 : a = x <;> by_cases h2 : b = y <;> by_cases h3 : c = z <;> simp [h1, h2, h3]

/-- the cells of a list of calendar blocks from an address on -/
def CellsAt (w : World) (b off : Nat) (xs : List (Int × Int × Int)) : Prop :=
  ∀ i, i < xs.length → w.cell? ⟨b, off + i * 3, none⟩ = some (.int .i64 ((xs.getD i (0, 0, 0)).1)) ∧ w.cell? ⟨b, off + i * 3 + 1, none⟩ = some (.int .i64 ((xs.getD i (0, 0, 0)).2.1)) ∧ w.cell? ⟨b, off + i * 3 + 2, none⟩ = some (.int .i64 ((xs.getD i (0, 0, 0)).2.2))
/-- a slice of calendar blocks that reads as a list -/
def Reads (w : World) (v : Value) (xs : List (Int × Int × Int)) : Prop :=
  (v = .slice none 0 0 ∧ xs = []) ∨ ∃ b off cap, v = .slice (some ⟨b, off, none⟩) xs.length cap ∧ xs.length ≤ cap ∧ cap ≤ 9223372036854775807 ∧ CellsAt w b off xs

theorem getD_eq_of_beq {xs ys : List (Int × Int × Int)} {k : Nat} (h : ((xs.getD k (0, 0, 0)).1 == (ys.getD k (0, 0, 0)).1 && ((xs.getD k (0, 0, 0)).2.1 == (ys.getD k (0, 0, 0)).2.1 && (xs.getD k (0, 0, 0)).2.2 == (ys.getD k (0, 0, 0)).2.2)) = true) : xs.getD k (0, 0, 0) = ys.getD k (0, 0, 0) := by
  simp only [Bool.and_eq_true, beq_iff_eq] at h
  exact Prod.ext h.1 (Prod.ext h.2.1 h.2.2)
theorem take_succ_eq {xs ys : List (Int × Int × Int)} {k : Nat} (hx : k < xs.length) (hy : k < ys.length) (h : xs.take k = ys.take k) (he : xs.getD k (0, 0, 0) = ys.getD k (0, 0, 0)) : xs.take (k + 1) = ys.take (k + 1) := by
  rw [List.take_succ_eq_append_getElem hx, List.take_succ_eq_append_getElem hy, h]
  simp only [List.getD_eq_getElem?_getD, List.getElem?_eq_getElem hx, List.getElem?_eq_getElem hy, Option.getD_some] at he
  rw [he]

theorem same_cells (ba oa ca bb ob cb : Nat) (xs ys : List (Int × Int × Int)) (w : World) (la : xs.length ≤ 9223372036854775807) (hl : xs.length = ys.length) (ha : CellsAt w ba oa xs) (hb : CellsAt w bb ob ys) :
    Calls Tryd.prog 24 #[.slice (some ⟨ba, oa, none⟩) xs.length ca, .slice (some ⟨bb, ob, none⟩) ys.length cb] w fun e w' => e = .returned (.bool (decide (xs = ys))) ∧ Below w.heap.size w w' := by
  have HA := Lib.hid ha
  have HB := Lib.hid hb
  clear ha hb
  have hl' : ((xs.length : Int) != ys.length) = false := by simp [hl]
  have HL := Lib.hid hl
  obtain ⟨n, hn⟩ : ∃ n, xs.length = n := ⟨_, rfl⟩
  have hny : ys.length = n := by rw [← hl, hn]
  have HNX := Lib.hid hn
  have HNY := Lib.hid hny
  rw [hn] at la hl' ⊢
  rw [hny] at hl' ⊢
  clear hl hn hny
  go_enter Tryd.func24, Tryd.ntmps24
  go_wp2_with fail
  go_loopw [5] (fun i wr => ∃ k m : Nat, k ≤ n ∧ i = (.int .i64 ((k : Int))) ∧ Hid (xs.take k = ys.take k) ∧ wr = w.drewN m) (fun i _ => n - (intOf i).toNat)
  case atStart => exact ⟨0, 0, by omega, rfl, by simp [Hid], rfl⟩
  case round =>
    obtain ⟨k, m, hk, rfl, HT, rfl⟩ := hrel
    by_cases hlt : k < n
    · obtain ⟨a1, a2, a3⟩ := HA.out k (by rw [HNX.out]; exact hlt)
      obtain ⟨c1, c2, c3⟩ := HB.out k (by rw [HNY.out]; exact hlt)
      have hxk : k < xs.length := by rw [HNX.out]; exact hlt
      have hyk : k < ys.length := by rw [HNY.out]; exact hlt
      have HX := Lib.hid hxk
      have HY := Lib.hid hyk
      clear hxk hyk
      obtain ⟨r, hr⟩ : ∃ r, ((xs.getD k (0, 0, 0)).1 == (ys.getD k (0, 0, 0)).1 && ((xs.getD k (0, 0, 0)).2.1 == (ys.getD k (0, 0, 0)).2.1 && (xs.getD k (0, 0, 0)).2.2 == (ys.getD k (0, 0, 0)).2.2)) = r := ⟨_, rfl⟩
      have HR := Lib.hid hr
      have he := fun W => bin_neq (xs.getD k (0, 0, 0)).1 (xs.getD k (0, 0, 0)).2.1 (xs.getD k (0, 0, 0)).2.2 (ys.getD k (0, 0, 0)).1 (ys.getD k (0, 0, 0)).2.1 (ys.getD k (0, 0, 0)).2.2 W
      rw [hr] at he
      clear hr
      have hk1 : (0 : Int) ≤ k := by omega
      have hk2 : (k : Int) < n := by omega
      generalize hx1 : (xs.getD k (0, 0, 0)).1 = x1 at a1 he
      generalize hx2 : (xs.getD k (0, 0, 0)).2.1 = x2 at a2 he
      generalize hx3 : (xs.getD k (0, 0, 0)).2.2 = x3 at a3 he
      generalize hy1 : (ys.getD k (0, 0, 0)).1 = y1 at c1 he
      generalize hy2 : (ys.getD k (0, 0, 0)).2.1 = y2 at c2 he
      generalize hy3 : (ys.getD k (0, 0, 0)).2.2 = y3 at c3 he
      clear hx1 hx2 hx3 hy1 hy2 hy3
      cases r
      · have fin : Hid (decide (xs = ys) = false) := by
          show _ = _
          simp only [decide_eq_false_iff_not]
          rintro rfl
          have := HR.out
          simp at this
        go_wp2_with fail
        go_quiet (fail)
        go_wp2_with fail
        go_ret
        exact ⟨by rw [fin.out]; rfl, below_drewN (below_drewN (Below.refl _ _) _) _⟩
      · have HT2 : Hid (xs.take (k + 1) = ys.take (k + 1)) := take_succ_eq HX.out HY.out HT.out (getD_eq_of_beq HR.out)
        go_wp2_with fail
        go_quiet (fail)
        go_wp2_with fail
        go_roundw
        case rel => exact ⟨k + 1, _, by omega, by go_num, HT2.out, rfl⟩
        case measure => simp [intOf]; omega
    · obtain rfl : k = n := by omega
      have fin : Hid (decide (xs = ys) = true) := by
        show _ = _
        have := HT.out
        rw [List.take_of_length_le (by rw [HNX.out]; omega), List.take_of_length_le (by rw [HNY.out]; omega)] at this
        simpa using this
      go_wp2_with fail
      go_ret
      exact ⟨by rw [fin.out]; rfl, below_drewN (Below.refl _ _) _⟩

theorem same_len (a a' : Option Addr) (n n' c c' : Nat) (w : World) (h : n ≠ n') : Calls Tryd.prog 24 #[.slice a n c, .slice a' n' c'] w fun e w' => e = .returned (.bool false) ∧ Below w.heap.size w w' := by
  have h' : ((n : Int) != n') = true := by simp; omega
  clear h
  go_enter Tryd.func24, Tryd.ntmps24
  go_wp2_with fail
  go_ret
  exact ⟨rfl, Below.refl _ _⟩

theorem same_zero (a a' : Option Addr) (c c' : Nat) (w : World) : Calls Tryd.prog 24 #[.slice a 0 c, .slice a' 0 c'] w fun e w' => e = .returned (.bool true) ∧ Below w.heap.size w w' := by
  go_enter Tryd.func24, Tryd.ntmps24
  go_wp2_with fail
  go_loopw [5] (fun i wr => i = (.int .i64 0) ∧ wr = w) (fun i _ => 0)
  case atStart => exact ⟨rfl, rfl⟩
  case round =>
    obtain ⟨rfl, rfl⟩ := hrel
    go_wp2_with fail
    go_ret
    exact ⟨rfl, Below.refl _ _⟩

theorem same_any (va vb : Value) (xs ys : List (Int × Int × Int)) (w : World) (ha : Reads w va xs) (hb : Reads w vb ys) :
    Calls Tryd.prog 24 #[va, vb] w fun e w' => e = .returned (.bool (decide (xs = ys))) ∧ Below w.heap.size w w' := by
  have z : ∀ xs ys : List (Int × Int × Int), xs.length = 0 → ys.length = 0 → decide (xs = ys) = true := fun xs ys h1 h2 => by
    rw [List.length_eq_zero_iff] at h1 h2; simp [h1, h2]
  have nz : ∀ xs ys : List (Int × Int × Int), xs.length ≠ ys.length → decide (xs = ys) = false := fun xs ys h => by
    simp only [decide_eq_false_iff_not]; rintro rfl; exact h rfl
  rcases ha with ⟨rfl, rfl⟩ | ⟨ba, oa, ca, rfl, la, la', ha⟩
  · rcases hb with ⟨rfl, rfl⟩ | ⟨bb, ob, cb, rfl, lb, lb', hb⟩
    · exact same_zero _ _ _ _ _
    · by_cases hy : ys.length = 0
      · rw [z _ _ rfl hy, hy]; exact same_zero _ _ _ _ _
      · rw [nz _ _ (by simpa using fun h => hy h.symm)]; exact same_len _ _ _ _ _ _ _ (by omega)
  · rcases hb with ⟨rfl, rfl⟩ | ⟨bb, ob, cb, rfl, lb, lb', hb⟩
    · by_cases hx : xs.length = 0
      · rw [z _ _ hx rfl, hx]; exact same_zero _ _ _ _ _
      · rw [nz _ _ (by simpa using hx)]; exact same_len _ _ _ _ _ _ _ (by omega)
    · by_cases hl : xs.length = ys.length
      · exact same_cells ba oa ca bb ob cb xs ys w (by omega) hl ha hb
      · rw [nz _ _ hl]; exact same_len _ _ _ _ _ _ _ hl
end Go.Proofs.YtfcfdphkaildiaaDoor
