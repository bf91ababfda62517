/- Walks of the specification's lexer: has, Sign. Conditions: those of each theorem. -/
import Derived.Test.YtdjjifljlkjafaaGreatDoorLexRefD
import Derived.Test.YtdjjifljlkjafaaGreatDoorLexList
namespace Go.Proofs.YtdjjifljlkjafaaGreatDoor
open Go Go.Proofs Go.RowKit
attribute [local go_sem] Oper.semAt_some

theorem str_eq (l : List UInt8) (x : ByteArray) (h : l = x.data.toList) : ((ByteArray.mk l.toArray).toList == x.toList) = true := by
  subst h
  simp [ByteArray.toList_eq]
theorem str_ne (l : List UInt8) (x : ByteArray) (h : l ≠ x.data.toList) : ((ByteArray.mk l.toArray).toList == x.toList) = false := by
  simpa [ByteArray.toList_eq] using h
set_option maxHeartbeats 1000000 in
theorem rhas_any (g c n : Nat) (xs : List (List UInt8)) (x : ByteArray) (w : World) (hn : xs.length = n) (hb : n ≤ 1000) (hx : ∀ j y, xs[j]? = some y → w.cell? ⟨g, j, none⟩ = some (.string ⟨y.toArray⟩)) :
    Calls Tryz.prog 55 #[.slice (some ⟨g, 0, none⟩) n c, .string x] w fun e w' => e = .returned (.bool (decide (x.data.toList ∈ xs))) ∧ w = w' := by
  have HX := Lib.hid hx
  have HN := Lib.hid hn
  clear hx hn
  go_enter Tryz.func55, Tryz.ntmps55
  go_wp2
  go_loop [5] (fun u => ∃ j : Nat, j ≤ n ∧ u = (.int .i64 j) ∧ Hid (x.data.toList ∉ xs.take j)) (fun u => n - (intOf u).toNat)
  case atStart => exact ⟨0, by omega, rfl, by show _ ∉ _; simp⟩
  case round =>
    obtain ⟨j, hj, rfl, HJ⟩ := hrel
    by_cases hlt : j < n
    · have hjl : j < xs.length := by rw [HN.out]; exact hlt
      have hg : xs[j]? = some xs[j] := List.getElem?_eq_getElem hjl
      have hc := HX.out j _ hg
      have HT : Hid (xs.take (j + 1) = xs.take j ++ [xs[j]]) := List.take_succ_eq_append_getElem hjl
      have HM : Hid (xs[j] ∈ xs) := List.getElem_mem hjl
      clear hg
      generalize xs[j] = y at hc HT HM
      clear hjl
      by_cases he : y = x.data.toList
      · have HF : Hid (x.data.toList ∈ xs) := he ▸ HM.out
        have hq := str_eq y x he
        clear he
        generalize ByteArray.mk y.toArray = z at hc hq
        go_wp2
        go_ret
        exact ⟨ret_bool (by have := HF.out; simp [this]), rfl⟩
      · have hq := str_ne y x he
        have HK : Hid (x.data.toList ∉ xs.take (j + 1)) := by
          show _ ∉ _
          rw [HT.out]
          simp only [List.mem_append, List.mem_singleton, not_or]
          exact ⟨HJ.out, fun h => he h.symm⟩
        clear he
        generalize ByteArray.mk y.toArray = z at hc hq
        go_wp2
        go_round
        case rel => exact ⟨j + 1, by omega, by go_num, HK⟩
        case measure => simp [intOf]; omega
    · have HF : Hid (x.data.toList ∉ xs) := by
        have := HJ.out
        rw [List.take_of_length_le (by rw [HN.out]; omega)] at this
        exact this
      go_wp2
      go_ret
      exact ⟨ret_bool (by have := HF.out; simp [this]), rfl⟩
def shorts : List (List UInt8) := signText.data.toList.map fun b => [b]
/-- the sign with which a list begins -/
def signOf (l : List UInt8) : List UInt8 := if 2 ≤ l.length ∧ l.take 2 ∈ pairs then l.take 2 else if 1 ≤ l.length ∧ l.take 1 ∈ shorts then l.take 1 else []
theorem row_cell {W : World} {g : Nat} {arr : Array Value} {t : TypeId} {fz : Nat × Nat} (h : W.heap[g]? = some (.cells arr t fz)) (j : Nat) : W.cell? ⟨g, j, none⟩ = arr[j]? := by
  simp [World.cell?, h]
theorem strs_at (xs : List (List UInt8)) (W : World) (g : Nat) (t : TypeId) (h : W.heap[g]? = some (.cells (xs.map fun l => Value.string ⟨l.toArray⟩).toArray t (0, 0))) : ∀ j y, xs[j]? = some y → W.cell? ⟨g, j, none⟩ = some (.string ⟨y.toArray⟩) := fun j y hj => by
  rw [row_cell h]; simp [hj]
set_option maxRecDepth 20000 in
set_option maxHeartbeats 2000000 in
theorem rsign_any (r : ByteArray) (w : World) (hr : r.size ≤ 70000) : Calls Tryz.prog 41 #[.string r] w fun e w' => e = .returned (.string ⟨(signOf r.data.toList).toArray⟩) ∧ Turned (fun _ => False) w w' := by
  have hlen : r.data.toList.length = r.size := by simp
  have HS : Hid (signOf r.data.toList = if 2 ≤ r.size ∧ r.data.toList.take 2 ∈ pairs then r.data.toList.take 2 else if 1 ≤ r.size ∧ r.data.toList.take 1 ∈ shorts then r.data.toList.take 1 else []) := by
    show _ = _
    unfold signOf
    rw [hlen]
  clear hlen
  have e2 : (r.extract 0 2).data.toList = r.data.toList.take 2 := pre_list r 2
  have e1 : (r.extract 0 1).data.toList = r.data.toList.take 1 := pre_list r 1
  have HX2 : Hid (r.extract 0 2 = ⟨(r.data.toList.take 2).toArray⟩) := by show _ = _; rw [← e2]
  have HX1 : Hid (r.extract 0 1 = ⟨(r.data.toList.take 1).toArray⟩) := by show _ = _; rw [← e1]
  have HA := Lib.hid (fun (W : World) (g : Nat) (h : W.heap[g]? = some (.cells (pairs.map fun l => Value.string ⟨l.toArray⟩).toArray 9 (0, 0))) => rhas_any g 9 9 pairs (r.extract 0 2) W rfl (by omega) (strs_at pairs W g 9 h))
  have HB := Lib.hid (fun (W : World) (g : Nat) (h : W.heap[g]? = some (.cells (shorts.map fun l => Value.string ⟨l.toArray⟩).toArray 9 (0, 0))) => rhas_any g 25 25 shorts (r.extract 0 1) W rfl (by omega) (strs_at shorts W g 9 h))
  rw [e2] at HA
  rw [e1] at HB
  clear e1 e2
  go_enter Tryz.func41, Tryz.ntmps41
  obtain ⟨w1, hw1⟩ : ∃ w1, w1 = w.alloc (.cells (pairs.map fun l => Value.string ⟨l.toArray⟩).toArray 9) := ⟨_, rfl⟩
  obtain ⟨w2, hw2⟩ : ∃ w2, w2 = w1.alloc (.cells (shorts.map fun l => Value.string ⟨l.toArray⟩).toArray 9) := ⟨_, rfl⟩
  have HG2 : Hid (w2.heap[w.heap.size + 1]? = some (.cells (shorts.map fun l => Value.string ⟨l.toArray⟩).toArray 9 (0, 0))) := by
    show _ = _
    have := heap_alloc_new w1 (.cells (shorts.map fun l => Value.string ⟨l.toArray⟩).toArray 9)
    rw [show w1.heap.size = w.heap.size + 1 by rw [hw1]; simp] at this
    rw [hw2]; exact this
  have HG1 : Hid (w2.heap[w.heap.size]? = some (.cells (pairs.map fun l => Value.string ⟨l.toArray⟩).toArray 9 (0, 0))) := by
    show _ = _
    rw [hw2, heap_alloc_old _ _ _ (by rw [hw1]; simp), hw1]
    exact heap_alloc_new _ _
  have HT : Hid (Turned (fun _ => False) w w2) := by
    rw [hw2, hw1]
    exact ((Turned.refl _ _).alloc _).alloc _
  have HW3 : Hid (w2 = (w.alloc (.cells (pairs.map fun l => Value.string ⟨l.toArray⟩).toArray 9)).alloc (.cells (shorts.map fun l => Value.string ⟨l.toArray⟩).toArray 9)) := by show _ = _; rw [hw2, hw1]
  clear hw1 hw2
  by_cases h2 : 2 ≤ r.size
  · go_wp2_with fail
    show Calls Tryz.prog 55 _ ((w.alloc (.cells (pairs.map fun l => Value.string ⟨l.toArray⟩).toArray 9)).alloc (.cells (shorts.map fun l => Value.string ⟨l.toArray⟩).toArray 9)) _
    rw [← HW3.out]
    refine (HA.out _ _ HG1.out).mono ?_
    rintro e w' ⟨rfl, rfl⟩
    by_cases hp : r.data.toList.take 2 ∈ pairs
    · have kp : decide (r.data.toList.take 2 ∈ pairs) = true := by simpa using hp
      have HF : Hid (signOf r.data.toList = r.data.toList.take 2) := by show _ = _; rw [HS.out, if_pos ⟨h2, hp⟩]
      generalize decide (r.data.toList.take 2 ∈ pairs) = q at kp
      subst kp
      go_wp2_with fail
      go_ret
      rw [HF.out, ← HX2.out]
      exact ⟨rfl, HT.out⟩
    · have kp : decide (r.data.toList.take 2 ∈ pairs) = false := by simpa using hp
      generalize decide (r.data.toList.take 2 ∈ pairs) = q at kp
      subst kp
      go_wp2_with fail
      refine (HB.out _ _ HG2.out).mono ?_
      rintro e w' ⟨rfl, rfl⟩
      by_cases hp1 : r.data.toList.take 1 ∈ shorts
      · have kp : decide (r.data.toList.take 1 ∈ shorts) = true := by simpa using hp1
        have HF : Hid (signOf r.data.toList = r.data.toList.take 1) := by show _ = _; rw [HS.out, if_neg (fun h => hp h.2), if_pos ⟨by omega, hp1⟩]
        generalize decide (r.data.toList.take 1 ∈ shorts) = q at kp
        subst kp
        go_wp2_with fail
        go_ret
        rw [HF.out, ← HX1.out]
        exact ⟨rfl, HT.out⟩
      · have kp : decide (r.data.toList.take 1 ∈ shorts) = false := by simpa using hp1
        have HF : Hid (signOf r.data.toList = []) := by show _ = _; rw [HS.out, if_neg (fun h => hp h.2), if_neg (fun h => hp1 h.2)]
        generalize decide (r.data.toList.take 1 ∈ shorts) = q at kp
        subst kp
        go_wp2_with fail
        go_ret
        rw [HF.out]
        exact ⟨rfl, HT.out⟩
  · by_cases h1 : 1 ≤ r.size
    · go_wp2_with fail
      show Calls Tryz.prog 55 _ ((w.alloc (.cells (pairs.map fun l => Value.string ⟨l.toArray⟩).toArray 9)).alloc (.cells (shorts.map fun l => Value.string ⟨l.toArray⟩).toArray 9)) _
      rw [← HW3.out]
      refine (HB.out _ _ HG2.out).mono ?_
      rintro e w' ⟨rfl, rfl⟩
      by_cases hp1 : r.data.toList.take 1 ∈ shorts
      · have kp : decide (r.data.toList.take 1 ∈ shorts) = true := by simpa using hp1
        have HF : Hid (signOf r.data.toList = r.data.toList.take 1) := by show _ = _; rw [HS.out, if_neg (fun h => h2 h.1), if_pos ⟨h1, hp1⟩]
        generalize decide (r.data.toList.take 1 ∈ shorts) = q at kp
        subst kp
        go_wp2_with fail
        go_ret
        rw [HF.out, ← HX1.out]
        exact ⟨rfl, HT.out⟩
      · have kp : decide (r.data.toList.take 1 ∈ shorts) = false := by simpa using hp1
        have HF : Hid (signOf r.data.toList = []) := by show _ = _; rw [HS.out, if_neg (fun h => h2 h.1), if_neg (fun h => hp1 h.2)]
        generalize decide (r.data.toList.take 1 ∈ shorts) = q at kp
        subst kp
        go_wp2_with fail
        go_ret
        rw [HF.out]
        exact ⟨rfl, HT.out⟩
    · have HF : Hid (signOf r.data.toList = []) := by show _ = _; rw [HS.out, if_neg (fun h => h2 h.1), if_neg (fun h => h1 h.1)]
      go_wp2_with fail
      go_ret
      rw [HF.out]
      exact ⟨rfl, ((Turned.refl _ _).alloc _).alloc _⟩
end Go.Proofs.YtdjjifljlkjafaaGreatDoor
