/- Part 12 of the proof of lawSum.card: QryWalkK. Conditions: those of each theorem. -/
import Derived.Test.YthejfklieedjmaaGreatDoorQs01
import Derived.Test.YthejfklieedjmaaGreatDoorQs11
set_option linter.unusedSimpArgs false
namespace Go.Proofs.YthejfklieedjmaaGreatDoor
open Go Go.Proofs Go.RowKit Go.Maps
attribute [local go_sem] Oper.semAt_some
set_option maxRecDepth 20000 in
set_option maxHeartbeats 4000000 in
theorem operands_any (op : Int) (W : World) : Calls Tryz.prog 66 #[(.int .i64 op)] W fun e w' => e = .returned (.int .i64 (operandsP op)) ∧ w' = W := by
  rcases (show op = 1 ∨ op = 2 ∨ op = 3 ∨ op = 4 ∨ op = 5 ∨ op = 6 ∨ op = 20 ∨ (7 ≤ op ∧ op ≤ 19) ∨ (op < 1 ∨ 20 < op) by omega) with rfl | rfl | rfl | rfl | rfl | rfl | rfl | h | h
  iterate 7
    (go_enter Tryz.func66, Tryz.ntmps66
     go_wp2_with fail
     go_ret
     exact ⟨rfl, rfl⟩)
  all_goals
    have b1 : (op == 1) = false := by simp; omega
    have b2 : (op == 2) = false := by simp; omega
    have b3 : (op == 3) = false := by simp; omega
    have b4 : (op == 4) = false := by simp; omega
    have b5 : (op == 5) = false := by simp; omega
    have b6 : (op == 6) = false := by simp; omega
    have b20 : (op == 20) = false := by simp; omega
  · have HE : Hid (operandsP op = 2) := Lib.hid (by unfold operandsP; rw [if_neg (by omega), if_neg (by omega), if_neg (by omega), if_pos h])
    obtain ⟨h1, h2⟩ := h
    go_enter Tryz.func66, Tryz.ntmps66
    go_wp2_with fail
    go_ret
    rw [HE.out]
    exact ⟨rfl, rfl⟩
  · have HE : Hid (operandsP op = -2) := Lib.hid (by unfold operandsP; rw [if_neg (by omega), if_neg (by omega), if_neg (by omega), if_neg (by omega), if_neg (by omega)])
    rcases h with h | h
    · have h7 : ¬ 7 ≤ op := by omega
      go_enter Tryz.func66, Tryz.ntmps66
      go_wp2_with fail
      go_ret
      rw [HE.out]
      exact ⟨rfl, rfl⟩
    · have h7 : 7 ≤ op := by omega
      have h8 : ¬ op ≤ 19 := by omega
      go_enter Tryz.func66, Tryz.ntmps66
      go_wp2_with fail
      go_ret
      rw [HE.out]
      exact ⟨rfl, rfl⟩
theorem results_tp {fn : Func} {i j : Nat} (hf : fn.results = #[ResultVar.tmp i, ResultVar.cell j 26]) (tmps : Array Value) (w : World) (N : Nat) (x a b : Value) (hx : tmps.getD i undef = x) (hp : tmps.getD j undef = .pointer (some ⟨N, 0, none⟩)) (hg : w.heap[N]? = some (.cells #[a, b] 26 (0, 0))) :
    (results fn tmps).run Tryz.prog w = .ok (.tuple #[x, .agg #[a, b]]) w := by
  have h1 := run_loadVar_row (P := Tryz.prog) w N 26 26 #[a, b] (0, 0) _ hg Tryz.underlying26 rfl (by kernel_rfl)
  have hx' : tmps[i]?.getD undef = x := by simpa using hx
  have hp' : tmps[j]?.getD undef = .pointer (some ⟨N, 0, none⟩) := by simpa using hp
  simp [results, hf, hx', hp', asAddr, h1]
set_option maxRecDepth 20000 in
set_option maxHeartbeats 4000000 in
theorem typed1_any (c a : Int) (eb : Nat) (W : World) (h : W.cell? ⟨eb, 4, none⟩ = some (.int .i64 a)) : Calls Tryz.prog 65 #[(.int .i64 c), .pointer (some ⟨eb, 0, none⟩)] W fun e w' => e = .returned (.tuple #[(.int .i64 0), .agg #[(.int .i64 a), (.int .i64 c)]]) ∧ Turned (fun _ => False) W w' := by
  have h1 := cellT ((Turned.refl (fun _ => False) W).alloc (.cells #[(.int .i64 0), (.int .i64 0)] 26)) id h
  have h2 := World.alloc_heap_new W (.cells #[(.int .i64 0), (.int .i64 0)] 26)
  have hlt := cellLt h
  go_enter Tryz.func65, Tryz.ntmps65
  go_wp2_with fail
  go_region
  go_wp2_with fail
  refine bodyPost_ret (results_tp (fn := Tryz.f65) rfl _ _ W.heap.size (.int .i64 0) (.int .i64 a) (.int .i64 c) rfl rfl (World.alloc_heap_new _ _)) rfl ?_
  exact ⟨rfl, ((Turned.refl (fun _ => False) W).alloc _).drew⟩
theorem run_kinds (a b : Int) (ha : a = 1 ∨ a = 2 ∨ a = 3 ∨ a = 4) (hb : b = 1 ∨ b = 2 ∨ b = 3 ∨ b = 4) (W : World) : ((binOp .eql 179 (.agg #[(.int .i64 a), (.int .i64 b)]) (.agg #[(.int .i64 2), (.int .i64 1)])).run Tryz.prog W = .ok (.bool (decide (a = 2 ∧ b = 1))) W) ∧
    ((binOp .eql 179 (.agg #[(.int .i64 a), (.int .i64 b)]) (.agg #[(.int .i64 2), (.int .i64 2)])).run Tryz.prog W = .ok (.bool (decide (a = 2 ∧ b = 2))) W) ∧
    ((binOp .eql 179 (.agg #[(.int .i64 a), (.int .i64 b)]) (.agg #[(.int .i64 1), (.int .i64 1)])).run Tryz.prog W = .ok (.bool (decide (a = 1 ∧ b = 1))) W) ∧
    ((binOp .eql 179 (.agg #[(.int .i64 a), (.int .i64 b)]) (.agg #[(.int .i64 1), (.int .i64 3)])).run Tryz.prog W = .ok (.bool (decide (a = 1 ∧ b = 3))) W) ∧
    ((binOp .eql 179 (.agg #[(.int .i64 a), (.int .i64 b)]) (.agg #[(.int .i64 3), (.int .i64 1)])).run Tryz.prog W = .ok (.bool (decide (a = 3 ∧ b = 1))) W) := by
  rcases ha with rfl | rfl | rfl | rfl <;> rcases hb with rfl | rfl | rfl | rfl <;> exact ⟨by kernel_rfl, by kernel_rfl, by kernel_rfl, by kernel_rfl, by kernel_rfl⟩
set_option maxRecDepth 20000 in
set_option maxHeartbeats 16000000 in
theorem binary_any (op a b : Int) (W : World) (ha : a = 1 ∨ a = 2 ∨ a = 3 ∨ a = 4) (hb : b = 1 ∨ b = 2 ∨ b = 3 ∨ b = 4) : Calls Tryz.prog 69 #[(.int .i64 op), (.int .i64 a), (.int .i64 b)] W fun e w' => e = .returned (.int .i64 (binaryP op a b)) ∧ Turned (fun _ => False) W w' := by
  have e1 := fun W => (run_kinds a b ha hb W).1
  have e2 := fun W => (run_kinds a b ha hb W).2.1
  have e3 := fun W => (run_kinds a b ha hb W).2.2.1
  have e4 := fun W => (run_kinds a b ha hb W).2.2.2.1
  have e5 := fun W => (run_kinds a b ha hb W).2.2.2.2
  by_cases h : op ≠ 7 ∧ op ≠ 8 ∧ op ≠ 10 ∧ op ≠ 11
  · have HE : Hid (binaryP op a b = 0) := Lib.hid (by unfold binaryP; rw [if_neg (by omega), if_neg (by omega), if_neg (by omega)])
    have b7 : (op == 7) = false := by simp; omega
    have b8 : (op == 8) = false := by simp; omega
    have b10 : (op == 10) = false := by simp; omega
    have b11 : (op == 11) = false := by simp; omega
    go_enter Tryz.func69, Tryz.ntmps69
    go_wp2_with fail
    go_ret
    rw [HE.out]
    exact ⟨rfl, (Turned.refl _ W).alloc _⟩
  · rcases (show op = 7 ∨ op = 8 ∨ op = 10 ∨ op = 11 by omega) with rfl | rfl | rfl | rfl
    all_goals
      rcases ha with rfl | rfl | rfl | rfl
      all_goals
        rcases hb with rfl | rfl | rfl | rfl
        iterate 4
          (go_enter Tryz.func69, Tryz.ntmps69
           go_wp2_with fail
           go_ret
           exact ⟨rfl, (Turned.refl _ W).alloc _⟩)
end Go.Proofs.YthejfklieedjmaaGreatDoor
