/- Walks of the calendar: Valid, Block, Parent. Conditions: TabOK. -/
import Derived.Test.YtfcfdphkaildiaaDoorCalWalkD
import Derived.Deep.RegionWith
import Derived.Deep.RegionHeld3
import Derived.Deep.QuietTactic
import Derived.BigQuiet
import Derived.WalkSmall
import Derived.Lib.Hide
namespace Go.Proofs.YtfcfdphkaildiaaDoor
open Go Go.Proofs Go.RowKit

/-- is there such a calendar block? -/
def validB (l f t : Int) : Bool := decide (0 ≤ l) && decide (l ≤ 4) && decide (0 ≤ f) && decide (f < 1402560) && (lo l f == f) && (hi l f == t)

theorem bin_eql (a b c x y z : Int) (W : World) : (binOp .eql 38 (.agg #[(.int .i64 a), (.int .i64 b), (.int .i64 c)]) (.agg #[(.int .i64 x), (.int .i64 y), (.int .i64 z)])).run Tryd.prog W = .ok (.bool (a == x && (b == y && c == z))) W := by
  go_simp
  by_cases h1 : a = x <;> by_cases h2 : b = y <;> by_cases h3 : c = z <;> simp [h1, h2, h3]

set_option maxHeartbeats 2000000 in
theorem valid_yes (l f t : Int) (w : World) (hT : Hid (TabOK w)) (l0 : 0 ≤ l) (l1 : l ≤ 4) (f0 : 0 ≤ f) (f1 : f < 1402560) :
    Calls Tryd.prog 22 #[.agg #[(.int .i64 l), (.int .i64 f), (.int .i64 t)]] w fun e w' => e = .returned (.bool (lo l f == f && hi l f == t)) ∧ Below w.heap.size w w' := by
  have b1 : decide (0 ≤ l) = true := by simpa using l0
  have b2 : decide (l ≤ 4) = true := by simpa using l1
  have b3 : decide (0 ≤ f) = true := by simpa using f0
  have b4 : decide (f < 1402560) = true := by simpa using f1
  have he := fun W => bin_eql l (lo l f) (hi l f) l f t W
  go_enter Tryd.func22, Tryd.ntmps22
  go_wp2_with fail
  have HS : (w.alloc (.cells #[(.int .i64 l), (.int .i64 f), (.int .i64 t)] 38)).cell? ⟨w.heap.size, 0, none⟩ = some (.int .i64 l) ∧ (w.alloc (.cells #[(.int .i64 l), (.int .i64 f), (.int .i64 t)] 38)).cell? ⟨w.heap.size, 1, none⟩ = some (.int .i64 f) ∧ (w.alloc (.cells #[(.int .i64 l), (.int .i64 f), (.int .i64 t)] 38)).cell? ⟨w.heap.size, 2, none⟩ = some (.int .i64 t) := ⟨by go_simp, by go_simp, by go_simp⟩
  go_region_held3 (fun W => W.cell? ⟨w.heap.size, 0, none⟩ = some (.int .i64 l) ∧ W.cell? ⟨w.heap.size, 1, none⟩ = some (.int .i64 f) ∧ W.cell? ⟨w.heap.size, 2, none⟩ = some (.int .i64 t)) (first | exact HS | exact ⟨by go_simp, by go_simp, by go_simp⟩ | go_keep) (first | (go_at_call 37; refine (level_any _ _).mono ?_; rintro e w' ⟨rfl, rfl⟩) | (go_at_call 38; refine (around_any l f _ (hT.out.below ((((Below.refl _ _).alloc (Nat.le_refl _) _)).drew)) l0 l1 f0 f1).mono ?_; rintro e w1 ⟨rfl, hb⟩; obtain ⟨hc, hf⟩ := bcell hb))
  go_wp2
  go_ret
  exact ⟨rfl, (((Below.refl _ _).alloc (Nat.le_refl _) _).drew).trans (hb.mono (by simp))⟩

theorem level_eq (n : Int) (b : Bool) (w : World) (h : (decide (0 ≤ n) && decide (n ≤ 4)) = b) : Calls Tryd.prog 37 #[(.int .i64 n)] w fun e w' => e = .returned (.bool b) ∧ w' = w :=
  (level_any n w).mono fun _ _ h' => ⟨by rw [h'.1, h], h'.2.symm⟩

set_option maxHeartbeats 1000000 in
theorem valid_no (l f t : Int) (w : World) (h : l < 0 ∨ (0 ≤ l ∧ 4 < l) ∨ (0 ≤ l ∧ l ≤ 4 ∧ f < 0) ∨ (0 ≤ l ∧ l ≤ 4 ∧ 0 ≤ f ∧ 1402560 ≤ f)) :
    Calls Tryd.prog 22 #[(.agg #[(.int .i64 l), (.int .i64 f), (.int .i64 t)])] w fun e w' => e = .returned (.bool false) ∧ Below w.heap.size w w' := by
  have fin : ∀ b : Bool, (decide (0 ≤ l) && decide (l ≤ 4)) = b → (b = false ∨ b = true ∧ (decide (0 ≤ f) = false ∨ (decide (0 ≤ f) = true ∧ decide (f < 1402560) = false))) → Calls Tryd.prog 22 #[(.agg #[(.int .i64 l), (.int .i64 f), (.int .i64 t)])] w fun e w' => e = .returned (.bool false) ∧ Below w.heap.size w w' := by
    intro b hb hf
    have HL : Hid (∀ W, Calls Tryd.prog 37 #[(.int .i64 l)] W fun e w' => e = .returned (.bool b) ∧ w' = W) := fun W => level_eq l b W hb
    clear hb h
    rcases hf with rfl | ⟨rfl, h1 | ⟨h1, h2⟩⟩
    all_goals
      go_enter Tryd.func22, Tryd.ntmps22
      go_wp2_with fail
      go_quiet ((go_at_call 37; exact Calls.quiet_of_same (HL.out _)))
      go_wp2
      go_ret
      exact ⟨rfl, below_drewN ((Below.refl _ _).alloc (Nat.le_refl _) _) _⟩
  refine fin _ rfl ?_
  simp only [Bool.and_eq_false_iff, decide_eq_false_iff_not, Bool.and_eq_true, decide_eq_true_eq]
  omega

theorem valid_any (l f t : Int) (w : World) (hT : Hid (TabOK w)) : Calls Tryd.prog 22 #[(.agg #[(.int .i64 l), (.int .i64 f), (.int .i64 t)])] w fun e w' => e = .returned (.bool (validB l f t)) ∧ Below w.heap.size w w' := by
  by_cases h : 0 ≤ l ∧ l ≤ 4 ∧ 0 ≤ f ∧ f < 1402560
  · have e : validB l f t = (lo l f == f && hi l f == t) := by simp [validB, h]
    rw [e]; exact valid_yes l f t w hT h.1 h.2.1 h.2.2.1 h.2.2.2
  · have e : validB l f t = false := by
      simp only [validB, Bool.and_eq_false_iff, decide_eq_false_iff_not]; omega
    rw [e]; exact valid_no l f t w (by omega)

theorem block_yes (l t : Int) (w : World) (hT : Hid (TabOK w)) (l0 : 0 ≤ l) (l1 : l ≤ 4) (t0 : 0 ≤ t) (t1 : t < 1402560) :
    Calls Tryd.prog 16 #[(.int .i64 l), (.int .i64 t)] w fun e w' => e = .returned (.tuple #[(.agg #[(.int .i64 l), (.int .i64 (lo l t)), (.int .i64 (hi l t))]), (.int .i64 0)]) ∧ Below w.heap.size w w' := by
  have b1 : decide (t < 0) = false := by simp; omega
  have b2 : decide (1402560 ≤ t) = false := by simp; omega
  have HL : Hid (∀ W, Calls Tryd.prog 37 #[(.int .i64 l)] W fun e w' => e = .returned (.bool true) ∧ w' = W) := fun W => level_eq l true W (by simp; omega)
  go_enter Tryd.func16, Tryd.ntmps16
  go_wp2_with fail
  refine (HL.out _).mono ?_
  rintro e w1 ⟨rfl, rfl⟩
  go_wp2_with fail
  refine (around_any l t _ (hT.out.below ((Below.refl _ _).alloc (Nat.le_refl _) _)) l0 l1 t0 t1).mono ?_
  rintro e w1 ⟨rfl, hb⟩
  have hB : Below w.heap.size w w1 := ((Below.refl _ _).alloc (Nat.le_refl _) _).trans (hb.mono (by simp))
  obtain ⟨hc, hf⟩ := bcell hb
  have hz : w.heap.size < w1.heap.size := by have := hb.size; simp at this; omega
  go_wp2
  exact bodyPost_ret (v := .tuple #[(.agg #[(.int .i64 l), (.int .i64 (lo l t)), (.int .i64 (hi l t))]), (.int .i64 0)]) (by simp [results, Tryd.results16, go_sem, hc]) rfl
    ⟨rfl, ((hB.setCell (by simp) _).setCell (by simp) _).setCell (by simp) _⟩

theorem block_no (l t : Int) (w : World) (h : ¬ (0 ≤ l ∧ l ≤ 4 ∧ 0 ≤ t ∧ t < 1402560)) :
    Calls Tryd.prog 16 #[(.int .i64 l), (.int .i64 t)] w fun e w' => e = .returned (.tuple #[(.agg #[(.int .i64 0), (.int .i64 0), (.int .i64 0)]), (.int .i64 3)]) ∧ Below w.heap.size w w' := by
  have fin : ∀ b : Bool, (decide (0 ≤ l) && decide (l ≤ 4)) = b → (b = false ∨ b = true ∧ (decide (t < 0) = true ∨ (decide (t < 0) = false ∧ decide (1402560 ≤ t) = true))) → Calls Tryd.prog 16 #[(.int .i64 l), (.int .i64 t)] w fun e w' => e = .returned (.tuple #[(.agg #[(.int .i64 0), (.int .i64 0), (.int .i64 0)]), (.int .i64 3)]) ∧ Below w.heap.size w w' := by
    intro b hb hf
    have HL : Hid (∀ W, Calls Tryd.prog 37 #[(.int .i64 l)] W fun e w' => e = .returned (.bool b) ∧ w' = W) := fun W => level_eq l b W hb
    clear hb h
    rcases hf with rfl | ⟨rfl, h1 | ⟨h1, h2⟩⟩
    all_goals
      go_enter Tryd.func16, Tryd.ntmps16
      go_wp2_with fail
      refine (HL.out _).mono ?_
      rintro e w1 ⟨rfl, rfl⟩
      go_wp2_with fail
      exact bodyPost_ret (v := .tuple #[(.agg #[(.int .i64 0), (.int .i64 0), (.int .i64 0)]), (.int .i64 3)]) (by simp [results, Tryd.results16, go_sem]) rfl ⟨rfl, (Below.refl _ _).alloc (Nat.le_refl _) _⟩
  refine fin _ rfl ?_
  simp only [Bool.and_eq_false_iff, decide_eq_false_iff_not, Bool.and_eq_true, decide_eq_true_eq]
  omega

/-- Parent's error -/
def parE (l f t : Int) : Int := if validB l f t = true then (if l = 4 then 8 else 0) else 1
theorem parent_no (l f t : Int) (w : World) (hT : Hid (TabOK w)) (h : validB l f t = false ∨ validB l f t = true ∧ l = 4) :
    Calls Tryd.prog 18 #[(.agg #[(.int .i64 l), (.int .i64 f), (.int .i64 t)])] w fun e w' => e = .returned (.tuple #[(.agg #[(.int .i64 0), (.int .i64 0), (.int .i64 0)]), (.int .i64 (parE l f t))]) ∧ Below w.heap.size w w' := by
  have fin : ∀ b : Bool, validB l f t = b → (b = false ∧ parE l f t = 1 ∨ b = true ∧ (l == 4) = true ∧ parE l f t = 8) → Calls Tryd.prog 18 #[(.agg #[(.int .i64 l), (.int .i64 f), (.int .i64 t)])] w fun e w' => e = .returned (.tuple #[(.agg #[(.int .i64 0), (.int .i64 0), (.int .i64 0)]), (.int .i64 (parE l f t))]) ∧ Below w.heap.size w w' := by
    intro b hb hf
    have HV : Hid (∀ W, TabOK W → Calls Tryd.prog 22 #[(.agg #[(.int .i64 l), (.int .i64 f), (.int .i64 t)])] W fun e w' => e = .returned (.bool b) ∧ Below W.heap.size W w') := fun W hT => by
      have := valid_any l f t W hT
      rwa [hb] at this
    clear hb h
    rcases hf with ⟨rfl, hp⟩ | ⟨rfl, h1, hp⟩
    all_goals
      have HP := Lib.hid hp
      clear hp
      go_enter Tryd.func18, Tryd.ntmps18
      go_wp2_with fail
      refine (HV.out _ (hT.out.below (((Below.refl _ _).alloc (Nat.le_refl _) _).alloc (by simp) _))).mono ?_
      rintro e w1 ⟨rfl, hb⟩
      have hB : Below w.heap.size w w1 := (((Below.refl _ _).alloc (Nat.le_refl _) _).alloc (by simp) _).trans (hb.mono (by simp; omega))
      obtain ⟨hc, hf⟩ := bcell hb
      have hz : w.heap.size + 1 < w1.heap.size := by have := hb.size; simp at this; omega
      go_wp2
      refine bodyPost_ret (v := .tuple #[(.agg #[(.int .i64 0), (.int .i64 0), (.int .i64 0)]), (.int .i64 (parE l f t))]) ?_ rfl ⟨rfl, ((hB.setCell (by simp) _).setCell (by simp) _).setCell (by simp) _⟩
      rw [HP.out]
      simp [results, Tryd.results18, go_sem, hc]
  refine fin _ rfl ?_
  rcases h with h | ⟨h, rfl⟩
  · exact .inl ⟨h, by simp [parE, h]⟩
  · exact .inr ⟨h, rfl, by simp [parE, h]⟩

theorem parent_yes (l f t : Int) (w : World) (hT : Hid (TabOK w)) (h : validB l f t = true) (h4 : l ≠ 4) :
    Calls Tryd.prog 18 #[(.agg #[(.int .i64 l), (.int .i64 f), (.int .i64 t)])] w fun e w' => e = .returned (.tuple #[(.agg #[(.int .i64 (l + 1)), (.int .i64 (lo (l + 1) f)), (.int .i64 (hi (l + 1) f))]), (.int .i64 0)]) ∧ Below w.heap.size w w' := by
  have HV : Hid (∀ W, TabOK W → Calls Tryd.prog 22 #[(.agg #[(.int .i64 l), (.int .i64 f), (.int .i64 t)])] W fun e w' => e = .returned (.bool true) ∧ Below W.heap.size W w') := fun W hT => by
    have := valid_any l f t W hT
    rwa [h] at this
  simp only [validB, Bool.and_eq_true, decide_eq_true_eq, beq_iff_eq] at h
  obtain ⟨⟨⟨⟨⟨h1, h2⟩, h3⟩, h5⟩, -⟩, -⟩ := h
  have hb4 : (l == 4) = false := by simpa using h4
  go_enter Tryd.func18, Tryd.ntmps18
  go_wp2_with fail
  refine (HV.out _ (hT.out.below (((Below.refl _ _).alloc (Nat.le_refl _) _).alloc (by simp) _))).mono ?_
  rintro e w1 ⟨rfl, hb⟩
  have hB : Below w.heap.size w w1 := (((Below.refl _ _).alloc (Nat.le_refl _) _).alloc (by simp) _).trans (hb.mono (by simp; omega))
  obtain ⟨hc, hf⟩ := bcell hb
  have hz : w.heap.size + 1 < w1.heap.size := by have := hb.size; simp at this; omega
  go_wp2_with fail
  refine (around_any (l + 1) f _ (hT.out.below hB) (by omega) (by omega) h3 h5).mono ?_
  rintro e w2 ⟨rfl, hb2⟩
  have hB2 : Below w.heap.size w w2 := hB.trans (hb2.mono (by have := hb.size; simp at this; omega))
  obtain ⟨hc2, hf2⟩ := bcell hb2
  have hz2 : w1.heap.size ≤ w2.heap.size := hb2.size
  go_wp2
  exact bodyPost_ret (v := .tuple #[(.agg #[(.int .i64 (l + 1)), (.int .i64 (lo (l + 1) f)), (.int .i64 (hi (l + 1) f))]), (.int .i64 0)]) (by simp [results, Tryd.results18, go_sem, hc, hc2, hz]) rfl ⟨rfl, ((hB2.setCell (by simp) _).setCell (by simp) _).setCell (by simp) _⟩
end Go.Proofs.YtfcfdphkaildiaaDoor
