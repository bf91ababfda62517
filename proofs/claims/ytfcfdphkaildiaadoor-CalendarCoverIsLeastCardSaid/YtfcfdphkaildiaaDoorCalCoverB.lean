/- Walks of the calendar: Cover, whole. Conditions: TabOK; for the answer with blocks, the interval lies in the calendar. -/
import Derived.Test.YtfcfdphkaildiaaDoorCalCover
import Derived.Test.YtfcfdphkaildiaaDoorCalWalkI
import Derived.Laws.EntriesVeiled
namespace Go.Proofs.YtfcfdphkaildiaaDoor
open Go Go.Proofs Go.RowKit
attribute [local go_sem] Oper.semAt_some

theorem cov_all (bc bo : Nat) : ∀ (n : Nat) (f t : Int), n ≤ 4 → 0 ≤ f → t ≤ 1402560 → CovSays (n : Int) f t bc bo (covN n f t)
  | 0, f, t, _, f0, ht => by
    by_cases hft : t ≤ f
    · have : covN 0 f t = [] := by unfold covN covOne; rw [if_pos hft]
      rw [this]; exact cov_nothing _ _ _ _ _ hft
    obtain ⟨hne, hch⟩ := insL_zero f0 ht (by omega)
    have hend := hch.atEnd f (fun h => absurd h hne)
    have hlen := hch.le
    have hfirst : ∀ x tl, insL 0 f t = x :: tl → ¬ f < x.2.1 := fun x tl hx => by rw [hx] at hch; have := hch.1; omega
    have he : covN 0 f t = [] ++ insL 0 f t ++ [] := by
      unfold covN covOne
      rw [if_neg hft, hend, if_neg (Int.lt_irrefl t)]
      cases hx : insL 0 f t with
      | nil => rfl
      | cons x tl => simp
    rw [he]
    refine cov_step 0 f t bc bo (by omega) (by omega) f0 (by omega) ht [] [] ?_ ?_ ?_ (by rw [hend]; exact Int.le_refl t)
    · cases hx : insL 0 f t with
      | nil => rfl
      | cons x tl => exact (if_neg (hfirst x tl hx)).mpr rfl
    · rw [hend, if_neg (Int.lt_irrefl t)]
    · rw [hend]; simp; omega
  | n + 1, f, t, hn, f0, ht => by
    by_cases hft : t ≤ f
    · have : covN (n + 1) f t = [] := by unfold covN covOne; rw [if_pos hft]
      rw [this]; exact cov_nothing _ _ _ _ _ hft
    have hl : ((n + 1 : Nat) : Int) = (n : Int) + 1 := by push_cast; rfl
    have hl1 : (n : Int) + 1 - 1 = (n : Int) := by omega
    have he : covN (n + 1) f t = (match insL ((n : Int) + 1) f t with | [] => [] | x :: _ => if f < x.2.1 then covN n f x.2.1 else []) ++ insL ((n : Int) + 1) f t ++ (if atEnd f (insL ((n : Int) + 1) f t) < t then covN n (atEnd f (insL ((n : Int) + 1) f t)) t else []) := by
      show covOne (covN n) ((n : Int) + 1) f t = _
      unfold covOne; rw [if_neg hft]
      cases insL ((n : Int) + 1) f t <;> rfl
    have hsh := insL_shape (l := (n : Int) + 1) (by omega) (by omega) f0 ht (by omega : f < t)
    rw [he, hl]
    have hend : f ≤ atEnd f (insL ((n : Int) + 1) f t) ∧ atEnd f (insL ((n : Int) + 1) f t) ≤ t := by
      rcases hsh with ⟨h, -⟩ | ⟨a, b, hne, -, hfa, hbt, hch, -⟩
      · rw [h]; exact ⟨Int.le_refl f, by show f ≤ t; omega⟩
      · rw [hch.atEnd f (fun h => absurd h hne)]; have := hch.le; omega
    refine cov_step ((n : Int) + 1) f t bc bo (by omega) (by omega) f0 (by omega) ht _ _ ?_ ?_ ?_ hend.2
    · cases hx : insL ((n : Int) + 1) f t with
      | nil => rfl
      | cons x tl =>
        show if f < x.2.1 then _ else _
        by_cases hlt : f < x.2.1
        · rw [if_pos hlt, hl1]
          show CovSays _ _ _ _ _ (if f < x.2.1 then covN n f x.2.1 else [])
          rw [if_pos hlt]
          refine cov_all bc bo n f x.2.1 (by omega) f0 ?_
          rcases hsh with ⟨h, -⟩ | ⟨a, b, hne, -, hfa, hbt, hch, -⟩
          · rw [h] at hx; cases hx
          · rw [hx] at hch; have := hch.1; have := hch.2.1; have := hch.2.2.le; omega
        · rw [if_neg hlt]
          show (if f < x.2.1 then covN n f x.2.1 else []) = []
          rw [if_neg hlt]
    · by_cases hlt : atEnd f (insL ((n : Int) + 1) f t) < t
      · rw [if_pos hlt, if_pos hlt, hl1]
        exact cov_all bc bo n _ t (by omega) (by omega) ht
      · rw [if_neg hlt, if_neg hlt]
    · rcases hsh with ⟨h, -⟩ | ⟨a, b, hne, -, hfa, hbt, hch, -⟩
      · rw [h]; show ((0 : Nat) : Int) + ((0 : Nat) : Int) ≤ f - f; omega
      · rw [hch.atEnd f (fun h => absurd h hne)]
        cases hx : insL ((n : Int) + 1) f t with
        | nil => exact absurd hx hne
        | cons x tl =>
          rw [hx] at hch
          have h1 := hch.1
          have h2 := hch.le
          have h3 := covN_len n f x.2.1 (by omega) f0 (by have := hch.2.1; have := hch.2.2.le; omega)
          show (((if f < x.2.1 then covN n f x.2.1 else []).length : Nat) : Int) + _ ≤ _
          by_cases hlt : f < x.2.1
          · rw [if_pos hlt]; omega
          · rw [if_neg hlt]; simp only [List.length_nil]; omega

theorem cover_yes (f t : Int) (w : World) (hT : Hid (TabOK w)) (h : ivB f t = true) : Calls Tryd.prog 28 #[(.int .i64 f), (.int .i64 t)] w (RetBins (covN 4 f t) 0 w) := by
  refine callsIn_wide (n := 0).1 ?_
  refine callsIn_of_wp_marks Tryd.func28 rfl trivial ?_ rfl
  simp only [Tryd.ntmps28, List.size_toArray, List.length_cons, List.length_nil, Nat.reduceAdd, Nat.reduceSub, Array.replicate_succ, Array.replicate_zero, List.push_toArray, List.append_toArray, List.nil_append, List.cons_append]
  have HI : Hid (∀ W, Calls Tryd.prog 42 #[(.int .i64 f), (.int .i64 t)] W fun e w' => e = .returned (.bool true) ∧ w' = W) := fun W => interval_eq f t true W h
  obtain ⟨f0, ft, tb⟩ := ivB_iff.1 h
  clear h
  gi_wp2_with fail
  refine ⟨trivial, rfl, (callsIn_wide.2 (HI.out _)).mono ?_⟩
  rintro e w1 ⟨rfl, rfl⟩
  gi_wp2_with fail
  obtain ⟨W2, hW2⟩ : ∃ W2, W2 = (w1.alloc (.cells #[.slice none 0 0] 46)).alloc (.cells #[covCell (w1.heap.size + 1) w1.heap.size] 77) := ⟨_, rfl⟩
  have hi7 := World.alloc_heap_new (w1.alloc (.cells #[.slice none 0 0] 46)) (.cells #[covCell (w1.heap.size + 1) w1.heap.size] 77)
  rw [World.size_alloc, ← hW2] at hi7
  have hi6 : W2.heap[w1.heap.size]? = some (.cells #[.slice none 0 0] 46 (0, 0)) := by
    rw [hW2]
    exact (((Turned.refl (fun _ => False) _).alloc _).block _ (by simp) id).trans (World.alloc_heap_new _ _)
  have tA : Turned (fun _ => False) w1 W2 := by rw [hW2]; exact ((Turned.refl _ _).alloc _).alloc _
  have hs2 : W2.heap.size = w1.heap.size + 2 := by rw [hW2]; simp
  have hp := hT.out.pos
  have hcall := cov_all (w1.heap.size + 1) w1.heap.size 4 f t (by omega) f0 tb (fun g => w1.heap.size + 2 ≤ g) [] W2 (hT.out.turned tA id) hi7 (Col.start hi6) (fun g hg => by omega) (by omega) (by omega) (by omega) (by omega) (by omega) (by simp; omega)
  refine ⟨trivial, rfl, ?_⟩
  rw [show ((w1.alloc (.cells #[.slice none 0 0] 46)).alloc (.cells #[.func (.func 43) #[] #[.pointer (some ⟨w1.heap.size + 1, 0, none⟩), .pointer (some ⟨w1.heap.size, 0, none⟩)]] 77)) = W2 from hW2.symm]
  refine (callsIn_wide.2 hcall).mono ?_
  rintro e V ⟨rfl, hcol, htur⟩
  have hB : Below w1.heap.size w1 V := ((tA.mono fun _ h => h.elim).trans htur).below (Nat.le_refl _) (by intro k hk; omega)
  obtain ⟨v, hbox, hown, hvG⟩ := hcol
  have cb := cell_of_box hbox
  have HO := Lib.hid (And.intro hown (And.intro hB hbox))
  obtain ⟨va, vc, hv⟩ := owns_shape hown
  subst hv
  clear hown hB hbox hvG htur hi6 hi7 tA hs2 hW2
  simp only [List.nil_append] at cb HO
  gi_wp2
  exact ⟨_, results_tmp2 rfl _ _ _, _, rfl, reads_of_owns HO.out.1, HO.out.2.1⟩

theorem cover_no (f t : Int) (w : World) (h : ivB f t = false) : Calls Tryd.prog 28 #[(.int .i64 f), (.int .i64 t)] w (RetBins [] 3 w) := by
  have HI : Hid (∀ W, Calls Tryd.prog 42 #[(.int .i64 f), (.int .i64 t)] W fun e w' => e = .returned (.bool false) ∧ w' = W) := fun W => interval_eq f t false W h
  clear h
  refine callsIn_wide (n := 0).1 ?_
  refine callsIn_of_wp_marks Tryd.func28 rfl trivial ?_ rfl
  simp only [Tryd.ntmps28, List.size_toArray, List.length_cons, List.length_nil, Nat.reduceAdd, Nat.reduceSub, Array.replicate_succ, Array.replicate_zero, List.push_toArray, List.append_toArray, List.nil_append, List.cons_append]
  gi_wp2_with fail
  refine ⟨trivial, rfl, (callsIn_wide.2 (HI.out _)).mono ?_⟩
  rintro e w1 ⟨rfl, rfl⟩
  gi_wp2
  exact ⟨_, results_tmp2 rfl _ _ _, _, rfl, .inl ⟨rfl, rfl⟩, Below.refl _ _⟩

end Go.Proofs.YtfcfdphkaildiaaDoor
