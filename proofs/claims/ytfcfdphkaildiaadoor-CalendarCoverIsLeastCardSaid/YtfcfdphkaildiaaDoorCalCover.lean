/- Walks of the calendar: Cover and its closure. Conditions: TabOK; the interval lies in the calendar. -/
import Derived.Test.YtfcfdphkaildiaaDoorCalWalkI
import Derived.Test.YtfcfdphkaildiaaDoorCalPlainD
import Derived.Test.YtfcfdphkaildiaaDoorColLaw
namespace Go.Proofs.YtfcfdphkaildiaaDoor
open Go Go.Proofs Go.RowKit
attribute [local go_sem] Oper.semAt_some

theorem TabOK.turned {C : Nat → Prop} {w w' : World} (h : TabOK w) (ht : Turned C w w') (h0 : ¬ C 0) : TabOK w' := fun i hi => (ht.cell (p := ⟨0, i, none⟩) h.pos h0).trans (h i hi)

/-- the cell that holds the closure -/
def covCell (bc bo : Nat) : Value := .func (.func 43) #[] #[.pointer (some ⟨bc, 0, none⟩), .pointer (some ⟨bo, 0, none⟩)]

/-- what the closure does: it collects the blocks of the list behind those that are there -/
def CovSays (l f t : Int) (bc bo : Nat) (xs : List Bn) : Prop := ∀ (G : Nat → Prop) (bs : List Bn) (w : World), TabOK w → w.heap[bc]? = some (.cells #[covCell bc bo] 77 (0, 0)) →
  Col w bo 46 G 38 3 binCells bs → (∀ g, w.heap.size ≤ g → G g) → ¬ G 0 → ¬ G bc → ¬ G bo → bo ≠ bc → bo ≠ 0 → (bs.length : Int) + (t - f) ≤ 1402560 →
  Calls Tryd.prog 43 #[(.int .i64 l), (.int .i64 f), (.int .i64 t), .pointer (some ⟨bc, 0, none⟩), .pointer (some ⟨bo, 0, none⟩)] w fun e w' => e = .returned (.tuple #[]) ∧ Col w' bo 46 G 38 3 binCells (bs ++ xs) ∧ Turned (fun k => k = bo ∨ G k) w w'

theorem cov_nothing (l f t : Int) (bc bo : Nat) (h : t ≤ f) : CovSays l f t bc bo [] := by
  intro G bs w hT hcov hO hG g0 gc go ne ne0 hlen
  refine callsIn_wide (n := 0).1 ?_
  refine callsIn_of_wp_marks Tryd.func43 rfl trivial ?_ rfl
  simp only [Tryd.ntmps43, List.size_toArray, List.length_cons, List.length_nil, Nat.reduceAdd, Nat.reduceSub, Array.replicate_succ, Array.replicate_zero, List.push_toArray, List.append_toArray, List.nil_append, List.cons_append]
  have hC : Hid (Col ((w.alloc (.cells #[(.int .i64 l)] 3)).alloc (.cells #[(.int .i64 f)] 3)) bo 46 G 38 3 binCells (bs ++ [])) := by
    rw [List.append_nil]
    exact hO.turned (((Turned.refl (fun _ => False) w).alloc _).alloc _) (fun k h => h.elim)
  clear hT hcov hO hG g0 gc go ne ne0 hlen
  gi_wp2
  exact ⟨_, results_none rfl _ _ _, rfl, hC.out, ((Turned.refl _ w).alloc _).alloc _⟩

/-- what has been collected when k blocks have come -/
def preL (ys xs : List Bn) (k : Nat) : List Bn := if k = 0 then [] else ys ++ xs.take k
theorem preL_zero (ys xs : List Bn) : preL ys xs 0 = [] := rfl
theorem preL_succ (ys xs : List Bn) (k : Nat) (x : Bn) (hx : xs[k]? = some x) : preL ys xs (k + 1) = (if k = 0 then ys else preL ys xs k) ++ [x] := by
  have hk : k < xs.length := (List.getElem?_eq_some_iff.1 hx).1
  have ht : xs.take (k + 1) = xs.take k ++ [x] := by
    rw [List.take_succ_eq_append_getElem hk]; rw [List.getElem?_eq_getElem hk] at hx; simp at hx; rw [hx]
  unfold preL
  rw [if_neg (by omega), ht]
  by_cases h : k = 0
  · subst h; simp
  · simp [h]

/-- what is so between two rounds beside the list -/
structure CovI (l f : Int) (w : World) (bc bo : Nat) (G : Nat → Prop) (at_ : Int) (W : World) : Prop where
  b5 : W.heap[w.heap.size]? = some (.cells #[(.int .i64 l)] 3 (0, 0))
  b6 : W.heap[w.heap.size + 1]? = some (.cells #[(.int .i64 f)] 3 (0, 0))
  b8 : W.heap[w.heap.size + 2]? = some (.cells #[(.int .i64 at_)] 3 (0, 0))
  cov : W.heap[bc]? = some (.cells #[covCell bc bo] 77 (0, 0))
  tab : TabOK W
  tur : Turned (fun k => k = bo ∨ G k) w W
theorem CovI.turned {l f : Int} {w : World} {bc bo : Nat} {G C : Nat → Prop} {at_ : Int} {W W' : World} (h : CovI l f w bc bo G at_ W) (ht : Turned C W W') (hC : ∀ j, (j = 0 ∨ j = bc ∨ j = w.heap.size ∨ j = w.heap.size + 1 ∨ j = w.heap.size + 2) → ¬ C j) (hG : ∀ j, C j → j = bo ∨ G j)
    : CovI l f w bc bo G at_ W' :=
  ⟨(ht.block _ (getElem?_lt h.b5) (hC _ (by omega))).trans h.b5, (ht.block _ (getElem?_lt h.b6) (hC _ (by omega))).trans h.b6, (ht.block _ (getElem?_lt h.b8) (hC _ (by omega))).trans h.b8, (ht.block _ (getElem?_lt h.cov) (hC _ (by omega))).trans h.cov, h.tab.turned ht (hC 0 (.inl rfl)), h.tur.trans (ht.mono hG)⟩

theorem cov_end {l f : Int} {w W V w2 : World} {bc bo N M S3 k : Nat} {G : Nat → Prop} {at_ : Int} {bs acc ys xs : List Bn} {x : Bn} (hG : ∀ g, w.heap.size ≤ g → G g) (g0 : ¬ G 0) (gc : ¬ G bc) (hbo : bo < w.heap.size) (hbc : bc < w.heap.size) (ne : bo ≠ bc) (ne0 : bo ≠ 0)
    (hMW : M ≤ W.heap.size) (h6N : w.heap.size + 6 ≤ N) (hs1 : w.heap.size + 6 ≤ S3) (hs2 : S3 ≤ w.heap.size + 6) (hsz : S3 + 2 ≤ W.heap.size)
    (hcI : CovI l f w bc bo G at_ W) (hTV : Turned (fun j => j = bo ∨ ((G j ∧ (j < w.heap.size ∨ w.heap.size + 8 ≤ j)) ∧ (j < N ∨ W.heap.size ≤ j))) W V)
    (hC : Col w2 bo 46 (fun j => (G j ∧ (j < w.heap.size ∨ w.heap.size + 8 ≤ j)) ∧ (j < N ∨ W.heap.size ≤ j)) 38 3 binCells (acc ++ [x]))
    (hT2 : Turned (fun j => j = bo ∨ ((G j ∧ (j < w.heap.size ∨ w.heap.size + 8 ≤ j)) ∧ (j < N ∨ W.heap.size ≤ j))) V w2) (hacc : acc ++ [x] = bs ++ preL ys xs (k + 1)) (hat : atEnd f (xs.take (k + 1)) = x.2.2) :
    Kept (fun j => (((j = 0 ∨ j = w.heap.size + 5 ∨ j = w.heap.size + 3) ∨ j = w.heap.size + 4) ∨ (N ≤ j ∧ j < M)) ∨ j = S3 ∨ j = S3 + 1) W (w2.setCell ⟨w.heap.size + 2, 0, none⟩ (.int .i64 (x.2.2))) ∧
    (Col (w2.setCell ⟨w.heap.size + 2, 0, none⟩ (.int .i64 (x.2.2))) bo 46 (fun j => (G j ∧ (j < w.heap.size ∨ w.heap.size + 8 ≤ j)) ∧ j < (w2.setCell ⟨w.heap.size + 2, 0, none⟩ (.int .i64 (x.2.2))).heap.size) 38 3 binCells (bs ++ preL ys xs (k + 1)) ∧
      w.heap.size + 6 ≤ (w2.setCell ⟨w.heap.size + 2, 0, none⟩ (.int .i64 (x.2.2))).heap.size ∧ CovI l f w bc bo G (atEnd f (xs.take (k + 1))) (w2.setCell ⟨w.heap.size + 2, 0, none⟩ (.int .i64 (x.2.2)))) := by
  have ht := hTV.trans hT2
  have t8 : Turned (fun j => j = w.heap.size + 2) w2 (w2.setCell ⟨w.heap.size + 2, 0, none⟩ (.int .i64 (x.2.2))) := (Turned.refl (fun j => j = w.heap.size + 2) w2).setCell (p := ⟨w.heap.size + 2, 0, none⟩) rfl _
  have hsw := ht.size
  have hs8 := t8.size
  have keep : ∀ j, j < W.heap.size → j ≠ bo → ¬ ((G j ∧ (j < w.heap.size ∨ w.heap.size + 8 ≤ j)) ∧ (j < N ∨ W.heap.size ≤ j)) → j ≠ w.heap.size + 2 → (w2.setCell ⟨w.heap.size + 2, 0, none⟩ (.int .i64 (x.2.2))).heap[j]? = W.heap[j]? := fun j h1 h2 h3 h4 =>
    (t8.block j (by omega) h4).trans (ht.block j h1 (fun h => h.elim h2 h3))
  refine ⟨⟨by omega, fun j hj => keep j (by omega) (by omega) ?_ (by omega)⟩, ?_, by omega, ?_⟩
  · rintro ⟨⟨h1, h2⟩, h3⟩
    rcases hj with (((rfl | h | h) | h) | h) | h | h
    · exact g0 h1
    all_goals omega
  · rw [← hacc]
    refine (hC.turned t8 (fun j hj => ⟨fun hg => by omega, by omega⟩)).imp (fun g hg h => ⟨h.1, hg⟩)
  · rw [hat]
    have kb : ∀ j, (j = w.heap.size ∨ j = w.heap.size + 1) → (w2.setCell ⟨w.heap.size + 2, 0, none⟩ (.int .i64 (x.2.2))).heap[j]? = W.heap[j]? := fun j hj => keep j (by omega) (by omega) (fun h => by omega) (by omega)
    have h8 : w2.heap[w.heap.size + 2]? = some (.cells #[(.int .i64 at_)] 3 (0, 0)) := (ht.block _ (by omega) (fun h => by omega)).trans hcI.b8
    refine ⟨(kb _ (.inl rfl)).trans hcI.b5, (kb _ (.inr rfl)).trans hcI.b6, box_setCell _ h8, (keep bc (by omega) (fun h => ne h.symm) (fun h => gc h.1.1) (by omega)).trans hcI.cov, ?_, ?_⟩
    · refine (hcI.tab.turned ht ?_).turned t8 (by omega)
      rintro (h | h)
      · exact ne0 h.symm
      · exact g0 h.1.1
    · exact (hcI.tur.trans (ht.mono fun j h => h.imp id (fun h => h.1.1))).trans (t8.mono fun j h => .inr (hG j (by omega)))

set_option maxHeartbeats 2000000 in
theorem cov_step (l f t : Int) (bc bo : Nat) (l0 : 0 ≤ l) (l1 : l ≤ 4) (f0 : 0 ≤ f) (hft : f < t) (ht : t ≤ 1402560) (ys zs : List Bn)
    (hy : match insL l f t with | [] => ys = [] | x :: _ => if f < x.2.1 then CovSays (l - 1) f x.2.1 bc bo ys else ys = [])
    (hz : if atEnd f (insL l f t) < t then CovSays (l - 1) (atEnd f (insL l f t)) t bc bo zs else zs = [])
    (hsum : (ys.length : Int) + (insL l f t).length ≤ atEnd f (insL l f t) - f) (hend : atEnd f (insL l f t) ≤ t) : CovSays l f t bc bo (ys ++ insL l f t ++ zs) := by
  intro G bs w hT hcov hO hG g0 gc go ne ne0 hlen
  refine callsIn_wide (n := 0).1 ?_
  refine callsIn_of_wp_marks Tryd.func43 rfl trivial ?_ rfl
  simp only [Tryd.ntmps43, List.size_toArray, List.length_cons, List.length_nil, Nat.reduceAdd, Nat.reduceSub, Array.replicate_succ, Array.replicate_zero, List.push_toArray, List.append_toArray, List.nil_append, List.cons_append]
  have HA := Lib.hid (And.intro hT (And.intro hcov (And.intro hO hG)))
  clear hT hcov hO hG
  have HY := Lib.hid hy
  have HZ := Lib.hid hz
  clear hy hz
  have tf : decide (t ≤ f) = false := by simp; omega
  gi_wp2_with fail
  refine ⟨trivial, rfl, (callsIn_wide.2 (inside_any l f t _)).mono ?_⟩
  rintro e w2 ⟨rfl, rfl⟩
  gi_wp2_with fail
  obtain ⟨hT, hcov, hO, hG⟩ := HA.out
  obtain ⟨W3, hW3⟩ : ∃ W3, W3 = (((((w.alloc (.cells #[(.int .i64 l)] 3)).alloc (.cells #[(.int .i64 f)] 3)).alloc (.cells #[(.int .i64 f)] 3)).alloc (.cells #[(.int .i64 l)] 3)).alloc (.cells #[(.int .i64 f)] 3)).alloc (.cells #[(.int .i64 t)] 3) := ⟨_, rfl⟩
  have sz3 : W3.heap.size = w.heap.size + 6 := by rw [hW3]; simp
  have hTn : ∀ C, Turned C w W3 := fun C => by rw [hW3]; exact ((((((Turned.refl C _).alloc _).alloc _).alloc _).alloc _).alloc _).alloc _
  have box5 : W3.heap[w.heap.size]? = some (.cells #[(.int .i64 l)] 3 (0, 0)) := by
    rw [hW3]
    exact ((((((Turned.refl (fun _ => False) _).alloc _).alloc _).alloc _).alloc _).alloc _ |>.block _ (by simp) id).trans (World.alloc_heap_new _ _)
  have box6 : W3.heap[w.heap.size + 1]? = some (.cells #[(.int .i64 f)] 3 (0, 0)) := by
    rw [hW3]
    have := World.alloc_heap_new (w.alloc (.cells #[(.int .i64 l)] 3)) (.cells #[(.int .i64 f)] 3)
    rw [World.size_alloc] at this
    exact (((((Turned.refl (fun _ => False) _).alloc _).alloc _).alloc _).alloc _ |>.block _ (by simp) id).trans this
  have box8 : W3.heap[w.heap.size + 2]? = some (.cells #[(.int .i64 f)] 3 (0, 0)) := by
    rw [hW3]
    have := World.alloc_heap_new ((w.alloc (.cells #[(.int .i64 l)] 3)).alloc (.cells #[(.int .i64 f)] 3)) (.cells #[(.int .i64 f)] 3)
    rw [World.size_alloc, World.size_alloc] at this
    exact ((((Turned.refl (fun _ => False) _).alloc _).alloc _).alloc _ |>.block _ (by simp) id).trans this
  have c3 : W3.cell? ⟨w.heap.size + 3, 0, none⟩ = some (.int .i64 l) ∧ W3.cell? ⟨w.heap.size + 4, 0, none⟩ = some (.int .i64 f) ∧ W3.frozen? ⟨w.heap.size + 4, 0, none⟩ = false ∧ W3.cell? ⟨w.heap.size + 5, 0, none⟩ = some (.int .i64 t) := by
    rw [hW3]; exact ⟨by go_simp, by go_simp, by go_simp, by go_simp⟩
  have hT3 : TabOK W3 := hT.turned (hTn (fun _ => False)) id
  have hw0 := hT.pos
  have hbc := getElem?_lt hcov
  have hbo : bo < w.heap.size := by obtain ⟨v, hv, -⟩ := hO; exact getElem?_lt hv
  have hit := inside_iter l f t (w.heap.size + 4) (w.heap.size + 5) (w.heap.size + 3) W3 l0 l1 f0 ht hT3 c3.2.1 c3.2.2.1 c3.2.2.2 c3.1 (by omega)
  have hlen2 := insL_len (l := l) (f := f) (t := t) l0 l1 f0 ht
  have hshape := insL_shape l0 l1 f0 ht hft
  rw [← hW3]
  have sz3a : W3.heap.size ≤ w.heap.size + 6 := by omega
  have sz3b : w.heap.size + 6 ≤ W3.heap.size := by omega
  generalize hxs : insL l f t = xs at *
  have HXS := Lib.hid hxs
  clear hxs
  have hO3 : Col W3 bo 46 (fun g => (G g ∧ (g < w.heap.size ∨ w.heap.size + 8 ≤ g)) ∧ g < W3.heap.size) 38 3 binCells (bs ++ preL ys xs 0) := by
    rw [preL_zero, List.append_nil]
    refine (hO.imp ?_).turned (hTn (fun _ => False)) (fun k h => h.elim)
    intro g hg hGg
    exact ⟨⟨hGg, .inl hg⟩, by omega⟩
  have hcov3 : W3.heap[bc]? = some (.cells #[covCell bc bo] 77 (0, 0)) := ((hTn (fun _ => False)).block bc hbc id).trans hcov
  have BX := Lib.hid (And.intro box5 (And.intro box6 (And.intro box8 (And.intro hcov3 hT3))))
  have HG := Lib.hid hG
  clear hW3 sz3 box5 box6 box8 hcov3 hT3 hT hcov hO hG HA c3
  have HSH := Lib.hid hshape
  clear hshape
  refine range_law (rfl : _ = Value.func (.func 45) #[] #[.pointer (some ⟨w.heap.size + 4, 0, none⟩), .pointer (some ⟨w.heap.size + 5, 0, none⟩), .pointer (some ⟨w.heap.size + 3, 0, none⟩)]) (enters_of Tryd.func45 (by kernel_rfl) rfl) hit (fun _ => rfl) (by intro k hk; omega)
    (fun k N W => Col W bo 46 (fun g => (G g ∧ (g < w.heap.size ∨ w.heap.size + 8 ≤ g)) ∧ g < N) 38 3 binCells (bs ++ preL ys xs k) ∧ w.heap.size + 6 ≤ N ∧ CovI l f w bc bo G (atEnd f (xs.take k)) W)
    (fun _ _ => False)
    ?monoN ?stab (fun _ _ _ h _ => h) ⟨hO3, by omega, ⟨BX.out.1, BX.out.2.1, BX.out.2.2.1, BX.out.2.2.2.1, BX.out.2.2.2.2, hTn _⟩⟩
    (fun x => #[(.int .i64 l), (.int .i64 f), (.int .i64 t), .pointer (some ⟨bc, 0, none⟩), .pointer (some ⟨bo, 0, none⟩), .pointer (some ⟨w.heap.size, 0, none⟩), .pointer (some ⟨w.heap.size + 1, 0, none⟩), undef, .pointer (some ⟨w.heap.size + 1 + 1, 0, none⟩), undef, (.int .i64 f), (.int .i64 t), .bool false, (.int .i64 f), (.int .i64 l), (.int .i64 f), (.int .i64 t), .func (.func 45) #[] #[.pointer (some ⟨w.heap.size + 1 + 1 + 1 + 1, 0, none⟩), .pointer (some ⟨w.heap.size + 1 + 1 + 1 + 2, 0, none⟩), .pointer (some ⟨w.heap.size + 1 + 1 + 1, 0, none⟩)], .agg #[(.int .i64 (x.1)), (.int .i64 (x.2.1)), (.int .i64 (x.2.2))], undef, undef, undef, undef, undef, undef, undef, undef, undef, undef, undef, undef, undef, undef, undef, undef, undef, undef, undef, undef, undef, undef, undef, undef, undef, undef, undef, undef, undef, undef, undef]) (fun x => by simp [binEncs])
    (fun k N M x a' W => Hid (∃ Bx, a' = { tmps := #[(.int .i64 l), (.int .i64 f), (.int .i64 t), .pointer (some ⟨bc, 0, none⟩), .pointer (some ⟨bo, 0, none⟩), .pointer (some ⟨w.heap.size, 0, none⟩), .pointer (some ⟨w.heap.size + 1, 0, none⟩), undef, .pointer (some ⟨w.heap.size + 1 + 1, 0, none⟩), .pointer (some ⟨Bx, 0, none⟩), (.int .i64 f), (.int .i64 t), .bool false, (.int .i64 f), (.int .i64 l), (.int .i64 f), (.int .i64 t), .func (.func 45) #[] #[.pointer (some ⟨w.heap.size + 1 + 1 + 1 + 1, 0, none⟩), .pointer (some ⟨w.heap.size + 1 + 1 + 1 + 2, 0, none⟩), .pointer (some ⟨w.heap.size + 1 + 1 + 1, 0, none⟩)], .agg #[(.int .i64 (x.1)), (.int .i64 (x.2.1)), (.int .i64 (x.2.2))], undef, undef, undef, undef, undef, undef, undef, undef, undef, undef, undef, undef, undef, undef, undef, undef, undef, undef, undef, undef, undef, undef, undef, undef, undef, undef, undef, undef, undef, undef, undef], defers := [] } ∧
      W.heap[Bx]? = some (.cells #[(.int .i64 (x.1)), (.int .i64 (x.2.1)), (.int .i64 (x.2.2))] 38 (0, 0)) ∧ M ≤ Bx ∧ W3.heap.size + 2 ≤ Bx ∧ Col W bo 46 (fun g => (G g ∧ (g < w.heap.size ∨ w.heap.size + 8 ≤ g)) ∧ g < N) 38 3 binCells (bs ++ preL ys xs k) ∧ w.heap.size + 6 ≤ N ∧ CovI l f w bc bo G (atEnd f (xs.take k)) W))
    ?stabA ?assign ?body ?done (fun _ _ h => h.elim)
  case monoN => exact fun k N N' A h hN => ⟨h.1.imp (fun g _ hg => ⟨hg.1, by omega⟩), by omega, h.2.2⟩
  case stab => exact fun k N A B h hN ht => ⟨h.1.turned ht (fun k hk => ⟨fun hg => by omega, by omega⟩), h.2.1, h.2.2.turned ht (fun j hj hk => by omega) (fun j hj => .inr (HG.out j (by omega)))⟩
  case stabA =>
    rintro k N M x a' A B ⟨Bx, h1, h2, h3, h4, h5, h6, h7⟩ ht
    exact ⟨Bx, h1, (ht.block Bx (getElem?_lt h2) (by omega)).trans h2, h3, h4, h5.turned ht (fun k hk => ⟨fun hg => by omega, by omega⟩), h6, h7.turned ht (fun j hj hk => by omega) (fun j hj => .inr (HG.out j (by omega)))⟩
  case assign =>
    rintro k N x W hx ⟨h1, h2, h3⟩ hN hsz
    have HH := Lib.hid (And.intro h1 (And.intro h2 h3))
    clear h1 h2 h3
    gi_wp2
    obtain ⟨h1, h2, h3⟩ := HH.out
    have ht := (Turned.refl (fun _ => False) W).alloc (.cells #[(.int .i64 (x.1)), (.int .i64 (x.2.1)), (.int .i64 (x.2.2))] 38)
    exact ⟨⟨W.heap.size, rfl, World.alloc_heap_new _ _, Nat.le_refl _, hsz, h1.turned ht (fun k h => h.elim), h2, h3.turned ht (fun j _ hk => hk) (fun j h => h.elim)⟩,
      ht.kept (by intro k hk; exact ⟨by omega, id⟩)⟩
  case body =>
    rintro k N M x a' W hx ⟨Bx, rfl, hbx, hM, hsB, hcol, h6N, hcI⟩ hNM hMW hsz
    obtain ⟨hcx0, hcx1, hcx2⟩ := cells_of_three hbx
    obtain ⟨v, hbox, hown, hvG⟩ := hcol
    have hcb := cell_of_box hbox
    have hfb := free_of_box hbox 0
    obtain ⟨va, vc, hv⟩ := owns_shape hown
    subst hv
    obtain ⟨i0, hi, hz0, hz1, hz2⟩ := info_parts infoBin
    have c5 := cell_of_box hcI.b5
    have c6 := cell_of_box hcI.b6
    have c8 := cell_of_box hcI.b8
    have f8 := free_of_box hcI.b8 0
    have HCI := Lib.hid hcI
    have HB := Lib.hid hbox
    have HO := Lib.hid hown
    have HVG := Lib.hid hvG
    have HBX := Lib.hid hbx
    have HX := Lib.hid hx
    have hBxW : Bx < W.heap.size := getElem?_lt hbx
    clear hcI hbox hown hvG hbx hx hfb
    obtain ⟨nn, hnn⟩ : ∃ nn, (bs ++ preL ys xs k).length = nn := ⟨_, rfl⟩
    have HN := Lib.hid hnn
    rw [hnn] at hcb
    clear hnn
    obtain ⟨atk, hatk⟩ : ∃ atk, atEnd f (xs.take k) = atk := ⟨_, rfl⟩
    have HATK := Lib.hid hatk
    rw [hatk] at c8
    have HAT : Hid (atEnd f (xs.take (k + 1)) = x.2.2) := by
      show _ = _
      have hk : k < xs.length := (List.getElem?_eq_some_iff.1 HX.out).1
      rw [List.take_succ_eq_append_getElem hk, atEnd_snoc]
      have := HX.out
      rw [List.getElem?_eq_getElem hk] at this
      simp at this
      rw [this]
    have hnb : nn + 1 ≤ 5000000000 := by
      rw [← HN.out]
      have : (preL ys xs k).length ≤ ys.length + xs.length := by
        unfold preL; split
        · simp
        · simp; omega
      simp only [List.length_append]
      omega
    clear hatk
    by_cases hk : k = 0
    · subst hk
      obtain rfl : atk = f := HATK.out.symm
      have hxs0 : ∃ tl, xs = x :: tl := by
        have := HX.out
        cases hxx : xs with
        | nil => rw [hxx] at this; simp at this
        | cons y tl => rw [hxx] at this; simp at this; subst this; exact ⟨tl, rfl⟩
      obtain ⟨tl, htl⟩ := hxs0
      have hyy := HY.out
      rw [htl] at hyy
      have hyy' : if atk < x.2.1 then CovSays (l - 1) atk x.2.1 bc bo ys else ys = [] := hyy
      have hxb : x.2.1 ≤ t := by
        rcases HSH.out with ⟨he, -⟩ | ⟨a, b, -, -, hfa, hbt, hch, -⟩
        · rw [htl] at he; cases he
        · rw [htl] at hch
          have := hch.2.2.le; have := hch.2.1; have := hch.1; omega
      clear hyy htl
      by_cases hlt : atk < x.2.1
      · rw [if_pos hlt] at hyy'
        have bl : decide (atk < x.2.1) = true := by simpa using hlt
        have ccv := cell_of_box HCI.out.cov
        unfold covCell at ccv
        have HCT := Lib.hid (hyy' (fun j => (G j ∧ (j < w.heap.size ∨ w.heap.size + 8 ≤ j)) ∧ (j < N ∨ W.heap.size ≤ j)) (bs ++ preL ys xs 0) W HCI.out.tab HCI.out.cov ⟨_, HB.out, by rw [HN.out]; rw [← HN.out]; exact HO.out, fun g hg => ⟨(HVG.out g hg).1, .inl (HVG.out g hg).2⟩⟩
          (fun g hg => ⟨⟨HG.out g (by omega), by omega⟩, .inr hg⟩) (fun h => g0 h.1.1) (fun h => gc h.1.1) (fun h => go h.1.1) ne ne0 (by rw [preL_zero, List.append_nil]; omega))
        clear hyy'
        gi_wp2_with fail
        refine ⟨trivial, rfl, (CallsIn.inRound _ (callsIn_wide.2 HCT.out)).mono ?_⟩
        rintro e V0 ⟨rfl, hcol5, htur5⟩
        clear hcx0 hcx1 hcx2 hcb c5 c6 c8 f8 ccv HCT
        clear hnb
        obtain ⟨v5, hbox5, hown5, hvG5⟩ := hcol5
        obtain ⟨va, vc, hv5⟩ := owns_shape hown5
        subst hv5
        obtain ⟨acc, hacc⟩ : ∃ acc, acc = bs ++ preL ys xs 0 ++ ys := ⟨_, rfl⟩
        rw [← hacc] at hbox5 hown5 hvG5
        obtain ⟨nn, hnn⟩ : ∃ nn, acc.length = nn := ⟨_, rfl⟩
        have hnb : nn + 1 ≤ 5000000000 := by
          rw [← hnn, hacc, preL_zero]; simp; omega
        have HNV : Hid (acc.length = nn) := hnn
        rw [hnn] at hbox5 hown5 hvG5
        have HBV := Lib.hid hbox5
        have HOV := Lib.hid hown5
        have HGV := Lib.hid hvG5
        have HCI5 := HCI.out
        have hb85 := (htur5.block _ (getElem?_lt HCI5.b8) (fun h => by omega)).trans HCI5.b8
        have HB8V := Lib.hid hb85
        have HBXV := Lib.hid ((htur5.block Bx hBxW (fun h => by omega)).trans HBX.out)
        have HTV := Lib.hid htur5
        have HAC : Hid (acc ++ [x] = bs ++ preL ys xs (0 + 1)) := by
          show _ = _
          rw [hacc, preL_succ ys xs 0 x HX.out, if_pos rfl, preL_zero]; simp
        have hVs : W.heap.size ≤ V0.heap.size := htur5.size
        have c85 := cell_of_box hb85
        have f85 := free_of_box hb85 0
        have hcb := cell_of_box hbox5
        obtain ⟨hcx0, hcx1, hcx2⟩ := cells_of_three HBXV.out
        clear hbox5 hown5 hvG5 htur5 hacc hnn HCI5 hb85
        gi_wp2
        -- the region
        refine region_round_R (R := fun j V => (j < 4 → V.cell? ⟨bo, 0, none⟩ = some (.slice va nn vc)) ∧ V.cell? ⟨Bx, 0, none⟩ = some (.int .i64 (x.1)) ∧ V.cell? ⟨Bx, 1, none⟩ = some (.int .i64 (x.2.1)) ∧ V.cell? ⟨Bx, 2, none⟩ = some (.int .i64 (x.2.2))) (by kernel_rfl) (by simp) (by rintro ⟨_, _, h⟩; exact h) ?_
        refine wpAnyR_take (S := fun V => V.cell? ⟨Bx, 0, none⟩ = some (.int .i64 (x.1)) ∧ V.cell? ⟨Bx, 1, none⟩ = some (.int .i64 (x.2.1)) ∧ V.cell? ⟨Bx, 2, none⟩ = some (.int .i64 (x.2.2))) (early := fun _ => true) (i := 4) (v := .pointer (some ⟨Bx, 2, none⟩)) rfl (by kernel_rfl) (by kernel_rfl) (by kernel_rfl) (by kernel_rfl) (fun _ _ _ h => h.2) (fun _ h => ⟨fun h4 => absurd h4 (by decide), h⟩) (fun _ _ _ h => h) (Or.inl ⟨by rfl, ?_⟩) ⟨hcx0, hcx1, hcx2⟩ ?_
        · rintro V ⟨v2, v3, v4⟩
          go_simp
        simp only [List.getElem_toArray, List.getElem_cons_zero, List.getElem_cons_succ, Act.put, List.setIfInBounds_toArray, List.set_cons_zero, List.set_cons_succ]
        refine wpAnyR_take (S := fun V => V.cell? ⟨Bx, 0, none⟩ = some (.int .i64 (x.1)) ∧ V.cell? ⟨Bx, 1, none⟩ = some (.int .i64 (x.2.1)) ∧ V.cell? ⟨Bx, 2, none⟩ = some (.int .i64 (x.2.2))) (early := fun _ => true) (i := 5) (v := (.int .i64 (x.2.2))) rfl (by kernel_rfl) (by kernel_rfl) (by kernel_rfl) (by kernel_rfl) (fun _ _ _ h => h.2) (fun _ h => ⟨fun h4 => absurd h4 (by decide), h⟩) (fun _ _ _ h => h) (Or.inl ⟨by rfl, ?_⟩) ⟨hcx0, hcx1, hcx2⟩ ?_
        · rintro V ⟨v2, v3, v4⟩
          go_simp
        simp only [List.getElem_toArray, List.getElem_cons_zero, List.getElem_cons_succ, Act.put, List.setIfInBounds_toArray, List.set_cons_zero, List.set_cons_succ]
        refine wpAnyR_take (S := fun V => V.cell? ⟨bo, 0, none⟩ = some (.slice va nn vc) ∧ V.cell? ⟨Bx, 0, none⟩ = some (.int .i64 (x.1)) ∧ V.cell? ⟨Bx, 1, none⟩ = some (.int .i64 (x.2.1)) ∧ V.cell? ⟨Bx, 2, none⟩ = some (.int .i64 (x.2.2))) (early := fun j => decide (j < 4)) (i := 0) (v := .slice va nn vc) rfl (by kernel_rfl) (by kernel_rfl) (by kernel_rfl) (by kernel_rfl) (fun _ _ he h => ⟨h.1 (of_decide_eq_true he), h.2⟩) (fun _ h => ⟨fun _ => h.1, h.2⟩) (fun _ _ _ h => h) (Or.inl ⟨by rfl, ?_⟩) ⟨hcb, hcx0, hcx1, hcx2⟩ ?_
        · rintro V ⟨v1, v2, v3, v4⟩
          go_simp
        simp only [List.getElem_toArray, List.getElem_cons_zero, Act.put, List.setIfInBounds_toArray, List.set_cons_zero, List.set_cons_succ]
        refine wpAnyR_take (S := fun V => V.cell? ⟨bo, 0, none⟩ = some (.slice va nn vc) ∧ V.cell? ⟨Bx, 0, none⟩ = some (.int .i64 (x.1)) ∧ V.cell? ⟨Bx, 1, none⟩ = some (.int .i64 (x.2.1)) ∧ V.cell? ⟨Bx, 2, none⟩ = some (.int .i64 (x.2.2))) (early := fun j => decide (j < 4)) (i := 1) (v := .agg #[(.int .i64 (x.1)), (.int .i64 (x.2.1)), (.int .i64 (x.2.2))]) rfl (by kernel_rfl) (by kernel_rfl) (by kernel_rfl) (by kernel_rfl) (fun _ _ he h => ⟨h.1 (of_decide_eq_true he), h.2⟩) (fun _ h => ⟨fun _ => h.1, h.2⟩) (fun _ _ _ h => h) (Or.inl ⟨by rfl, ?_⟩) ⟨hcb, hcx0, hcx1, hcx2⟩ ?_
        · rintro V ⟨v1, v2, v3, v4⟩
          go_simp
        simp only [List.getElem_toArray, List.getElem_cons_zero, List.getElem_cons_succ, Act.put, List.setIfInBounds_toArray, List.set_cons_zero, List.set_cons_succ]
        refine wpAnyR_all (rs := [2]) (by kernel_rfl) (by simp) (fun i hi2 => ?_)
        obtain rfl : i = 2 := by simpa using hi2
        refine wpOp_plain rfl rfl ?_
        simp only [List.getElem_toArray, List.getElem_cons_zero, List.getElem_cons_succ]
        go_simp
        have tA : Turned (fun _ => False) V0 (V0.alloc (.cells #[(.int .i64 (x.1)), (.int .i64 (x.2.1)), (.int .i64 (x.2.2))] 38)) := (Turned.refl _ _).alloc _
        have hxA := (tA.block Bx (getElem?_lt HBXV.out) id).trans HBXV.out
        obtain ⟨ca0, ca1, ca2⟩ := cells_of_three hxA
        refine ⟨⟨cell_of_box ((tA.block bo (getElem?_lt HBV.out) id).trans HBV.out), ca0, ca1, ca2⟩, ?_⟩
        refine wpAnyR_all (rs := [3]) (by kernel_rfl) (by simp) (fun i hi2 => ?_)
        obtain rfl : i = 3 := by simpa using hi2
        refine wpOp_append_exact _ rfl rfl _ _ 46 rfl 0 38 i0 (.agg #[(.int .i64 0), (.int .i64 0), (.int .i64 0)]) 3 24 Tryd.underlying46 hi hz0 hz1 hz2 rfl (by decide) (.slice va nn vc) nn (acc.flatMap binCells) rfl (ownsRow_turned' (tA.drew) (fun _ _ h => h.elim) HOV.out) ⟨V0.heap.size, 0, none⟩ 1 1 [(.int .i64 (x.1)), (.int .i64 (x.2.1)), (.int .i64 (x.2.2))] rfl rfl (cells_three V0 _ _ _ _) (by simp [Value.oneCell']) (by unfold maxLen; omega) (by omega) (Nat.zero_le _) ?_
        intro v' w4 hown' hgrow hex
        obtain ⟨hC2, hT2, hb4, hs4, ht4⟩ := Col.appended (G := fun j => (G j ∧ (j < w.heap.size ∨ w.heap.size + 8 ≤ j)) ∧ (j < N ∨ W.heap.size ≤ j)) (bs := acc) (x := x) (o := .cells #[(.int .i64 (x.1)), (.int .i64 (x.2.1)), (.int .i64 (x.2.2))] 38) HBV.out HGV.out (fun h => go h.1.1) (fun g hg => ⟨⟨HG.out g (by omega), by omega⟩, by omega⟩) (by rw [HNV.out]) hown' ⟨hgrow.os, hgrow.tape, hgrow.output, hgrow.size, hgrow.block⟩ hex
        have hx4 := (ht4.block Bx (getElem?_lt HBXV.out) (fun h => by omega)).trans HBXV.out
        obtain ⟨cb0, cb1, cb2⟩ := cells_of_three hx4
        have cbo := cell_of_box hb4
        have fbo := free_of_box hb4 0
        have h84 : w4.heap[w.heap.size + 2]? = some (.cells #[(.int .i64 atk)] 3 (0, 0)) := (ht4.block _ (getElem?_lt HB8V.out) (fun h => by omega)).trans HB8V.out
        have cb8 := cell_of_box h84
        have fb8 := free_of_box h84 0
        obtain ⟨g', cap', rfl⟩ := ownsRow_succ hown'
        refine ⟨⟨fun _ => cbo, cb0, cb1, cb2⟩, ?_⟩
        simp only [List.getElem_toArray, List.getElem_cons_zero, List.getElem_cons_succ, Act.put, List.setIfInBounds_toArray, List.set_cons_zero, List.set_cons_succ]
        have fin := cov_end HG.out g0 gc hbo hbc ne ne0 hMW h6N sz3b sz3a hsz HCI.out HTV.out hC2 hT2 HAC.out HAT.out
        have FIN := Lib.hid fin
        have E0 := Lib.hid (And.intro cb0 (And.intro cb1 cb2))
        clear hC2 hT2 ht4 hx4 hown' hgrow hex hb4 h84 fin hxA tA ca0 ca1 ca2 cb0 cb1 cb2
        refine wpAnyR_all (rs := [6]) (by kernel_rfl) (by simp) (fun i hi2 => ?_)
        obtain rfl : i = 6 := by simpa using hi2
        refine wpOp_plain rfl rfl ?_
        simp only [List.getElem_toArray, List.getElem_cons_zero, List.getElem_cons_succ]
        go_simp
        refine ⟨E0.out, ?_⟩
        refine wpAnyR_all (rs := [7]) (by kernel_rfl) (by simp) (fun i hi2 => ?_)
        obtain rfl : i = 7 := by simpa using hi2
        refine wpOp_plain rfl rfl ?_
        simp only [List.getElem_toArray, List.getElem_cons_zero, List.getElem_cons_succ]
        go_simp
        refine ⟨E0.out, ?_⟩
        refine wpAnyR_done (by kernel_rfl) ?_ _
        exact FIN.out
      · rw [if_neg hlt] at hyy'
        have hys : ys = [] := hyy'
        clear hyy'
        have HYS := Lib.hid hys
        clear hys
        have bl : decide (atk < x.2.1) = false := by simp; omega
        gi_wp2_with (refine wide_skip (fun _ => trivial) rfl ?_)
        -- the world ahead of the region
        obtain ⟨V0, hV0⟩ : ∃ V0, V0 = W := ⟨_, rfl⟩
        obtain ⟨acc, hacc⟩ : ∃ acc, acc = bs ++ preL ys xs 0 := ⟨_, rfl⟩
        have HBV : Hid (V0.heap[bo]? = some (.cells #[.slice va nn vc] 46 (0, 0))) := by rw [hV0, ← HN.out]; exact HB.out
        have HOV : Hid (V0.ownsRow 0 38 3 (.slice va nn vc) nn (acc.flatMap binCells)) := by rw [hV0, hacc, ← HN.out]; exact HO.out
        have HGV : Hid (∀ g, (Value.slice va nn vc).ownBlock = some g → ((G g ∧ (g < w.heap.size ∨ w.heap.size + 8 ≤ g)) ∧ (g < N ∨ W.heap.size ≤ g))) := fun g hg => by
          have := HVG.out g (by rw [HN.out]; exact hg)
          exact ⟨this.1, .inl this.2⟩
        have HNV : Hid (acc.length = nn) := by rw [hacc]; exact HN.out
        have HBXV : Hid (V0.heap[Bx]? = some (.cells #[(.int .i64 (x.1)), (.int .i64 (x.2.1)), (.int .i64 (x.2.2))] 38 (0, 0))) := by rw [hV0]; exact HBX.out
        have HB8V : Hid (V0.heap[w.heap.size + 2]? = some (.cells #[(.int .i64 atk)] 3 (0, 0))) := by rw [hV0, ← HATK.out]; exact HCI.out.b8
        have HTV : Hid (Turned (fun j => j = bo ∨ ((G j ∧ (j < w.heap.size ∨ w.heap.size + 8 ≤ j)) ∧ (j < N ∨ W.heap.size ≤ j))) W V0) := by rw [hV0]; exact Turned.refl _ _
        have HAC : Hid (acc ++ [x] = bs ++ preL ys xs (0 + 1)) := by
          show _ = _
          rw [hacc, preL_succ ys xs 0 x HX.out, if_pos rfl, preL_zero, HYS.out]; simp
        have hVs : W.heap.size ≤ V0.heap.size := by rw [hV0]; exact Nat.le_refl _
        have hVs2 : V0.heap.size ≤ W.heap.size + 0 := by rw [hV0]; exact Nat.le_refl _
        rw [← hV0]
        clear hV0 hacc hcx0 hcx1 hcx2 hcb
        obtain ⟨hcx0, hcx1, hcx2⟩ := cells_of_three HBXV.out
        have hcb := cell_of_box HBV.out
        -- the region
        refine region_round_R (R := fun j V => (j < 4 → V.cell? ⟨bo, 0, none⟩ = some (.slice va nn vc)) ∧ V.cell? ⟨Bx, 0, none⟩ = some (.int .i64 (x.1)) ∧ V.cell? ⟨Bx, 1, none⟩ = some (.int .i64 (x.2.1)) ∧ V.cell? ⟨Bx, 2, none⟩ = some (.int .i64 (x.2.2))) (by kernel_rfl) (by simp) (by rintro ⟨_, _, h⟩; exact h) ?_
        refine wpAnyR_take (S := fun V => V.cell? ⟨Bx, 0, none⟩ = some (.int .i64 (x.1)) ∧ V.cell? ⟨Bx, 1, none⟩ = some (.int .i64 (x.2.1)) ∧ V.cell? ⟨Bx, 2, none⟩ = some (.int .i64 (x.2.2))) (early := fun _ => true) (i := 4) (v := .pointer (some ⟨Bx, 2, none⟩)) rfl (by kernel_rfl) (by kernel_rfl) (by kernel_rfl) (by kernel_rfl) (fun _ _ _ h => h.2) (fun _ h => ⟨fun h4 => absurd h4 (by decide), h⟩) (fun _ _ _ h => h) (Or.inl ⟨by rfl, ?_⟩) ⟨hcx0, hcx1, hcx2⟩ ?_
        · rintro V ⟨v2, v3, v4⟩
          go_simp
        simp only [List.getElem_toArray, List.getElem_cons_zero, List.getElem_cons_succ, Act.put, List.setIfInBounds_toArray, List.set_cons_zero, List.set_cons_succ]
        refine wpAnyR_take (S := fun V => V.cell? ⟨Bx, 0, none⟩ = some (.int .i64 (x.1)) ∧ V.cell? ⟨Bx, 1, none⟩ = some (.int .i64 (x.2.1)) ∧ V.cell? ⟨Bx, 2, none⟩ = some (.int .i64 (x.2.2))) (early := fun _ => true) (i := 5) (v := (.int .i64 (x.2.2))) rfl (by kernel_rfl) (by kernel_rfl) (by kernel_rfl) (by kernel_rfl) (fun _ _ _ h => h.2) (fun _ h => ⟨fun h4 => absurd h4 (by decide), h⟩) (fun _ _ _ h => h) (Or.inl ⟨by rfl, ?_⟩) ⟨hcx0, hcx1, hcx2⟩ ?_
        · rintro V ⟨v2, v3, v4⟩
          go_simp
        simp only [List.getElem_toArray, List.getElem_cons_zero, List.getElem_cons_succ, Act.put, List.setIfInBounds_toArray, List.set_cons_zero, List.set_cons_succ]
        refine wpAnyR_take (S := fun V => V.cell? ⟨bo, 0, none⟩ = some (.slice va nn vc) ∧ V.cell? ⟨Bx, 0, none⟩ = some (.int .i64 (x.1)) ∧ V.cell? ⟨Bx, 1, none⟩ = some (.int .i64 (x.2.1)) ∧ V.cell? ⟨Bx, 2, none⟩ = some (.int .i64 (x.2.2))) (early := fun j => decide (j < 4)) (i := 0) (v := .slice va nn vc) rfl (by kernel_rfl) (by kernel_rfl) (by kernel_rfl) (by kernel_rfl) (fun _ _ he h => ⟨h.1 (of_decide_eq_true he), h.2⟩) (fun _ h => ⟨fun _ => h.1, h.2⟩) (fun _ _ _ h => h) (Or.inl ⟨by rfl, ?_⟩) ⟨hcb, hcx0, hcx1, hcx2⟩ ?_
        · rintro V ⟨v1, v2, v3, v4⟩
          go_simp
        simp only [List.getElem_toArray, List.getElem_cons_zero, Act.put, List.setIfInBounds_toArray, List.set_cons_zero, List.set_cons_succ]
        refine wpAnyR_take (S := fun V => V.cell? ⟨bo, 0, none⟩ = some (.slice va nn vc) ∧ V.cell? ⟨Bx, 0, none⟩ = some (.int .i64 (x.1)) ∧ V.cell? ⟨Bx, 1, none⟩ = some (.int .i64 (x.2.1)) ∧ V.cell? ⟨Bx, 2, none⟩ = some (.int .i64 (x.2.2))) (early := fun j => decide (j < 4)) (i := 1) (v := .agg #[(.int .i64 (x.1)), (.int .i64 (x.2.1)), (.int .i64 (x.2.2))]) rfl (by kernel_rfl) (by kernel_rfl) (by kernel_rfl) (by kernel_rfl) (fun _ _ he h => ⟨h.1 (of_decide_eq_true he), h.2⟩) (fun _ h => ⟨fun _ => h.1, h.2⟩) (fun _ _ _ h => h) (Or.inl ⟨by rfl, ?_⟩) ⟨hcb, hcx0, hcx1, hcx2⟩ ?_
        · rintro V ⟨v1, v2, v3, v4⟩
          go_simp
        simp only [List.getElem_toArray, List.getElem_cons_zero, List.getElem_cons_succ, Act.put, List.setIfInBounds_toArray, List.set_cons_zero, List.set_cons_succ]
        refine wpAnyR_all (rs := [2]) (by kernel_rfl) (by simp) (fun i hi2 => ?_)
        obtain rfl : i = 2 := by simpa using hi2
        refine wpOp_plain rfl rfl ?_
        simp only [List.getElem_toArray, List.getElem_cons_zero, List.getElem_cons_succ]
        go_simp
        have tA : Turned (fun _ => False) V0 (V0.alloc (.cells #[(.int .i64 (x.1)), (.int .i64 (x.2.1)), (.int .i64 (x.2.2))] 38)) := (Turned.refl _ _).alloc _
        have hxA := (tA.block Bx (getElem?_lt HBXV.out) id).trans HBXV.out
        obtain ⟨ca0, ca1, ca2⟩ := cells_of_three hxA
        refine ⟨⟨cell_of_box ((tA.block bo (getElem?_lt HBV.out) id).trans HBV.out), ca0, ca1, ca2⟩, ?_⟩
        refine wpAnyR_all (rs := [3]) (by kernel_rfl) (by simp) (fun i hi2 => ?_)
        obtain rfl : i = 3 := by simpa using hi2
        refine wpOp_append_exact _ rfl rfl _ _ 46 rfl 0 38 i0 (.agg #[(.int .i64 0), (.int .i64 0), (.int .i64 0)]) 3 24 Tryd.underlying46 hi hz0 hz1 hz2 rfl (by decide) (.slice va nn vc) nn (acc.flatMap binCells) rfl (ownsRow_turned' (tA.drew) (fun _ _ h => h.elim) HOV.out) ⟨V0.heap.size, 0, none⟩ 1 1 [(.int .i64 (x.1)), (.int .i64 (x.2.1)), (.int .i64 (x.2.2))] rfl rfl (cells_three V0 _ _ _ _) (by simp [Value.oneCell']) (by unfold maxLen; omega) (by omega) (Nat.zero_le _) ?_
        intro v' w4 hown' hgrow hex
        obtain ⟨hC2, hT2, hb4, hs4, ht4⟩ := Col.appended (G := fun j => (G j ∧ (j < w.heap.size ∨ w.heap.size + 8 ≤ j)) ∧ (j < N ∨ W.heap.size ≤ j)) (bs := acc) (x := x) (o := .cells #[(.int .i64 (x.1)), (.int .i64 (x.2.1)), (.int .i64 (x.2.2))] 38) HBV.out HGV.out (fun h => go h.1.1) (fun g hg => ⟨⟨HG.out g (by omega), by omega⟩, by omega⟩) (by rw [HNV.out]) hown' ⟨hgrow.os, hgrow.tape, hgrow.output, hgrow.size, hgrow.block⟩ hex
        have hx4 := (ht4.block Bx (getElem?_lt HBXV.out) (fun h => by omega)).trans HBXV.out
        obtain ⟨cb0, cb1, cb2⟩ := cells_of_three hx4
        have cbo := cell_of_box hb4
        have fbo := free_of_box hb4 0
        have h84 : w4.heap[w.heap.size + 2]? = some (.cells #[(.int .i64 atk)] 3 (0, 0)) := (ht4.block _ (getElem?_lt HB8V.out) (fun h => by omega)).trans HB8V.out
        have cb8 := cell_of_box h84
        have fb8 := free_of_box h84 0
        obtain ⟨g', cap', rfl⟩ := ownsRow_succ hown'
        refine ⟨⟨fun _ => cbo, cb0, cb1, cb2⟩, ?_⟩
        simp only [List.getElem_toArray, List.getElem_cons_zero, List.getElem_cons_succ, Act.put, List.setIfInBounds_toArray, List.set_cons_zero, List.set_cons_succ]
        have fin := cov_end HG.out g0 gc hbo hbc ne ne0 hMW h6N sz3b sz3a hsz HCI.out HTV.out hC2 hT2 HAC.out HAT.out
        have FIN := Lib.hid fin
        have E0 := Lib.hid (And.intro cb0 (And.intro cb1 cb2))
        clear hC2 hT2 ht4 hx4 hown' hgrow hex hb4 h84 fin hxA tA ca0 ca1 ca2 cb0 cb1 cb2
        refine wpAnyR_all (rs := [6]) (by kernel_rfl) (by simp) (fun i hi2 => ?_)
        obtain rfl : i = 6 := by simpa using hi2
        refine wpOp_plain rfl rfl ?_
        simp only [List.getElem_toArray, List.getElem_cons_zero, List.getElem_cons_succ]
        go_simp
        refine ⟨E0.out, ?_⟩
        refine wpAnyR_all (rs := [7]) (by kernel_rfl) (by simp) (fun i hi2 => ?_)
        obtain rfl : i = 7 := by simpa using hi2
        refine wpOp_plain rfl rfl ?_
        simp only [List.getElem_toArray, List.getElem_cons_zero, List.getElem_cons_succ]
        go_simp
        refine ⟨E0.out, ?_⟩
        refine wpAnyR_done (by kernel_rfl) ?_ _
        exact FIN.out
    · have bk : (atk == f) = false := by
        have hkx : k < xs.length := (List.getElem?_eq_some_iff.1 HX.out).1
        rcases HSH.out with ⟨he, -⟩ | ⟨a, b, -, -, hfa, -, hch, -⟩
        · rw [he] at hkx; simp at hkx
        · have := hch.atEnd_gt (f := f) (k := k) (by omega) (by omega) hfa
          rw [HATK.out] at this
          simp; omega
      gi_wp2_with (refine wide_skip (fun _ => trivial) rfl ?_)
      -- the world ahead of the region
      obtain ⟨V0, hV0⟩ : ∃ V0, V0 = W := ⟨_, rfl⟩
      obtain ⟨acc, hacc⟩ : ∃ acc, acc = bs ++ preL ys xs k := ⟨_, rfl⟩
      have HBV : Hid (V0.heap[bo]? = some (.cells #[.slice va nn vc] 46 (0, 0))) := by rw [hV0, ← HN.out]; exact HB.out
      have HOV : Hid (V0.ownsRow 0 38 3 (.slice va nn vc) nn (acc.flatMap binCells)) := by rw [hV0, hacc, ← HN.out]; exact HO.out
      have HGV : Hid (∀ g, (Value.slice va nn vc).ownBlock = some g → ((G g ∧ (g < w.heap.size ∨ w.heap.size + 8 ≤ g)) ∧ (g < N ∨ W.heap.size ≤ g))) := fun g hg => by
        have := HVG.out g (by rw [HN.out]; exact hg)
        exact ⟨this.1, .inl this.2⟩
      have HNV : Hid (acc.length = nn) := by rw [hacc]; exact HN.out
      have HBXV : Hid (V0.heap[Bx]? = some (.cells #[(.int .i64 (x.1)), (.int .i64 (x.2.1)), (.int .i64 (x.2.2))] 38 (0, 0))) := by rw [hV0]; exact HBX.out
      have HB8V : Hid (V0.heap[w.heap.size + 2]? = some (.cells #[(.int .i64 atk)] 3 (0, 0))) := by rw [hV0, ← HATK.out]; exact HCI.out.b8
      have HTV : Hid (Turned (fun j => j = bo ∨ ((G j ∧ (j < w.heap.size ∨ w.heap.size + 8 ≤ j)) ∧ (j < N ∨ W.heap.size ≤ j))) W V0) := by rw [hV0]; exact Turned.refl _ _
      have HAC : Hid (acc ++ [x] = bs ++ preL ys xs (k + 1)) := by
        show _ = _
        rw [hacc, preL_succ ys xs k x HX.out, if_neg hk, List.append_assoc]
      have hVs : W.heap.size ≤ V0.heap.size := by rw [hV0]; exact Nat.le_refl _
      have hVs2 : V0.heap.size ≤ W.heap.size + 0 := by rw [hV0]; exact Nat.le_refl _
      rw [← hV0]
      clear hV0 hacc hcx0 hcx1 hcx2 hcb
      obtain ⟨hcx0, hcx1, hcx2⟩ := cells_of_three HBXV.out
      have hcb := cell_of_box HBV.out
      -- the region
      refine region_round_R (R := fun j V => (j < 4 → V.cell? ⟨bo, 0, none⟩ = some (.slice va nn vc)) ∧ V.cell? ⟨Bx, 0, none⟩ = some (.int .i64 (x.1)) ∧ V.cell? ⟨Bx, 1, none⟩ = some (.int .i64 (x.2.1)) ∧ V.cell? ⟨Bx, 2, none⟩ = some (.int .i64 (x.2.2))) (by kernel_rfl) (by simp) (by rintro ⟨_, _, h⟩; exact h) ?_
      refine wpAnyR_take (S := fun V => V.cell? ⟨Bx, 0, none⟩ = some (.int .i64 (x.1)) ∧ V.cell? ⟨Bx, 1, none⟩ = some (.int .i64 (x.2.1)) ∧ V.cell? ⟨Bx, 2, none⟩ = some (.int .i64 (x.2.2))) (early := fun _ => true) (i := 4) (v := .pointer (some ⟨Bx, 2, none⟩)) rfl (by kernel_rfl) (by kernel_rfl) (by kernel_rfl) (by kernel_rfl) (fun _ _ _ h => h.2) (fun _ h => ⟨fun h4 => absurd h4 (by decide), h⟩) (fun _ _ _ h => h) (Or.inl ⟨by rfl, ?_⟩) ⟨hcx0, hcx1, hcx2⟩ ?_
      · rintro V ⟨v2, v3, v4⟩
        go_simp
      simp only [List.getElem_toArray, List.getElem_cons_zero, List.getElem_cons_succ, Act.put, List.setIfInBounds_toArray, List.set_cons_zero, List.set_cons_succ]
      refine wpAnyR_take (S := fun V => V.cell? ⟨Bx, 0, none⟩ = some (.int .i64 (x.1)) ∧ V.cell? ⟨Bx, 1, none⟩ = some (.int .i64 (x.2.1)) ∧ V.cell? ⟨Bx, 2, none⟩ = some (.int .i64 (x.2.2))) (early := fun _ => true) (i := 5) (v := (.int .i64 (x.2.2))) rfl (by kernel_rfl) (by kernel_rfl) (by kernel_rfl) (by kernel_rfl) (fun _ _ _ h => h.2) (fun _ h => ⟨fun h4 => absurd h4 (by decide), h⟩) (fun _ _ _ h => h) (Or.inl ⟨by rfl, ?_⟩) ⟨hcx0, hcx1, hcx2⟩ ?_
      · rintro V ⟨v2, v3, v4⟩
        go_simp
      simp only [List.getElem_toArray, List.getElem_cons_zero, List.getElem_cons_succ, Act.put, List.setIfInBounds_toArray, List.set_cons_zero, List.set_cons_succ]
      refine wpAnyR_take (S := fun V => V.cell? ⟨bo, 0, none⟩ = some (.slice va nn vc) ∧ V.cell? ⟨Bx, 0, none⟩ = some (.int .i64 (x.1)) ∧ V.cell? ⟨Bx, 1, none⟩ = some (.int .i64 (x.2.1)) ∧ V.cell? ⟨Bx, 2, none⟩ = some (.int .i64 (x.2.2))) (early := fun j => decide (j < 4)) (i := 0) (v := .slice va nn vc) rfl (by kernel_rfl) (by kernel_rfl) (by kernel_rfl) (by kernel_rfl) (fun _ _ he h => ⟨h.1 (of_decide_eq_true he), h.2⟩) (fun _ h => ⟨fun _ => h.1, h.2⟩) (fun _ _ _ h => h) (Or.inl ⟨by rfl, ?_⟩) ⟨hcb, hcx0, hcx1, hcx2⟩ ?_
      · rintro V ⟨v1, v2, v3, v4⟩
        go_simp
      simp only [List.getElem_toArray, List.getElem_cons_zero, Act.put, List.setIfInBounds_toArray, List.set_cons_zero, List.set_cons_succ]
      refine wpAnyR_take (S := fun V => V.cell? ⟨bo, 0, none⟩ = some (.slice va nn vc) ∧ V.cell? ⟨Bx, 0, none⟩ = some (.int .i64 (x.1)) ∧ V.cell? ⟨Bx, 1, none⟩ = some (.int .i64 (x.2.1)) ∧ V.cell? ⟨Bx, 2, none⟩ = some (.int .i64 (x.2.2))) (early := fun j => decide (j < 4)) (i := 1) (v := .agg #[(.int .i64 (x.1)), (.int .i64 (x.2.1)), (.int .i64 (x.2.2))]) rfl (by kernel_rfl) (by kernel_rfl) (by kernel_rfl) (by kernel_rfl) (fun _ _ he h => ⟨h.1 (of_decide_eq_true he), h.2⟩) (fun _ h => ⟨fun _ => h.1, h.2⟩) (fun _ _ _ h => h) (Or.inl ⟨by rfl, ?_⟩) ⟨hcb, hcx0, hcx1, hcx2⟩ ?_
      · rintro V ⟨v1, v2, v3, v4⟩
        go_simp
      simp only [List.getElem_toArray, List.getElem_cons_zero, List.getElem_cons_succ, Act.put, List.setIfInBounds_toArray, List.set_cons_zero, List.set_cons_succ]
      refine wpAnyR_all (rs := [2]) (by kernel_rfl) (by simp) (fun i hi2 => ?_)
      obtain rfl : i = 2 := by simpa using hi2
      refine wpOp_plain rfl rfl ?_
      simp only [List.getElem_toArray, List.getElem_cons_zero, List.getElem_cons_succ]
      go_simp
      have tA : Turned (fun _ => False) V0 (V0.alloc (.cells #[(.int .i64 (x.1)), (.int .i64 (x.2.1)), (.int .i64 (x.2.2))] 38)) := (Turned.refl _ _).alloc _
      have hxA := (tA.block Bx (getElem?_lt HBXV.out) id).trans HBXV.out
      obtain ⟨ca0, ca1, ca2⟩ := cells_of_three hxA
      refine ⟨⟨cell_of_box ((tA.block bo (getElem?_lt HBV.out) id).trans HBV.out), ca0, ca1, ca2⟩, ?_⟩
      refine wpAnyR_all (rs := [3]) (by kernel_rfl) (by simp) (fun i hi2 => ?_)
      obtain rfl : i = 3 := by simpa using hi2
      refine wpOp_append_exact _ rfl rfl _ _ 46 rfl 0 38 i0 (.agg #[(.int .i64 0), (.int .i64 0), (.int .i64 0)]) 3 24 Tryd.underlying46 hi hz0 hz1 hz2 rfl (by decide) (.slice va nn vc) nn (acc.flatMap binCells) rfl (ownsRow_turned' (tA.drew) (fun _ _ h => h.elim) HOV.out) ⟨V0.heap.size, 0, none⟩ 1 1 [(.int .i64 (x.1)), (.int .i64 (x.2.1)), (.int .i64 (x.2.2))] rfl rfl (cells_three V0 _ _ _ _) (by simp [Value.oneCell']) (by unfold maxLen; omega) (by omega) (Nat.zero_le _) ?_
      intro v' w4 hown' hgrow hex
      obtain ⟨hC2, hT2, hb4, hs4, ht4⟩ := Col.appended (G := fun j => (G j ∧ (j < w.heap.size ∨ w.heap.size + 8 ≤ j)) ∧ (j < N ∨ W.heap.size ≤ j)) (bs := acc) (x := x) (o := .cells #[(.int .i64 (x.1)), (.int .i64 (x.2.1)), (.int .i64 (x.2.2))] 38) HBV.out HGV.out (fun h => go h.1.1) (fun g hg => ⟨⟨HG.out g (by omega), by omega⟩, by omega⟩) (by rw [HNV.out]) hown' ⟨hgrow.os, hgrow.tape, hgrow.output, hgrow.size, hgrow.block⟩ hex
      have hx4 := (ht4.block Bx (getElem?_lt HBXV.out) (fun h => by omega)).trans HBXV.out
      obtain ⟨cb0, cb1, cb2⟩ := cells_of_three hx4
      have cbo := cell_of_box hb4
      have fbo := free_of_box hb4 0
      have h84 : w4.heap[w.heap.size + 2]? = some (.cells #[(.int .i64 atk)] 3 (0, 0)) := (ht4.block _ (getElem?_lt HB8V.out) (fun h => by omega)).trans HB8V.out
      have cb8 := cell_of_box h84
      have fb8 := free_of_box h84 0
      obtain ⟨g', cap', rfl⟩ := ownsRow_succ hown'
      refine ⟨⟨fun _ => cbo, cb0, cb1, cb2⟩, ?_⟩
      simp only [List.getElem_toArray, List.getElem_cons_zero, List.getElem_cons_succ, Act.put, List.setIfInBounds_toArray, List.set_cons_zero, List.set_cons_succ]
      have fin := cov_end HG.out g0 gc hbo hbc ne ne0 hMW h6N sz3b sz3a hsz HCI.out HTV.out hC2 hT2 HAC.out HAT.out
      have FIN := Lib.hid fin
      have E0 := Lib.hid (And.intro cb0 (And.intro cb1 cb2))
      clear hC2 hT2 ht4 hx4 hown' hgrow hex hb4 h84 fin hxA tA ca0 ca1 ca2 cb0 cb1 cb2
      refine wpAnyR_all (rs := [6]) (by kernel_rfl) (by simp) (fun i hi2 => ?_)
      obtain rfl : i = 6 := by simpa using hi2
      refine wpOp_plain rfl rfl ?_
      simp only [List.getElem_toArray, List.getElem_cons_zero, List.getElem_cons_succ]
      go_simp
      refine ⟨E0.out, ?_⟩
      refine wpAnyR_all (rs := [7]) (by kernel_rfl) (by simp) (fun i hi2 => ?_)
      obtain rfl : i = 7 := by simpa using hi2
      refine wpOp_plain rfl rfl ?_
      simp only [List.getElem_toArray, List.getElem_cons_zero, List.getElem_cons_succ]
      go_simp
      refine ⟨E0.out, ?_⟩
      refine wpAnyR_done (by kernel_rfl) ?_ _
      exact FIN.out
  case done =>
    rintro W ⟨hcol, hsz, hcI⟩ hD h2
    rw [List.take_length] at hcI
    have hpre : preL ys xs xs.length = ys ++ xs := by
      unfold preL
      cases hxx : xs with
      | nil =>
        have := HY.out
        rw [hxx] at this
        rw [show ys = [] from this]; rfl
      | cons x tl => simp
    rw [hpre] at hcol
    have hQ : ys ++ insL l f t ++ zs = ys ++ xs ++ zs := by rw [HXS.out]
    obtain ⟨atk, hatk⟩ : ∃ atk, atEnd f xs = atk := ⟨_, rfl⟩
    rw [hatk] at hcI hsum hend
    have hzz := HZ.out
    rw [hatk] at hzz
    have c5 := cell_of_box hcI.b5
    have c8 := cell_of_box hcI.b8
    have ccv := cell_of_box hcI.cov
    unfold covCell at ccv
    have HQ := Lib.hid hQ
    by_cases hlt : atk < t
    · rw [if_pos hlt] at hzz
      have bl : decide (atk < t) = true := by simpa using hlt
      have HCT := Lib.hid (hzz (fun j => G j ∧ (j < w.heap.size ∨ w.heap.size + 8 ≤ j)) (bs ++ (ys ++ xs)) W hcI.tab hcI.cov (hcol.imp fun g _ h => h.1) (fun g hg => ⟨HG.out g (by omega), by omega⟩) (fun h => g0 h.1) (fun h => gc h.1) (fun h => go h.1) ne ne0 (by simp; omega))
      have HCI := Lib.hid hcI
      have HD := Lib.hid hD
      clear hzz hcI hcol hatk hpre hD hQ
      gi_wp2_with fail
      refine ⟨trivial, rfl, (callsIn_wide.2 HCT.out).mono ?_⟩
      rintro e V ⟨rfl, hcol5, htur5⟩
      have hD5 := (htur5.block _ (getElem?_lt HD.out) (fun h => by omega)).trans HD.out
      have HC5 := Lib.hid (And.intro hcol5 htur5)
      clear HCT c5 c8 ccv hcol5 htur5
      gi_wp2
      refine ⟨by simp, .inl ⟨_, _, rfl, run_takeDeferred hD5, ?_⟩⟩
      have t9 : Turned (fun k => k = W3.heap.size) V (V.putObj W3.heap.size (.deferred none)) := (Turned.refl (fun k => k = W3.heap.size) V).putObj rfl _
      refine ⟨_, results_none rfl _ _ _, rfl, ?_, ?_⟩
      · rw [HQ.out]
        have := (HC5.out.1.turned t9 (fun k hk => ⟨fun hg => by omega, by omega⟩)).imp (G' := G) (fun g _ h => h.1)
        simpa only [List.append_assoc] using this
      · exact ((HCI.out.tur.trans (HC5.out.2.mono fun j h => h.imp id (fun h => h.1))).trans (t9.mono fun j h => .inr (HG.out j (by omega))))
    · rw [if_neg hlt] at hzz
      have bl : decide (atk < t) = false := by simpa using hlt
      have HCI := Lib.hid hcI
      have HC := Lib.hid hcol
      have HZ0 := Lib.hid hzz
      clear hzz hcI hcol hatk hpre hQ
      gi_wp2
      refine ⟨by simp, .inl ⟨_, _, rfl, run_takeDeferred hD, ?_⟩⟩
      have t9 : Turned (fun k => k = W3.heap.size) W (W.putObj W3.heap.size (.deferred none)) := (Turned.refl (fun k => k = W3.heap.size) W).putObj rfl _
      refine ⟨_, results_none rfl _ _ _, rfl, ?_, ?_⟩
      · rw [← List.append_assoc ys, HQ.out, HZ0.out]
        have := (HC.out.turned t9 (fun k hk => ⟨fun hg => by omega, by omega⟩)).imp (G' := G) (fun g _ h => h.1.1)
        simpa only [List.append_assoc, List.append_nil] using this
      · exact HCI.out.tur.trans (t9.mono fun j h => .inr (HG.out j (by omega)))
end Go.Proofs.YtfcfdphkaildiaaDoor
