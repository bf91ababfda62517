/- Walks of the calendar: the iterator 'inside' keeps its contract. Conditions: TabOK; the level exists, the interval lies in the calendar. -/
import Derived.Test.YtfcfdphkaildiaaDoorCalWalkG
import Derived.Test.YtfcfdphkaildiaaDoorCalPlainC
import Derived.Test.YtfcfdphkaildiaaDoorRangeLaw
namespace Go.Proofs.YtfcfdphkaildiaaDoor
open Go Go.Proofs Go.RowKit
attribute [local go_sem] Oper.semAt_some

def binEncs (x : Int × Int × Int) : Array Value := #[.agg #[(.int .i64 (x.1)), (.int .i64 (x.2.1)), (.int .i64 (x.2.2))]]

/-- what is so at the head of the iterator's loop, k blocks having come -/
structure Head (l t : Int) (c0 c1 c2 : Nat) (xs : List (Int × Int × Int)) (J : Nat → Nat → World → Prop) (wr : World) (k : Nat) (g : Int) : Prop where
  j : J k wr.heap.size wr
  rest : insL l g t = xs.drop k
  kle : k ≤ xs.length
  g0 : 0 ≤ g
  h0 : wr.cell? ⟨c0, 0, none⟩ = some (.int .i64 g)
  hf0 : wr.frozen? ⟨c0, 0, none⟩ = false
  h1 : wr.cell? ⟨c1, 0, none⟩ = some (.int .i64 t)
  h2 : wr.cell? ⟨c2, 0, none⟩ = some (.int .i64 l)
  tab : TabOK wr
  z0 : c0 < wr.heap.size
  z1 : c1 < wr.heap.size
  z2 : c2 < wr.heap.size

set_option maxHeartbeats 2000000 in
theorem inside_iter (l f t : Int) (c0 c1 c2 : Nat) (w : World) (l0 : 0 ≤ l) (l1 : l ≤ 4) (f0 : 0 ≤ f) (ht : t ≤ 1402560) (hT : TabOK w)
    (h0 : w.cell? ⟨c0, 0, none⟩ = some (.int .i64 f)) (hf0 : w.frozen? ⟨c0, 0, none⟩ = false) (h1 : w.cell? ⟨c1, 0, none⟩ = some (.int .i64 t)) (h2 : w.cell? ⟨c2, 0, none⟩ = some (.int .i64 l))
    (hc : 0 < c0 ∧ c0 < w.heap.size ∧ c1 < w.heap.size ∧ c2 < w.heap.size ∧ c0 ≠ c1 ∧ c0 ≠ c2) :
    Iter Tryd.prog 45 #[.pointer (some ⟨c0, 0, none⟩), .pointer (some ⟨c1, 0, none⟩), .pointer (some ⟨c2, 0, none⟩)] binEncs (insL l f t) (fun k => k = c0) (fun k => k = 0 ∨ k = c1 ∨ k = c2) w := by
  intro r J Jx W hsz hkeep hJm hJ hJx hY hJ0
  refine callsIn_of_wp Tryd.func45 rfl trivial ?_ rfl
  simp only [Tryd.ntmps45, List.size_toArray, List.length_cons, List.length_nil, Nat.reduceAdd, Nat.reduceSub, Array.replicate_succ, Array.replicate_zero, List.push_toArray, List.append_toArray, List.nil_append, List.cons_append]
  have hxs : ∃ xs, insL l f t = xs := ⟨_, rfl⟩
  obtain ⟨xs, hxs⟩ := hxs
  rw [hxs] at hY ⊢
  obtain ⟨s0, s1, s2, s3, s4, s5⟩ := hc
  have K := fun (A B : World) (h : Kept (fun k => (k = 0 ∨ k = c1 ∨ k = c2) ∨ k = c0) A B) (k : Nat) (hk : k = 0 ∨ k = c1 ∨ k = c2 ∨ k = c0) (o : Nat) => (World.cell?_of_block (w := A) (a := ⟨k, o, none⟩) (h.block k (by omega)))
  have HK : Hid (∀ (A B : World), Kept (fun k => (k = 0 ∨ k = c1 ∨ k = c2) ∨ k = c0) A B → ∀ (k : Nat), (k = 0 ∨ k = c1 ∨ k = c2 ∨ k = c0) → ∀ o : Nat, B.cell? ⟨k, o, none⟩ = A.cell? ⟨k, o, none⟩) := K
  have HKF : Hid (∀ (A B : World), Kept (fun k => (k = 0 ∨ k = c1 ∨ k = c2) ∨ k = c0) A B → B.frozen? ⟨c0, 0, none⟩ = A.frozen? ⟨c0, 0, none⟩) := fun A B h => World.frozen?_of_block (w := A) (a := ⟨c0, 0, none⟩) (h.block c0 (.inr rfl))
  clear K
  have hWk : Kept (fun k => (k = 0 ∨ k = c1 ∨ k = c2) ∨ k = c0) w W := ⟨hsz, hkeep⟩
  have hHead : Head l t c0 c1 c2 xs J W 0 f := ⟨hJ0, by rw [← hxs]; rfl, Nat.zero_le _, f0, (HK.out _ _ hWk c0 (by omega) 0).trans h0, (HKF.out _ _ hWk).trans hf0, (HK.out _ _ hWk c1 (by omega) 0).trans h1, (HK.out _ _ hWk c2 (by omega) 0).trans h2,
    fun i hi => (HK.out _ _ hWk 0 (by omega) i).trans (hT i hi), by omega, by omega, by omega⟩
  clear hWk hkeep h0 hf0 h1 h2 hT hJ0 hsz hxs
  have HJ : Hid (∀ k N A B, J k N A → N ≤ A.heap.size → Turned (fun k => k = c0) A B → J k N B) := hJ
  have HJ2 : Hid (∀ k A B, J k A.heap.size A → Turned (fun k => k = c0) A B → J k B.heap.size B) := fun k A B h ht => hJm _ _ _ _ (hJ k _ A B h (Nat.le_refl _) ht) ht.size
  have HY := Lib.hid hY
  have HH := Lib.hid hHead
  clear hJ hY hJx hHead hJm
  gi_wp2
  gi_loopw [5] (fun _ wr => ∃ k f', Head l t c0 c1 c2 xs J wr k f') (fun _ wr => (t - intOf ((wr.cell? ⟨c0, 0, none⟩).getD undef)).toNat)
  case atStart => exact ⟨0, f, HH.out⟩
  case round =>
    obtain ⟨k, g, hj, hrest, kle, g0, h0, hf0, h1, h2, hT, z0, z1, z2⟩ := hrel
    clear HH
    have HT : Hid (TabOK wr) := hT
    have HG : Hid ((t - intOf ((wr.cell? ⟨c0, 0, none⟩).getD undef)).toNat = (t - g).toNat) := by show _ = _; rw [h0]; rfl
    have HR := Lib.hid hrest
    clear hT hrest
    by_cases hlt : g < t
    · have HA := around_any l g wr HT l0 l1 g0 (by omega)
      have HA' := Lib.hid HA
      clear HA
      have hh := lh l g l0 l1 g0 (by omega)
      have e1 := hh.lo
      have e2 := hh.hi
      have e3 := hh.b1
      have e4 := hh.a0
      clear hh
      have HO : Hid (t < hi l g → xs.drop k = []) := fun h => by rw [← HR.out]; exact insL_out l0 l1 g0 ht hlt h
      have HS : Hid (hi l g ≤ t → ¬ g ≤ lo l g → insL l (hi l g) t = xs.drop k) := fun h h' => by rw [← HR.out]; exact (insL_skip l0 l1 g0 ht hlt (by omega) h').symm
      have HC : Hid (hi l g ≤ t → g ≤ lo l g → xs.drop k = (l, lo l g, hi l g) :: insL l (hi l g) t) := fun h h' => by rw [← HR.out]; exact insL_cons l0 l1 g0 ht hlt (by omega) h'
      clear HR
      generalize lo l g = a at *
      generalize hi l g = b at *
      gi_wp2_with fail
      refine ⟨trivial, rfl, (callsIn_wide.2 HA'.out).mono ?_⟩
      rintro e w1 ⟨rfl, hb⟩
      obtain ⟨hcell, hfroz⟩ := bcell hb
      have q0 : w1.cell? ⟨c0, 0, none⟩ = some (.int .i64 g) := (hcell _ _ z0).trans h0
      have qf : w1.frozen? ⟨c0, 0, none⟩ = false := (hfroz _ _ z0).trans hf0
      have q1 : w1.cell? ⟨c1, 0, none⟩ = some (.int .i64 t) := (hcell _ _ z1).trans h1
      have q2 : w1.cell? ⟨c2, 0, none⟩ = some (.int .i64 l) := (hcell _ _ z2).trans h2
      have y0 : c0 < w1.heap.size := by have := hb.size; omega
      have y1 : c1 < w1.heap.size := by have := hb.size; omega
      have y2 : c2 < w1.heap.size := by have := hb.size; omega
      have HT1 : Hid (TabOK w1) := HT.out.below hb
      have hj1 : J k w1.heap.size w1 := HJ2.out k wr w1 hj (Turned.of_new hb)
      have hj1' : J k wr.heap.size w1 := HJ.out k _ wr w1 hj (Nat.le_refl _) (Turned.of_new hb)
      have hwz : wr.heap.size ≤ w1.heap.size := hb.size
      clear hcell hfroz h0 hf0 h1 h2 hj HT hb HA'
      by_cases hbt : t < b
      · have hk : k = xs.length := by
          have := List.drop_eq_nil_iff.1 (HO.out hbt)
          omega
        have HK' := Lib.hid hk
        have hj2 : Hid (J xs.length (w1.alloc (.cells #[(.int .i64 l), (.int .i64 a), (.int .i64 b)] 38)).heap.size (w1.alloc (.cells #[(.int .i64 l), (.int .i64 a), (.int .i64 b)] 38))) := by rw [← HK'.out]; exact HJ2.out k w1 _ hj1 ((Turned.refl _ _).alloc _)
        clear hk HO HS HC
        have b1 : decide (t < b) = true := by simpa using hbt
        gi_wp2_with (refine wide_skip (fun _ => trivial) rfl ?_)
        refine bodyPost_ret (results_none rfl _ _ _) rfl ?_
        exact ⟨⟨_, rfl⟩, .inl hj2.out⟩
      · have b1 : decide (t < b) = false := by simp; omega
        by_cases hga : g ≤ a
        · have b2 : decide (g ≤ a) = true := by simpa using hga
          have hdrop := HC.out (by omega) hga
          have hx : xs[k]? = some (l, a, b) := by
            have := List.getElem?_drop (xs := xs) (i := k) (j := 0)
            rw [hdrop] at this
            simpa using this.symm
          have hlt2 : k < xs.length := (List.getElem?_eq_some_iff.1 hx).1
          have hdrop2 : insL l b t = xs.drop (k + 1) := by
            have := congrArg (List.drop 1) hdrop
            rw [List.drop_drop] at this
            simpa using this.symm
          have HD2 := Lib.hid hdrop2
          have hj2 : J k wr.heap.size (w1.alloc (.cells #[(.int .i64 l), (.int .i64 a), (.int .i64 b)] 38)) := HJ.out k _ w1 _ hj1' hwz ((Turned.refl _ _).alloc _)
          obtain ⟨fn, tmps, assign, body, hy, hR⟩ := HY.out k wr.heap.size (l, a, b) _ hj2 (by simp; omega) hx
          simp only [binEncs] at hy
          have HR2 := Lib.hid hR
          have HH2 : Hid (∀ A, J (k + 1) A.heap.size A → Kept (fun k => (k = 0 ∨ k = c1 ∨ k = c2) ∨ k = c0) (w1.alloc (.cells #[(.int .i64 l), (.int .i64 a), (.int .i64 b)] 38)) A → Head l t c0 c1 c2 xs J (A.setCell ⟨c0, 0, none⟩ (.int .i64 b)) (k + 1) b) := by
            intro A hA hKA
            have ht1 : Turned (fun k => k = c0) A (A.setCell ⟨c0, 0, none⟩ (.int .i64 b)) := (Turned.refl (fun k => k = c0) _).setCell (p := ⟨c0, 0, none⟩) rfl _
            have hz := hKA.size
            simp only [World.size_alloc] at hz
            have cellA : ∀ k o, (k = 0 ∨ k = c1 ∨ k = c2) → k < w1.heap.size → (A.setCell ⟨c0, 0, none⟩ (.int .i64 b)).cell? ⟨k, o, none⟩ = w1.cell? ⟨k, o, none⟩ := by
              intro k o hk hk2
              rw [ht1.cell (p := ⟨k, o, none⟩) (by show k < _; omega) (by show ¬ k = c0; omega), HK.out _ _ hKA k (by omega) o]
              exact ((Turned.refl (fun _ => False) w1).alloc _).cell (p := ⟨k, o, none⟩) hk2 id
            have c0A : A.cell? ⟨c0, 0, none⟩ = some (.int .i64 g) := by
              rw [HK.out _ _ hKA c0 (by omega) 0]
              exact (((Turned.refl (fun _ => False) w1).alloc _).cell (p := ⟨c0, 0, none⟩) y0 id).trans q0
            have f0A : A.frozen? ⟨c0, 0, none⟩ = false := by
              rw [HKF.out _ _ hKA]
              exact (World.frozen?_of_block (w := w1) (a := ⟨c0, 0, none⟩) (Below.heap_alloc _ _ _ y0)).trans qf
            have h00 : 0 < w1.heap.size := by omega
            refine ⟨HJ2.out (k + 1) A _ hA ht1, HD2.out, by omega, by omega, ?_, ?_, (cellA c1 0 (by omega) y1).trans q1, (cellA c2 0 (by omega) y2).trans q2, fun i hi => (cellA 0 i (by omega) h00).trans (HT1.out i hi), ?_, ?_, ?_⟩
            · exact World.cell?_setCell_same' _ _ _ (by rw [c0A]; rfl)
            · rw [World.frozen?_setCell]; exact f0A
            · have := ht1.size; omega
            · have := ht1.size; omega
            · have := ht1.size; omega
          clear hdrop hdrop2 hj2 hR hx HO HS HC
          gi_wp2
          refine ⟨rfl, HR2.out.mono ?_⟩
          rintro e W4 (⟨rfl, hj4, hk4⟩ | ⟨rfl, hjx4⟩)
          · have hk5 : Kept (fun k => (k = 0 ∨ k = c1 ∨ k = c2) ∨ k = c0) (w1.alloc (.cells #[(.int .i64 l), (.int .i64 a), (.int .i64 b)] 38)) W4 := ⟨hk4.size, fun i hi => hk4.block i (.inl hi)⟩
            have hh4 := Lib.hid (HH2.out W4 hj4 hk5)
            have r0 : W4.cell? ⟨c0, 0, none⟩ = some (.int .i64 g) := by rw [HK.out _ _ hk5 c0 (by omega) 0]; go_simp
            have rf : W4.frozen? ⟨c0, 0, none⟩ = false := by rw [HKF.out _ _ hk5]; go_simp
            have rb : W4.cell? ⟨w1.heap.size, 2, none⟩ = some (.int .i64 b) := by
              rw [World.cell?_of_block (w := w1.alloc (.cells #[(.int .i64 l), (.int .i64 a), (.int .i64 b)] 38)) (a := ⟨w1.heap.size, 2, none⟩) (hk4.block w1.heap.size (.inr ⟨hwz, by simp⟩))]; go_simp
            have hms : Hid ((W4.setCell ⟨c0, 0, none⟩ (.int .i64 b)).cell? ⟨c0, 0, none⟩ = some (.int .i64 b)) := hh4.out.h0
            clear HH2 hk4 hk5 hj4 hj1' hwz
            gi_wp2
            go_roundw
            case rel => exact ⟨k + 1, b, hh4.out⟩
            case measure => rw [hms.out, HG.out]; simp [intOf]; omega
          · gi_wp2
            refine bodyPost_ret (results_none rfl _ _ _) rfl ?_
            exact ⟨⟨_, rfl⟩, .inr hjx4⟩
        · have hj2 : Hid (Head l t c0 c1 c2 xs J ((w1.setCell ⟨c0, 0, none⟩ (.int .i64 b)).alloc (.cells #[(.int .i64 l), (.int .i64 a), (.int .i64 b)] 38)) k b) := by
            have ht0 : Turned (fun k => k = c0) w1 (w1.setCell ⟨c0, 0, none⟩ (.int .i64 b)) := (Turned.refl (fun k => k = c0) w1).setCell (p := ⟨c0, 0, none⟩) rfl _
            have ht2 : Turned (fun _ => False) (w1.setCell ⟨c0, 0, none⟩ (.int .i64 b)) ((w1.setCell ⟨c0, 0, none⟩ (.int .i64 b)).alloc (.cells #[(.int .i64 l), (.int .i64 a), (.int .i64 b)] 38)) := (Turned.refl _ _).alloc _
            have ht1 : Turned (fun k => k = c0) w1 ((w1.setCell ⟨c0, 0, none⟩ (.int .i64 b)).alloc (.cells #[(.int .i64 l), (.int .i64 a), (.int .i64 b)] 38)) := ht0.alloc _
            have cellA : ∀ k o, (k = 0 ∨ k = c1 ∨ k = c2) → k < w1.heap.size → ((w1.setCell ⟨c0, 0, none⟩ (.int .i64 b)).alloc (.cells #[(.int .i64 l), (.int .i64 a), (.int .i64 b)] 38)).cell? ⟨k, o, none⟩ = w1.cell? ⟨k, o, none⟩ := fun k o hk hk2 =>
              ht1.cell (p := ⟨k, o, none⟩) hk2 (by show ¬ k = c0; omega)
            have h00 : 0 < w1.heap.size := by omega
            have hs0 := ht0.size
            refine ⟨HJ2.out k w1 _ hj1 ht1, HS.out (by omega) (by omega), kle, by omega, ?_, ?_, (cellA c1 0 (by omega) y1).trans q1, (cellA c2 0 (by omega) y2).trans q2, fun i hi => (cellA 0 i (by omega) h00).trans (HT1.out i hi), ?_, ?_, ?_⟩
            · exact (ht2.cell (p := ⟨c0, 0, none⟩) (by show c0 < _; omega) id).trans (World.cell?_setCell_same' _ _ _ (by rw [q0]; rfl))
            · exact (World.frozen?_of_block (w := w1.setCell ⟨c0, 0, none⟩ (.int .i64 b)) (a := ⟨c0, 0, none⟩) (Below.heap_alloc _ _ _ (by show c0 < _; omega))).trans (by rw [World.frozen?_setCell]; exact qf)
            · have := ht1.size; omega
            · have := ht1.size; omega
            · have := ht1.size; omega
          have hms : Hid (((w1.setCell ⟨c0, 0, none⟩ (.int .i64 b)).alloc (.cells #[(.int .i64 l), (.int .i64 a), (.int .i64 b)] 38)).cell? ⟨c0, 0, none⟩ = some (.int .i64 b)) := hj2.out.h0
          clear HO HS HC
          have b2 : decide (g ≤ a) = false := by simp; omega
          gi_wp2_with (refine wide_skip (fun _ => trivial) rfl ?_)
          go_roundw
          case rel => exact ⟨k, b, hj2.out⟩
          case measure => rw [hms.out, HG.out]; simp [intOf]; omega
    · have hk : k = xs.length := by
        have := HR.out
        rw [insL_nil (by omega)] at this
        have := List.drop_eq_nil_iff.1 this.symm
        omega
      have HK' := Lib.hid hk
      have HJ' := Lib.hid hj
      clear hk hj
      gi_wp2
      go_end0
      exact ⟨⟨_, rfl⟩, .inl (by rw [← HK'.out]; exact HJ'.out)⟩
end Go.Proofs.YtfcfdphkaildiaaDoor
