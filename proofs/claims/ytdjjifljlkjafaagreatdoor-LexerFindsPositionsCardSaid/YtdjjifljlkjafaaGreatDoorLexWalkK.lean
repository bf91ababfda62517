/- Walk of the specification's Position. Conditions: those of each theorem. -/
import Derived.Test.YtdjjifljlkjafaaGreatDoorLexWalkI
import Derived.Test.YtdjjifljlkjafaaGreatDoorLexWalkH
namespace Go.Proofs.YtdjjifljlkjafaaGreatDoor
open Go Go.Proofs Go.RowKit
attribute [local go_sem] Oper.semAt_some

theorem place_size : (Tryz.prog.info? 40).map (·.size) = some 2 := by kernel_rfl
theorem results_place (tmps : Array Value) (w : World) (g : Nat) (x y : Value) (hp : tmps.getD 4 undef = .pointer (some ⟨g, 0, none⟩)) (hg : w.heap[g]? = some (.cells #[x, y] 40 (0, 0))) :
    (results Tryz.f17 tmps).run Tryz.prog w = .ok (.agg #[x, y]) w :=
  results_cell_row (fn := Tryz.f17) rfl tmps w g 40 #[x, y] (0, 0) _ hp hg Tryz.underlying40 rfl place_size
/-- in the loop of the specification's Position -/
structure RP (w : World) (t : ByteArray) (k N F : Nat) (wr : World) : Prop where
  ps : PS t k N F
  res : wr.heap[w.heap.size]? = some (.cells #[(.int .i64 0), (.int .i64 0)] 40 (0, 0))
  box : wr.heap[w.heap.size + 1]? = some (.cells #[(.int .i64 ((N : Int) + 1)), (.int .i64 ((k : Int) - F + 1))] 40 (0, 0))
  tur : Turned (fun i => w.heap.size ≤ i) w wr
theorem one_set {V : World} {N : Nat} {a b y : Value} {t : TypeId} (h : V.heap[N]? = some (.cells #[a, b] t (0, 0))) : (V.setCell ⟨N, 1, none⟩ y).heap[N]? = some (.cells #[a, y] t (0, 0)) := by
  simp [World.setCell, Array.getElem?_modify, h]
theorem set_far {V : World} {M : Nat} (p : Addr) (v : Value) (h : p.block ≠ M) : (V.setCell p v).heap[M]? = V.heap[M]? := by
  simp [World.setCell, Array.getElem?_modify, h]
/-- the column grows -/
theorem RP.col {w wr : World} {t : ByteArray} {k N F : Nat} (h : RP w t k N F wr) (hk : k < t.size) (hc : t[k] ≠ 10) (x : Int) (hx : x = (k : Int) - F + 1 + 1) : RP w t (k + 1) N F (wr.setCell ⟨w.heap.size + 1, 1, none⟩ (.int .i64 x)) := by
  refine ⟨⟨by omega, by have := h.ps.n; omega, by have := h.ps.f; omega, ?_⟩, ?_, ?_, h.tur.setCell (p := ⟨w.heap.size + 1, 1, none⟩) (Nat.le_succ _) _⟩
  · rw [← h.ps.eq]
    exact (posF_far t 1 k N F (by omega) (fun i hi h1 h2 => by obtain rfl : i = k := by omega
                                                               exact hc)).symm
  · rw [set_far _ _ (by simp)]; exact h.res
  · rw [one_set h.box, show x = ((k + 1 : Nat) : Int) - F + 1 by omega]
/-- a new line -/
theorem RP.line {w wr : World} {t : ByteArray} {k N F : Nat} (h : RP w t k N F wr) (hk : k < t.size) (hc : t[k] = 10) (z x y : Int) (hx : x = (N : Int) + 1 + 1) (hy : y = 1) : RP w t (k + 1) (N + 1) (k + 1) (((wr.setCell ⟨w.heap.size + 1, 1, none⟩ (.int .i64 z)).setCell ⟨w.heap.size + 1, 0, none⟩ (.int .i64 x)).setCell ⟨w.heap.size + 1, 1, none⟩ (.int .i64 y)) := by
  refine ⟨⟨by omega, by have := h.ps.n; omega, by omega, ?_⟩, ?_, ?_, two_turned (h.tur.setCell (p := ⟨w.heap.size + 1, 1, none⟩) (Nat.le_succ _) _) (Nat.le_succ _)⟩
  · rw [← h.ps.eq, posF_line t k N F hk hc]
  · rw [set_far _ _ (by simp), set_far _ _ (by simp), set_far _ _ (by simp)]; exact h.res
  · rw [two_set (one_set h.box), show x = ((N + 1 : Nat) : Int) + 1 by omega, show y = ((k + 1 : Nat) : Int) - ((k + 1 : Nat) : Int) + 1 by omega]
set_option maxHeartbeats 1000000 in
theorem rposition_any (s : ByteArray) (a : Int) (w : World) (hs : s.size ≤ 65536) : Calls Tryz.prog 17 #[.string s, (.int .i64 a)] w fun e w' => e = .returned (.agg #[(.int .i64 ((posP s a).1)), (.int .i64 ((posP s a).2))]) ∧ Turned (fun _ => False) w w' := by
  go_enter Tryz.func17, Tryz.ntmps17
  by_cases hout : a < 0 ∨ a > s.size
  · have HF : Hid (posP s a = (0, 0)) := by show _ = _; unfold posP; rw [if_pos hout]
    rcases hout with h | h
    · go_wp2
      refine bodyPost_ret (results_place _ _ w.heap.size (.int .i64 0) (.int .i64 0) rfl (heap_alloc_new _ _)) rfl ?_
      rw [HF.out]
      exact ⟨rfl, (Turned.refl _ _).alloc _⟩
    · have : 0 ≤ a := by omega
      go_wp2
      refine bodyPost_ret (results_place _ _ w.heap.size (.int .i64 0) (.int .i64 0) rfl (heap_alloc_new _ _)) rfl ?_
      rw [HF.out]
      exact ⟨rfl, (Turned.refl _ _).alloc _⟩
  · obtain ⟨k, rfl⟩ : ∃ k : Nat, a = k := ⟨a.toNat, by omega⟩
    have hk : k ≤ s.size := by omega
    have HF : Hid (posP s k = (((posF (s.extract 0 k).data.toList 0 0 0).1 : Int) + 1, (k : Int) - (posF (s.extract 0 k).data.toList 0 0 0).2 + 1)) := by show _ = _; unfold posP; rw [if_neg hout]; rfl
    clear hout
    have hz : (s.extract 0 k).size = k := by simp; omega
    have hget : ∀ j (h1 : j < (s.extract 0 k).size) (h2 : j < s.size), (s.extract 0 k)[j] = s[j] := fun j h1 h2 => by simp [ByteArray.getElem_extract]
    generalize s.extract 0 k = t at HF hz hget
    have H0 : Hid (RP w t 0 0 0 ((w.alloc (.cells #[(.int .i64 0), (.int .i64 0)] 40)).alloc (.cells #[(.int .i64 1), (.int .i64 1)] 40))) := by
      refine ⟨⟨by omega, by omega, by omega, rfl⟩, ?_, ?_, ((Turned.refl _ _).alloc _).alloc _⟩
      · rw [heap_alloc_old _ _ _ (by simp)]; exact heap_alloc_new _ _
      · have := heap_alloc_new (w.alloc (.cells #[(.int .i64 0), (.int .i64 0)] 40)) (.cells #[(.int .i64 1), (.int .i64 1)] 40)
        rw [show (w.alloc (.cells #[(.int .i64 0), (.int .i64 0)] 40)).heap.size = w.heap.size + 1 by simp] at this
        exact this
    go_wp2_with fail
    go_loopw [6] (fun i wr => ∃ j N F : Nat, i = (.int .i64 j) ∧ Hid (RP w t j N F wr)) (fun i _ => t.size - (intOf i).toNat)
    case atStart => exact ⟨0, 0, 0, rfl, H0⟩
    case round =>
      clear H0
      obtain ⟨j, N, F, rfl, HS⟩ := hrel
      have hle := HS.out.ps.le
      have hn := HS.out.ps.n
      have hf := HS.out.ps.f
      obtain ⟨b0, b1, b2, b3⟩ := two_cells HS.out.box
      obtain ⟨r0, r1, r2, r3⟩ := two_cells HS.out.res
      by_cases hp : j < t.size
      · have hjs : j < s.size := by omega
        have hg := hget j hp hjs
        by_cases hc : t[j] = 10
        · have HS2 := Lib.hid (fun z x y hx hy => HS.out.line hp hc z x y hx hy)
          have kc : ((s[j].toNat : Int) == 10) = true := by rw [← hg, hc]; rfl
          obtain ⟨m0, m1, m2, m3⟩ := two_cells (one_set (y := (.int .i64 ((j : Int) - F + 1 + 1))) HS.out.box)
          clear hg hc hget
          go_wp2_with fail
          go_roundw
          case rel => exact ⟨j + 1, N + 1, j + 1, by go_num, HS2.out _ _ _ (by omega) rfl⟩
          case measure => simp [intOf]; omega
        · have HS2 := Lib.hid (fun x hx => HS.out.col hp hc x hx)
          have kc : ((s[j].toNat : Int) == 10) = false := by
            have : s[j].toNat ≠ 10 := fun h => hc (by rw [hg]; exact UInt8.toNat_inj.1 h)
            simp; omega
          clear hg hc hget
          go_wp2_with fail
          go_roundw
          case rel => exact ⟨j + 1, N, F, by go_num, HS2.out _ (by omega)⟩
          case measure => simp [intOf]; omega
      · have HE : Hid (posF t.data.toList 0 0 0 = (N, F)) := by
          show _ = _
          rw [← HS.out.ps.eq, List.drop_eq_nil_of_le (by simp; omega)]
          rfl
        obtain rfl : j = t.size := by omega
        clear hget
        go_wp2_with fail
        refine bodyPost_ret (results_place _ _ w.heap.size (.int .i64 ((N : Int) + 1)) (.int .i64 ((k : Int) - F + 1)) rfl (two_set HS.out.res)) rfl ?_
        rw [HF.out, HE.out]
        exact ⟨rfl, (two_turned HS.out.tur (Nat.le_refl _)).strip⟩
end Go.Proofs.YtdjjifljlkjafaaGreatDoor
