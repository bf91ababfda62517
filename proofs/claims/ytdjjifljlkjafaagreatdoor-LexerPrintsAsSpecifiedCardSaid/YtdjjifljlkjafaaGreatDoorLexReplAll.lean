/- Walk of (*strings.Replacer).Replace, for the lexer's three pairs, on a replacer that has not been used. Conditions: those of each theorem. -/
import Derived.Test.YtdjjifljlkjafaaGreatDoorLexReplW
namespace Go.Proofs.YtdjjifljlkjafaaGreatDoor
open Go Go.Proofs Go.RowKit
attribute [local go_sem] Oper.semAt_some

set_option maxRecDepth 20000 in
set_option maxHeartbeats 1000000 in
theorem replace_any (B : Nat) (s : ByteArray) (w : World) (hF : Fresh w B) (hs : s.size ≤ 100000) :
    Calls Tryz.prog 26 #[.pointer (some ⟨B, 0, none⟩), .string s] w fun e w' => e = .returned (.string ⟨(escL s.data.toList).toArray⟩) ∧ Turned (fun i => i = B) w w' := by
  obtain ⟨g, cap, h5, hg, hgB, h6⟩ := hF
  obtain ⟨c0, c1, c2, c3, c4, cf⟩ := five_cells h5
  have hmf : ∀ (fn : Fn) (first cap : Array Value) (w : World), (Instr.makeFunc fn first cap).run Tryz.prog w = .ok (.func fn first cap) w := fun _ _ _ _ => rfl
  have hme : ∀ (p : Value) (W : World), (method 330 128 p "Replace").run Tryz.prog W = .ok (153, p) W := fun _ _ => by kernel_rfl
  have h5' := (set_at (x := .int .i32 1) h5).2.1
  have hT1 : Turned (fun i => i = B) w (w.setCell ⟨B, 1, none⟩ (.int .i32 1)) := (Turned.refl (fun i => i = B) _).setCell (p := ⟨B, 1, none⟩) rfl _
  have h6' : SixAt (w.setCell ⟨B, 1, none⟩ (.int .i32 1)) g := h6.turned hT1 hg hgB
  have hsz : (w.setCell ⟨B, 1, none⟩ (.int .i32 1)).heap.size = w.heap.size := by simp [World.setCell]
  have HO := Lib.hid (once_any B g cap _ h5' h6' (by rw [hsz]; exact hg))
  have HD := Lib.hid (do_first B (.pointer (some ⟨B, 0, none⟩)) w (Built (w.setCell ⟨B, 1, none⟩ (.int .i32 1)) B ((w.setCell ⟨B, 1, none⟩ (.int .i32 1)).heap.size + 1)) c0 c1 (cf 1) HO.out)
  have HT1 := Lib.hid hT1
  have hB := getElem?_lt h5
  clear HO h6' h5' hT1 h6 c0 c1 c2 c3 c4 cf h5
  go_enter Tryz.func26, Tryz.ntmps26
  go_wp2_with fail
  refine HD.out.mono ?_
  rintro e W2 ⟨rfl, w1, ⟨arr, v, c, hBT, h7, hT⟩, rfl⟩
  rw [hsz] at hT hBT h7
  have e1 := (set_at (x := .int .u32 1) (show w1.drew.heap[B]? = _ from h7)).1
  have e2 := (set_at (x := .int .i32 0) e1).2.1
  have hBT2 := ((hBT.drew).other (show w1.drew.heap[B]? = _ from h7) 0 (.int .u32 1)).other e1 1 (.int .i32 0)
  have hT2 : Turned (fun i => i = B) w ((w1.drew.setCell ⟨B, 0, none⟩ (.int .u32 1)).setCell ⟨B, 1, none⟩ (.int .i32 0)) := by
    have t1 : Turned (fun i => i = B ∨ w.heap.size ≤ i) w w1.drew := (HT1.out.mono fun _ h => .inl h).trans (hT.trans (drewN_turned _ w1 1))
    have t2 := (t1.setCell (p := ⟨B, 0, none⟩) (.inl rfl) (.int .u32 1)).setCell (p := ⟨B, 1, none⟩) (.inl rfl) (.int .i32 0)
    exact ⟨t2.os, t2.tape, t2.output, t2.size, fun k hk hne => t2.block k hk (fun h => h.elim hne (by omega))⟩
  generalize (w1.drew.setCell ⟨B, 0, none⟩ (.int .u32 1)).setCell ⟨B, 1, none⟩ (.int .i32 0) = W2 at e2 hBT2 hT2 ⊢
  obtain ⟨d0, d1, d2, d3, d4, df⟩ := five_cells e2
  have HR := Lib.hid (bsr_any _ _ s arr v W2 hBT2 hs)
  have HT2 := Lib.hid hT2
  clear hBT hBT2 h7 hT e1 e2 hT2
  go_wp2_with fail
  refine HR.out.mono ?_
  rintro e w5 ⟨rfl, ht⟩
  have HT5 := Lib.hid ht
  clear ht
  go_wp2_with fail
  go_ret
  exact ⟨rfl, HT2.out.trans (HT5.out.mono fun _ h => h.elim)⟩
end Go.Proofs.YtdjjifljlkjafaaGreatDoor
