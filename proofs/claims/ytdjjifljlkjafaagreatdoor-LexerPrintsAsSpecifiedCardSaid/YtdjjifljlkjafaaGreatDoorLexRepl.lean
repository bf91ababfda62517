/- Walks of strings.NewReplacer and of its building, for the three pairs of the lexer's Text. Conditions: those of each theorem. -/
import Derived.Test.YtdjjifljlkjafaaGreatDoorLexOnce
import Derived.Test.YtdjjifljlkjafaaGreatDoorLexWalkJ
import Derived.Laws.NewBlocks
namespace Go.Proofs.YtdjjifljlkjafaaGreatDoor
open Go Go.Proofs Go.RowKit
attribute [local go_sem] Oper.semAt_some

/-- the old bytes and the new strings, in the text's order -/
def six : List (List UInt8) := [[34], [92, 34], [92], [92, 92], [10], [92, 110]]
def sixV : List Value := six.map fun l => Value.string ⟨l.toArray⟩
/-- the list of six strings lies in a block -/
def SixAt (W : World) (g : Nat) : Prop := ∀ (j : Nat) (y : Value), sixV[j]? = some y → W.cell? ⟨g, j, none⟩ = some y
/-- a replacer that has not been used -/
def Fresh (W : World) (B : Nat) : Prop := ∃ g cap, W.heap[B]? = some (.cells #[.int .u32 0, .int .i32 0, .int .u32 0, .nilIface, .slice (some ⟨g, 0, none⟩) 6 cap] 85 (0, 0)) ∧ g < W.heap.size ∧ g ≠ B ∧ SixAt W g
theorem six_own {W : World} {base : Nat} {v : Value} (h : W.ownsRow base 9 1 v 6 sixV) : ∃ g cap, v = .slice (some ⟨g, 0, none⟩) 6 cap ∧ base ≤ g ∧ g < W.heap.size ∧ SixAt W g := by
  obtain ⟨hl, h2⟩ := h
  rcases h2 with ⟨rfl, h0⟩ | ⟨g, cap, cur, rfl, hg, hh, hc, hm, hs, ht⟩
  · cases h0
  · refine ⟨g, cap, rfl, hg, getElem?_lt hh, fun j y hj => ?_⟩
    have hlt : j < sixV.length := (List.getElem?_eq_some_iff.1 hj).1
    rw [← ht, List.getElem?_take_of_lt (by have : sixV.length = 6 := rfl; omega)] at hj
    simpa [World.cell?, hh] using hj
set_option maxRecDepth 20000 in
set_option maxHeartbeats 1000000 in
theorem new_any (G : Nat) (w : World) (h6 : SixAt w G) : Calls Tryz.prog 25 #[.slice (some ⟨G, 0, none⟩) 6 6] w fun e w' => ∃ B, e = .returned (.pointer (some ⟨B, 0, none⟩)) ∧ Hid (Fresh w' B ∧ w.heap.size ≤ B ∧ Turned (fun _ => False) w w') := by
  obtain ⟨i0, hif, hz0, hz1, hz2⟩ := info_parts infoStr
  have HOwn : Hid (w.ownsRow w.heap.size 9 1 (.slice none 0 0) 0 []) := ⟨rfl, .inl ⟨rfl, rfl⟩⟩
  have H6 := Lib.hid h6
  clear h6
  go_enter Tryz.func25, Tryz.ntmps25
  have hadd : ∀ (j : Nat), (⟨G, 0, none⟩ : Addr).add j = ⟨G, j, none⟩ := fun j => by cases j <;> simp [Addr.add]
  have HC : Hid (∀ (j : Nat) (u : Value), sixV[j]? = some u → w.cell? ((⟨G, 0, none⟩ : Addr).add j) = some u) := fun j u hj => by rw [hadd]; exact H6.out j u hj
  clear hadd
  go_wp2_with (at_builtin; refine wpList_append_own _ rfl _ _ 57 rfl w.heap.size 9 i0 (.string ⟨#[]⟩) 1 16 Tryz.underlying57 hif hz0 hz1 hz2 rfl (by decide) _ _ _ rfl HOwn.out ⟨G, 0, none⟩ 6 6 sixV rfl rfl HC.out (by decide) (by unfold maxLen; omega) (by omega) (by omega) ?_; intro v' w4 hown' hgrow hnil; have HG := Lib.hid hgrow; obtain ⟨g, cap, hv, hg, hgl, hS⟩ := six_own hown'; subst hv; have HS := Lib.hid hS; clear hown' hgrow hnil hS)
  go_ret
  refine ⟨_, rfl, Lib.hid ⟨⟨g, cap, heap_alloc_new _ _, by simp; omega, by omega, ?_⟩, ?_, ?_⟩⟩
  · intro j y hj
    rw [World.cell?_alloc_past _ _ _ hgl]
    exact HS.out j y hj
  · exact HG.out.size
  · exact (Turned.of_grown (C := fun _ => False) HG.out fun g hg => by cases hg).alloc _
end Go.Proofs.YtdjjifljlkjafaaGreatDoor
