/- Walks of the calendar: inside, Children. Conditions: TabOK. -/
import Derived.Test.YtfcfdphkaildiaaDoorCalIter
import Derived.Test.YtfcfdphkaildiaaDoorOutLaw
import Derived.Shelf.Abstract
namespace Go.Proofs.YtfcfdphkaildiaaDoor
open Go Go.Proofs Go.RowKit
attribute [local go_sem] Oper.semAt_some

theorem inside_any (l f t : Int) (w : World) : Calls Tryd.prog 40 #[(.int .i64 l), (.int .i64 f), (.int .i64 t)] w fun e w' =>
    e = .returned (.func (.func 45) #[] #[.pointer (some ⟨w.heap.size + 1, 0, none⟩), .pointer (some ⟨w.heap.size + 2, 0, none⟩), .pointer (some ⟨w.heap.size, 0, none⟩)]) ∧
    ((w.alloc (.cells #[(.int .i64 l)] 3)).alloc (.cells #[(.int .i64 f)] 3)).alloc (.cells #[(.int .i64 t)] 3) = w' := by
  go_enter Tryd.func40, Tryd.ntmps40
  go_wp2_with fail
  go_ret
  exact ⟨rfl, rfl⟩

def binCells (x : Int × Int × Int) : List Value := [(.int .i64 (x.1)), (.int .i64 (x.2.1)), (.int .i64 (x.2.2))]
theorem infoBin : (Tryd.prog.info? 38).map (fun i => (i.zero, i.size, i.bytes)) = some (some (.agg #[(.int .i64 0), (.int .i64 0), (.int .i64 0)]), 3, 24) := by kernel_rfl
theorem cells_three (w : World) (a b c : Value) (t : TypeId) : ∀ j u, [a, b, c][j]? = some u → (w.alloc (.cells #[a, b, c] t)).cell? ((⟨w.heap.size, 0, none⟩ : Addr).add j) = some u := by
  intro j u hj
  match j, hj with
  | 0, hj => simp at hj; subst hj; simp [Addr.add]
  | 1, hj => simp at hj; subst hj; simp [Addr.add]
  | 2, hj => simp at hj; subst hj; simp [Addr.add]

theorem cells_of_three {W : World} {B T : Nat} {a b c : Value} (h : W.heap[B]? = some (.cells #[a, b, c] T (0, 0))) : W.cell? ⟨B, 0, none⟩ = some a ∧ W.cell? ⟨B, 1, none⟩ = some b ∧ W.cell? ⟨B, 2, none⟩ = some c := by simp [World.cell?, h]

theorem reads_of_owns {W : World} {base : Nat} {v : Value} {bs : List (Int × Int × Int)} (h : W.ownsRow base 38 3 v bs.length (bs.flatMap binCells)) : Reads W v bs := by
  rcases owns_cell (enc := binCells) (fun _ => rfl) h with ⟨hv, hb⟩ | ⟨g, cap, hv, hc1, hc2, -, -, hcell⟩
  · exact .inl ⟨hv, hb⟩
  · refine .inr ⟨g, 0, cap, hv, hc1, by unfold maxLen at hc2; omega, fun i hi => ?_⟩
    rw [List.getD_eq_getElem?_getD, List.getElem?_eq_getElem hi]
    exact ⟨hcell i 0 hi (by omega), hcell i 1 hi (by omega), hcell i 2 hi (by omega)⟩

/-- 'returns a list of calendar blocks and an error number' -/
def RetBins (xs : List (Int × Int × Int)) (er : Int) (w : World) (e : Ending) (w' : World) : Prop := ∃ v, e = .returned (.tuple #[v, (.int .i64 er)]) ∧ Reads w' v xs ∧ Below w.heap.size w w'

set_option maxHeartbeats 1000000 in
theorem children_yes (l f t : Int) (w : World) (hT : Hid (TabOK w)) (h : validB l f t = true) (hl : l ≠ 0) :
    Calls Tryd.prog 20 #[(.agg #[(.int .i64 l), (.int .i64 f), (.int .i64 t)])] w (RetBins (insL (l - 1) f t) 0 w) := by
  refine callsIn_wide (n := 0).1 ?_
  refine callsIn_of_wp_marks Tryd.func20 rfl trivial ?_ rfl
  simp only [Tryd.ntmps20, List.size_toArray, List.length_cons, List.length_nil, Nat.reduceAdd, Nat.reduceSub, Array.replicate_succ, Array.replicate_zero, List.push_toArray, List.append_toArray, List.nil_append, List.cons_append]
  have HV : Hid (∀ W, TabOK W → Calls Tryd.prog 22 #[(.agg #[(.int .i64 l), (.int .i64 f), (.int .i64 t)])] W fun e w' => e = .returned (.bool true) ∧ Below W.heap.size W w') := fun W hT => by
    have := valid_any l f t W hT
    rwa [h] at this
  have hb0 : (l == 0) = false := by simpa using hl
  obtain ⟨l0, l1, f0, f1, -, e2⟩ := validB_iff.1 h
  have tb := (lh l f l0 l1 f0 f1).b1
  rw [e2] at tb
  clear e2 h
  gi_wp2_with fail
  refine ⟨trivial, rfl, (callsIn_wide.2 (HV.out _ (hT.out.below ((Below.refl _ _).alloc (Nat.le_refl _) _)))).mono ?_⟩
  rintro e w1 ⟨rfl, hb⟩
  have hB : Below w.heap.size w w1 := ((Below.refl _ _).alloc (Nat.le_refl _) _).trans (hb.mono (by simp))
  obtain ⟨hc, hf⟩ := bcell hb
  have hz : w.heap.size < w1.heap.size := by have := hb.size; simp at this; omega
  gi_wp2_with fail
  refine ⟨trivial, rfl, (callsIn_wide.2 (inside_any (l - 1) f t _)).mono ?_⟩
  rintro e w2 ⟨rfl, rfl⟩
  gi_wp2_with fail
  obtain ⟨W3, hW3⟩ : ∃ W3, W3 = (((w1.alloc (.cells #[.slice none 0 0] 46)).alloc (.cells #[(.int .i64 (l - 1))] 3)).alloc (.cells #[(.int .i64 f)] 3)).alloc (.cells #[(.int .i64 t)] 3) := ⟨_, rfl⟩
  have sz3 : W3.heap.size = w1.heap.size + 4 := by rw [hW3]; simp
  have hb3 : Below w1.heap.size w1 W3 := by rw [hW3]; exact ((((Below.refl _ _).alloc (Nat.le_refl _) _).alloc (by simp) _).alloc (by simp; omega) _).alloc (by simp; omega) _
  have hB3 : Below w.heap.size w W3 := hB.trans (hb3.mono (by omega))
  have box3' : W3.heap[w1.heap.size]? = some (.cells #[.slice none 0 0] 46 (0, 0)) := by
    rw [hW3]
    exact (((Turned.refl (fun _ => False) _).alloc _).alloc _ |>.alloc _ |>.block _ (by simp) id).trans (World.alloc_heap_new _ _)
  have c3 : W3.cell? ⟨w1.heap.size + 1, 0, none⟩ = some (.int .i64 (l - 1)) ∧ W3.cell? ⟨w1.heap.size + 2, 0, none⟩ = some (.int .i64 f) ∧ W3.frozen? ⟨w1.heap.size + 2, 0, none⟩ = false ∧ W3.cell? ⟨w1.heap.size + 3, 0, none⟩ = some (.int .i64 t) := by
    rw [hW3]; exact ⟨by go_simp, by go_simp, by go_simp, by go_simp⟩
  have hT3 : TabOK W3 := hT.out.below hB3
  have hit := inside_iter (l - 1) f t (w1.heap.size + 2) (w1.heap.size + 3) (w1.heap.size + 1) W3 (by omega) (by omega) f0 tb hT3 c3.2.1 c3.2.2.1 c3.2.2.2 c3.1 (by omega)
  have hlen := insL_len (l := l - 1) (by omega) (by omega) f0 tb
  have hO3 : Out W3 w1.heap.size 46 (W3.heap.size + 2) W3.heap.size 38 3 binCells ((insL (l - 1) f t).take 0) := Out.start box3' (by omega)
  rw [← hW3]
  have sz3a : W3.heap.size ≤ w1.heap.size + 4 := by omega
  have sz3b : w1.heap.size + 4 ≤ W3.heap.size := by omega
  clear hW3 sz3 box3' hc hf HV
  refine range_law (rfl : _ = Value.func (.func 45) #[] #[.pointer (some ⟨w1.heap.size + 2, 0, none⟩), .pointer (some ⟨w1.heap.size + 3, 0, none⟩), .pointer (some ⟨w1.heap.size + 1, 0, none⟩)]) (enters_of Tryd.func45 (by kernel_rfl) rfl) hit (fun _ => rfl) (by intro k hk; omega)
    (fun k N W => Out W w1.heap.size 46 (W3.heap.size + 2) N 38 3 binCells ((insL (l - 1) f t).take k) ∧ Below w.heap.size w W) (fun _ _ => False)
    ?monoN ?stab (fun _ _ _ h _ => h) ⟨hO3, hB3⟩
    (fun x => #[(.agg #[(.int .i64 l), (.int .i64 f), (.int .i64 t)]), .pointer (some ⟨w.heap.size, 0, none⟩), .slice none 0 0, (.int .i64 0), .pointer (some ⟨w1.heap.size, 0, none⟩), undef, .bool false, (.agg #[(.int .i64 l), (.int .i64 f), (.int .i64 t)]), .bool true, .bool false, .bool false, .pointer (some ⟨w.heap.size, 0, none⟩), (.int .i64 l), .bool false, .pointer (some ⟨w.heap.size, 0, none⟩), (.int .i64 l), (.int .i64 (l - 1)), .pointer (some ⟨w.heap.size, 1, none⟩), (.int .i64 f), .pointer (some ⟨w.heap.size, 2, none⟩), (.int .i64 t), .func (.func 45) #[] #[.pointer (some ⟨w1.heap.size + 1 + 1, 0, none⟩), .pointer (some ⟨w1.heap.size + 1 + 2, 0, none⟩), .pointer (some ⟨w1.heap.size + 1, 0, none⟩)], .agg #[(.int .i64 (x.1)), (.int .i64 (x.2.1)), (.int .i64 (x.2.2))], undef, undef, undef, undef, undef]) (fun x => by simp [binEncs])
    (fun k N M x a' W => ∃ Bx, a' = { tmps := #[(.agg #[(.int .i64 l), (.int .i64 f), (.int .i64 t)]), .pointer (some ⟨w.heap.size, 0, none⟩), .slice none 0 0, (.int .i64 0), .pointer (some ⟨w1.heap.size, 0, none⟩), .pointer (some ⟨Bx, 0, none⟩), .bool false, (.agg #[(.int .i64 l), (.int .i64 f), (.int .i64 t)]), .bool true, .bool false, .bool false, .pointer (some ⟨w.heap.size, 0, none⟩), (.int .i64 l), .bool false, .pointer (some ⟨w.heap.size, 0, none⟩), (.int .i64 l), (.int .i64 (l - 1)), .pointer (some ⟨w.heap.size, 1, none⟩), (.int .i64 f), .pointer (some ⟨w.heap.size, 2, none⟩), (.int .i64 t), .func (.func 45) #[] #[.pointer (some ⟨w1.heap.size + 1 + 1, 0, none⟩), .pointer (some ⟨w1.heap.size + 1 + 2, 0, none⟩), .pointer (some ⟨w1.heap.size + 1, 0, none⟩)], .agg #[(.int .i64 (x.1)), (.int .i64 (x.2.1)), (.int .i64 (x.2.2))], undef, undef, undef, undef, undef], defers := [] } ∧
      W.heap[Bx]? = some (.cells #[(.int .i64 (x.1)), (.int .i64 (x.2.1)), (.int .i64 (x.2.2))] 38 (0, 0)) ∧ M ≤ Bx ∧ W3.heap.size + 2 ≤ Bx ∧ Out W w1.heap.size 46 (W3.heap.size + 2) N 38 3 binCells ((insL (l - 1) f t).take k) ∧ Below w.heap.size w W)
    ?stabA ?assign ?body ?done (fun _ _ h => h.elim)
  case monoN => exact fun k N N' A h hN => ⟨h.1.mono hN, h.2⟩
  case stab => exact fun k N A B h hN ht => ⟨h.1.turned ht (by intro k hk; omega), h.2.trans (ht.below (by have := h.2.size; omega) (by intro k hk; have := hB.size; omega))⟩
  case stabA =>
    rintro k N M x a' A B ⟨Bx, h1, h2, h3, h4, h5, h6⟩ ht
    exact ⟨Bx, h1, (ht.block Bx (getElem?_lt h2) (by omega)).trans h2, h3, h4, h5.turned ht (by intro k hk; omega), h6.trans (ht.below (by have := h6.size; omega) (by intro k hk; have := hB.size; omega))⟩
  case assign =>
    rintro k N x W hx ⟨hO, hBW⟩ hN hsz
    have HO := Lib.hid hO
    have HBW := Lib.hid hBW
    clear hO hBW
    gi_wp2
    refine ⟨⟨W.heap.size, rfl, World.alloc_heap_new _ _, Nat.le_refl _, hsz, HO.out.turned ((Turned.refl (fun _ => False) _).alloc _) (fun k h => h.elim), HBW.out.alloc (by have := HBW.out.size; omega) _⟩, ?_⟩
    exact ((Turned.refl (fun _ => False) _).alloc _).kept (by intro k hk; exact ⟨by omega, id⟩)
  case body =>
    rintro k N M x a' W hx ⟨Bx, rfl, hbx, hM, hsB, ⟨v, hbox, hown, hvN, hBN⟩, hBW⟩ hNM hMW hsz
    obtain ⟨hcx0, hcx1, hcx2⟩ := cells_of_three hbx
    have hcb := cell_of_box hbox
    have hfb := free_of_box hbox 0
    have hk : k < (insL (l - 1) f t).length := (List.getElem?_eq_some_iff.1 hx).1
    have hlk : ((insL (l - 1) f t).take k).length = k := List.length_take_of_le (by omega)
    have htk : (insL (l - 1) f t).take (k + 1) = (insL (l - 1) f t).take k ++ [x] := by
      rw [List.take_succ_eq_append_getElem hk]; rw [List.getElem?_eq_getElem hk] at hx; simp at hx; rw [hx]
    generalize hbs : (insL (l - 1) f t).take k = bs at *
    clear hbs
    obtain ⟨i0, hi, hz0, hz1, hz2⟩ := info_parts infoBin
    have HO := Lib.hid hown
    have HX := Lib.hid htk
    have HB := Lib.hid hbox
    have HBX := Lib.hid hbx
    have HL := Lib.hid hlk
    clear hown htk hbox hbx hx hlk
    gi_wp2_with (gi_at_builtin; refine wpListIn_append_own _ rfl _ _ 46 rfl (W3.heap.size + 2) 38 i0 (.agg #[(.int .i64 0), (.int .i64 0), (.int .i64 0)]) 3 24 Tryd.underlying46 hi hz0 hz1 hz2 rfl (by decide) _ _ _ rfl (ownsRow_turned ((Turned.refl (fun _ => False) W).alloc _) (fun _ h => h.elim) HO.out) ⟨W.heap.size, 0, none⟩ 1 1 [(.int .i64 (x.1)), (.int .i64 (x.2.1)), (.int .i64 (x.2.2))] rfl rfl (cells_three _ _ _ _ _) (by simp [Value.oneCell']) (by rw [HL.out]; unfold maxLen; omega) (by rw [HL.out]; omega) (by simp; omega) ?_; intro v' w4 hown' hgrow _; obtain ⟨hO2, hT2, hb4, hs4⟩ := Out.appended HB.out HO.out (by omega) rfl hown' hgrow; obtain ⟨g', cap', rfl⟩ := ownsRow_succ hown'; have hc4 := cell_of_box hb4; have hf4 := free_of_box hb4 0; have HO2 := Lib.hid hO2; have HT2 := Lib.hid hT2; clear hO2 hT2 hb4 hown' hgrow)
    refine ⟨HT2.out.kept ?_, ?_, ?_⟩
    · intro j hj
      have hW := HT2.out.size
      have hbl := ownsRow_block HO.out
      refine ⟨by omega, ?_⟩
      rintro (rfl | hv)
      · omega
      · have := hbl j hv; have := hvN j hv; omega
    · have := HO2.out
      rw [← HX.out] at this
      exact this
    · refine hBW.trans (HT2.out.below (by have := hBW.size; omega) ?_)
      rintro j (rfl | hv)
      · have := hB.size; omega
      · have := ownsRow_block HO.out j hv; have := hB.size; omega
  case done =>
    rintro W ⟨hO, hBW⟩ hD hsz
    rw [List.take_length] at hO
    obtain ⟨v, hbox, hown, -, -⟩ := hO
    have hcb := cell_of_box hbox
    have HO := Lib.hid hown
    have HD := Lib.hid hD
    have HBX := Lib.hid hbox
    clear hown hbox hD
    gi_wp2
    refine ⟨by simp, .inl ⟨_, _, rfl, run_takeDeferred HD.out, ?_⟩⟩
    refine ⟨_, results_tmp2 rfl _ _ _, v, rfl, ?_, ?_⟩
    · exact reads_of_owns (ownsRow_turned ((Turned.refl (fun k => k = W3.heap.size) W).putObj rfl _) (by intro k hk; omega) HO.out)
    · exact hBW.trans (((Turned.refl (fun k => k = W3.heap.size) W).putObj rfl _).below (by have := hBW.size; omega) (by intro k hk; have := hB3.size; omega))

/-- Children's error -/
def chE (l f t : Int) : Int := if validB l f t = true then (if l = 0 then 8 else 0) else 1
theorem children_no (l f t : Int) (w : World) (hT : Hid (TabOK w)) (h : validB l f t = false ∨ validB l f t = true ∧ l = 0) :
    Calls Tryd.prog 20 #[(.agg #[(.int .i64 l), (.int .i64 f), (.int .i64 t)])] w (RetBins [] (chE l f t) w) := by
  have fin : ∀ b : Bool, validB l f t = b → (b = false ∧ chE l f t = 1 ∨ b = true ∧ (l == 0) = true ∧ chE l f t = 8) → Calls Tryd.prog 20 #[(.agg #[(.int .i64 l), (.int .i64 f), (.int .i64 t)])] w (RetBins [] (chE l f t) w) := by
    intro b hb hf
    have HV : Hid (∀ W, TabOK W → Calls Tryd.prog 22 #[(.agg #[(.int .i64 l), (.int .i64 f), (.int .i64 t)])] W fun e w' => e = .returned (.bool b) ∧ Below W.heap.size W w') := fun W hT => by
      have := valid_any l f t W hT
      rwa [hb] at this
    clear hb h
    rcases hf with ⟨rfl, hp⟩ | ⟨rfl, h1, hp⟩
    all_goals
      rw [hp]
      clear hp
      refine callsIn_wide (n := 0).1 ?_
      refine callsIn_of_wp_marks Tryd.func20 rfl trivial ?_ rfl
      simp only [Tryd.ntmps20, List.size_toArray, List.length_cons, List.length_nil, Nat.reduceAdd, Nat.reduceSub, Array.replicate_succ, Array.replicate_zero, List.push_toArray, List.append_toArray, List.nil_append, List.cons_append]
      gi_wp2_with fail
      refine ⟨trivial, rfl, (callsIn_wide.2 (HV.out _ (hT.out.below ((Below.refl _ _).alloc (Nat.le_refl _) _)))).mono ?_⟩
      rintro e w1 ⟨rfl, hb⟩
      have hB : Below w.heap.size w w1 := ((Below.refl _ _).alloc (Nat.le_refl _) _).trans (hb.mono (by simp))
      obtain ⟨hc, hf⟩ := bcell hb
      have hz : w.heap.size < w1.heap.size := by have := hb.size; simp at this; omega
      clear HV
      gi_wp2
      exact ⟨_, results_tmp2 rfl _ _ _, .slice none 0 0, rfl, .inl ⟨rfl, rfl⟩, hB⟩
  refine fin _ rfl ?_
  rcases h with h | ⟨h, rfl⟩
  · exact .inl ⟨h, by simp [chE, h]⟩
  · exact .inr ⟨h, rfl, by simp [chE, h]⟩
end Go.Proofs.YtfcfdphkaildiaaDoor
