/- Walk of (*strings.Replacer).build, for the three pairs of the lexer's Text. Conditions: those of each theorem. -/
import Derived.Test.YtdjjifljlkjafaaGreatDoorLexBuild
namespace Go.Proofs.YtdjjifljlkjafaaGreatDoor
open Go Go.Proofs Go.RowKit
attribute [local go_sem] Oper.semAt_some

/-- the table in a world of the walk -/
def BS (w : World) (R : Nat) (D : List (UInt8 × List UInt8)) (W : World) : Prop := ∃ arr v, BT w.heap.size R D W arr v ∧ Turned (fun i => w.heap.size ≤ i) w W
theorem SixAt.turned {C : Nat → Prop} {W W' : World} {g : Nat} (h : SixAt W g) (ht : Turned C W W') (hg : g < W.heap.size) (hC : ¬ C g) : SixAt W' g := fun j y hj => by
  rw [ht.cell (p := ⟨g, j, none⟩) hg hC]; exact h j y hj
theorem bt_cells {base R : Nat} {D : List (UInt8 × List UInt8)} {W : World} {arr : Array Value} {v : Value} (h : BT base R D W arr v) (o : UInt8) (ho : ∀ p ∈ D, p.1 ≠ o) : W.cell? ⟨R, o.toNat, none⟩ = some (.slice none 0 0) ∧ W.cell? ⟨R, 256, none⟩ = some v ∧ ∀ i, W.frozen? ⟨R, i, none⟩ = false := by
  refine ⟨?_, ?_, fun i => by simp [World.frozen?, h.row]⟩
  · rw [row_cell' h.row]
    exact h.nil _ o.toNat_lt fun p hp e => ho p hp (UInt8.toNat_inj.1 e)
  · rw [row_cell' h.row]; exact h.last
/-- what the append leaves, as the walk reads it -/
theorem bt_after {base R : Nat} {D : List (UInt8 × List UInt8)} {W wa w4 : World} {arr : Array Value} {v v' : Value} (h : BT base R D W arr v) (ha : Turned (fun _ => False) W wa) (hg : wa.grownBy w4 v.ownBlock) (o : UInt8) (ho : ∀ p ∈ D, p.1 ≠ o) (s : ByteArray) :
    w4.cell? ⟨R, 256, none⟩ = some v ∧ (∀ i, w4.frozen? ⟨R, i, none⟩ = false) ∧ (Lib.bytesWorld (w4.setCell ⟨R, 256, none⟩ v') 5 s).cell? ⟨R, o.toNat, none⟩ = some (.slice none 0 0) ∧ (∀ i, (Lib.bytesWorld (w4.setCell ⟨R, 256, none⟩ v') 5 s).frozen? ⟨R, i, none⟩ = false) ∧ (w4.setCell ⟨R, 256, none⟩ v').heap.size = w4.heap.size := by
  obtain ⟨g1, -⟩ := h.after ha hg
  have hs5 : (w4.setCell ⟨R, 256, none⟩ v').heap.size = w4.heap.size := by simp [World.setCell]
  have e5 := set_block g1 256 v'
  have e6 : (Lib.bytesWorld (w4.setCell ⟨R, 256, none⟩ v') 5 s).heap[R]? = some (.cells (arr.setIfInBounds 256 v') 127 (0, 0)) := by
    rw [Lib.bytesWorld_at_old _ _ _ _ (by rw [hs5]; exact getElem?_lt g1)]; exact e5
  refine ⟨?_, fun i => by simp [World.frozen?, g1], ?_, fun i => by simp [World.frozen?, e6], hs5⟩
  · rw [row_cell' g1]; exact h.last
  · rw [row_cell' e6, Array.getElem?_setIfInBounds_ne (by have := o.toNat_lt; omega)]
    exact h.nil _ o.toNat_lt fun p hp e => ho p hp (UInt8.toNat_inj.1 e)
theorem bs_step {w W wa w4 : World} {R : Nat} {D : List (UInt8 × List UInt8)} {arr : Array Value} {v v' : Value} (h : BT w.heap.size R D W arr v) (ht : Turned (fun i => w.heap.size ≤ i) w W) (hRw : w.heap.size ≤ R) (ha : Turned (fun _ => False) W wa) (hg : wa.grownBy w4 v.ownBlock) (o : UInt8) (l : List UInt8) (ho : ∀ p ∈ D, p.1 ≠ o)
    (hown : w4.ownsRow w.heap.size 9 1 v' (D.length + 1) (D.map (fun p => .string ⟨#[p.1]⟩) ++ [.string ⟨#[o]⟩])) :
    Hid (∀ c, BS w R (D ++ [(o, l)]) ((Lib.bytesWorld (w4.setCell ⟨R, 256, none⟩ v') 5 ⟨l.toArray⟩).setCell ⟨R, o.toNat, none⟩ (.slice (some ⟨w4.heap.size, 0, none⟩) l.length c))) := fun c => by
  refine ⟨_, _, h.step ha hg o l ho hown c, ?_⟩
  have hb := ownsRow_block h.own
  have t1 : Turned (fun i => w.heap.size ≤ i) wa w4 := Turned.of_grown hg fun g hgr => (hb g hgr).1
  exact (((ht.trans (ha.mono fun _ h => h.elim)).trans t1).setCell (p := ⟨R, 256, none⟩) hRw v').trans ((bytesWorld_turned _ _).mono fun _ h => h.elim) |>.setCell (p := ⟨R, o.toNat, none⟩) hRw _
set_option maxRecDepth 20000 in
set_option maxHeartbeats 4000000 in
theorem build_any (B g cap : Nat) (w : World) (h4 : w.cell? ⟨B, 4, none⟩ = some (.slice (some ⟨g, 0, none⟩) 6 cap)) (h6 : SixAt w g) (hg : g < w.heap.size) : Calls Tryz.prog 59 #[.pointer (some ⟨B, 0, none⟩)] w fun e w' => e = .returned (.iface 128 (.pointer (some ⟨w.heap.size + 1, 0, none⟩))) ∧ Hid (BS w (w.heap.size + 1) rows w') := by
  obtain ⟨i0, hif, hz0, hz1, hz2⟩ := info_parts infoStr
  obtain ⟨s0, s1, s2, s3, s4, s5⟩ := six_cells6 h6
  have H6 := Lib.hid h6
  clear h6
  have hmk : ∀ w : World, (Instr.makeSlice 57 (.int .i64 0) (.int .i64 3)).run Tryz.prog w = .ok (.slice (some ⟨w.heap.size, 0, none⟩) 0 3) (w.alloc (.cells #[.string ⟨#[]⟩, .string ⟨#[]⟩, .string ⟨#[]⟩] 9)) := fun _ => by kernel_rfl
  go_enter Tryz.func59, Tryz.ntmps59
  go_wp2_with fail
  go_loop [4, 5] (fun b i => b = .bool true ∧ i = (.int .i64 0) ∨ b = .bool false ∧ i = (.int .i64 2) ∨ b = .bool false ∧ i = (.int .i64 4) ∨ b = .bool false ∧ i = (.int .i64 6)) (fun _ i => 6 - (intOf i).toNat)
  case atStart => exact .inl ⟨rfl, rfl⟩
  case round =>
    rcases hrel with ⟨rfl, rfl⟩ | ⟨rfl, rfl⟩ | ⟨rfl, rfl⟩ | ⟨rfl, rfl⟩
    · go_wp2
      go_round
      case rel => exact .inr (.inl ⟨rfl, by first | rfl | go_num⟩)
      case measure => simp [intOf]
    · go_wp2
      go_round
      case rel => exact .inr (.inr (.inl ⟨rfl, by first | rfl | go_num⟩))
      case measure => simp [intOf]
    · go_wp2
      go_round
      case rel => exact .inr (.inr (.inr ⟨rfl, by first | rfl | go_num⟩))
      case measure => simp [intOf]
    · obtain ⟨arr, ar1, ar2, ar3, hst⟩ := store_fresh (w.alloc (.cells #[.string ⟨#[]⟩, .string ⟨#[]⟩, .string ⟨#[]⟩] 9)) (.slice (some ⟨w.heap.size, 0, none⟩) 0 3) rfl
      rw [show (w.alloc (.cells #[.string ⟨#[]⟩, .string ⟨#[]⟩, .string ⟨#[]⟩] 9)).heap.size = w.heap.size + 1 by simp] at hst
      have H0 : Hid (BS w (w.heap.size + 1) [] ((w.alloc (.cells #[.string ⟨#[]⟩, .string ⟨#[]⟩, .string ⟨#[]⟩] 9)).alloc (.cells arr 127))) := by
        have e1 := heap_alloc_new (w.alloc (.cells #[.string ⟨#[]⟩, .string ⟨#[]⟩, .string ⟨#[]⟩] 9)) (.cells arr 127)
        rw [show (w.alloc (.cells #[.string ⟨#[]⟩, .string ⟨#[]⟩, .string ⟨#[]⟩] 9)).heap.size = w.heap.size + 1 by simp] at e1
        refine ⟨arr, _, ⟨e1, ar1, fun b hb _ => ar2 b hb, fun p hp => absurd hp (by simp), ar3, ⟨rfl, .inr ⟨w.heap.size, 3, #[.string ⟨#[]⟩, .string ⟨#[]⟩, .string ⟨#[]⟩], rfl, Nat.le_refl _, ?_, by simp, by unfold maxLen; omega, rfl, rfl⟩⟩⟩, ((Turned.refl _ _).alloc _).alloc _⟩
        rw [heap_alloc_old _ _ _ (by simp)]; exact heap_alloc_new _ _
      clear ar1 ar2 ar3
      go_wp2_with fail
      clear s0 s1 s2 s3 s4 s5 h4 hmk hst
      generalize (w.alloc (.cells #[.string ⟨#[]⟩, .string ⟨#[]⟩, .string ⟨#[]⟩] 9)).alloc (.cells arr 127) = W0 at H0 ⊢
      clear arr
      have hcvs : ∀ (l : List UInt8) (W : World), (convert 9 46 (.string ⟨l.toArray⟩)).run Tryz.prog W = .ok (.slice (some ⟨W.heap.size, 0, none⟩) l.length (grownCap W l.length 0 5)) (Lib.bytesWorld W 5 ⟨l.toArray⟩) := fun l W => Lib.run_convert_string_bytes W 9 46 5 ⟨l.toArray⟩ Tryz.underlying9 Tryz.underlying46 Tryz.underlying5
      have hcvb : ∀ (o : UInt8) (W : World) (n : Nat), W.heap.size = n → (convert 46 9 (.slice (some ⟨n, 0, none⟩) 1 1)).run Tryz.prog (W.alloc (.cells #[.int .u8 o.toNat] 5)) = .ok (.string ⟨#[o]⟩) (W.alloc (.cells #[.int .u8 o.toNat] 5)) := fun o W n hn => by
        subst hn
        refine run_convert_bytes_back _ 46 9 5 ⟨W.heap.size, 0, none⟩ 1 [o] Tryz.underlying46 Tryz.underlying5 Tryz.underlying9 (fun i hi => ?_)
        simp at hi; subst hi
        simp [Addr.add]
      have hcmp : ∀ W : World, (binOp .eql 46 (.slice none 0 0) (.slice none 0 0)).run Tryz.prog W = .ok (.bool true) W := fun _ => by kernel_rfl
      go_loopw [12] (fun i wr => i = (.int .i64 4) ∧ Hid (BS w (w.heap.size + 1) [] wr) ∨ i = (.int .i64 2) ∧ Hid (BS w (w.heap.size + 1) (rows.take 1) wr) ∨ i = (.int .i64 0) ∧ Hid (BS w (w.heap.size + 1) (rows.take 2) wr) ∨ i = (.int .i64 (-2)) ∧ Hid (BS w (w.heap.size + 1) rows wr)) (fun i _ => (intOf i + 2).toNat)
      case atStart => exact .inl ⟨rfl, H0⟩
      case round =>
        clear H0
        rcases hrel with ⟨rfl, HS⟩ | ⟨rfl, HS⟩ | ⟨rfl, HS⟩ | ⟨rfl, HS⟩
        · obtain ⟨arr, v, hB, hT⟩ := HS.out
          obtain ⟨t0, t1, t2, t3, t4, t5⟩ := six_cells6 (H6.out.turned hT hg (by omega))
          obtain ⟨va, vc, rfl⟩ := owns_shape hB.own
          have ho : ∀ p ∈ ([] : List (UInt8 × List UInt8)), p.1 ≠ (10 : UInt8) := by decide
          obtain ⟨r1, r2, rf⟩ := bt_cells hB 10 ho
          have HB := Lib.hid hB
          have HT := Lib.hid hT
          have hws := hT.size
          have hb1 : (convert 46 9 (.slice (some ⟨wr.heap.size, 0, none⟩) 1 1)).run Tryz.prog (wr.alloc (.cells #[.int .u8 10] 5)) = .ok (.string ⟨#[10]⟩) (wr.alloc (.cells #[.int .u8 10] 5)) := hcvb 10 wr _ rfl
          have hs1 := hcvs [92, 110]
          have hx : ((ByteArray.mk #[10])[0]'(by decide)).toNat = 10 := rfl
          have HO : Hid (((wr.alloc (.cells #[.int .u8 10] 5)).alloc (.cells #[.string ⟨#[10]⟩] 9)).ownsRow w.heap.size 9 1 (.slice va 0 vc) 0 (([] : List (UInt8 × List UInt8)).map fun p => Value.string ⟨#[p.1]⟩)) := ownsRow_turned' ((Turned.refl (fun _ => False) wr).alloc (.cells #[.int .u8 10] 5) |>.alloc (.cells #[.string ⟨#[10]⟩] 9)) (fun _ _ => id) hB.own
          clear hB hT
          simp only [show ([] : List (UInt8 × List UInt8)).length = 0 from rfl, show ((10 : UInt8).toNat) = 10 from rfl, show ([92, 110] : List UInt8).length = 2 from rfl] at r1 r2 hs1 ⊢
          go_wp2_with (at_builtin; refine wpList_append_own _ rfl _ _ 57 rfl w.heap.size 9 i0 (.string ⟨#[]⟩) 1 16 Tryz.underlying57 hif hz0 hz1 hz2 rfl (by decide) _ _ _ rfl HO.out ⟨wr.heap.size + 1, 0, none⟩ 1 1 [.string ⟨#[10]⟩] rfl rfl (cell_one_at (by simp)) (by intro u hu; simp at hu; subst hu; rfl) (by unfold maxLen; omega) (by omega) (by simp; omega) ?_; intro v' w4 hown' hgrow hnil; obtain ⟨c1, c2, c3, c4, c5⟩ := bt_after (v' := v') HB.out (((Turned.refl (fun _ => False) wr).alloc (.cells #[.int .u8 10] 5)).alloc (.cells #[.string ⟨#[10]⟩] 9)) hgrow 10 ho ⟨([92, 110] : List UInt8).toArray⟩; simp only [show ((10 : UInt8).toNat) = 10 from rfl] at c3; have HE := bs_step HB.out HT.out (Nat.le_succ _) (((Turned.refl (fun _ => False) wr).alloc (.cells #[.int .u8 10] 5)).alloc (.cells #[.string ⟨#[10]⟩] 9)) hgrow 10 [92, 110] ho hown'; obtain ⟨va', vc', rfl⟩ := owns_shape hown'; clear hown' hgrow hnil)
          go_roundw
          case rel => exact .inr (.inl ⟨by first | rfl | go_num, HE.out _⟩)
          case measure => simp [intOf]
        · obtain ⟨arr, v, hB, hT⟩ := HS.out
          obtain ⟨t0, t1, t2, t3, t4, t5⟩ := six_cells6 (H6.out.turned hT hg (by omega))
          obtain ⟨va, vc, rfl⟩ := owns_shape hB.own
          have ho : ∀ p ∈ (rows.take 1), p.1 ≠ (92 : UInt8) := by decide
          obtain ⟨r1, r2, rf⟩ := bt_cells hB 92 ho
          have HB := Lib.hid hB
          have HT := Lib.hid hT
          have hws := hT.size
          have hb1 : (convert 46 9 (.slice (some ⟨wr.heap.size, 0, none⟩) 1 1)).run Tryz.prog (wr.alloc (.cells #[.int .u8 92] 5)) = .ok (.string ⟨#[92]⟩) (wr.alloc (.cells #[.int .u8 92] 5)) := hcvb 92 wr _ rfl
          have hs1 := hcvs [92, 92]
          have hx : ((ByteArray.mk #[92])[0]'(by decide)).toNat = 92 := rfl
          have HO : Hid (((wr.alloc (.cells #[.int .u8 92] 5)).alloc (.cells #[.string ⟨#[92]⟩] 9)).ownsRow w.heap.size 9 1 (.slice va 1 vc) 1 ((rows.take 1).map fun p => Value.string ⟨#[p.1]⟩)) := ownsRow_turned' ((Turned.refl (fun _ => False) wr).alloc (.cells #[.int .u8 92] 5) |>.alloc (.cells #[.string ⟨#[92]⟩] 9)) (fun _ _ => id) hB.own
          clear hB hT
          simp only [show (rows.take 1).length = 1 from rfl, show ((92 : UInt8).toNat) = 92 from rfl, show ([92, 92] : List UInt8).length = 2 from rfl] at r1 r2 hs1 ⊢
          go_wp2_with (at_builtin; refine wpList_append_own _ rfl _ _ 57 rfl w.heap.size 9 i0 (.string ⟨#[]⟩) 1 16 Tryz.underlying57 hif hz0 hz1 hz2 rfl (by decide) _ _ _ rfl HO.out ⟨wr.heap.size + 1, 0, none⟩ 1 1 [.string ⟨#[92]⟩] rfl rfl (cell_one_at (by simp)) (by intro u hu; simp at hu; subst hu; rfl) (by unfold maxLen; omega) (by omega) (by simp; omega) ?_; intro v' w4 hown' hgrow hnil; obtain ⟨c1, c2, c3, c4, c5⟩ := bt_after (v' := v') HB.out (((Turned.refl (fun _ => False) wr).alloc (.cells #[.int .u8 92] 5)).alloc (.cells #[.string ⟨#[92]⟩] 9)) hgrow 92 ho ⟨([92, 92] : List UInt8).toArray⟩; simp only [show ((92 : UInt8).toNat) = 92 from rfl] at c3; have HE := bs_step HB.out HT.out (Nat.le_succ _) (((Turned.refl (fun _ => False) wr).alloc (.cells #[.int .u8 92] 5)).alloc (.cells #[.string ⟨#[92]⟩] 9)) hgrow 92 [92, 92] ho hown'; obtain ⟨va', vc', rfl⟩ := owns_shape hown'; clear hown' hgrow hnil)
          go_roundw
          case rel => exact .inr (.inr (.inl ⟨by first | rfl | go_num, HE.out _⟩))
          case measure => simp [intOf]
        · obtain ⟨arr, v, hB, hT⟩ := HS.out
          obtain ⟨t0, t1, t2, t3, t4, t5⟩ := six_cells6 (H6.out.turned hT hg (by omega))
          obtain ⟨va, vc, rfl⟩ := owns_shape hB.own
          have ho : ∀ p ∈ (rows.take 2), p.1 ≠ (34 : UInt8) := by decide
          obtain ⟨r1, r2, rf⟩ := bt_cells hB 34 ho
          have HB := Lib.hid hB
          have HT := Lib.hid hT
          have hws := hT.size
          have hb1 : (convert 46 9 (.slice (some ⟨wr.heap.size, 0, none⟩) 1 1)).run Tryz.prog (wr.alloc (.cells #[.int .u8 34] 5)) = .ok (.string ⟨#[34]⟩) (wr.alloc (.cells #[.int .u8 34] 5)) := hcvb 34 wr _ rfl
          have hs1 := hcvs [92, 34]
          have hx : ((ByteArray.mk #[34])[0]'(by decide)).toNat = 34 := rfl
          have HO : Hid (((wr.alloc (.cells #[.int .u8 34] 5)).alloc (.cells #[.string ⟨#[34]⟩] 9)).ownsRow w.heap.size 9 1 (.slice va 2 vc) 2 ((rows.take 2).map fun p => Value.string ⟨#[p.1]⟩)) := ownsRow_turned' ((Turned.refl (fun _ => False) wr).alloc (.cells #[.int .u8 34] 5) |>.alloc (.cells #[.string ⟨#[34]⟩] 9)) (fun _ _ => id) hB.own
          clear hB hT
          simp only [show (rows.take 2).length = 2 from rfl, show ((34 : UInt8).toNat) = 34 from rfl, show ([92, 34] : List UInt8).length = 2 from rfl] at r1 r2 hs1 ⊢
          go_wp2_with (at_builtin; refine wpList_append_own _ rfl _ _ 57 rfl w.heap.size 9 i0 (.string ⟨#[]⟩) 1 16 Tryz.underlying57 hif hz0 hz1 hz2 rfl (by decide) _ _ _ rfl HO.out ⟨wr.heap.size + 1, 0, none⟩ 1 1 [.string ⟨#[34]⟩] rfl rfl (cell_one_at (by simp)) (by intro u hu; simp at hu; subst hu; rfl) (by unfold maxLen; omega) (by omega) (by simp; omega) ?_; intro v' w4 hown' hgrow hnil; obtain ⟨c1, c2, c3, c4, c5⟩ := bt_after (v' := v') HB.out (((Turned.refl (fun _ => False) wr).alloc (.cells #[.int .u8 34] 5)).alloc (.cells #[.string ⟨#[34]⟩] 9)) hgrow 34 ho ⟨([92, 34] : List UInt8).toArray⟩; simp only [show ((34 : UInt8).toNat) = 34 from rfl] at c3; have HE := bs_step HB.out HT.out (Nat.le_succ _) (((Turned.refl (fun _ => False) wr).alloc (.cells #[.int .u8 34] 5)).alloc (.cells #[.string ⟨#[34]⟩] 9)) hgrow 34 [92, 34] ho hown'; obtain ⟨va', vc', rfl⟩ := owns_shape hown'; clear hown' hgrow hnil)
          go_roundw
          case rel => exact .inr (.inr (.inr ⟨by first | rfl | go_num, HE.out _⟩))
          case measure => simp [intOf]
        · go_wp2_with fail
          go_ret
          exact ⟨rfl, HS⟩
end Go.Proofs.YtdjjifljlkjafaaGreatDoor
