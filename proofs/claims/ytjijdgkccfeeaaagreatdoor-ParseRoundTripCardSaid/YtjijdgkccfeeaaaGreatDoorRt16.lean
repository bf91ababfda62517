/- Part 16 of the proof of card: LexBuildW, LexReplOnce, LexEsc, LexReplW, LexReplAll. Conditions: those of each theorem. -/
import Derived.Deep.OwnRows
import Derived.Laws.CopyOwn
import Derived.Test.YtjijdgkccfeeaaaGreatDoorRt01
import Derived.Test.YtjijdgkccfeeaaaGreatDoorRt15
namespace Go.Proofs.YtjijdgkccfeeaaaGreatDoor
open Go Go.Proofs Go.RowKit
attribute [local go_sem] Oper.semAt_some
def BS (w : World) (R : Nat) (D : List (UInt8 × List UInt8)) (W : World) : Prop := ∃ arr v, BT w.heap.size R D W arr v ∧ Turned (fun i => w.heap.size ≤ i) w W
theorem SixAt.turned {C : Nat → Prop} {W W' : World} {g : Nat} (h : SixAt W g) (ht : Turned C W W') (hg : g < W.heap.size) (hC : ¬ C g) : SixAt W' g := fun j y hj => by
  rw [ht.cell (p := ⟨g, j, none⟩) hg hC]; exact h j y hj
theorem bt_cells {base R : Nat} {D : List (UInt8 × List UInt8)} {W : World} {arr : Array Value} {v : Value} (h : BT base R D W arr v) (o : UInt8) (ho : ∀ p ∈ D, p.1 ≠ o) : W.cell? ⟨R, o.toNat, none⟩ = some (.slice none 0 0) ∧ W.cell? ⟨R, 256, none⟩ = some v ∧ ∀ i, W.frozen? ⟨R, i, none⟩ = false := by
  refine ⟨?_, ?_, fun i => by simp [World.frozen?, h.row]⟩
  · rw [row_cell' h.row]
    exact h.nil _ o.toNat_lt fun p hp e => ho p hp (UInt8.toNat_inj.1 e)
  · rw [row_cell' h.row]; exact h.last
theorem bt_after {base R : Nat} {D : List (UInt8 × List UInt8)} {W wa w4 : World} {arr : Array Value} {v v' : Value} (h : BT base R D W arr v) (ha : Turned (fun _ => False) W wa) (hg : wa.grownBy w4 v.ownBlock) (o : UInt8) (ho : ∀ p ∈ D, p.1 ≠ o) (s : ByteArray) :
    w4.cell? ⟨R, 256, none⟩ = some v ∧ (∀ i, w4.frozen? ⟨R, i, none⟩ = false) ∧ (Lib.bytesWorld (w4.setCell ⟨R, 256, none⟩ v') 5 s).cell? ⟨R, o.toNat, none⟩ = some (.slice none 0 0) ∧ (∀ i, (Lib.bytesWorld (w4.setCell ⟨R, 256, none⟩ v') 5 s).frozen? ⟨R, i, none⟩ = false) ∧ (w4.setCell ⟨R, 256, none⟩ v').heap.size = w4.heap.size := by
  obtain ⟨g1, -⟩ := h.after ha hg
  have hs5 : (w4.setCell ⟨R, 256, none⟩ v').heap.size = w4.heap.size := by simp [World.setCell]
  have e5 := set_block g1 256 v'
  have e6 : (Lib.bytesWorld (w4.setCell ⟨R, 256, none⟩ v') 5 s).heap[R]? = some (.cells (arr.setIfInBounds 256 v') 214 (0, 0)) := by
    rw [Lib.bytesWorld_at_old _ _ _ _ (by rw [hs5]; exact getElem?_lt g1)]; exact e5
  refine ⟨?_, fun i => by simp [World.frozen?, g1], ?_, fun i => by simp [World.frozen?, e6], hs5⟩
  · rw [row_cell' g1]; exact h.last
  · rw [row_cell' e6, Array.getElem?_setIfInBounds_ne (by have := o.toNat_lt; omega)]
    exact h.nil _ o.toNat_lt fun p hp e => ho p hp (UInt8.toNat_inj.1 e)
theorem bs_step {w W wa w4 : World} {R : Nat} {D : List (UInt8 × List UInt8)} {arr : Array Value} {v v' : Value} (h : BT w.heap.size R D W arr v) (ht : Turned (fun i => w.heap.size ≤ i) w W) (hRw : w.heap.size ≤ R) (ha : Turned (fun _ => False) W wa) (hg : wa.grownBy w4 v.ownBlock) (o : UInt8) (l : List UInt8) (ho : ∀ p ∈ D, p.1 ≠ o)
    (hown : w4.ownsRow w.heap.size 9 1 v' (D.length + 1) (D.map (fun p => .string ⟨#[p.1]⟩) ++ [.string ⟨#[o]⟩])) :
    Hid (∀ c, BS w R (D ++ [(o, l)]) ((Lib.bytesWorld (w4.setCell ⟨R, 256, none⟩ v') 5 ⟨l.toArray⟩).setCell ⟨R, o.toNat, none⟩ (.slice (some ⟨w4.heap.size, 0, none⟩) l.length c))) := fun c => by
  refine ⟨_, _, h.step ha hg o l ho hown c, ?_⟩
  have hb := ownsRow_block h.own
  have t1 : Turned (fun i => w.heap.size ≤ i) wa w4 := Turned.of_grown hg fun g hgr => (hb g hgr).1
  exact (((ht.trans (ha.mono fun _ h => h.elim)).trans t1).setCell (p := ⟨R, 256, none⟩) hRw v').trans ((bytesWorld_turned _ _).mono fun _ h => h.elim) |>.setCell (p := ⟨R, o.toNat, none⟩) hRw _
set_option maxRecDepth 20000 in
set_option maxHeartbeats 4000000 in
theorem build_any (B g cap : Nat) (w : World) (h4 : w.cell? ⟨B, 4, none⟩ = some (.slice (some ⟨g, 0, none⟩) 6 cap)) (h6 : SixAt w g) (hg : g < w.heap.size) : Calls Tryz.prog 121 #[.pointer (some ⟨B, 0, none⟩)] w fun e w' => e = .returned (.iface 215 (.pointer (some ⟨w.heap.size + 1, 0, none⟩))) ∧ Hid (BS w (w.heap.size + 1) rows w') := by
  obtain ⟨i0, hif, hz0, hz1, hz2⟩ := info_parts infoStr
  obtain ⟨s0, s1, s2, s3, s4, s5⟩ := six_cells6 h6
  have H6 := Lib.hid h6
  clear h6
  have hmk : ∀ w : World, (Instr.makeSlice 42 (.int .i64 0) (.int .i64 3)).run Tryz.prog w = .ok (.slice (some ⟨w.heap.size, 0, none⟩) 0 3) (w.alloc (.cells #[.string ⟨#[]⟩, .string ⟨#[]⟩, .string ⟨#[]⟩] 9)) := fun _ => by kernel_rfl
  go_enter Tryz.func121, Tryz.ntmps121
  go_wp2_with fail
  go_loop [4, 5] (fun b i => b = .bool true ∧ i = (.int .i64 0) ∨ b = .bool false ∧ i = (.int .i64 2) ∨ b = .bool false ∧ i = (.int .i64 4) ∨ b = .bool false ∧ i = (.int .i64 6)) (fun _ i => 6 - (intOf i).toNat)
  case atStart => exact .inl ⟨rfl, rfl⟩
  case round =>
    rcases hrel with ⟨rfl, rfl⟩ | ⟨rfl, rfl⟩ | ⟨rfl, rfl⟩ | ⟨rfl, rfl⟩
    · go_wp2
      go_round
      case rel => exact .inr (.inl ⟨rfl, by first | rfl | go_num⟩)
      case measure => simp [intOf]
    · go_wp2
      go_round
      case rel => exact .inr (.inr (.inl ⟨rfl, by first | rfl | go_num⟩))
      case measure => simp [intOf]
    · go_wp2
      go_round
      case rel => exact .inr (.inr (.inr ⟨rfl, by first | rfl | go_num⟩))
      case measure => simp [intOf]
    · obtain ⟨arr, ar1, ar2, ar3, hst⟩ := store_fresh (w.alloc (.cells #[.string ⟨#[]⟩, .string ⟨#[]⟩, .string ⟨#[]⟩] 9)) (.slice (some ⟨w.heap.size, 0, none⟩) 0 3) rfl
      rw [show (w.alloc (.cells #[.string ⟨#[]⟩, .string ⟨#[]⟩, .string ⟨#[]⟩] 9)).heap.size = w.heap.size + 1 by simp] at hst
      have H0 : Hid (BS w (w.heap.size + 1) [] ((w.alloc (.cells #[.string ⟨#[]⟩, .string ⟨#[]⟩, .string ⟨#[]⟩] 9)).alloc (.cells arr 214))) := by
        have e1 := heap_alloc_new (w.alloc (.cells #[.string ⟨#[]⟩, .string ⟨#[]⟩, .string ⟨#[]⟩] 9)) (.cells arr 214)
        rw [show (w.alloc (.cells #[.string ⟨#[]⟩, .string ⟨#[]⟩, .string ⟨#[]⟩] 9)).heap.size = w.heap.size + 1 by simp] at e1
        refine ⟨arr, _, ⟨e1, ar1, fun b hb _ => ar2 b hb, fun p hp => absurd hp (by simp), ar3, ⟨rfl, .inr ⟨w.heap.size, 3, #[.string ⟨#[]⟩, .string ⟨#[]⟩, .string ⟨#[]⟩], rfl, Nat.le_refl _, ?_, by simp, by unfold maxLen; omega, rfl, rfl⟩⟩⟩, ((Turned.refl _ _).alloc _).alloc _⟩
        rw [hao _ _ (by simp)]; exact heap_alloc_new _ _
      clear ar1 ar2 ar3
      go_wp2_with fail
      clear s0 s1 s2 s3 s4 s5 h4 hmk hst
      generalize (w.alloc (.cells #[.string ⟨#[]⟩, .string ⟨#[]⟩, .string ⟨#[]⟩] 9)).alloc (.cells arr 214) = W0 at H0 ⊢
      clear arr
      have hcvs : ∀ (l : List UInt8) (W : World), (convert 9 172 (.string ⟨l.toArray⟩)).run Tryz.prog W = .ok (.slice (some ⟨W.heap.size, 0, none⟩) l.length (grownCap W l.length 0 5)) (Lib.bytesWorld W 5 ⟨l.toArray⟩) := fun l W => Lib.run_convert_string_bytes W 9 172 5 ⟨l.toArray⟩ Tryz.underlying9 Tryz.underlying172 Tryz.underlying5
      have hcvb : ∀ (o : UInt8) (W : World) (n : Nat), W.heap.size = n → (convert 172 9 (.slice (some ⟨n, 0, none⟩) 1 1)).run Tryz.prog (W.alloc (.cells #[.int .u8 o.toNat] 5)) = .ok (.string ⟨#[o]⟩) (W.alloc (.cells #[.int .u8 o.toNat] 5)) := fun o W n hn => by
        subst hn
        refine run_convert_bytes_back _ 172 9 5 ⟨W.heap.size, 0, none⟩ 1 [o] Tryz.underlying172 Tryz.underlying5 Tryz.underlying9 (fun i hi => ?_)
        simp at hi; subst hi
        simp [Addr.add]
      have hcmp : ∀ W : World, (binOp .eql 172 (.slice none 0 0) (.slice none 0 0)).run Tryz.prog W = .ok (.bool true) W := fun _ => by kernel_rfl
      go_loopw [12] (fun i wr => i = (.int .i64 4) ∧ Hid (BS w (w.heap.size + 1) [] wr) ∨ i = (.int .i64 2) ∧ Hid (BS w (w.heap.size + 1) (rows.take 1) wr) ∨ i = (.int .i64 0) ∧ Hid (BS w (w.heap.size + 1) (rows.take 2) wr) ∨ i = (.int .i64 (-2)) ∧ Hid (BS w (w.heap.size + 1) rows wr)) (fun i _ => (intOf i + 2).toNat)
      case atStart => exact .inl ⟨rfl, H0⟩
      case round =>
        clear H0
        rcases hrel with ⟨rfl, HS⟩ | ⟨rfl, HS⟩ | ⟨rfl, HS⟩ | ⟨rfl, HS⟩
        · obtain ⟨arr, v, hB, hT⟩ := HS.out
          obtain ⟨t0, t1, t2, t3, t4, t5⟩ := six_cells6 (H6.out.turned hT hg (by omega))
          obtain ⟨va, vc, rfl⟩ := owns_shape hB.own
          have ho : ∀ p ∈ ([] : List (UInt8 × List UInt8)), p.1 ≠ (10 : UInt8) := by decide
          obtain ⟨r1, r2, rf⟩ := bt_cells hB 10 ho
          have HB := Lib.hid hB
          have HT := Lib.hid hT
          have hws := hT.size
          have hb1 : (convert 172 9 (.slice (some ⟨wr.heap.size, 0, none⟩) 1 1)).run Tryz.prog (wr.alloc (.cells #[.int .u8 10] 5)) = .ok (.string ⟨#[10]⟩) (wr.alloc (.cells #[.int .u8 10] 5)) := hcvb 10 wr _ rfl
          have hs1 := hcvs [92, 110]
          have hx : ((ByteArray.mk #[10])[0]'(by decide)).toNat = 10 := rfl
          have HO : Hid (((wr.alloc (.cells #[.int .u8 10] 5)).alloc (.cells #[.string ⟨#[10]⟩] 9)).ownsRow w.heap.size 9 1 (.slice va 0 vc) 0 (([] : List (UInt8 × List UInt8)).map fun p => Value.string ⟨#[p.1]⟩)) := ownsRow_turned' ((Turned.refl (fun _ => False) wr).alloc (.cells #[.int .u8 10] 5) |>.alloc (.cells #[.string ⟨#[10]⟩] 9)) (fun _ _ => id) hB.own
          clear hB hT
          simp only [show ([] : List (UInt8 × List UInt8)).length = 0 from rfl, show ((10 : UInt8).toNat) = 10 from rfl, show ([92, 110] : List UInt8).length = 2 from rfl] at r1 r2 hs1 ⊢
          go_wp2_with (at_builtin; refine wpList_append_own _ rfl _ _ 42 rfl w.heap.size 9 i0 (.string ⟨#[]⟩) 1 16 Tryz.underlying42 hif hz0 hz1 hz2 rfl (by decide) _ _ _ rfl HO.out ⟨wr.heap.size + 1, 0, none⟩ 1 1 [.string ⟨#[10]⟩] rfl rfl (cell_one_at (by simp)) (by intro u hu; simp at hu; subst hu; rfl) (by unfold maxLen; omega) (by omega) (by simp; omega) ?_; intro v' w4 hown' hgrow hnil; obtain ⟨c1, c2, c3, c4, c5⟩ := bt_after (v' := v') HB.out (((Turned.refl (fun _ => False) wr).alloc (.cells #[.int .u8 10] 5)).alloc (.cells #[.string ⟨#[10]⟩] 9)) hgrow 10 ho ⟨([92, 110] : List UInt8).toArray⟩; simp only [show ((10 : UInt8).toNat) = 10 from rfl] at c3; have HE := bs_step HB.out HT.out (Nat.le_succ _) (((Turned.refl (fun _ => False) wr).alloc (.cells #[.int .u8 10] 5)).alloc (.cells #[.string ⟨#[10]⟩] 9)) hgrow 10 [92, 110] ho hown'; obtain ⟨va', vc', rfl⟩ := owns_shape hown'; clear hown' hgrow hnil)
          go_roundw
          case rel => exact .inr (.inl ⟨by first | rfl | go_num, HE.out _⟩)
          case measure => simp [intOf]
        · obtain ⟨arr, v, hB, hT⟩ := HS.out
          obtain ⟨t0, t1, t2, t3, t4, t5⟩ := six_cells6 (H6.out.turned hT hg (by omega))
          obtain ⟨va, vc, rfl⟩ := owns_shape hB.own
          have ho : ∀ p ∈ (rows.take 1), p.1 ≠ (92 : UInt8) := by decide
          obtain ⟨r1, r2, rf⟩ := bt_cells hB 92 ho
          have HB := Lib.hid hB
          have HT := Lib.hid hT
          have hws := hT.size
          have hb1 : (convert 172 9 (.slice (some ⟨wr.heap.size, 0, none⟩) 1 1)).run Tryz.prog (wr.alloc (.cells #[.int .u8 92] 5)) = .ok (.string ⟨#[92]⟩) (wr.alloc (.cells #[.int .u8 92] 5)) := hcvb 92 wr _ rfl
          have hs1 := hcvs [92, 92]
          have hx : ((ByteArray.mk #[92])[0]'(by decide)).toNat = 92 := rfl
          have HO : Hid (((wr.alloc (.cells #[.int .u8 92] 5)).alloc (.cells #[.string ⟨#[92]⟩] 9)).ownsRow w.heap.size 9 1 (.slice va 1 vc) 1 ((rows.take 1).map fun p => Value.string ⟨#[p.1]⟩)) := ownsRow_turned' ((Turned.refl (fun _ => False) wr).alloc (.cells #[.int .u8 92] 5) |>.alloc (.cells #[.string ⟨#[92]⟩] 9)) (fun _ _ => id) hB.own
          clear hB hT
          simp only [show (rows.take 1).length = 1 from rfl, show ((92 : UInt8).toNat) = 92 from rfl, show ([92, 92] : List UInt8).length = 2 from rfl] at r1 r2 hs1 ⊢
          go_wp2_with (at_builtin; refine wpList_append_own _ rfl _ _ 42 rfl w.heap.size 9 i0 (.string ⟨#[]⟩) 1 16 Tryz.underlying42 hif hz0 hz1 hz2 rfl (by decide) _ _ _ rfl HO.out ⟨wr.heap.size + 1, 0, none⟩ 1 1 [.string ⟨#[92]⟩] rfl rfl (cell_one_at (by simp)) (by intro u hu; simp at hu; subst hu; rfl) (by unfold maxLen; omega) (by omega) (by simp; omega) ?_; intro v' w4 hown' hgrow hnil; obtain ⟨c1, c2, c3, c4, c5⟩ := bt_after (v' := v') HB.out (((Turned.refl (fun _ => False) wr).alloc (.cells #[.int .u8 92] 5)).alloc (.cells #[.string ⟨#[92]⟩] 9)) hgrow 92 ho ⟨([92, 92] : List UInt8).toArray⟩; simp only [show ((92 : UInt8).toNat) = 92 from rfl] at c3; have HE := bs_step HB.out HT.out (Nat.le_succ _) (((Turned.refl (fun _ => False) wr).alloc (.cells #[.int .u8 92] 5)).alloc (.cells #[.string ⟨#[92]⟩] 9)) hgrow 92 [92, 92] ho hown'; obtain ⟨va', vc', rfl⟩ := owns_shape hown'; clear hown' hgrow hnil)
          go_roundw
          case rel => exact .inr (.inr (.inl ⟨by first | rfl | go_num, HE.out _⟩))
          case measure => simp [intOf]
        · obtain ⟨arr, v, hB, hT⟩ := HS.out
          obtain ⟨t0, t1, t2, t3, t4, t5⟩ := six_cells6 (H6.out.turned hT hg (by omega))
          obtain ⟨va, vc, rfl⟩ := owns_shape hB.own
          have ho : ∀ p ∈ (rows.take 2), p.1 ≠ (34 : UInt8) := by decide
          obtain ⟨r1, r2, rf⟩ := bt_cells hB 34 ho
          have HB := Lib.hid hB
          have HT := Lib.hid hT
          have hws := hT.size
          have hb1 : (convert 172 9 (.slice (some ⟨wr.heap.size, 0, none⟩) 1 1)).run Tryz.prog (wr.alloc (.cells #[.int .u8 34] 5)) = .ok (.string ⟨#[34]⟩) (wr.alloc (.cells #[.int .u8 34] 5)) := hcvb 34 wr _ rfl
          have hs1 := hcvs [92, 34]
          have hx : ((ByteArray.mk #[34])[0]'(by decide)).toNat = 34 := rfl
          have HO : Hid (((wr.alloc (.cells #[.int .u8 34] 5)).alloc (.cells #[.string ⟨#[34]⟩] 9)).ownsRow w.heap.size 9 1 (.slice va 2 vc) 2 ((rows.take 2).map fun p => Value.string ⟨#[p.1]⟩)) := ownsRow_turned' ((Turned.refl (fun _ => False) wr).alloc (.cells #[.int .u8 34] 5) |>.alloc (.cells #[.string ⟨#[34]⟩] 9)) (fun _ _ => id) hB.own
          clear hB hT
          simp only [show (rows.take 2).length = 2 from rfl, show ((34 : UInt8).toNat) = 34 from rfl, show ([92, 34] : List UInt8).length = 2 from rfl] at r1 r2 hs1 ⊢
          go_wp2_with (at_builtin; refine wpList_append_own _ rfl _ _ 42 rfl w.heap.size 9 i0 (.string ⟨#[]⟩) 1 16 Tryz.underlying42 hif hz0 hz1 hz2 rfl (by decide) _ _ _ rfl HO.out ⟨wr.heap.size + 1, 0, none⟩ 1 1 [.string ⟨#[34]⟩] rfl rfl (cell_one_at (by simp)) (by intro u hu; simp at hu; subst hu; rfl) (by unfold maxLen; omega) (by omega) (by simp; omega) ?_; intro v' w4 hown' hgrow hnil; obtain ⟨c1, c2, c3, c4, c5⟩ := bt_after (v' := v') HB.out (((Turned.refl (fun _ => False) wr).alloc (.cells #[.int .u8 34] 5)).alloc (.cells #[.string ⟨#[34]⟩] 9)) hgrow 34 ho ⟨([92, 34] : List UInt8).toArray⟩; simp only [show ((34 : UInt8).toNat) = 34 from rfl] at c3; have HE := bs_step HB.out HT.out (Nat.le_succ _) (((Turned.refl (fun _ => False) wr).alloc (.cells #[.int .u8 34] 5)).alloc (.cells #[.string ⟨#[34]⟩] 9)) hgrow 34 [92, 34] ho hown'; obtain ⟨va', vc', rfl⟩ := owns_shape hown'; clear hown' hgrow hnil)
          go_roundw
          case rel => exact .inr (.inr (.inr ⟨by first | rfl | go_num, HE.out _⟩))
          case measure => simp [intOf]
        · go_wp2_with fail
          go_ret
          exact ⟨rfl, HS⟩
end Go.Proofs.YtjijdgkccfeeaaaGreatDoor
namespace Go.Proofs.YtjijdgkccfeeaaaGreatDoor
open Go Go.Proofs Go.RowKit
attribute [local go_sem] Oper.semAt_some
theorem BT.other {base R B : Nat} {D : List (UInt8 × List UInt8)} {W : World} {arr arr2 : Array Value} {v : Value} {fz : Nat × Nat} (h : BT base R D W arr v) (hB : W.heap[B]? = some (.cells arr2 169 fz)) (i : Nat) (x : Value) : BT base R D (W.setCell ⟨B, i, none⟩ x) arr v := by
  have ne : ∀ (q : Nat) (c : Array Value) (t : TypeId) (f : Nat × Nat), W.heap[q]? = some (.cells c t f) → t ≠ 169 → (W.setCell ⟨B, i, none⟩ x).heap[q]? = W.heap[q]? := fun q c t f hq ht => by
    have hne : B ≠ q := fun e => by
      subst e
      rw [hB] at hq
      simp at hq
      exact ht hq.2.1.symm
    simp [World.setCell, Array.getElem?_modify, hne]
  refine ⟨?_, h.size, h.nil, fun p hp => ?_, h.last, ?_⟩
  · rw [ne _ _ _ _ h.row (by decide)]; exact h.row
  · obtain ⟨q, cap, h1, ar, f, h2, h3⟩ := h.set p hp
    exact ⟨q, cap, h1, ar, f, by rw [ne _ _ _ _ h2 (by decide)]; exact h2, h3⟩
  · refine ownsRow_turned' (C := fun j => j = B) ((Turned.refl (fun j => j = B) _).setCell (p := ⟨B, i, none⟩) rfl x) (fun g hg e => ?_) h.own
    subst e
    exact own_not h.own hB (by decide) hg
theorem BT.drew {base R : Nat} {D : List (UInt8 × List UInt8)} {W : World} {arr : Array Value} {v : Value} (h : BT base R D W arr v) : BT base R D W.drew arr v :=
  ⟨h.row, h.size, h.nil, h.set, h.last, h.own⟩
def Built (w : World) (B Rb : Nat) (W : World) : Prop := ∃ arr v c, BT w.heap.size Rb rows W arr v ∧ W.heap[B]? = some (.cells #[.int .u32 0, .int .i32 1, .int .u32 c, .iface 215 (.pointer (some ⟨Rb, 0, none⟩)), .slice none 0 0] 169 (0, 0)) ∧ Turned (fun i => i = B ∨ w.heap.size ≤ i) w W
theorem set_at {W : World} {B : Nat} {a b c d e x : Value} {t : TypeId} (h : W.heap[B]? = some (.cells #[a, b, c, d, e] t (0, 0))) : (W.setCell ⟨B, 0, none⟩ x).heap[B]? = some (.cells #[x, b, c, d, e] t (0, 0)) ∧ (W.setCell ⟨B, 1, none⟩ x).heap[B]? = some (.cells #[a, x, c, d, e] t (0, 0)) ∧ (W.setCell ⟨B, 3, none⟩ x).heap[B]? = some (.cells #[a, b, c, x, e] t (0, 0)) ∧ (W.setCell ⟨B, 4, none⟩ x).heap[B]? = some (.cells #[a, b, c, d, x] t (0, 0)) := by
  simp [World.setCell, Array.getElem?_modify, h]
theorem five_cells {V : World} {N : Nat} {a b c d e : Value} {t : TypeId} (h : V.heap[N]? = some (.cells #[a, b, c, d, e] t (0, 0))) : V.cell? ⟨N, 0, none⟩ = some a ∧ V.cell? ⟨N, 1, none⟩ = some b ∧ V.cell? ⟨N, 2, none⟩ = some c ∧ V.cell? ⟨N, 3, none⟩ = some d ∧ V.cell? ⟨N, 4, none⟩ = some e ∧ ∀ i, V.frozen? ⟨N, i, none⟩ = false := by
  simp [World.cell?, World.frozen?, h]
set_option maxRecDepth 20000 in
set_option maxHeartbeats 1000000 in
theorem once_any (B g cap : Nat) (w : World) (h5 : w.heap[B]? = some (.cells #[.int .u32 0, .int .i32 1, .int .u32 0, .nilIface, .slice (some ⟨g, 0, none⟩) 6 cap] 169 (0, 0))) (h6 : SixAt w g) (hg : g < w.heap.size) :
    Calls Tryz.prog 102 #[.pointer (some ⟨B, 0, none⟩)] w fun e w' => e = .returned (.tuple #[]) ∧ w'.cell? ⟨B, 0, none⟩ = some (.int .u32 0) ∧ w'.cell? ⟨B, 1, none⟩ = some (.int .i32 1) ∧ w'.frozen? ⟨B, 0, none⟩ = false ∧ w'.frozen? ⟨B, 1, none⟩ = false ∧ Built w B (w.heap.size + 1) w' := by
  have hb := getElem?_lt h5
  have HBld := Lib.hid (build_any B g cap w (five_cells h5).2.2.2.2.1 h6 hg)
  have H5 := Lib.hid h5
  clear h5 h6
  go_enter Tryz.func102, Tryz.ntmps102
  go_wp2_with fail
  refine HBld.out.mono ?_
  rintro e X ⟨rfl, HS⟩
  obtain ⟨arr, v, hB, hT⟩ := HS.out
  have h7 : X.heap[B]? = some (.cells #[.int .u32 0, .int .i32 1, .int .u32 0, .nilIface, .slice (some ⟨g, 0, none⟩) 6 cap] 169 (0, 0)) := (hT.block B hb (by omega)).trans H5.out
  obtain ⟨c0, c1, c2, c3, c4, cf⟩ := five_cells h7
  have HB := Lib.hid hB
  have HT := Lib.hid hT
  have H7 := Lib.hid h7
  clear hB hT h7 HS
  go_wp2_with fail
  have s3 := (set_at (x := .iface 215 (.pointer (some ⟨w.heap.size + 1, 0, none⟩))) H7.out).2.2.1
  have s4 := (set_at (x := .slice none 0 0) s3).2.2.2
  obtain ⟨d0, d1, -, -, -, df⟩ := five_cells s4
  go_end0
  refine ⟨rfl, d0, d1, df 0, df 1, arr, v, 0, (HB.out.other H7.out 3 _).other s3 4 _, s4, ?_⟩
  exact ((HT.out.mono fun i hi => .inr hi).setCell (p := ⟨B, 3, none⟩) (.inl rfl) _).setCell (p := ⟨B, 4, none⟩) (.inl rfl) _
end Go.Proofs.YtjijdgkccfeeaaaGreatDoor
namespace Go.Proofs.YtjijdgkccfeeaaaGreatDoor
open Go Go.Proofs
def esc (b : UInt8) : List UInt8 := if b = 10 then [92, 110] else if b = 92 then [92, 92] else if b = 34 then [92, 34] else [b]
def escL (l : List UInt8) : List UInt8 := l.flatMap esc
def escN (l : List UInt8) : Nat := l.count 10 + l.count 92 + l.count 34
theorem esc_one {b : UInt8} (h1 : b ≠ 10) (h2 : b ≠ 92) (h3 : b ≠ 34) : esc b = [b] := by
  unfold esc; rw [if_neg h1, if_neg h2, if_neg h3]
theorem escL_snoc (l : List UInt8) (b : UInt8) : escL (l ++ [b]) = escL l ++ esc b := by simp [escL]
theorem escN_snoc (l : List UInt8) (b : UInt8) : escN (l ++ [b]) = escN l + ((esc b).length - 1) := by
  unfold escN esc
  rw [List.count_append, List.count_append, List.count_append]
  by_cases h1 : b = 10
  · subst h1; simp; omega
  · by_cases h2 : b = 92
    · subst h2; simp; omega
    · by_cases h3 : b = 34
      · subst h3; simp; omega
      · rw [if_neg h1, if_neg h2, if_neg h3]
        simp [h1, h2, h3]
theorem escL_len : ∀ l : List UInt8, (escL l).length = l.length + escN l
  | [] => rfl
  | b :: l => by
    have ih := escL_len l
    have h : (escL (b :: l)).length = (esc b).length + (escL l).length := by simp [escL]
    rw [h, ih]
    unfold escN esc
    rw [List.count_cons, List.count_cons, List.count_cons]
    by_cases h1 : b = 10
    · subst h1; simp; omega
    · by_cases h2 : b = 92
      · subst h2; simp; omega
      · by_cases h3 : b = 34
        · subst h3; simp; omega
        · rw [if_neg h1, if_neg h2, if_neg h3]
          simp [h1, h2, h3]; omega
theorem escN_le (l : List UInt8) : escN l ≤ l.length := by
  have : ∀ l : List UInt8, escN l ≤ l.length := by
    intro l
    induction l with
    | nil => simp [escN]
    | cons b l ih =>
      unfold escN at ih ⊢
      rw [List.count_cons, List.count_cons, List.count_cons, List.length_cons]
      by_cases h1 : b = 10
      · subst h1; simp; omega
      · by_cases h2 : b = 92
        · subst h2; simp; omega
        · by_cases h3 : b = 34
          · subst h3; simp; omega
          · simp [h1, h2, h3]; omega
  exact this l
theorem escL_same (l : List UInt8) (h : escN l = 0) : escL l = l := by
  induction l with
  | nil => rfl
  | cons b l ih =>
    unfold escN at h
    rw [List.count_cons, List.count_cons, List.count_cons] at h
    have h1 : b ≠ 10 := fun e => by subst e; simp at h
    have h2 : b ≠ 92 := fun e => by subst e; simp at h
    have h3 : b ≠ 34 := fun e => by subst e; simp at h
    have h4 : escN l = 0 := by unfold escN; omega
    have : escL (b :: l) = esc b ++ escL l := by simp [escL]
    rw [this, esc_one h1 h2 h3, ih h4]
    rfl
theorem bytes_two {W : World} {q : Nat} {a b : UInt8} (h : BytesAt W q [a, b]) : W.cell? ⟨q, 0, none⟩ = some (encB a) ∧ W.cell? ⟨q, 1, none⟩ = some (encB b) := by
  obtain ⟨ar, fz, h1, h2⟩ := h
  rw [row_cell' h1, row_cell' h1]
  exact ⟨h2 0 a rfl, h2 1 b rfl⟩
theorem tab_at {base R : Nat} {W : World} {arr : Array Value} {v : Value} (h : BT base R rows W arr v) (b : UInt8) :
    (esc b = [b] ∧ (esc b).length = 1 ∧ W.cell? ⟨R, b.toNat, none⟩ = some (.slice none 0 0)) ∨ ∃ (x : UInt8) (q cap : Nat), esc b = [92, x] ∧ W.cell? ⟨R, b.toNat, none⟩ = some (.slice (some ⟨q, 0, none⟩) 2 cap) ∧ W.cell? ⟨q, 0, none⟩ = some (.int .u8 92) ∧ W.cell? ⟨q, 1, none⟩ = some (encB x) ∧ q < W.heap.size := by
  have key : ∀ p ∈ rows, b = p.1 → ∀ x, p.2 = [92, x] → esc b = [92, x] → ∃ (x : UInt8) (q cap : Nat), esc b = [92, x] ∧ W.cell? ⟨R, b.toNat, none⟩ = some (.slice (some ⟨q, 0, none⟩) 2 cap) ∧ W.cell? ⟨q, 0, none⟩ = some (.int .u8 92) ∧ W.cell? ⟨q, 1, none⟩ = some (encB x) ∧ q < W.heap.size := by
    intro p hp hb x hx he
    obtain ⟨q, cap, h1, h2⟩ := h.set p hp
    rw [hx] at h1 h2
    obtain ⟨c0, c1⟩ := bytes_two h2
    obtain ⟨ar, fz, h3, -⟩ := h2
    refine ⟨x, q, cap, he, ?_, c0, c1, getElem?_lt h3⟩
    rw [row_cell' h.row, hb]; exact h1
  by_cases h1 : b = 10
  · exact .inr (key (10, [92, 110]) (by simp [rows]) h1 110 rfl (by subst h1; rfl))
  · by_cases h2 : b = 92
    · exact .inr (key (92, [92, 92]) (by simp [rows]) h2 92 rfl (by subst h2; rfl))
    · by_cases h3 : b = 34
      · exact .inr (key (34, [92, 34]) (by simp [rows]) h3 34 rfl (by subst h3; rfl))
      · have he := esc_one h1 h2 h3
        refine .inl ⟨he, by rw [he]; rfl, ?_⟩
        rw [row_cell' h.row]
        refine h.nil _ b.toNat_lt fun p hp e => ?_
        simp only [rows, List.mem_cons, List.not_mem_nil, or_false] at hp
        rcases hp with rfl | rfl | rfl
        · exact h1 (UInt8.toNat_inj.1 e.symm)
        · exact h2 (UInt8.toNat_inj.1 e.symm)
        · exact h3 (UInt8.toNat_inj.1 e.symm)
theorem tab_list {base R : Nat} {W : World} {arr : Array Value} {v : Value} (h : BT base R rows W arr v) : ∃ T cap, W.cell? ⟨R, 256, none⟩ = some (.slice (some ⟨T, 0, none⟩) 3 cap) ∧ W.cell? ⟨T, 0, none⟩ = some (.string ⟨#[10]⟩) ∧ W.cell? ⟨T, 1, none⟩ = some (.string ⟨#[92]⟩) ∧ W.cell? ⟨T, 2, none⟩ = some (.string ⟨#[34]⟩) := by
  obtain ⟨hl, h2⟩ := h.own
  rcases h2 with ⟨rfl, h0⟩ | ⟨g, cap, cur, hv, hg, hh, hc, hm, hs, ht⟩
  · simp [rows] at h0
  · refine ⟨g, cap, by rw [row_cell' h.row, h.last, hv]; rfl, ?_, ?_, ?_⟩
    all_goals rw [row_cell' hh]
    · have : (cur.toList.take (rows.length * 1))[0]? = some (.string ⟨#[10]⟩) := by rw [ht]; rfl
      rw [List.getElem?_take_of_lt (by decide)] at this; simpa using this
    · have : (cur.toList.take (rows.length * 1))[1]? = some (.string ⟨#[92]⟩) := by rw [ht]; rfl
      rw [List.getElem?_take_of_lt (by decide)] at this; simpa using this
    · have : (cur.toList.take (rows.length * 1))[2]? = some (.string ⟨#[34]⟩) := by rw [ht]; rfl
      rw [List.getElem?_take_of_lt (by decide)] at this; simpa using this
end Go.Proofs.YtjijdgkccfeeaaaGreatDoor
namespace Go.Proofs.YtjijdgkccfeeaaaGreatDoor
open Go Go.Proofs Go.RowKit
attribute [local go_sem] Oper.semAt_some
def keyAt (i : Nat) : UInt8 := if i = 0 then 10 else if i = 1 then 92 else 34
def totAt (l : List UInt8) (i : Nat) : Nat := (if 0 < i then l.count 10 else 0) + (if 1 < i then l.count 92 else 0) + (if 2 < i then l.count 34 else 0)
theorem totAt_step (l : List UInt8) (i : Nat) (h : i < 3) : totAt l (i + 1) = totAt l i + l.count (keyAt i) := by
  obtain rfl | rfl | rfl : i = 0 ∨ i = 1 ∨ i = 2 := by omega
  all_goals simp [totAt, keyAt]
theorem totAt_end (l : List UInt8) : totAt l 3 = escN l := by simp [totAt, escN]
theorem totAt_le (l : List UInt8) (i : Nat) : totAt l i ≤ escN l := by
  unfold totAt escN
  split <;> split <;> split <;> omega
theorem tab_key {base R : Nat} {W : World} {arr : Array Value} {v : Value} (h : BT base R rows W arr v) (b : UInt8) (hb : (esc b).length = 2) : ∃ q cap, W.cell? ⟨R, b.toNat, none⟩ = some (.slice (some ⟨q, 0, none⟩) 2 cap) := by
  rcases tab_at h b with ⟨-, h1, -⟩ | ⟨x, q, cap, -, h2, -⟩
  · omega
  · exact ⟨q, cap, h2⟩
theorem count_any (s : ByteArray) (k : UInt8) (W : World) : Calls Tryz.prog 226 #[.string s, .string ⟨#[k]⟩] W fun e w' => e = .returned (.int .i64 ((s.data.toList.count k : Nat))) ∧ W = w' := (Tryz.strings_Count_one s k W).mono fun _ _ h => ⟨h.1, h.2.symm⟩
theorem v_int {a b : Int} (h : a = b) : Value.int .i64 a = Value.int .i64 b := by rw [h]
theorem v_bool {a b : Bool} (h : a = b) : Value.bool a = Value.bool b := by rw [h]
theorem take_step (s : ByteArray) (j : Nat) (h : j < s.size) : s.data.toList.take (j + 1) = s.data.toList.take j ++ [s[j]] := by
  have h1 : j < s.data.toList.length := by simpa using h
  rw [List.take_succ_eq_append_getElem h1]
  rfl
theorem take_all (s : ByteArray) : s.data.toList.take s.size = s.data.toList := List.take_of_length_le (by simp)
structure BufAt (w1 : World) (g N : Nat) (l : List UInt8) (wr : World) : Prop where
  row : ∃ c : Array Value, wr.heap[g]? = some (.cells c 5 (0, 0)) ∧ c.size = N ∧ ∀ (k : Nat) (b : UInt8), l[k]? = some b → c[k]? = some (encB b)
  le : l.length ≤ N
  tur : Turned (fun i => i = g) w1 wr
theorem BufAt.one {w1 wr : World} {g N : Nat} {l : List UInt8} (h : BufAt w1 g N l wr) (b : UInt8) (hN : l.length < N) : BufAt w1 g N (l ++ [b]) (wr.setCell ⟨g, l.length, none⟩ (encB b)) := by
  obtain ⟨c, h1, h2, h3⟩ := h.row
  refine ⟨⟨_, set_block h1 _ _, by simp [h2], fun k x hk => ?_⟩, by simp; omega, h.tur.setCell (p := ⟨g, l.length, none⟩) rfl _⟩
  rcases Nat.lt_trichotomy k l.length with hlt | rfl | hgt
  · rw [Array.getElem?_setIfInBounds_ne (by omega)]
    rw [List.getElem?_append_left hlt] at hk
    exact h3 k x hk
  · rw [Array.getElem?_setIfInBounds_self_of_lt (by omega)]
    simp at hk
    rw [hk]
  · rw [List.getElem?_eq_none (by simp; omega)] at hk
    cases hk
theorem BufAt.drewN {w1 wr : World} {g N : Nat} {l : List UInt8} (h : BufAt w1 g N l wr) (n : Nat) : BufAt w1 g N l (wr.drewN n) := ⟨h.row, h.le, h.tur.trans (drewN_turned _ _ _)⟩
theorem BufAt.cell {w1 wr : World} {g N : Nat} {l : List UInt8} (h : BufAt w1 g N l wr) (k : Nat) (hk : k < N) : (wr.cell? ⟨g, k, none⟩).isSome = true ∧ wr.frozen? ⟨g, k, none⟩ = false := by
  obtain ⟨c, h1, h2, h3⟩ := h.row
  refine ⟨?_, by simp [World.frozen?, h1]⟩
  rw [row_cell' h1, Array.getElem?_eq_getElem (by omega)]; rfl
theorem BufAt.conv {w1 wr : World} {g N : Nat} {l : List UInt8} (h : BufAt w1 g N l wr) (hl : l.length = N) : (convert 172 9 (.slice (some ⟨g, 0, none⟩) N N)).run Tryz.prog wr = .ok (.string ⟨l.toArray⟩) wr := by
  subst hl
  obtain ⟨c, h1, h2, h3⟩ := h.row
  refine run_convert_bytes_back wr 172 9 5 ⟨g, 0, none⟩ l.length l Tryz.underlying172 Tryz.underlying5 Tryz.underlying9 (fun i hi => ?_)
  rw [show (⟨g, 0, none⟩ : Addr).add i = ⟨g, i, none⟩ by cases i <;> simp [Addr.add], row_cell' h1]
  have := h3 i l[i] (List.getElem?_eq_getElem hi)
  simpa [encB] using this
theorem two_src {W : World} {q : Nat} {a b : Value} (h0 : W.cell? ⟨q, 0, none⟩ = some a) (h1 : W.cell? ⟨q, 1, none⟩ = some b) : ∀ (j : Nat) v, [a, b][j]? = some v → W.drew.cell? ((⟨q, 0, none⟩ : Addr).add j) = some v := by
  intro j v hj
  match j, hj with
  | 0, hj => simp at hj; subst hj; simpa [Addr.add] using h0
  | 1, hj => simp at hj; subst hj; simpa [Addr.add] using h1
theorem BufAt.two {w1 wr w4 : World} {g N : Nat} {l : List UInt8} {cur : Array Value} (h : BufAt w1 g N l wr) (a b : UInt8) (hs : w1.heap.size = g + 1) (hc : wr.heap[g]? = some (.cells cur 5 (0, 0))) (hN : l.length + 1 < N)
    (h4 : w4.heap[g]? = some (.cells (splice cur.toList l.length [encB a, encB b]).toArray 5 (0, 0))) (hb : Below g wr w4) : BufAt w1 g N (l ++ [a, b]) w4 := by
  obtain ⟨c, h1, h2, h3⟩ := h.row
  rw [hc] at h1
  obtain rfl : cur = c := by simpa using h1
  refine ⟨⟨_, h4, ?_, fun k x hk => ?_⟩, by simp; omega, ?_⟩
  · have := length_splice cur.toList l.length [encB a, encB b] (by simp; omega)
    simpa [h2] using this
  · have e : (splice cur.toList l.length [encB a, encB b]).toArray[k]? = (cur.toList.take l.length ++ ([encB a, encB b] ++ cur.toList.drop (l.length + 2)))[k]? := by simp [splice]
    rw [e]
    have hl : (cur.toList.take l.length).length = l.length := by simp; omega
    rcases Nat.lt_or_ge k l.length with hlt | hge
    · rw [List.getElem?_append_left (by omega), List.getElem?_take_of_lt hlt]
      rw [List.getElem?_append_left hlt] at hk
      simpa using h3 k x hk
    · rw [List.getElem?_append_right (by omega), hl]
      rw [List.getElem?_append_right hge] at hk
      have hk2 : k - l.length < 2 := by have := (List.getElem?_eq_some_iff.1 hk).1; simpa using this
      rcases (by omega : k - l.length = 0 ∨ k - l.length = 1) with e0 | e0
      · rw [e0] at hk ⊢; simp at hk ⊢; rw [hk]
      · rw [e0] at hk ⊢; simp at hk ⊢; rw [hk]
  · exact ⟨by rw [hb.os, h.tur.os], by rw [hb.tape, h.tur.tape], by rw [hb.output, h.tur.output], Nat.le_trans h.tur.size hb.size, fun k hk hne => (hb.block k (by omega)).trans (h.tur.block k hk hne)⟩
theorem esc_part (l : List UInt8) (i : Nat) : (escL (l.take i)).length ≤ (escL l).length := by
  have : escL l = escL (l.take i) ++ escL (l.drop i) := by
    unfold escL
    rw [← List.flatMap_append, List.take_append_drop]
  rw [this, List.length_append]; omega
theorem u8_size : (Tryz.prog.info? 5).map (·.size) = some 1 := by kernel_rfl
set_option maxRecDepth 20000 in
set_option maxHeartbeats 8000000 in
theorem bsr_any (base R : Nat) (s : ByteArray) (arr : Array Value) (v : Value) (w : World) (h : BT base R rows w arr v) (hs : s.size ≤ 100000) :
    Calls Tryz.prog 224 #[.pointer (some ⟨R, 0, none⟩), .string s] w fun e w' => e = .returned (.string ⟨(escL s.data.toList).toArray⟩) ∧ Turned (fun _ => False) w w' := by
  obtain ⟨T, capT, r256, t0, t1, t2⟩ := tab_list h
  have HTab := Lib.hid (fun b : UInt8 => tab_at h b)
  have hRlt := getElem?_lt h.row
  obtain ⟨q10, p10, k10⟩ := tab_key h 10 rfl
  obtain ⟨q92, p92, k92⟩ := tab_key h 92 rfl
  obtain ⟨q34, p34, k34⟩ := tab_key h 34 rfl
  simp only [show ((10 : UInt8).toNat) = 10 from rfl, show ((92 : UInt8).toNat) = 92 from rfl, show ((34 : UInt8).toNat) = 34 from rfl] at k10 k92 k34
  obtain ⟨i0, hif, hz0, hz1, hz2⟩ := info_parts infoU8
  have hnot : ∀ (x : Bool) (w : World), (Op.unary .not (.bool x)).run Tryz.prog w = .ok (.bool (!x)) w := fun _ _ => rfl
  have hneq0 : ∀ W : World, (binOp .neq 172 (.slice none 0 0) (.slice none 0 0)).run Tryz.prog W = .ok (.bool false) W := fun W => by kernel_rfl
  have hneq1 : ∀ (a : Addr) (n c : Nat) (W : World), (binOp .neq 172 (.slice (some a) n c) (.slice none 0 0)).run Tryz.prog W = .ok (.bool true) W := fun a n c W => by kernel_rfl
  have hel := escN_le s.data.toList
  have hle0 : s.data.toList.length = s.size := by simp
  rw [hle0] at hel
  clear hle0
  clear h
  go_enter Tryz.func224, Tryz.ntmps224
  by_cases hbig : 24 ≤ s.size
  · have kb : decide ((24 : Int) ≤ (s.size : Int)) = true := by simp; omega
    go_wp2_with fail
    clear kb hbig
    go_loopw [5, 6, 32] (fun n b i wr => ∃ j m : Nat, j ≤ 3 ∧ i = (.int .i64 j) ∧ n = (.int .i64 (((s.size + totAt s.data.toList j : Nat) : Int))) ∧ b = .bool (decide (0 < totAt s.data.toList j)) ∧ wr = w.drewN m) (fun _ _ i _ => 3 - (intOf i).toNat)
    case atStart => exact ⟨0, 0, by omega, rfl, by simp [totAt], by simp [totAt], rfl⟩
    case round =>
      obtain ⟨j, m, hj, rfl, rfl, rfl, rfl⟩ := hrel
      have htl := totAt_le s.data.toList j
      rcases (by omega : j = 0 ∨ j = 1 ∨ j = 2 ∨ j = 3) with rfl | rfl | rfl | rfl
      · have HC := Lib.hid (fun W : World => count_any s 10 W)
        have hst := totAt_step s.data.toList 0 (by omega)
        have hst2 : totAt s.data.toList 1 = totAt s.data.toList 0 + s.data.toList.count 10 := hst
        have htl2 := totAt_le s.data.toList 1
        have hx : ((ByteArray.mk #[10])[0]'(by decide)).toNat = 10 := rfl
        clear hst
        have HS2 := Lib.hid hst2
        generalize totAt s.data.toList 0 = t at hst2 htl HS2 ⊢
        generalize s.data.toList.count 10 = c at HC hst2 HS2
        by_cases hc : c = 0
        · subst hc
          go_wp2_with (go_at_call 226; refine (HC.out _).mono ?_; rintro e w' ⟨rfl, rfl⟩)
          go_roundw
          case rel => exact ⟨1, m, by omega, by first | rfl | go_num, v_int (by have := HS2.out; omega), by rw [HS2.out, Nat.add_zero], rfl⟩
          case measure => simp [intOf]
        · have kc : ((c : Int) != 0) = true := by simp; omega
          have kw : IntKind.i64.wrap ((c : Int) * 1) = c := by rw [Int.mul_one]; exact IntWalk.i64_in _ (by omega)
          clear hc
          go_wp2_with (go_at_call 226; refine (HC.out _).mono ?_; rintro e w' ⟨rfl, rfl⟩)
          go_quiet (fail)
          go_wp2_with fail
          go_roundw
          case rel => exact ⟨1, _, by omega, by first | rfl | go_num, v_int (by have := HS2.out; omega), v_bool (by have := HS2.out; simp; simp at kc; omega), rfl⟩
          case measure => simp [intOf]
      · have HC := Lib.hid (fun W : World => count_any s 92 W)
        have hst := totAt_step s.data.toList 1 (by omega)
        have hst2 : totAt s.data.toList 2 = totAt s.data.toList 1 + s.data.toList.count 92 := hst
        have htl2 := totAt_le s.data.toList 2
        have hx : ((ByteArray.mk #[92])[0]'(by decide)).toNat = 92 := rfl
        clear hst
        have HS2 := Lib.hid hst2
        generalize totAt s.data.toList 1 = t at hst2 htl HS2 ⊢
        generalize s.data.toList.count 92 = c at HC hst2 HS2
        by_cases hc : c = 0
        · subst hc
          go_wp2_with (go_at_call 226; refine (HC.out _).mono ?_; rintro e w' ⟨rfl, rfl⟩)
          go_roundw
          case rel => exact ⟨2, m, by omega, by first | rfl | go_num, v_int (by have := HS2.out; omega), by rw [HS2.out, Nat.add_zero], rfl⟩
          case measure => simp [intOf]
        · have kc : ((c : Int) != 0) = true := by simp; omega
          have kw : IntKind.i64.wrap ((c : Int) * 1) = c := by rw [Int.mul_one]; exact IntWalk.i64_in _ (by omega)
          clear hc
          go_wp2_with (go_at_call 226; refine (HC.out _).mono ?_; rintro e w' ⟨rfl, rfl⟩)
          go_quiet (fail)
          go_wp2_with fail
          go_roundw
          case rel => exact ⟨2, _, by omega, by first | rfl | go_num, v_int (by have := HS2.out; omega), v_bool (by have := HS2.out; simp; simp at kc; omega), rfl⟩
          case measure => simp [intOf]
      · have HC := Lib.hid (fun W : World => count_any s 34 W)
        have hst := totAt_step s.data.toList 2 (by omega)
        have hst2 : totAt s.data.toList 3 = totAt s.data.toList 2 + s.data.toList.count 34 := hst
        have htl2 := totAt_le s.data.toList 3
        have hx : ((ByteArray.mk #[34])[0]'(by decide)).toNat = 34 := rfl
        clear hst
        have HS2 := Lib.hid hst2
        generalize totAt s.data.toList 2 = t at hst2 htl HS2 ⊢
        generalize s.data.toList.count 34 = c at HC hst2 HS2
        by_cases hc : c = 0
        · subst hc
          go_wp2_with (go_at_call 226; refine (HC.out _).mono ?_; rintro e w' ⟨rfl, rfl⟩)
          go_roundw
          case rel => exact ⟨3, m, by omega, by first | rfl | go_num, v_int (by have := HS2.out; omega), by rw [HS2.out, Nat.add_zero], rfl⟩
          case measure => simp [intOf]
        · have kc : ((c : Int) != 0) = true := by simp; omega
          have kw : IntKind.i64.wrap ((c : Int) * 1) = c := by rw [Int.mul_one]; exact IntWalk.i64_in _ (by omega)
          clear hc
          go_wp2_with (go_at_call 226; refine (HC.out _).mono ?_; rintro e w' ⟨rfl, rfl⟩)
          go_quiet (fail)
          go_wp2_with fail
          go_roundw
          case rel => exact ⟨3, _, by omega, by first | rfl | go_num, v_int (by have := HS2.out; omega), v_bool (by have := HS2.out; simp; simp at kc; omega), rfl⟩
          case measure => simp [intOf]
      · rw [totAt_end] at htl ⊢
        rw [show ((3 : Nat) : Int) = 3 from rfl]
        by_cases hE : 0 < escN s.data.toList
        · have kE : decide (0 < escN s.data.toList) = true := by simpa using hE
          have HLen := Lib.hid (escL_len s.data.toList)
          obtain ⟨N, hN⟩ : ∃ N, s.size + escN s.data.toList = N := ⟨_, rfl⟩
          have HN : Hid ((escL s.data.toList).length = N) := by show _ = _; rw [HLen.out, ← hN]; simp
          have hN2 : N ≤ 200000 := by omega
          have hmake := run_make_row 172 5 i0 (.int .u8 0) Tryz.underlying172 hif hz0 hz1 rfl .i64 .i64 N (by rw [hz2]; omega) (by omega) (w.drewN m)
          rw [hN, kE]
          clear hE kE hN HLen
          go_wp2_with fail
          obtain ⟨w3, hw3⟩ : ∃ w3, w3 = (w.drewN m).alloc (.cells (madeCells #[.int .u8 0] N) 5) := ⟨_, rfl⟩
          have HB0 : Hid (BufAt w3 w.heap.size N [] w3) := by
            rw [hw3]
            exact ⟨⟨_, heap_alloc_new _ _, by rw [size_madeCells], fun k b hk => by simp at hk⟩, by simp, Turned.refl _ _⟩
          have HT3 : Hid (Turned (fun i => w.heap.size ≤ i) w w3) := by rw [hw3]; exact (drewN_turned _ w m).alloc _
          have hs4 : w3.heap.size = w.heap.size + 1 := by rw [hw3]; simp
          have hs3 : w.heap.size < w3.heap.size := by omega
          rw [← hw3]
          clear hw3 hmake
          go_loopw [13, 14] (fun j u wr => ∃ i : Nat, i ≤ s.size ∧ u = (.int .i64 i) ∧ j = (.int .i64 (((escL (s.data.toList.take i)).length : Nat))) ∧ Hid (BufAt w3 w.heap.size N (escL (s.data.toList.take i)) wr)) (fun _ u _ => s.size - (intOf u).toNat)
          case atStart => exact ⟨0, by omega, rfl, rfl, HB0⟩
          case round =>
            clear HB0
            obtain ⟨i, hi, rfl, rfl, HW⟩ := hrel
            have HTr : Hid (∀ p : Addr, p.block < w.heap.size → wr.cell? p = w.cell? p) := fun p hp => by
              rw [HW.out.tur.cell (by omega) (by omega), HT3.out.cell hp (by omega)]
            by_cases hlt : i < s.size
            · have hst := escL_snoc (s.data.toList.take i) s[i]
              rw [← take_step s i hlt] at hst
              have hlen := esc_part s.data.toList (i + 1)
              rw [HN.out] at hlen
              have hb1 : s[i].toNat < 256 := s[i].toNat_lt
              have hb2 : (s[i].toNat : Int) < 256 := by omega
              rcases HTab.out s[i] with ⟨he, -, hc⟩ | ⟨x, q, cap, he, hc, hq0, hq1, hq2⟩
              · rw [he] at hst
                have hcr := (HTr.out ⟨R, s[i].toNat, none⟩ hRlt).trans hc
                have hlt2 : (escL (s.data.toList.take i)).length < N := by rw [hst] at hlen; simp at hlen; omega
                obtain ⟨hs1, hf1⟩ := HW.out.cell _ hlt2
                obtain ⟨x0, hx0⟩ := Option.isSome_iff_exists.1 hs1
                have HE := Lib.hid (HW.out.one s[i] hlt2)
                rw [← hst] at HE
                have HST := Lib.hid hst
                clear hst he hc hs1 hlen
                go_wp2_with fail
                go_roundw
                case rel => exact ⟨i + 1, by omega, by go_num, v_int (by rw [HST.out]; simp), HE⟩
                case measure => simp [intOf]; omega
              · rw [he] at hst
                have hcr := (HTr.out ⟨R, s[i].toNat, none⟩ hRlt).trans hc
                have hlt2 : (escL (s.data.toList.take i)).length + 1 < N := by rw [hst] at hlen; simp at hlen; omega
                have HST := Lib.hid hst
                clear hst he hc hlen
                go_wp2_with fail
                obtain ⟨cur, hg1, hg2, -⟩ := HW.out.row
                have HCS : Hid ((2 : Nat) = Nat.min 2 (N - (escL (s.data.toList.take i)).length)) := by show _ = _; simp [Nat.min_def]; omega
                have hlt3 : (((escL (s.data.toList.take i)).length : Nat) : Int) ≤ N := by omega
                have hlt5 : (0 : Int) ≤ ((escL (s.data.toList.take i)).length : Nat) := by omega
                have hNe : ¬ N = (escL (s.data.toList.take i)).length := by omega
                have hq0r := (HTr.out ⟨q, 0, none⟩ hq2).trans hq0
                have hq1r := (HTr.out ⟨q, 1, none⟩ hq2).trans hq1
                have HG1 : Hid (wr.drew.heap[w.heap.size]? = some (.cells cur.toList.toArray 5 (0, 0))) := by show _ = _; rw [Array.toArray_toList]; exact hg1
                have HQ0 := Lib.hid hq0r
                have HQ1 := Lib.hid hq1r
                have HE := Lib.hid (fun w4 => HW.out.two (w4 := w4) 92 x hs4 hg1 hlt2)
                clear hg1 hq0 hq1 hq0r hq1r
                go_region_law (refine step_copy_splice rfl (.tmp 105) (.tmp 111) 172 172 rfl 5 Tryz.underlying172 u8_size (some ⟨w.heap.size, (escL (s.data.toList.take i)).length, none⟩) (some ⟨q, 0, none⟩) (N - (escL (s.data.toList.take i)).length) (N - (escL (s.data.toList.take i)).length) 2 cap rfl rfl w.heap.size (escL (s.data.toList.take i)).length cur.toList 5 HG1.out [.int .u8 92, encB x] HCS.out (fun _ => ⟨rfl, _, rfl, two_src HQ0.out HQ1.out⟩) (by simp; omega) (by simp [Value.oneCell', encB]) w.heap.size wr ((Below.refl _ _).drew) (Nat.le_refl _) ?_; intro w4 hg4 hb4)
                go_wp2_with fail
                go_roundw
                case rel => exact ⟨i + 1, by omega, by go_num, v_int (by rw [HST.out]; simp), by rw [HST.out]; exact HE.out w4 hg4.out hb4⟩
                case measure => simp [intOf]; omega
            · obtain rfl : i = s.size := by omega
              rw [take_all, HN.out]
              rw [take_all] at HW
              have hcv := HW.out.conv HN.out
              go_wp2_with fail
              go_ret
              exact ⟨rfl, (HT3.out.trans (HW.out.tur.mono fun i hi => by omega)).strip⟩
        · have kE : decide (0 < escN s.data.toList) = false := by simpa using hE
          have HF : Hid (escL s.data.toList = s.data.toList) := escL_same _ (by omega)
          rw [kE]
          clear hE kE
          go_wp2_with fail
          go_ret
          rw [HF.out]
          exact ⟨rfl, drewN_turned _ _ _⟩
  · have kb : decide ((24 : Int) ≤ (s.size : Int)) = false := by simp; omega
    go_wp2_with fail
    clear kb hbig
    go_loop [5, 6, 10] (fun n b i => ∃ j : Nat, j ≤ s.size ∧ i = (.int .i64 j) ∧ n = (.int .i64 (((s.size + escN (s.data.toList.take j) : Nat) : Int))) ∧ b = .bool (decide (0 < escN (s.data.toList.take j)))) (fun _ _ i => s.size - (intOf i).toNat)
    case atStart => exact ⟨0, by omega, rfl, by simp [escN], by simp [escN]⟩
    case round =>
      obtain ⟨j, hj, rfl, rfl, rfl⟩ := hrel
      by_cases hlt : j < s.size
      · have hst := escN_snoc (s.data.toList.take j) s[j]
        rw [← take_step s j hlt] at hst
        have htl := escN_le (s.data.toList.take j)
        rw [List.length_take] at htl
        have HS2 := Lib.hid hst
        have hb1 : s[j].toNat < 256 := s[j].toNat_lt
        have hb2 : (s[j].toNat : Int) < 256 := by omega
        rcases HTab.out s[j] with ⟨-, he, hc⟩ | ⟨x, q, cap, he, hc, hq0, hq1, hq2⟩
        · have HS3 : Hid (escN (s.data.toList.take (j + 1)) = escN (s.data.toList.take j)) := by show _ = _; rw [hst, he]; rfl
          clear hst HS2 he
          generalize escN (s.data.toList.take j) = t at htl HS3 ⊢
          go_wp2_with fail
          go_round
          case rel => exact ⟨j + 1, by omega, by go_num, v_int (by have := HS3.out; omega), by rw [HS3.out]⟩
          case measure => simp [intOf]; omega
        · have HS3 : Hid (escN (s.data.toList.take (j + 1)) = escN (s.data.toList.take j) + 1) := by show _ = _; rw [hst, he]; rfl
          clear hst HS2 he
          generalize escN (s.data.toList.take j) = t at htl HS3 ⊢
          go_wp2_with fail
          go_round
          case rel => exact ⟨j + 1, by omega, by go_num, v_int (by have := HS3.out; omega), v_bool (by rw [HS3.out]; simp)⟩
          case measure => simp [intOf]; omega
      · obtain rfl : j = s.size := by omega
        rw [take_all]
        by_cases hE : 0 < escN s.data.toList
        · have kE : decide (0 < escN s.data.toList) = true := by simpa using hE
          have HLen := Lib.hid (escL_len s.data.toList)
          obtain ⟨N, hN⟩ : ∃ N, s.size + escN s.data.toList = N := ⟨_, rfl⟩
          have HN : Hid ((escL s.data.toList).length = N) := by show _ = _; rw [HLen.out, ← hN]; simp
          have hN2 : N ≤ 200000 := by omega
          have hmake := run_make_row 172 5 i0 (.int .u8 0) Tryz.underlying172 hif hz0 hz1 rfl .i64 .i64 N (by rw [hz2]; omega) (by omega) w
          rw [hN, kE]
          clear hE kE hN HLen
          go_wp2_with fail
          obtain ⟨w3, hw3⟩ : ∃ w3, w3 = w.alloc (.cells (madeCells #[.int .u8 0] N) 5) := ⟨_, rfl⟩
          have HB0 : Hid (BufAt w3 w.heap.size N [] w3) := by
            rw [hw3]
            exact ⟨⟨_, heap_alloc_new _ _, by rw [size_madeCells], fun k b hk => by simp at hk⟩, by simp, Turned.refl _ _⟩
          have HT3 : Hid (Turned (fun i => w.heap.size ≤ i) w w3) := by rw [hw3]; exact (Turned.refl _ w).alloc _
          have hs4 : w3.heap.size = w.heap.size + 1 := by rw [hw3]; simp
          have hs3 : w.heap.size < w3.heap.size := by omega
          rw [← hw3]
          clear hw3 hmake
          go_loopw [13, 14] (fun j u wr => ∃ i : Nat, i ≤ s.size ∧ u = (.int .i64 i) ∧ j = (.int .i64 (((escL (s.data.toList.take i)).length : Nat))) ∧ Hid (BufAt w3 w.heap.size N (escL (s.data.toList.take i)) wr)) (fun _ u _ => s.size - (intOf u).toNat)
          case atStart => exact ⟨0, by omega, rfl, rfl, HB0⟩
          case round =>
            clear HB0
            obtain ⟨i, hi, rfl, rfl, HW⟩ := hrel
            have HTr : Hid (∀ p : Addr, p.block < w.heap.size → wr.cell? p = w.cell? p) := fun p hp => by
              rw [HW.out.tur.cell (by omega) (by omega), HT3.out.cell hp (by omega)]
            by_cases hlt : i < s.size
            · have hst := escL_snoc (s.data.toList.take i) s[i]
              rw [← take_step s i hlt] at hst
              have hlen := esc_part s.data.toList (i + 1)
              rw [HN.out] at hlen
              have hb1 : s[i].toNat < 256 := s[i].toNat_lt
              have hb2 : (s[i].toNat : Int) < 256 := by omega
              rcases HTab.out s[i] with ⟨he, -, hc⟩ | ⟨x, q, cap, he, hc, hq0, hq1, hq2⟩
              · rw [he] at hst
                have hcr := (HTr.out ⟨R, s[i].toNat, none⟩ hRlt).trans hc
                have hlt2 : (escL (s.data.toList.take i)).length < N := by rw [hst] at hlen; simp at hlen; omega
                obtain ⟨hs1, hf1⟩ := HW.out.cell _ hlt2
                obtain ⟨x0, hx0⟩ := Option.isSome_iff_exists.1 hs1
                have HE := Lib.hid (HW.out.one s[i] hlt2)
                rw [← hst] at HE
                have HST := Lib.hid hst
                clear hst he hc hs1 hlen
                go_wp2_with fail
                go_roundw
                case rel => exact ⟨i + 1, by omega, by go_num, v_int (by rw [HST.out]; simp), HE⟩
                case measure => simp [intOf]; omega
              · rw [he] at hst
                have hcr := (HTr.out ⟨R, s[i].toNat, none⟩ hRlt).trans hc
                have hlt2 : (escL (s.data.toList.take i)).length + 1 < N := by rw [hst] at hlen; simp at hlen; omega
                have HST := Lib.hid hst
                clear hst he hc hlen
                go_wp2_with fail
                obtain ⟨cur, hg1, hg2, -⟩ := HW.out.row
                have HCS : Hid ((2 : Nat) = Nat.min 2 (N - (escL (s.data.toList.take i)).length)) := by show _ = _; simp [Nat.min_def]; omega
                have hlt3 : (((escL (s.data.toList.take i)).length : Nat) : Int) ≤ N := by omega
                have hlt5 : (0 : Int) ≤ ((escL (s.data.toList.take i)).length : Nat) := by omega
                have hNe : ¬ N = (escL (s.data.toList.take i)).length := by omega
                have hq0r := (HTr.out ⟨q, 0, none⟩ hq2).trans hq0
                have hq1r := (HTr.out ⟨q, 1, none⟩ hq2).trans hq1
                have HG1 : Hid (wr.drew.heap[w.heap.size]? = some (.cells cur.toList.toArray 5 (0, 0))) := by show _ = _; rw [Array.toArray_toList]; exact hg1
                have HQ0 := Lib.hid hq0r
                have HQ1 := Lib.hid hq1r
                have HE := Lib.hid (fun w4 => HW.out.two (w4 := w4) 92 x hs4 hg1 hlt2)
                clear hg1 hq0 hq1 hq0r hq1r
                go_region_law (refine step_copy_splice rfl (.tmp 105) (.tmp 111) 172 172 rfl 5 Tryz.underlying172 u8_size (some ⟨w.heap.size, (escL (s.data.toList.take i)).length, none⟩) (some ⟨q, 0, none⟩) (N - (escL (s.data.toList.take i)).length) (N - (escL (s.data.toList.take i)).length) 2 cap rfl rfl w.heap.size (escL (s.data.toList.take i)).length cur.toList 5 HG1.out [.int .u8 92, encB x] HCS.out (fun _ => ⟨rfl, _, rfl, two_src HQ0.out HQ1.out⟩) (by simp; omega) (by simp [Value.oneCell', encB]) w.heap.size wr ((Below.refl _ _).drew) (Nat.le_refl _) ?_; intro w4 hg4 hb4)
                go_wp2_with fail
                go_roundw
                case rel => exact ⟨i + 1, by omega, by go_num, v_int (by rw [HST.out]; simp), by rw [HST.out]; exact HE.out w4 hg4.out hb4⟩
                case measure => simp [intOf]; omega
            · obtain rfl : i = s.size := by omega
              rw [take_all, HN.out]
              rw [take_all] at HW
              have hcv := HW.out.conv HN.out
              go_wp2_with fail
              go_ret
              exact ⟨rfl, (HT3.out.trans (HW.out.tur.mono fun i hi => by omega)).strip⟩
        · have kE : decide (0 < escN s.data.toList) = false := by simpa using hE
          have HF : Hid (escL s.data.toList = s.data.toList) := escL_same _ (by omega)
          rw [kE]
          clear hE kE
          go_wp2_with fail
          go_ret
          rw [HF.out]
          exact ⟨rfl, Turned.refl _ _⟩
end Go.Proofs.YtjijdgkccfeeaaaGreatDoor
namespace Go.Proofs.YtjijdgkccfeeaaaGreatDoor
open Go Go.Proofs Go.RowKit
attribute [local go_sem] Oper.semAt_some
set_option maxRecDepth 20000 in
set_option maxHeartbeats 1000000 in
theorem replace_any (B : Nat) (s : ByteArray) (w : World) (hF : Fresh w B) (hs : s.size ≤ 100000) :
    Calls Tryz.prog 72 #[.pointer (some ⟨B, 0, none⟩), .string s] w fun e w' => e = .returned (.string ⟨(escL s.data.toList).toArray⟩) ∧ Turned (fun i => i = B) w w' := by
  obtain ⟨g, cap, h5, hg, hgB, h6⟩ := hF
  obtain ⟨c0, c1, c2, c3, c4, cf⟩ := five_cells h5
  have hmf : ∀ (fn : Fn) (first cap : Array Value) (w : World), (Instr.makeFunc fn first cap).run Tryz.prog w = .ok (.func fn first cap) w := fun _ _ _ _ => rfl
  have hme : ∀ (p : Value) (W : World), (method 330 215 p "Replace").run Tryz.prog W = .ok (224, p) W := fun _ _ => by kernel_rfl
  have h5' := (set_at (x := .int .i32 1) h5).2.1
  have hT1 : Turned (fun i => i = B) w (w.setCell ⟨B, 1, none⟩ (.int .i32 1)) := (Turned.refl (fun i => i = B) _).setCell (p := ⟨B, 1, none⟩) rfl _
  have h6' : SixAt (w.setCell ⟨B, 1, none⟩ (.int .i32 1)) g := h6.turned hT1 hg hgB
  have hsz : (w.setCell ⟨B, 1, none⟩ (.int .i32 1)).heap.size = w.heap.size := by simp [World.setCell]
  have HO := Lib.hid (once_any B g cap _ h5' h6' (by rw [hsz]; exact hg))
  have HD := Lib.hid (do_first B (.pointer (some ⟨B, 0, none⟩)) w (Built (w.setCell ⟨B, 1, none⟩ (.int .i32 1)) B ((w.setCell ⟨B, 1, none⟩ (.int .i32 1)).heap.size + 1)) c0 c1 (cf 1) HO.out)
  have HT1 := Lib.hid hT1
  have hB := getElem?_lt h5
  clear HO h6' h5' hT1 h6 c0 c1 c2 c3 c4 cf h5
  go_enter Tryz.func72, Tryz.ntmps72
  go_wp2_with fail
  refine HD.out.mono ?_
  rintro e W2 ⟨rfl, w1, ⟨arr, v, c, hBT, h7, hT⟩, rfl⟩
  rw [hsz] at hT hBT h7
  have e1 := (set_at (x := .int .u32 1) (show w1.drew.heap[B]? = _ from h7)).1
  have e2 := (set_at (x := .int .i32 0) e1).2.1
  have hBT2 := ((hBT.drew).other (show w1.drew.heap[B]? = _ from h7) 0 (.int .u32 1)).other e1 1 (.int .i32 0)
  have hT2 : Turned (fun i => i = B) w ((w1.drew.setCell ⟨B, 0, none⟩ (.int .u32 1)).setCell ⟨B, 1, none⟩ (.int .i32 0)) := by
    have t1 : Turned (fun i => i = B ∨ w.heap.size ≤ i) w w1.drew := (HT1.out.mono fun _ h => .inl h).trans (hT.trans (drewN_turned _ w1 1))
    have t2 := (t1.setCell (p := ⟨B, 0, none⟩) (.inl rfl) (.int .u32 1)).setCell (p := ⟨B, 1, none⟩) (.inl rfl) (.int .i32 0)
    exact ⟨t2.os, t2.tape, t2.output, t2.size, fun k hk hne => t2.block k hk (fun h => h.elim hne (by omega))⟩
  generalize (w1.drew.setCell ⟨B, 0, none⟩ (.int .u32 1)).setCell ⟨B, 1, none⟩ (.int .i32 0) = W2 at e2 hBT2 hT2 ⊢
  obtain ⟨d0, d1, d2, d3, d4, df⟩ := five_cells e2
  have HR := Lib.hid (bsr_any _ _ s arr v W2 hBT2 hs)
  have HT2 := Lib.hid hT2
  clear hBT hBT2 h7 hT e1 e2 hT2
  go_wp2_with fail
  refine HR.out.mono ?_
  rintro e w5 ⟨rfl, ht⟩
  have HT5 := Lib.hid ht
  clear ht
  go_wp2_with fail
  go_ret
  exact ⟨rfl, HT2.out.trans (HT5.out.mono fun _ h => h.elim)⟩
end Go.Proofs.YtjijdgkccfeeaaaGreatDoor
