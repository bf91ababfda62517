/- Part 4 of the proof of card: ParPrA, ParSame, ParSameW, ParPrB. Conditions: those of each theorem. -/
import Derived.Deep.CutBlock
import Derived.Deep.DeepCutAuto
import Derived.Maps.OwnOps
import Derived.Test.YtjijdgkccfeeaaaGreatDoorRt01
import Derived.Test.YtjijdgkccfeeaaaGreatDoorRt03
namespace Go.Proofs.YtjijdgkccfeeaaaGreatDoor
open Go Go.Proofs Go.RowKit
attribute [local go_sem] Oper.semAt_some
def PrS (B : Nat) (ts : List Tok) (bad : Bool) (W : World) : Prop := ∃ v, W.heap[B]? = some (.cells #[v, .bool bad] 90 (0, 0)) ∧ W.ownsRow (B + 1) 68 4 v ts.length (ts.flatMap tokV)
def Free (B : Nat) (W : World) (b : Nat) : Prop := b ≠ B ∧ ∀ v x, W.heap[B]? = some (.cells #[v, x] 90 (0, 0)) → v.ownBlock ≠ some b
structure PrT (B : Nat) (w w' : World) : Prop where
  os : w'.os = w.os
  tape : w'.tape = w.tape
  output : w'.output = w.output
  size : w.heap.size ≤ w'.heap.size
  keep : ∀ b, b < w.heap.size → Free B w b → w'.heap[b]? = w.heap[b]? ∧ Free B w' b
theorem PrT.refl (B : Nat) (w : World) : PrT B w w := ⟨rfl, rfl, rfl, Nat.le_refl _, fun _ _ h => ⟨rfl, h⟩⟩
theorem PrT.trans {B : Nat} {a b c : World} (h : PrT B a b) (k : PrT B b c) : PrT B a c :=
  ⟨k.os.trans h.os, k.tape.trans h.tape, k.output.trans h.output, Nat.le_trans h.size k.size, fun x hx hf => by
    obtain ⟨h1, h2⟩ := h.keep x hx hf
    obtain ⟨h3, h4⟩ := k.keep x (Nat.lt_of_lt_of_le hx h.size) h2
    exact ⟨h3.trans h1, h4⟩⟩
theorem PrS.lt {B : Nat} {ts : List Tok} {bad : Bool} {W : World} (h : PrS B ts bad W) : B < W.heap.size := by
  obtain ⟨v, h1, -⟩ := h
  exact getElem?_lt h1
theorem PrS.same {B : Nat} {ts : List Tok} {bad : Bool} {W W' : World} (h : PrS B ts bad W) (ht : Turned (fun _ => False) W W') : PrS B ts bad W' ∧ PrT B W W' := by
  have hlt := h.lt
  obtain ⟨v, h1, h2⟩ := h
  have hb := ht.block B hlt id
  refine ⟨⟨v, hb.trans h1, ownsRow_turned' ht (fun _ _ => id) h2⟩, ht.os, ht.tape, ht.output, ht.size, fun b hlt hf => ⟨ht.block b hlt id, hf.1, fun u x hu => hf.2 u x (by rw [← hb]; exact hu)⟩⟩
theorem PrS.data {B : Nat} {ts : List Tok} {bad : Bool} {W : World} (h : PrS B ts bad W) {b : Nat} (hb : b < B) : Free B W b := by
  obtain ⟨v, h1, h2⟩ := h
  refine ⟨by omega, fun u x hu he => ?_⟩
  rw [h1] at hu
  cases hu
  have := (ownsRow_block h2 b he).1
  omega
theorem PrS.fresh {B : Nat} {ts : List Tok} {bad : Bool} {W W' : World} (h : PrS B ts bad W) (ht : Turned (fun _ => False) W W') {b : Nat} (hb : W.heap.size ≤ b) : Free B W' b := by
  have hlt := h.lt
  obtain ⟨v, h1, h2⟩ := h
  refine ⟨by omega, fun u x hu he => ?_⟩
  rw [ht.block B hlt id, h1] at hu
  cases hu
  have := (ownsRow_block h2 b he).2
  omega
theorem PrT.turned {B : Nat} {w w' : World} (h : PrT B w w') : Turned (fun b => ¬ Free B w b) w w' := ⟨h.os, h.tape, h.output, h.size, fun b hb hf => (h.keep b hb (Classical.not_not.1 hf)).1⟩
def PrR (B : Nat) (ts : List Tok) (bad : Bool) (w : World) (e : Ending) (w' : World) : Prop := e = .returned (.tuple #[]) ∧ PrS B ts bad w' ∧ PrT B w w'
theorem pr_push {B : Nat} {w w1 w4 : World} {v v' : Value} {ts : List Tok} {t : Tok} {b0 bad : Bool} (h0 : w.heap[B]? = some (.cells #[v, .bool b0] 90 (0, 0))) (hw : w.ownsRow (B + 1) 68 4 v ts.length (ts.flatMap tokV)) (ht : Turned (fun j => j = B) w w1)
    (hb : w1.heap[B]? = some (.cells #[v, .bool bad] 90 (0, 0))) (hg : w1.grownBy w4 v.ownBlock) (hown : w4.ownsRow (B + 1) 68 4 v' (ts.length + 1) (ts.flatMap tokV ++ tokV t)) (hex : ∀ g, v'.ownBlock = some g → v.ownBlock = some g ∨ w1.heap.size ≤ g) :
    w4.heap[B]? = some (.cells #[v, .bool bad] 90 (0, 0)) ∧ PrS B (ts ++ [t]) bad (w4.setCell ⟨B, 0, none⟩ v') ∧ PrT B w (w4.setCell ⟨B, 0, none⟩ v') := by
  have hB := getElem?_lt hb
  have hvB : v.ownBlock ≠ some B := fun he => by have := (ownsRow_block hw B he).1; omega
  have h4 : w4.heap[B]? = some (.cells #[v, .bool bad] 90 (0, 0)) := (hg.block B hB (fun he => hvB he.symm)).trans hb
  have h5 : (w4.setCell ⟨B, 0, none⟩ v').heap[B]? = some (.cells #[v', .bool bad] 90 (0, 0)) := by simp [World.setCell, Array.getElem?_modify, h4]
  have t5 : Turned (fun j => j = B) w4 (w4.setCell ⟨B, 0, none⟩ v') := (Turned.refl (fun j => j = B) w4).setCell (p := ⟨B, 0, none⟩) rfl v'
  refine ⟨h4, ⟨v', h5, ?_⟩, ?_⟩
  · have := ownsRow_turned t5 (fun k hk => by omega) hown
    simpa using this
  · refine ⟨t5.os.trans (hg.os.trans ht.os), t5.tape.trans (hg.tape.trans ht.tape), t5.output.trans (hg.output.trans ht.output), Nat.le_trans ht.size (Nat.le_trans hg.size t5.size), fun b hb hf => ?_⟩
    have hne : v.ownBlock ≠ some b := hf.2 v _ h0
    have hlt1 : b < w1.heap.size := Nat.lt_of_lt_of_le hb ht.size
    refine ⟨?_, hf.1, fun u x hu he => ?_⟩
    · rw [t5.block b (Nat.lt_of_lt_of_le hlt1 hg.size) hf.1, hg.block b hlt1 (fun he => hne he.symm), ht.block b hb hf.1]
    · rw [h5] at hu
      cases hu
      rcases hex b he with h1 | h1
      · exact hne h1
      · omega
theorem set_bad {B : Nat} {w : World} {v x : Value} (h0 : w.heap[B]? = some (.cells #[v, x] 90 (0, 0))) (y : Value) : Turned (fun j => j = B) w (w.setCell ⟨B, 1, none⟩ y) ∧ (w.setCell ⟨B, 1, none⟩ y).heap[B]? = some (.cells #[v, y] 90 (0, 0)) :=
  ⟨(Turned.refl (fun j => j = B) w).setCell (p := ⟨B, 1, none⟩) rfl y, by simp [World.setCell, Array.getElem?_modify, h0]⟩
theorem alloc_box {w : World} {b : Nat} {o : Obj} (h : w.heap[b]? = some o) (x : Obj) : (w.alloc x).heap[b]? = some o := by
  rw [hao _ _ (getElem?_lt h)]; exact h
theorem pr_cells {V : World} {N t : Nat} {a b : Value} (h : V.heap[N]? = some (.cells #[a, b] t (0, 0))) : V.cell? ⟨N, 0, none⟩ = some a ∧ V.cell? ⟨N, 1, none⟩ = some b := by
  simp [World.cell?, h]
set_option maxRecDepth 20000 in
set_option maxHeartbeats 2000000 in
theorem number_pr (B : Nat) (ts : List Tok) (bad : Bool) (n : Int) (w : World) (h : PrS B ts bad w) (hl : ts.length ≤ 100000) :
    Calls Tryz.prog 68 #[.pointer (some ⟨B, 0, none⟩), (.int .i64 n)] w (PrR B (ts ++ [nuT n]) (bad || badNum n) w) := by
  obtain ⟨i0, hif, hz0, hz1, hz2⟩ := info_parts infoTok
  obtain ⟨v, h0, hown⟩ := h
  obtain ⟨c0, c1⟩ := pr_cells h0
  have fq := free_of_box h0
  obtain ⟨va, vc, rfl⟩ := owns_shape hown
  have H0 := Lib.hid h0
  have HO := Lib.hid hown
  clear h0 hown
  go_enter Tryz.func68, Tryz.ntmps68
  go_upto_region 0 with fail
  go_cut [16] from 4 to 18 (fun _ wx => Hid (Turned (fun j => j = B) w wx ∧ wx.heap[B]? = some (.cells #[.slice va ts.length vc, .bool (bad || badNum n)] 90 (0, 0))))
  case first =>
    cases bad with
    | true =>
      go_wp2_with fail
      go_meet
      case rel => exact Lib.hid (set_bad H0.out _)
    | false =>
      by_cases hn : n < 0
      · have e : Hid ((false || badNum n) = true) := Lib.hid (by simp [badNum, hn])
        go_wp2_with fail
        go_meet
        case rel => exact Lib.hid (by rw [e.out]; exact set_bad H0.out _)
      · have e : Hid ((false || badNum n) = decide (999999999999999 < n)) := Lib.hid (by simp [badNum, hn])
        go_wp2_with fail
        go_meet
        case rel => exact Lib.hid (by rw [e.out]; exact set_bad H0.out _)
  case rest =>
    obtain ⟨k0, k1⟩ := pr_cells hcut.out.2
    have kq := free_of_box hcut.out.2
    clear c0 c1 fq
    go_wp2_with (at_builtin; refine wpList_append_exact _ rfl _ _ 69 rfl (B + 1) 68 i0 (.agg #[(.int .i64 0), (.int .i64 0), .string ⟨#[]⟩, (.int .i64 0)]) 4 40 Tryz.underlying69 hif hz0 hz1 hz2 rfl (by decide) _ _ _ rfl (ownsRow_turned (hcut.out.1.alloc _) (fun k hk => by omega) HO.out) ⟨wc.heap.size, 0, none⟩ 1 1 [(.int .i64 2), (.int .i64 0), .string ⟨#[]⟩, (.int .i64 n)] rfl rfl (cells_four _ _ _ _ _ _) (by intro u hu; simp at hu; rcases hu with rfl | rfl | rfl | rfl <;> rfl) (by unfold maxLen; omega) (by omega) (by have := getElem?_lt hcut.out.2; simp; omega) ?_; intro v' w4 hown' hgrow hex; obtain ⟨g', cap', rfl⟩ := ownsRow_succ hown'; have HE := Lib.hid (pr_push (t := nuT n) H0.out HO.out (hcut.out.1.alloc _) (alloc_box hcut.out.2 _) hgrow hown' hex); obtain ⟨z0, z1⟩ := pr_cells HE.out.1; have zq := free_of_box HE.out.1; clear hown' hgrow hex)
    go_end0
    exact ⟨rfl, HE.out.2⟩
set_option maxRecDepth 20000 in
set_option maxHeartbeats 2000000 in
theorem signs_pr (B : Nat) (ts : List Tok) (bad : Bool) (s : ByteArray) (w : World) (h : PrS B ts bad w) (hl : ts.length ≤ 100000) (g c : Nat) (hs : w.cell? ⟨g, 0, none⟩ = some (.string s)) :
    Calls Tryz.prog 67 #[.pointer (some ⟨B, 0, none⟩), .slice (some ⟨g, 0, none⟩) 1 c] w (PrR B (ts ++ [sgT s]) bad w) := by
  obtain ⟨i0, hif, hz0, hz1, hz2⟩ := info_parts infoTok
  obtain ⟨v, h0, hown⟩ := h
  obtain ⟨c0, c1⟩ := pr_cells h0
  have fq := free_of_box h0
  obtain ⟨va, vc, rfl⟩ := owns_shape hown
  have H0 := Lib.hid h0
  have HO := Lib.hid hown
  clear h0 hown
  go_enter Tryz.func67, Tryz.ntmps67
  go_wp2_with fail
  go_loopw [8] (fun u wr => (u = (.int .i64 0) ∧ wr = w) ∨ (u = (.int .i64 1) ∧ Hid (PrS B (ts ++ [sgT s]) bad wr ∧ PrT B w wr))) (fun u _ => 1 - (intOf u).toNat)
  case atStart => exact .inl ⟨rfl, rfl⟩
  case round =>
    rcases hrel with ⟨rfl, rfl⟩ | ⟨rfl, HR⟩
    · go_wp2_with (at_builtin; refine wpList_append_exact _ rfl _ _ 69 rfl (B + 1) 68 i0 (.agg #[(.int .i64 0), (.int .i64 0), .string ⟨#[]⟩, (.int .i64 0)]) 4 40 Tryz.underlying69 hif hz0 hz1 hz2 rfl (by decide) _ _ _ rfl (ownsRow_turned ((Turned.refl (fun j => j = B) _).alloc _) (fun k hk => by omega) HO.out) ⟨wr.heap.size, 0, none⟩ 1 1 [(.int .i64 4), (.int .i64 0), .string s, (.int .i64 0)] rfl rfl (cells_four _ _ _ _ _ _) (by intro u hu; simp at hu; rcases hu with rfl | rfl | rfl | rfl <;> rfl) (by unfold maxLen; omega) (by omega) (by have := getElem?_lt H0.out; simp; omega) ?_; intro v' w4 hown' hgrow hex; obtain ⟨g', cap', rfl⟩ := ownsRow_succ hown'; have HE := Lib.hid (pr_push (t := sgT s) H0.out HO.out ((Turned.refl (fun j => j = B) _).alloc _) (alloc_box H0.out _) hgrow hown' hex); obtain ⟨z0, z1⟩ := pr_cells HE.out.1; have zq := free_of_box HE.out.1; clear hown' hgrow hex)
      go_roundw
      case rel => exact .inr ⟨by go_num, Lib.hid HE.out.2⟩
      case measure => simp [intOf]
    · go_wp2_with fail
      go_end0
      exact ⟨rfl, HR.out⟩
theorem textTo_succ {s : ByteArray} {k : Nat} (hk : k < s.size) : textTo s (k + 1) = (textTo s k || (((s[k].toNat : Int) != 10) && (decide ((s[k].toNat : Int) < 32) || decide ((126 : Int) < (s[k].toNat : Int))))) := by
  have e : s.data.toList.getD k 0 = s[k] := by
    have : k < s.data.toList.length := by simpa using hk
    rw [List.getD_eq_getElem?_getD, List.getElem?_eq_getElem this]; rfl
  show (textTo s k || (s.data.toList.getD k 0 != 10 && (decide (s.data.toList.getD k 0 < 32) || decide (126 < s.data.toList.getD k 0)))) = _
  rw [e]
  congr 1
  congr 1
  · rw [Bool.eq_iff_iff]; simp [← UInt8.toNat_inj]; omega
  · congr 1
    · rw [Bool.eq_iff_iff]; simp [UInt8.lt_iff_toNat_lt]; omega
    · rw [Bool.eq_iff_iff]; simp [UInt8.lt_iff_toNat_lt]; omega
set_option maxRecDepth 20000 in
set_option maxHeartbeats 2000000 in
theorem text_pr (B : Nat) (ts : List Tok) (bad : Bool) (s : ByteArray) (w : World) (h : PrS B ts bad w) (hl : ts.length ≤ 100000) (hs : s.size ≤ 100000) :
    Calls Tryz.prog 69 #[.pointer (some ⟨B, 0, none⟩), .string s] w (PrR B (ts ++ [txT s]) (bad || badText s) w) := by
  obtain ⟨i0, hif, hz0, hz1, hz2⟩ := info_parts infoTok
  obtain ⟨v, h0, hown⟩ := h
  obtain ⟨c0, c1⟩ := pr_cells h0
  have fq := free_of_box h0
  obtain ⟨va, vc, rfl⟩ := owns_shape hown
  have H0 := Lib.hid h0
  have HO := Lib.hid hown
  clear h0 hown
  go_enter Tryz.func69, Tryz.ntmps69
  go_upto_region 0 with fail
  go_cut [14] from 5 to 16 (fun _ wx => Hid (Turned (fun j => j = B) w wx ∧ wx.heap[B]? = some (.cells #[.slice va ts.length vc, .bool (bad || textTo s 0)] 90 (0, 0))))
  case first =>
    cases bad with
    | true =>
      go_wp2_with fail
      go_meet
      case rel => exact Lib.hid (set_bad H0.out _)
    | false =>
      have e : Hid ((false || textTo s 0) = decide ((200 : Int) < (s.size : Int))) := Lib.hid (by
        rw [Bool.false_or]
        show decide (200 < s.size) = _
        rw [Bool.eq_iff_iff]; simp; omega)
      go_wp2_with fail
      go_meet
      case rel => exact Lib.hid (by rw [e.out]; exact set_bad H0.out _)
  case rest =>
    clear c0 c1 fq
    have HW := hcut
    clear hcut
    go_wp2_with fail
    go_loopw [19] (fun u wr => ∃ k : Nat, k ≤ s.size ∧ u = (.int .i64 k) ∧ Hid (Turned (fun j => j = B) w wr ∧ wr.heap[B]? = some (.cells #[.slice va ts.length vc, .bool (bad || textTo s k)] 90 (0, 0)))) (fun u _ => s.size - (intOf u).toNat)
    case atStart => exact ⟨0, by omega, rfl, HW⟩
    case round =>
      obtain ⟨k, hk, rfl, HK⟩ := hrel
      obtain ⟨k0, k1⟩ := pr_cells HK.out.2
      have kq := free_of_box HK.out.2
      by_cases hlt : k < s.size
      · have e : Hid ((bad || textTo s (k + 1)) = ((bad || textTo s k) || (((s[k].toNat : Int) != 10) && (decide ((s[k].toNat : Int) < 32) || decide ((126 : Int) < (s[k].toNat : Int)))))) := Lib.hid (by rw [textTo_succ hlt, Bool.or_assoc])
        have hk2 : (k : Int) < (s.size : Int) := by omega
        generalize (bad || textTo s k) = bk at *
        cases bk with
        | true =>
          have e2 : Hid ((bad || textTo s (k + 1)) = true) := Lib.hid (by rw [e.out]; rfl)
          clear e
          go_wp2_with fail
          go_roundw
          case rel => exact ⟨k + 1, by omega, by go_num, Lib.hid (by rw [e2.out]; exact ⟨HK.out.1.trans (set_bad HK.out.2 _).1, (set_bad HK.out.2 _).2⟩)⟩
          case measure => simp [intOf]; omega
        | false =>
          by_cases h10 : (s[k].toNat : Int) = 10
          · have hb : ((s[k].toNat : Int) != 10) = false := by simpa using h10
            have e2 : Hid ((bad || textTo s (k + 1)) = false) := Lib.hid (by rw [e.out, hb]; rfl)
            clear e
            go_wp2_with fail
            go_roundw
            case rel => exact ⟨k + 1, by omega, by go_num, Lib.hid (by rw [e2.out]; exact ⟨HK.out.1.trans (set_bad HK.out.2 _).1, (set_bad HK.out.2 _).2⟩)⟩
            case measure => simp [intOf]; omega
          · have hb : ((s[k].toNat : Int) != 10) = true := by simpa using h10
            by_cases h32 : (s[k].toNat : Int) < 32
            · have e2 : Hid ((bad || textTo s (k + 1)) = true) := Lib.hid (by rw [e.out, hb, decide_eq_true h32]; rfl)
              clear e h10
              go_wp2_with fail
              go_roundw
              case rel => exact ⟨k + 1, by omega, by go_num, Lib.hid (by rw [e2.out]; exact ⟨HK.out.1.trans (set_bad HK.out.2 _).1, (set_bad HK.out.2 _).2⟩)⟩
              case measure => simp [intOf]; omega
            · have e2 : Hid ((bad || textTo s (k + 1)) = decide ((126 : Int) < (s[k].toNat : Int))) := Lib.hid (by rw [e.out, hb, decide_eq_false h32]; rfl)
              clear e h10
              go_wp2_with fail
              go_roundw
              case rel => exact ⟨k + 1, by omega, by go_num, Lib.hid (by rw [e2.out]; exact ⟨HK.out.1.trans (set_bad HK.out.2 _).1, (set_bad HK.out.2 _).2⟩)⟩
              case measure => simp [intOf]; omega
      · obtain rfl : k = s.size := by omega
        go_wp2_with (at_builtin; refine wpList_append_exact _ rfl _ _ 69 rfl (B + 1) 68 i0 (.agg #[(.int .i64 0), (.int .i64 0), .string ⟨#[]⟩, (.int .i64 0)]) 4 40 Tryz.underlying69 hif hz0 hz1 hz2 rfl (by decide) _ _ _ rfl (ownsRow_turned (HK.out.1.alloc _) (fun k hk => by omega) HO.out) ⟨wr.heap.size, 0, none⟩ 1 1 [(.int .i64 3), (.int .i64 0), .string s, (.int .i64 0)] rfl rfl (cells_four _ _ _ _ _ _) (by intro u hu; simp at hu; rcases hu with rfl | rfl | rfl | rfl <;> rfl) (by unfold maxLen; omega) (by omega) (by have := getElem?_lt HK.out.2; simp; omega) ?_; intro v' w4 hown' hgrow hex; obtain ⟨g', cap', rfl⟩ := ownsRow_succ hown'; have HE := Lib.hid (pr_push (t := txT s) H0.out HO.out (HK.out.1.alloc _) (alloc_box HK.out.2 _) hgrow hown' hex); obtain ⟨z0, z1⟩ := pr_cells HE.out.1; have zq := free_of_box HE.out.1; clear hown' hgrow hex)
        go_end0
        exact ⟨rfl, HE.out.2⟩
def lettI (c : Int) : Bool := (decide (97 ≤ c) && decide (c ≤ 122)) || (decide (65 ≤ c) && decide (c ≤ 90)) || c == 95
theorem letter_bits : ∀ k : Fin 256, (decide (97 ≤ bits BinOp.or IntKind.u8 (k.val : Int) 32) && decide (bits BinOp.or IntKind.u8 (k.val : Int) 32 ≤ 122)) = ((decide (97 ≤ (k.val : Int)) && decide ((k.val : Int) ≤ 122)) || (decide (65 ≤ (k.val : Int)) && decide ((k.val : Int) ≤ 90))) := by decide +kernel
theorem nameE_any (c : Int) (w : World) (h0 : 0 ≤ c) (h1 : c ≤ 255) : Calls Tryz.prog 99 #[.int .u8 c] w fun e w' => e = .returned (.bool (lettI c)) ∧ w = w' := by
  have hL := letter_bits ⟨c.toNat, by omega⟩
  simp only [Int.toNat_of_nonneg h0] at hL
  have HX := Lib.hid (show lettI c = ((decide (97 ≤ bits BinOp.or IntKind.u8 c 32) && decide (bits BinOp.or IntKind.u8 c 32 ≤ 122)) || c == 95) from by rw [hL]; rfl)
  clear hL
  by_cases h2 : 97 ≤ bits BinOp.or IntKind.u8 c 32
  · by_cases h3 : bits BinOp.or IntKind.u8 c 32 ≤ 122
    · have HR : Hid (lettI c = true) := by show _ = _; rw [HX.out, decide_eq_true h2, decide_eq_true h3]; rfl
      clear HX
      go_enter Tryz.func99, Tryz.ntmps99
      go_wp2_with fail
      go_ret
      rw [HR.out]
      exact ⟨rfl, rfl⟩
    · have hd : decide (bits BinOp.or IntKind.u8 c 32 ≤ 122) = false := decide_eq_false h3
      have HR : Hid (lettI c = (c == 95)) := by show _ = _; rw [HX.out, hd, Bool.and_false, Bool.false_or]
      clear HX
      go_enter Tryz.func99, Tryz.ntmps99
      go_wp2_with fail
      go_ret
      rw [HR.out]
      exact ⟨rfl, rfl⟩
  · have hd : decide (97 ≤ bits BinOp.or IntKind.u8 c 32) = false := decide_eq_false h2
    have HR : Hid (lettI c = (c == 95)) := by show _ = _; rw [HX.out, hd, Bool.false_and, Bool.false_or]
    clear HX
    go_enter Tryz.func99, Tryz.ntmps99
    go_wp2_with fail
    go_ret
    rw [HR.out]
    exact ⟨rfl, rfl⟩
theorem byte_eq_int (b : UInt8) (n : Nat) (h : n < 256) : (b == UInt8.ofNat n) = ((b.toNat : Int) == (n : Int)) := by
  rw [Bool.eq_iff_iff]
  simp only [beq_iff_eq, ← UInt8.toNat_inj, UInt8.toNat_ofNat', Nat.mod_eq_of_lt h]
  omega
theorem byte_le_int (b : UInt8) (n : Nat) (h : n < 256) : (decide (UInt8.ofNat n ≤ b) = decide ((n : Int) ≤ (b.toNat : Int))) ∧ (decide (b ≤ UInt8.ofNat n) = decide ((b.toNat : Int) ≤ (n : Int))) := by
  constructor <;> (rw [Bool.eq_iff_iff]; simp only [decide_eq_true_eq, UInt8.le_iff_toNat_le, UInt8.toNat_ofNat', Nat.mod_eq_of_lt h]; omega)
theorem letterB_int (b : UInt8) : letterB b = lettI b.toNat := by
  unfold letterB lettI
  rw [show (97 : UInt8) = UInt8.ofNat 97 from rfl, show (122 : UInt8) = UInt8.ofNat 122 from rfl, show (65 : UInt8) = UInt8.ofNat 65 from rfl, show (90 : UInt8) = UInt8.ofNat 90 from rfl, show (95 : UInt8) = UInt8.ofNat 95 from rfl,
    (byte_le_int b 97 (by omega)).1, (byte_le_int b 122 (by omega)).2, (byte_le_int b 65 (by omega)).1, (byte_le_int b 90 (by omega)).2, byte_eq_int b 95 (by omega)]
  rfl
theorem digitB_int (b : UInt8) : digitB b = (decide (48 ≤ (b.toNat : Int)) && decide ((b.toNat : Int) ≤ 57)) := by
  unfold digitB
  rw [show (48 : UInt8) = UInt8.ofNat 48 from rfl, show (57 : UInt8) = UInt8.ofNat 57 from rfl, (byte_le_int b 48 (by omega)).1, (byte_le_int b 57 (by omega)).2]
  rfl
theorem byte_at {s : ByteArray} {k : Nat} (hk : k < s.size) : s.data.toList.getD k 0 = s[k] := by
  have : k < s.data.toList.length := by simpa using hk
  rw [List.getD_eq_getElem?_getD, List.getElem?_eq_getElem this]; rfl
theorem nameTo_succ {s : ByteArray} {k : Nat} (hk : k < s.size) : nameTo s (k + 1) = (nameTo s k && (lettI s[k].toNat || (decide (0 < k) && (decide (48 ≤ (s[k].toNat : Int)) && decide ((s[k].toNat : Int) ≤ 57))))) := by
  show (nameTo s k && (letterB (s.data.toList.getD k 0) || (decide (0 < k) && digitB (s.data.toList.getD k 0)))) = _
  rw [byte_at hk, letterB_int, digitB_int]
set_option maxRecDepth 20000 in
set_option maxHeartbeats 4000000 in
theorem name_pr (B : Nat) (ts : List Tok) (bad : Bool) (s : ByteArray) (w : World) (h : PrS B ts bad w) (hl : ts.length ≤ 100000) (hs : s.size ≤ 100000) :
    Calls Tryz.prog 66 #[.pointer (some ⟨B, 0, none⟩), .string s] w (PrR B (ts ++ [nmT s]) (bad || badName s) w) := by
  obtain ⟨i0, hif, hz0, hz1, hz2⟩ := info_parts infoTok
  obtain ⟨v, h0, hown⟩ := h
  obtain ⟨c0, c1⟩ := pr_cells h0
  have fq := free_of_box h0
  obtain ⟨va, vc, rfl⟩ := owns_shape hown
  have H0 := Lib.hid h0
  have HO := Lib.hid hown
  clear h0 hown
  go_enter Tryz.func66, Tryz.ntmps66
  go_upto_region 1 with fail
  go_cut [5] from 7 to 14 (fun u wx => u = .bool (nameTo s 0) ∧ wx = w)
  case first =>
    have HZ : Hid (nameTo s 0 = (decide ((0 : Int) < (s.size : Int)) && decide ((s.size : Int) ≤ 32))) := Lib.hid (by
      show (decide (0 < s.size) && decide (s.size ≤ 32)) = _
      rw [Bool.eq_iff_iff]; simp; omega)
    by_cases hz : (0 : Int) < (s.size : Int)
    · have HZ2 := Lib.hid (HZ.out.trans (by rw [decide_eq_true hz, Bool.true_and]))
      clear HZ
      go_wp2_with fail
      go_meet
      case rel => exact ⟨by rw [HZ2.out], rfl⟩
    · have HZ2 := Lib.hid (HZ.out.trans (by rw [decide_eq_false hz, Bool.false_and]))
      clear HZ
      go_wp2_with fail
      go_meet
      case rel => exact ⟨by rw [HZ2.out], rfl⟩
  case rest =>
    obtain ⟨rfl, hwc⟩ := hcut
    rw [hwc]
    clear hwc
    go_wp2_with fail
    go_loopw [5, 17] (fun q u wr => ∃ k : Nat, k ≤ s.size ∧ u = (.int .i64 k) ∧ q = .bool (nameTo s k) ∧ Hid (wr = w)) (fun _ u _ => s.size - (intOf u).toNat)
    case atStart => exact ⟨0, by omega, rfl, rfl, Lib.hid rfl⟩
    case round =>
      obtain ⟨k, hk, rfl, rfl, HK⟩ := hrel
      by_cases hlt : k < s.size
      · have e := Lib.hid (nameTo_succ hlt)
        have hk2 : (k : Int) < (s.size : Int) := by omega
        have hz0 : (0 : Int) ≤ (s[k].toNat : Int) := by omega
        have hz1 : (s[k].toNat : Int) ≤ 255 := by have := s[k].toNat_lt; omega
        have HC := Lib.hid (fun (W : World) => nameE_any (s[k].toNat : Int) W hz0 hz1)
        generalize nameTo s k = q at *
        cases q with
        | false =>
          have e2 := Lib.hid (e.out.trans (Bool.false_and _))
          clear e HC
          go_wp2_with (fail)
          go_roundw
          case rel => exact ⟨k + 1, by omega, by go_num, by rw [e2.out], Lib.hid HK.out⟩
          case measure => simp [intOf]; omega
        | true =>
          generalize lettI (s[k].toNat : Int) = lt at *
          cases lt with
          | true =>
            have e2 := Lib.hid (e.out.trans (by rw [Bool.true_and, Bool.true_or]))
            clear e
            go_wp2_with (go_at_call 99; refine (HC.out _).mono ?_; rintro e w' ⟨rfl, rfl⟩)
            go_roundw
            case rel => exact ⟨k + 1, by omega, by go_num, by rw [e2.out], Lib.hid HK.out⟩
            case measure => simp [intOf]; omega
          | false =>
            by_cases hk0 : k = 0
            · subst hk0
              have e2 := Lib.hid (e.out.trans (by rw [Bool.true_and, Bool.false_or, decide_eq_false (Nat.lt_irrefl 0), Bool.false_and]))
              clear e
              go_wp2_with (go_at_call 99; refine (HC.out _).mono ?_; rintro e w' ⟨rfl, rfl⟩)
              go_roundw
              case rel => exact ⟨0 + 1, by omega, by go_num, by rw [e2.out], Lib.hid HK.out⟩
              case measure => simp [intOf]; omega
            · have hk3 : (0 : Int) < (k : Int) := by omega
              by_cases h48 : 48 ≤ (s[k].toNat : Int)
              · have e2 := Lib.hid (e.out.trans (by rw [Bool.true_and, Bool.false_or, decide_eq_true (show 0 < k by omega), decide_eq_true h48, Bool.true_and, Bool.true_and]))
                clear e hk0
                go_wp2_with (go_at_call 99; refine (HC.out _).mono ?_; rintro e w' ⟨rfl, rfl⟩)
                go_roundw
                case rel => exact ⟨k + 1, by omega, by go_num, by rw [e2.out], Lib.hid HK.out⟩
                case measure => simp [intOf]; omega
              · have e2 := Lib.hid (e.out.trans (by rw [Bool.true_and, Bool.false_or, decide_eq_false h48, Bool.false_and, Bool.and_false]))
                clear e hk0
                go_wp2_with (go_at_call 99; refine (HC.out _).mono ?_; rintro e w' ⟨rfl, rfl⟩)
                go_roundw
                case rel => exact ⟨k + 1, by omega, by go_num, by rw [e2.out], Lib.hid HK.out⟩
                case measure => simp [intOf]; omega
      · obtain rfl : k = s.size := by omega
        rw [HK.out]
        clear HK
        have hq : Hid (badName s = !nameTo s s.size) := Lib.hid rfl
        generalize badName s = bs at *
        generalize nameTo s s.size = q at *
        go_upto_region 7 with fail
        go_cut [53] from 45 to 55 (fun _ wx => Hid (Turned (fun j => j = B) w wx ∧ wx.heap[B]? = some (.cells #[.slice va ts.length vc, .bool (bad || bs)] 90 (0, 0))))
        case first =>
          cases bad with
          | true =>
            go_wp2_with fail
            go_meet
            case rel => exact Lib.hid (set_bad H0.out _)
          | false =>
            go_wp2_with fail
            go_meet
            case rel => exact Lib.hid (by rw [hq.out]; exact set_bad H0.out _)
        case rest =>
          obtain ⟨k0, k1⟩ := pr_cells hcut.out.2
          have kq := free_of_box hcut.out.2
          clear c0 c1 fq
          go_wp2_with (at_builtin; refine wpList_append_exact _ rfl _ _ 69 rfl (B + 1) 68 i0 (.agg #[(.int .i64 0), (.int .i64 0), .string ⟨#[]⟩, (.int .i64 0)]) 4 40 Tryz.underlying69 hif hz0 hz1 hz2 rfl (by decide) _ _ _ rfl (ownsRow_turned (hcut.out.1.alloc _) (fun k hk => by omega) HO.out) ⟨wc.heap.size, 0, none⟩ 1 1 [(.int .i64 1), (.int .i64 0), .string s, (.int .i64 0)] rfl rfl (cells_four _ _ _ _ _ _) (by intro u hu; simp at hu; rcases hu with rfl | rfl | rfl | rfl <;> rfl) (by unfold maxLen; omega) (by omega) (by have := getElem?_lt hcut.out.2; simp; omega) ?_; intro v' w4 hown' hgrow hex; obtain ⟨g', cap', rfl⟩ := ownsRow_succ hown'; have HE := Lib.hid (pr_push (t := nmT s) H0.out HO.out (hcut.out.1.alloc _) (alloc_box hcut.out.2 _) hgrow hown' hex); obtain ⟨z0, z1⟩ := pr_cells HE.out.1; have zq := free_of_box HE.out.1; clear hown' hgrow hex)
          go_end0
          exact ⟨rfl, HE.out.2⟩
end Go.Proofs.YtjijdgkccfeeaaaGreatDoor
namespace Go.Proofs.YtjijdgkccfeeaaaGreatDoor
open Go Go.Proofs
mutual
def sameX (o : Bool) : Ex → Ex → Bool
  | .mk p n s ks a, .mk q m t ls b =>
    p == q && (p != 1 || n == m) && (!(decide (2 ≤ p) && decide (p ≤ 4)) || s.data.toList == t.data.toList) && (!o || a == b) && (decide (1 ≤ p) && decide (p ≤ 3) || sameXs o ks ls)
def sameXs (o : Bool) : List Ex → List Ex → Bool
  | [], [] => true
  | x :: xs, y :: ys => sameX o x y && sameXs o xs ys
  | _, _ => false
end
def sameA (o : Bool) (x y : Ar) : Bool :=
  x.kind == y.kind && (!o || x.at_ == y.at_) && (!(x.kind == 1 || x.kind == 3) || x.s.data.toList == y.s.data.toList) && (x.kind != 2 || x.n == y.n) && (x.kind != 5 || sameX o x.e y.e)
def sameAs (o : Bool) : List Ar → List Ar → Bool
  | [], [] => true
  | x :: xs, y :: ys => sameA o x y && sameAs o xs ys
  | _, _ => false
mutual
def sameF (o : Bool) : Fm → Fm → Bool
  | .mk w as_ fs a, .mk v bs gs b => w.data.toList == v.data.toList && (!o || a == b) && sameAs o as_ bs && sameFs o fs gs
def sameFs (o : Bool) : List Fm → List Fm → Bool
  | [], [] => true
  | x :: xs, y :: ys => sameF o x y && sameFs o xs ys
  | _, _ => false
end
mutual
theorem sameX_refl (o : Bool) : ∀ x : Ex, sameX o x x = true
  | .mk p n s ks a => by simp [sameX, sameXs_refl o ks]
theorem sameXs_refl (o : Bool) : ∀ xs : List Ex, sameXs o xs xs = true
  | [] => rfl
  | x :: xs => by simp [sameXs, sameX_refl o x, sameXs_refl o xs]
end
theorem sameA_refl (o : Bool) (x : Ar) : sameA o x x = true := by simp [sameA, sameX_refl]
theorem sameAs_refl (o : Bool) : ∀ xs : List Ar, sameAs o xs xs = true
  | [] => rfl
  | x :: xs => by simp [sameAs, sameA_refl, sameAs_refl o xs]
mutual
theorem sameF_refl (o : Bool) : ∀ x : Fm, sameF o x x = true
  | .mk w as_ fs a => by simp [sameF, sameAs_refl, sameFs_refl o fs]
theorem sameFs_refl (o : Bool) : ∀ xs : List Fm, sameFs o xs xs = true
  | [] => rfl
  | x :: xs => by simp [sameFs, sameF_refl o x, sameFs_refl o xs]
end
theorem sameXs_iff (o : Bool) : ∀ xs ys : List Ex, sameXs o xs ys = true ↔ xs.length = ys.length ∧ ∀ (i : Nat) (x y : Ex), xs[i]? = some x → ys[i]? = some y → sameX o x y = true
  | [], [] => by simp [sameXs]
  | x :: xs, y :: ys => by
    simp only [sameXs, Bool.and_eq_true, sameXs_iff o xs ys, List.length_cons]
    constructor
    · rintro ⟨h, hl, hi⟩
      refine ⟨by omega, fun i a b ha hb => ?_⟩
      cases i with
      | zero => simp at ha hb; subst ha hb; exact h
      | succ i => exact hi i a b (by simpa using ha) (by simpa using hb)
    · rintro ⟨hl, hi⟩
      exact ⟨hi 0 x y rfl rfl, by omega, fun i a b ha hb => hi (i + 1) a b (by simpa using ha) (by simpa using hb)⟩
  | [], _ :: _ => by simp [sameXs]
  | _ :: _, [] => by simp [sameXs]
theorem sameAs_iff (o : Bool) : ∀ xs ys : List Ar, sameAs o xs ys = true ↔ xs.length = ys.length ∧ ∀ (i : Nat) (x y : Ar), xs[i]? = some x → ys[i]? = some y → sameA o x y = true
  | [], [] => by simp [sameAs]
  | x :: xs, y :: ys => by
    simp only [sameAs, Bool.and_eq_true, sameAs_iff o xs ys, List.length_cons]
    constructor
    · rintro ⟨h, hl, hi⟩
      refine ⟨by omega, fun i a b ha hb => ?_⟩
      cases i with
      | zero => simp at ha hb; subst ha hb; exact h
      | succ i => exact hi i a b (by simpa using ha) (by simpa using hb)
    · rintro ⟨hl, hi⟩
      exact ⟨hi 0 x y rfl rfl, by omega, fun i a b ha hb => hi (i + 1) a b (by simpa using ha) (by simpa using hb)⟩
  | [], _ :: _ => by simp [sameAs]
  | _ :: _, [] => by simp [sameAs]
theorem sameFs_iff (o : Bool) : ∀ xs ys : List Fm, sameFs o xs ys = true ↔ xs.length = ys.length ∧ ∀ (i : Nat) (x y : Fm), xs[i]? = some x → ys[i]? = some y → sameF o x y = true
  | [], [] => by simp [sameFs]
  | x :: xs, y :: ys => by
    simp only [sameFs, Bool.and_eq_true, sameFs_iff o xs ys, List.length_cons]
    constructor
    · rintro ⟨h, hl, hi⟩
      refine ⟨by omega, fun i a b ha hb => ?_⟩
      cases i with
      | zero => simp at ha hb; subst ha hb; exact h
      | succ i => exact hi i a b (by simpa using ha) (by simpa using hb)
    · rintro ⟨hl, hi⟩
      exact ⟨hi 0 x y rfl rfl, by omega, fun i a b ha hb => hi (i + 1) a b (by simpa using ha) (by simpa using hb)⟩
  | [], _ :: _ => by simp [sameFs]
  | _ :: _, [] => by simp [sameFs]
end Go.Proofs.YtjijdgkccfeeaaaGreatDoor
namespace Go.Proofs.YtjijdgkccfeeaaaGreatDoor
open Go Go.Proofs Go.RowKit
attribute [local go_sem] Oper.semAt_some
def exA (x : Ex) (k : Value) : Value := .agg #[(.int .i64 (x.op)), (.int .i64 (x.n)), .string x.s, k, (.int .i64 (x.at_))]
theorem KidsAt.len {W : World} {N : Nat → Prop} {l : List Ex} {v : Value} (h : KidsAt W N l v) : l.length ≤ maxLen := by
  cases h with
  | nil => simp
  | some _ _ _ _ _ _ hl => exact hl
theorem kidsAt_get {W : World} {N : Nat → Prop} {l : List Ex} {p : Option Addr} {n c i : Nat} {x : Ex} (h : KidsAt W N l (.slice p n c)) (hi : l[i]? = some x) :
    ∃ b a k, p = some ⟨b, a, none⟩ ∧ (W.cell? ⟨b, a + i * 5, none⟩ = some (.int .i64 (x.op)) ∧ W.cell? ⟨b, a + i * 5 + 1, none⟩ = some (.int .i64 (x.n)) ∧ W.cell? ⟨b, a + i * 5 + 2, none⟩ = some (.string x.s) ∧ W.cell? ⟨b, a + i * 5 + 3, none⟩ = some k ∧ W.cell? ⟨b, a + i * 5 + 4, none⟩ = some (.int .i64 (x.at_))) ∧ KidsAt W N x.kids k := by
  cases h with
  | nil => simp at hi
  | some _ b a c k hN hl hcell hk =>
    have hlt := lt_of_some hi
    have hc := hcell i hlt
    simp only [hi, exV] at hc
    exact ⟨b, a, k i, rfl, ⟨hc 0 _ rfl, hc 1 _ rfl, hc 2 _ rfl, hc 3 _ rfl, hc 4 _ rfl⟩, hk i x hi⟩
theorem KidsAt.all {W W' : World} {N : Nat → Prop} {l : List Ex} {v : Value} (h : KidsAt W N l v) (ht : Turned (fun _ => False) W W') : KidsAt W' (fun _ => True) l v := h.move ht (fun _ _ => id) (fun _ _ _ => trivial)
theorem sameXs_no {o : Bool} {xs ys : List Ex} {i : Nat} {x y : Ex} (hx : xs[i]? = some x) (hy : ys[i]? = some y) (h : sameX o x y = false) : sameXs o xs ys = false := by
  cases hh : sameXs o xs ys with
  | false => rfl
  | true => rw [((sameXs_iff o xs ys).1 hh).2 i x y hx hy] at h; cases h
theorem sameXs_len {o : Bool} {xs ys : List Ex} (h : xs.length ≠ ys.length) : sameXs o xs ys = false := by
  cases hh : sameXs o xs ys with
  | false => rfl
  | true => exact absurd ((sameXs_iff o xs ys).1 hh).1 h
def SameTo (o : Bool) (xs ys : List Ex) (i : Nat) : Prop := ∀ (j : Nat) (x y : Ex), j < i → xs[j]? = some x → ys[j]? = some y → sameX o x y = true
theorem SameTo.succ {o : Bool} {xs ys : List Ex} {i : Nat} {x y : Ex} (h : SameTo o xs ys i) (hx : xs[i]? = some x) (hy : ys[i]? = some y) (hs : sameX o x y = true) : SameTo o xs ys (i + 1) := fun j u v hj hu hv => by
  rcases Nat.lt_or_ge j i with h1 | h1
  · exact h j u v h1 hu hv
  · obtain rfl : j = i := by omega
    rw [hx] at hu; rw [hy] at hv; cases hu; cases hv; exact hs
theorem SameTo.done {o : Bool} {xs ys : List Ex} (h : SameTo o xs ys xs.length) (hl : xs.length = ys.length) : sameXs o xs ys = true := (sameXs_iff o xs ys).2 ⟨hl, fun i x y hx hy => h i x y (lt_of_some hx) hx hy⟩
theorem cell_lt {W : World} {b o : Nat} {u : Value} (h : W.cell? ⟨b, o, none⟩ = some u) : b < W.heap.size := by
  rcases Nat.lt_or_ge b W.heap.size with h1 | h1
  · exact h1
  · simp [World.cell?, h1] at h
set_option maxHeartbeats 2000000 in
theorem eqExpr_of (xs ys : List Ex) (u v : Value) (N : Nat → Prop) (w : World) (hx : KidsAt w N xs u) (hy : KidsAt w N ys v)
    (HE : ∀ x ∈ xs, ∀ y a b W, KidsAt W (fun _ => True) x.kids a → KidsAt W (fun _ => True) y.kids b → Calls Tryz.prog 16 #[exA x a, exA y b] W fun e w' => e = .returned (.bool (sameX false x y)) ∧ Turned (fun _ => False) W w') :
    Calls Tryz.prog 37 #[u, v, .func (Fn.func 16) #[] #[]] w fun e w' => e = .returned (.bool (sameXs false xs ys)) ∧ Turned (fun _ => False) w w' := by
  have hlx := hx.len
  have hly := hy.len
  obtain ⟨pu, cu, rfl⟩ := hx.shape
  obtain ⟨pv, cv, rfl⟩ := hy.shape
  have HX := Lib.hid hx
  have HY := Lib.hid hy
  have HF := Lib.hid HE
  unfold maxLen at hlx hly
  clear hx hy HE
  by_cases hl : xs.length = ys.length
  · have HL := Lib.hid hl
    obtain ⟨n, hn⟩ : ∃ n, n = xs.length := ⟨_, rfl⟩
    have HN := Lib.hid hn
    have HN2 : Hid (n = ys.length) := Lib.hid (hn.trans hl)
    rw [← hl, ← hn]
    rw [← hn] at hlx
    clear hl hly hn
    go_enter Tryz.func37, Tryz.ntmps37
    go_wp2_with fail
    go_loopw [17] (fun c wr => ∃ i : Nat, i ≤ n ∧ c = (.int .i64 i) ∧ Hid (Turned (fun _ => False) w wr ∧ SameTo false xs ys i)) (fun c _ => n - (intOf c).toNat)
    case atStart => exact ⟨0, by omega, rfl, Lib.hid ⟨Turned.refl _ _, fun j x y hj => by omega⟩⟩
    case round =>
      obtain ⟨i, hi, rfl, HO⟩ := hrel
      by_cases hlt : i < n
      · obtain ⟨x, hx⟩ := some_of_lt (show i < xs.length by rw [← HN.out]; exact hlt)
        obtain ⟨y, hy⟩ := some_of_lt (show i < ys.length by rw [← HN2.out]; exact hlt)
        obtain ⟨bx, ax, kx, rfl, ⟨x0, x1, x2, x3, x4⟩, HKX⟩ := kidsAt_get (HX.out.all HO.out.1) hx
        obtain ⟨by_, ay, ky, rfl, ⟨y0, y1, y2, y3, y4⟩, HKY⟩ := kidsAt_get (HY.out.all HO.out.1) hy
        obtain ⟨pk, ck, rfl⟩ := HKX.shape
        obtain ⟨pl, cl, rfl⟩ := HKY.shape
        have lx := cell_lt x0
        have ly := cell_lt y0
        have HC : Hid (∀ W, Turned (fun _ => False) wr W → Calls Tryz.prog 16 #[.agg #[(.int .i64 (x.op)), (.int .i64 (x.n)), .string x.s, .slice pk x.kids.length ck, (.int .i64 (x.at_))], .agg #[(.int .i64 (y.op)), (.int .i64 (y.n)), .string y.s, .slice pl y.kids.length cl, (.int .i64 (y.at_))]] W fun e w' => e = .returned (.bool (sameX false x y)) ∧ Turned (fun _ => False) W w') :=
          Lib.hid fun W hW => HF.out x (List.mem_of_getElem? hx) y _ _ W (HKX.all hW) (HKY.all hW)
        have HT : Hid (sameX false x y = true → SameTo false xs ys (i + 1)) := Lib.hid fun h => HO.out.2.succ hx hy h
        have HU : Hid (sameX false x y = false → sameXs false xs ys = false) := Lib.hid fun h => sameXs_no hx hy h
        clear hx hy HKX HKY
        generalize sameX false x y = r at HC HT HU
        cases r with
        | true =>
          have HT2 := Lib.hid (HT.out rfl)
          clear HT HU
          go_wp2_with (go_at_call 16; refine (HC.out _ (((Turned.refl _ _).alloc _).alloc _)).mono ?_; rintro e w' ⟨rfl, hT⟩)
          go_roundw
          case rel => exact ⟨i + 1, by omega, by go_num, Lib.hid ⟨HO.out.1.trans ((((Turned.refl _ _).alloc _).alloc _).trans hT), HT2.out⟩⟩
          case measure => simp [intOf]; omega
        | false =>
          have HU2 := Lib.hid (HU.out rfl)
          clear HT HU
          go_wp2_with (go_at_call 16; refine (HC.out _ (((Turned.refl _ _).alloc _).alloc _)).mono ?_; rintro e w' ⟨rfl, hT⟩)
          go_ret
          rw [HU2.out]
          exact ⟨rfl, HO.out.1.trans ((((Turned.refl _ _).alloc _).alloc _).trans hT)⟩
      · obtain rfl : i = n := by omega
        have HS : Hid (sameXs false xs ys = true) := Lib.hid (SameTo.done (by rw [← HN.out]; exact HO.out.2) HL.out)
        go_wp2_with fail
        go_ret
        rw [HS.out]
        exact ⟨rfl, HO.out.1⟩
  · have hl2 : (xs.length : Int) ≠ (ys.length : Int) := by omega
    have HS := Lib.hid (sameXs_len (o := false) hl)
    clear hl
    have hb : ((xs.length : Int) != (ys.length : Int)) = true := by simpa using hl2
    clear hl2
    go_enter Tryz.func37, Tryz.ntmps37
    go_wp2_with fail
    go_ret
    rw [HS.out]
    exact ⟨rfl, Turned.refl _ _⟩
theorem bytes_ne {s t : ByteArray} (h : s ≠ t) : (s.data.toList == t.data.toList) = false := by
  rw [beq_eq_false_iff_ne]
  exact fun e => h (by cases s; cases t; simp at e; subst e; rfl)
theorem ex_kid_lt {x : Ex} {l : List Ex} (h : x ∈ l) (op n : Int) (s : ByteArray) (a : Int) : SizeOf.sizeOf x < SizeOf.sizeOf (Ex.mk op n s l a) := by
  have := List.sizeOf_lt_of_mem h
  simp only [Ex.mk.sizeOf_spec]
  omega
set_option maxRecDepth 20000 in
set_option maxHeartbeats 4000000 in
theorem sameExpr_any : ∀ (m : Nat) (x : Ex), SizeOf.sizeOf x ≤ m → ∀ (y : Ex) (a b : Value) (w : World), KidsAt w (fun _ => True) x.kids a → KidsAt w (fun _ => True) y.kids b → Calls Tryz.prog 16 #[exA x a, exA y b] w fun e w' => e = .returned (.bool (sameX false x y)) ∧ Turned (fun _ => False) w w'
  | 0, .mk op n s ks at_, hm => by simp only [Ex.mk.sizeOf_spec] at hm; omega
  | m + 1, .mk op n s ks at_, hm => by
    intro y a b w hx hy
    obtain ⟨op', n', s', ls, at'⟩ := y
    have ih : ∀ x ∈ ks, ∀ y a b W, KidsAt W (fun _ => True) x.kids a → KidsAt W (fun _ => True) y.kids b → Calls Tryz.prog 16 #[exA x a, exA y b] W fun e w' => e = .returned (.bool (sameX false x y)) ∧ Turned (fun _ => False) W w' :=
      fun x hx y a b W => sameExpr_any m x (by have := ex_kid_lt hx op n s at_; omega) y a b W
    simp only [Ex.kids] at hx hy
    have HEq := Lib.hid (fun (W : World) (hW : Turned (fun _ => False) w W) => eqExpr_of ks ls a b _ W (hx.all hW) (hy.all hW) ih)
    obtain ⟨pa, ca, rfl⟩ := hx.shape
    obtain ⟨pb, cb, rfl⟩ := hy.shape
    clear hx hy ih
    have HX := Lib.hid (show sameX false (.mk op n s ks at_) (.mk op' n' s' ls at') = (op == op' && (op != 1 || n == n') && (!(decide (2 ≤ op) && decide (op ≤ 4)) || s.data.toList == s'.data.toList) && (!false || at_ == at') && (decide (1 ≤ op) && decide (op ≤ 3) || sameXs false ks ls)) from by rw [sameX])
    simp only [exA, Ex.op, Ex.n, Ex.s, Ex.at_]
    generalize sameX false (.mk op n s ks at_) (.mk op' n' s' ls at') = r at HX ⊢
    generalize sameXs false ks ls = q at HX HEq
    by_cases h0 : op = op'
    · subst h0
      by_cases h1 : op = 1
      · subst h1
        have HR : Hid (r = (n == n')) := by show _ = _; rw [HX.out]; simp
        clear HX HEq
        go_enter Tryz.func16, Tryz.ntmps16
        go_wp2_with fail
        go_ret
        rw [HR.out]
        exact ⟨rfl, ((Turned.refl _ _).alloc _).alloc _⟩
      · by_cases h2 : op = 2
        · subst h2
          have HR : Hid (r = (s.data.toList == s'.data.toList)) := by show _ = _; rw [HX.out]; simp
          clear HX HEq
          go_enter Tryz.func16, Tryz.ntmps16
          go_wp2_with fail
          go_ret
          rw [HR.out]
          exact ⟨by simp [ByteArray.toList_eq], ((Turned.refl _ _).alloc _).alloc _⟩
        · by_cases h3 : op = 3
          · subst h3
            have HR : Hid (r = (s.data.toList == s'.data.toList)) := by show _ = _; rw [HX.out]; simp
            clear HX HEq
            go_enter Tryz.func16, Tryz.ntmps16
            go_wp2_with fail
            go_ret
            rw [HR.out]
            exact ⟨by simp [ByteArray.toList_eq], ((Turned.refl _ _).alloc _).alloc _⟩
          · by_cases h4 : op = 4
            · subst h4
              by_cases hs : s = s'
              · subst hs
                have HR : Hid (r = q) := by show _ = _; rw [HX.out]; simp
                clear HX
                go_enter Tryz.func16, Tryz.ntmps16
                go_wp2_with (go_at_call 37; refine (HEq.out _ (((Turned.refl _ _).alloc _).alloc _)).mono ?_; rintro e w' ⟨rfl, hT⟩)
                go_ret
                rw [HR.out]
                exact ⟨rfl, (((Turned.refl _ _).alloc _).alloc _).trans hT⟩
              · have HR : Hid (r = false) := by
                  show _ = _
                  rw [HX.out]
                  rw [bytes_ne hs]; simp
                have hb : (s.toList == s'.toList) = false := by rw [ByteArray.toList_eq, ByteArray.toList_eq]; exact bytes_ne hs
                clear HX HEq
                go_enter Tryz.func16, Tryz.ntmps16
                go_wp2_with fail
                go_ret
                rw [HR.out]
                exact ⟨rfl, ((Turned.refl _ _).alloc _).alloc _⟩
            · have HR : Hid (r = q) := by
                show _ = _
                rw [HX.out]
                have e1 : (decide (1 ≤ op) && decide (op ≤ 3)) = false := by simp; omega
                have e2 : (decide (2 ≤ op) && decide (op ≤ 4)) = false := by simp; omega
                rw [e1, e2]; simp [h1]
              have b1 : (op == 1) = false := by simpa using h1
              have b2 : (op == 2) = false := by simpa using h2
              have b3 : (op == 3) = false := by simpa using h3
              have b4 : (op == 4) = false := by simpa using h4
              clear HX h1 h2 h3 h4
              go_enter Tryz.func16, Tryz.ntmps16
              go_wp2_with (go_at_call 37; refine (HEq.out _ (((Turned.refl _ _).alloc _).alloc _)).mono ?_; rintro e w' ⟨rfl, hT⟩)
              go_ret
              rw [HR.out]
              exact ⟨rfl, (((Turned.refl _ _).alloc _).alloc _).trans hT⟩
    · have HR : Hid (r = false) := by show _ = _; rw [HX.out]; simp [h0]
      have hb : (op != op') = true := by simpa using h0
      clear HX HEq h0
      go_enter Tryz.func16, Tryz.ntmps16
      go_wp2_with fail
      go_ret
      rw [HR.out]
      exact ⟨rfl, ((Turned.refl _ _).alloc _).alloc _⟩
end Go.Proofs.YtjijdgkccfeeaaaGreatDoor
namespace Go.Proofs.YtjijdgkccfeeaaaGreatDoor
open Go Go.Proofs Go.RowKit Go.Maps
attribute [local go_sem] Oper.semAt_some
theorem wpList_insert_own {H : Type} {P : Program} (w : World) {ops : Array Oper} {rest : List Oper} {o : Oper} {a : Act} {Q : Exit → Act → World → Prop}
    (hg : o.guard = none) (m x v : Operand) (t : TypeId) (hop : o.op = Op.insert t m x v)
    (k e : TypeId) (K : Keyed P k) (ht : P.underlying t = some (.map k e)) (R : Value → Option (DataW H × List MemPlace)) (b n : Nat) (D : DataW H)
    (hm : a.eval m = .map (some b)) (hown : w.ownsMap P k R b n D) (hn : n < maxLen) (key val : Value) (kl : Lit) (hx : a.eval x = key) (hv : a.eval v = val) (hkey : keyOf P k key = some kl)
    (d : DataW H) (ps : List MemPlace) (hval : R val = some (d, ps))
    (hK : ∀ w', w'.ownsMap P k R b (n + 1) (D.put kl d) → w.grownBy w' (some b) → wpList P ops Q rest (a.put o.dst undef) w') :
    wpList P ops Q (o :: rest) a w := by
  refine wpList_plain hg fun K' hK' => ?_
  obtain ⟨w', hrun, r1, r2⟩ := hown.update K ht hn hkey hval
  unfold Oper.wp
  simp [execOp, hop, hm, hx, hv, hrun, Result.andThen]
  exact hK' _ _ (hK w' r1 r2)
def opOf (op : Int) : Option Nat := opRows.findIdx? fun r => r.2.1 == op
set_option maxRecDepth 20000 in
set_option maxHeartbeats 1000000 in
theorem exprE_pr (op : Int) (eb : Nat) (w : World) (he : w.cell? ⟨eb, 0, none⟩ = some (.int .i64 op)) (s : ByteArray) (o : Int) (lv : Nat) :
    Calls Tryz.prog 77 #[.agg #[.string s, (.int .i64 o), (.int .i64 ((lv : Nat)))], .pointer (some ⟨eb, 0, none⟩)] w fun e w' => e = .returned (.bool (o == op)) ∧ Turned (fun _ => False) w w' := by
  have hlt := cell_lt he
  go_enter Tryz.func77, Tryz.ntmps77
  go_wp2_with fail
  go_ret
  exact ⟨rfl, (Turned.refl _ _).alloc _⟩
structure OJ (op : Int) (w : World) (i : Nat) (wr : World) : Prop where
  tur : Turned (fun _ => False) w wr
  no : ∀ j r, j < i → opRows[j]? = some r → (r.2.1 == op) = false
theorem OJ.found {op : Int} {w wr : World} {i : Nat} {r : ByteArray × Int × Nat} (h : OJ op w i wr) (hr : opRows[i]? = some r) (hy : (r.2.1 == op) = true) : opOf op = some i := by
  unfold opOf
  rw [List.findIdx?_eq_some_iff_getElem]
  obtain ⟨h1, h2⟩ := List.getElem?_eq_some_iff.1 hr
  refine ⟨h1, by rw [h2]; exact hy, fun j hj => ?_⟩
  have h3 := h.no j opRows[j] hj (List.getElem?_eq_getElem (by omega))
  rw [h3]; decide
theorem OJ.next {op : Int} {w wr wr' : World} {i : Nat} {r : ByteArray × Int × Nat} (h : OJ op w i wr) (hr : opRows[i]? = some r) (hy : (r.2.1 == op) = false) (hT : Turned (fun _ => False) wr wr') : OJ op w (i + 1) wr' :=
  ⟨h.tur.trans hT, fun j r hj hjr => by
    rcases Nat.lt_or_ge j i with h1 | h1
    · exact h.no j r h1 hjr
    · obtain rfl : j = i := by omega
      rw [hr] at hjr; cases hjr; exact hy⟩
theorem OJ.none {op : Int} {w wr : World} (h : OJ op w 13 wr) : opOf op = .none := by
  unfold opOf
  rw [List.findIdx?_eq_none_iff]
  intro x hx
  obtain ⟨j, hj, rfl⟩ := List.mem_iff_getElem.1 hx
  have h3 := h.no j opRows[j] (by simpa [opRows] using hj) (List.getElem?_eq_getElem hj)
  rw [h3]
set_option maxRecDepth 20000 in
set_option maxHeartbeats 2000000 in
theorem indexE_pr (op : Int) (eb gb : Nat) (w : World) (he : w.cell? ⟨eb, 0, none⟩ = some (.int .i64 op)) (hr : RowAt w gb 0 3 13 opRow) :
    Calls Tryz.prog 75 #[.slice (some ⟨gb, 0, none⟩) 13 13, .func (Fn.func 77) #[] #[.pointer (some ⟨eb, 0, none⟩)]] w fun e w' => e = .returned (.int .i64 (idxI (opOf op))) ∧ Turned (fun _ => False) w w' := by
  have HR := Lib.hid hr
  have HC := Lib.hid (fun (W : World) (hT : Turned (fun _ => False) w W) (s : ByteArray) (o : Int) (lv : Nat) => exprE_pr op eb W (cell_turned hT id he) s o lv)
  clear hr he
  go_enter Tryz.func75, Tryz.ntmps75
  go_wp2_with fail
  go_loopw [8] (fun u wr => ∃ i : Nat, i ≤ 13 ∧ u = (.int .i64 i) ∧ Hid (OJ op w i wr)) (fun u _ => 13 - (intOf u).toNat)
  case atStart => exact ⟨0, by omega, rfl, Lib.hid ⟨Turned.refl _ _, fun j r hj => by omega⟩⟩
  case round =>
    obtain ⟨i, hi, rfl, HO⟩ := hrel
    by_cases hlt : i < 13
    · obtain ⟨r, hr⟩ := some_of_lt (show i < opRows.length by simpa [opRows] using hlt)
      obtain ⟨rs, ro, rl⟩ := r
      have hrow := HR.out.turned HO.out.tur id i hlt
      simp only [opRow, hr, binV, Nat.zero_add] at hrow
      have q0 : wr.cell? ⟨gb, i * 3, none⟩ = some (.string rs) := hrow 0 _ rfl
      have q1 : wr.cell? ⟨gb, i * 3 + 1, none⟩ = some (.int .i64 ro) := hrow 1 _ rfl
      have q2 : wr.cell? ⟨gb, i * 3 + 2, none⟩ = some (.int .i64 ((rl : Nat))) := hrow 2 _ rfl
      have HCr := Lib.hid (HC.out wr HO.out.tur rs ro rl)
      have HY : Hid ((ro == op) = true → opOf op = some i) := Lib.hid fun hy => HO.out.found hr hy
      have HN : Hid ((ro == op) = false → ∀ wr', Turned (fun _ => False) wr wr' → OJ op w (i + 1) wr') := Lib.hid fun hy wr' hT => HO.out.next hr hy hT
      clear hr hrow
      generalize (ro == op) = m at HCr HY HN
      cases m with
      | true =>
        have HYX : Hid (idxI (opOf op) = i) := by show _ = _; rw [HY.out rfl]; rfl
        clear HY HN
        go_wp2_with (go_at_call 77; refine HCr.out.mono ?_; rintro e w' ⟨rfl, hT⟩)
        go_ret
        rw [HYX.out]
        exact ⟨rfl, HO.out.tur.trans hT⟩
      | false =>
        have HNX := Lib.hid (HN.out rfl)
        clear HY HN
        go_wp2_with (go_at_call 77; refine HCr.out.mono ?_; rintro e w' ⟨rfl, hT⟩)
        go_roundw
        case rel => exact ⟨i + 1, by omega, by go_num, Lib.hid (HNX.out _ hT)⟩
        case measure => simp [intOf]; omega
    · obtain rfl : i = 13 := by omega
      have HE : Hid (idxI (opOf op) = -1) := by show _ = _; rw [HO.out.none]; rfl
      go_wp2_with fail
      go_ret
      rw [HE.out]
      exact ⟨rfl, HO.out.tur⟩
theorem lvlOp_found {op : Int} {i : Nat} {r : ByteArray × Int × Nat} (h : opOf op = some i) (hr : opRows[i]? = some r) : (opRows.find? fun r => r.2.1 == op) = some r := by
  unfold opOf at h
  rw [List.findIdx?_eq_some_iff_getElem] at h
  obtain ⟨h1, h2, h3⟩ := h
  rw [List.find?_eq_some_iff_getElem]
  obtain ⟨h4, h5⟩ := List.getElem?_eq_some_iff.1 hr
  rw [h5] at h2
  refine ⟨h2, i, h1, h5, fun j hj => ?_⟩
  have := h3 j hj
  simpa using this
theorem lvlOp_none {op : Int} (h : opOf op = none) : (opRows.find? fun r => r.2.1 == op) = none := by
  unfold opOf at h
  rw [List.findIdx?_eq_none_iff] at h
  rw [List.find?_eq_none]
  intro x hx
  rw [h x hx]; decide
set_option maxRecDepth 20000 in
set_option maxHeartbeats 2000000 in
theorem level_pr (x : Ex) (a : Value) (N : Nat → Prop) (w : World) (hk : KidsAt w N x.kids a) : Calls Tryz.prog 106 #[exA x a] w fun e w' => e = .returned (.int .i64 ((lvlX x.op : Nat))) ∧ Turned (fun _ => False) w w' := by
  obtain ⟨pa, ca, rfl⟩ := hk.shape
  clear hk
  obtain ⟨op, n, s, ks, at_⟩ := x
  simp only [exA, Ex.op, Ex.n, Ex.s, Ex.at_, Ex.kids]
  by_cases h20 : op = 20
  · subst h20
    go_enter Tryz.func106, Tryz.ntmps106
    go_wp2_with fail
    go_ret
    exact ⟨rfl, (Turned.refl _ _).alloc _⟩
  · by_cases h5 : op = 5
    · subst h5
      go_enter Tryz.func106, Tryz.ntmps106
      go_wp2_with fail
      go_ret
      exact ⟨rfl, (Turned.refl _ _).alloc _⟩
    · by_cases h6 : op = 6
      · subst h6
        go_enter Tryz.func106, Tryz.ntmps106
        go_wp2_with fail
        go_ret
        exact ⟨rfl, (Turned.refl _ _).alloc _⟩
      · have HL : Hid (lvlX op = match opRows.find? fun r => r.2.1 == op with | some r => r.2.2 | none => 8) := Lib.hid (by rw [lvlX, if_neg h20, if_neg h5, if_neg h6]; rfl)
        have b20 : (op == 20) = false := by simpa using h20
        have b5 : (op == 5) = false := by simpa using h5
        have b6 : (op == 6) = false := by simpa using h6
        obtain ⟨W1, hW1⟩ : ∃ W1, W1 = w.alloc (.cells #[(.int .i64 op), (.int .i64 n), .string s, .slice pa ks.length ca, (.int .i64 at_)] 31) := ⟨_, rfl⟩
        have HT : Hid (Turned (fun _ => False) w W1) := Lib.hid (by rw [hW1]; exact (Turned.refl _ _).alloc _)
        have HB : Hid (∀ V, Turned (fun _ => False) W1 V → V.cell? ⟨w.heap.size, 0, none⟩ = some (.int .i64 op)) := Lib.hid fun V hV => cell_turned hV id (by rw [hW1]; exact cells_list w [(.int .i64 op), (.int .i64 n), .string s, .slice pa ks.length ca, (.int .i64 at_)] 31 0 _ rfl)
        have HOP := Lib.hid (operators_any W1)
        rw [hW1] at HOP
        clear h20 h5 h6
        go_enter Tryz.func106, Tryz.ntmps106
        go_wp2_with (go_at_call 76; refine HOP.out.mono ?_; rintro e w' ⟨g, rfl, hg, hrow, hT⟩; rw [← hW1] at hT; have HR := Lib.hid hrow; have HT1 := Lib.hid hT; clear hrow hT hg)
        go_loopw [15] (fun u wr => ∃ i : Nat, i ≤ 13 ∧ u = (.int .i64 i) ∧ Hid (OJ op w' i wr)) (fun u _ => 13 - (intOf u).toNat)
        case atStart => exact ⟨0, by omega, rfl, Lib.hid ⟨Turned.refl _ _, fun j r hj => by omega⟩⟩
        case round =>
          obtain ⟨i, hi, rfl, HO⟩ := hrel
          have p0 := HB.out wr (HT1.out.trans HO.out.tur)
          have pl := cell_lt p0
          by_cases hlt : i < 13
          · obtain ⟨r, hr⟩ := some_of_lt (show i < opRows.length by simpa [opRows] using hlt)
            have HRR := Lib.hid hr
            obtain ⟨rs, ro, rl⟩ := r
            have hrow := HR.out.turned HO.out.tur id i hlt
            simp only [opRow, hr, binV, Nat.zero_add] at hrow
            have q0 : wr.cell? ⟨g, i * 3, none⟩ = some (.string rs) := hrow 0 _ rfl
            have q1 : wr.cell? ⟨g, i * 3 + 1, none⟩ = some (.int .i64 ro) := hrow 1 _ rfl
            have q2 : wr.cell? ⟨g, i * 3 + 2, none⟩ = some (.int .i64 ((rl : Nat))) := hrow 2 _ rfl
            clear hr hrow
            cases hm : (ro == op) with
            | true =>
              have HYX : Hid (lvlX op = rl) := by show _ = _; rw [HL.out, lvlOp_found (HO.out.found HRR.out hm) HRR.out]
              go_wp2_with fail
              go_ret
              rw [HYX.out]
              exact ⟨rfl, HT.out.trans (HT1.out.trans (HO.out.tur.trans ((Turned.refl _ _).alloc _)))⟩
            | false =>
              have HNX := Lib.hid (fun wr' hT => HO.out.next (wr' := wr') HRR.out hm hT)
              go_wp2_with fail
              go_roundw
              case rel => exact ⟨i + 1, by omega, by go_num, Lib.hid (HNX.out _ ((Turned.refl _ _).alloc _))⟩
              case measure => simp [intOf]; omega
          · obtain rfl : i = 13 := by omega
            have HE : Hid (lvlX op = 8) := by show _ = _; rw [HL.out, lvlOp_none HO.out.none]
            go_wp2_with fail
            go_ret
            rw [HE.out]
            exact ⟨rfl, HT.out.trans (HT1.out.trans HO.out.tur)⟩
end Go.Proofs.YtjijdgkccfeeaaaGreatDoor
