/- Part 8 of the proof of card: ParPrA, ParTxA, ParTxN, ParTxB. Conditions: those of each theorem. -/
import Derived.Deep.CutBlock
import Derived.Deep.DeepCutAuto
import Derived.Test.YtjijdgkccfeeaaaGreatDoorPt01
import Derived.Test.YtjijdgkccfeeaaaGreatDoorPt06
import Derived.Test.YtjijdgkccfeeaaaGreatDoorPt07
set_option maxRecDepth 20000
set_option maxHeartbeats 4000000
namespace Go.Proofs.YtjijdgkccfeeaaaGreatDoor
open Go Go.Proofs Go.RowKit
attribute [local go_sem] Oper.semAt_some
def PrS (B : Nat) (ts : List Tok) (bad : Bool) (W : World) : Prop := ∃ v, W.heap[B]? = some (.cells #[v, .bool bad] 90 (0, 0)) /\ W.ownsRow (B + 1) 68 4 v ts.length (ts.flatMap tokV)
def Free (B : Nat) (W : World) (b : Nat) : Prop := b ≠ B /\ ∀ v x, W.heap[B]? = some (.cells #[v, x] 90 (0, 0)) -> v.ownBlock ≠ some b
structure PrT (B : Nat) (w w' : World) : Prop where
 os : w'.os = w.os
 tape : w'.tape = w.tape
 output : w'.output = w.output
 size : w.heap.size <= w'.heap.size
 keep : ∀ b, b < w.heap.size -> Free B w b -> w'.heap[b]? = w.heap[b]? /\ Free B w' b
theorem PrT.refl (B : Nat) (w : World) : PrT B w w := ⟨rfl, rfl, rfl, Nat.le_refl _, fun _ _ h => ⟨rfl, h⟩⟩
theorem PrT.trans {B : Nat} {a b c : World} (h : PrT B a b) (k : PrT B b c) : PrT B a c :=
 ⟨k.os.trans h.os, k.tape.trans h.tape, k.output.trans h.output, Nat.le_trans h.size k.size, fun x hx hf => by
  obtain ⟨h1, h2⟩ := h.keep x hx hf
  obtain ⟨h3, h4⟩ := k.keep x (Nat.lt_of_lt_of_le hx h.size) h2
  exact ⟨h3.trans h1, h4⟩⟩
theorem PrS.lt {B : Nat} {ts : List Tok} {bad : Bool} {W : World} (h : PrS B ts bad W) : B < W.heap.size := by
 obtain ⟨v, h1, -⟩ := h
 exact getElem?_lt h1
theorem PrS.same {B : Nat} {ts : List Tok} {bad : Bool} {W W' : World} (h : PrS B ts bad W) (ht : Turned (fun _ => False) W W') : PrS B ts bad W' /\ PrT B W W' := by
 have hlt := h.lt
 obtain ⟨v, h1, h2⟩ := h
 have hb := ht.block B hlt id
 refine ⟨⟨v, hb.trans h1, ownsRow_turned' ht (fun _ _ => id) h2⟩, ht.os, ht.tape, ht.output, ht.size, fun b hlt hf => ⟨ht.block b hlt id, hf.1, fun u x hu => hf.2 u x (by rw [<- hb]; exact hu)⟩⟩
theorem PrS.data {B : Nat} {ts : List Tok} {bad : Bool} {W : World} (h : PrS B ts bad W) {b : Nat} (hb : b < B) : Free B W b := by
 obtain ⟨v, h1, h2⟩ := h
 refine ⟨by omega, fun u x hu he => ?_⟩
 rw [h1] at hu
 cases hu
 have := (ownsRow_block h2 b he).1
 omega
theorem PrS.fresh {B : Nat} {ts : List Tok} {bad : Bool} {W W' : World} (h : PrS B ts bad W) (ht : Turned (fun _ => False) W W') {b : Nat} (hb : W.heap.size <= b) : Free B W' b := by
 have hlt := h.lt
 obtain ⟨v, h1, h2⟩ := h
 refine ⟨by omega, fun u x hu he => ?_⟩
 rw [ht.block B hlt id, h1] at hu
 cases hu
 have := (ownsRow_block h2 b he).2
 omega
theorem PrT.turned {B : Nat} {w w' : World} (h : PrT B w w') : Turned (fun b => ¬ Free B w b) w w' := ⟨h.os, h.tape, h.output, h.size, fun b hb hf => (h.keep b hb (Classical.not_not.1 hf)).1⟩
def PrR (B : Nat) (ts : List Tok) (bad : Bool) (w : World) (e : Ending) (w' : World) : Prop := e = .returned (.tuple #[]) /\ PrS B ts bad w' /\ PrT B w w'
theorem pr_push {B : Nat} {w w1 w4 : World} {v v' : Value} {ts : List Tok} {t : Tok} {b0 bad : Bool} (h0 : w.heap[B]? = some (.cells #[v, .bool b0] 90 (0, 0))) (hw : w.ownsRow (B + 1) 68 4 v ts.length (ts.flatMap tokV)) (ht : Turned (fun j => j = B) w w1)
  (hb : w1.heap[B]? = some (.cells #[v, .bool bad] 90 (0, 0))) (hg : w1.grownBy w4 v.ownBlock) (hown : w4.ownsRow (B + 1) 68 4 v' (ts.length + 1) (ts.flatMap tokV ++ tokV t)) (hex : ∀ g, v'.ownBlock = some g -> v.ownBlock = some g \/ w1.heap.size <= g) :
  w4.heap[B]? = some (.cells #[v, .bool bad] 90 (0, 0)) /\ PrS B (ts ++ [t]) bad (w4.setCell ⟨B, 0, none⟩ v') /\ PrT B w (w4.setCell ⟨B, 0, none⟩ v') := by
 have hB := getElem?_lt hb
 have hvB : v.ownBlock ≠ some B := fun he => by have := (ownsRow_block hw B he).1; omega
 have h4 : w4.heap[B]? = some (.cells #[v, .bool bad] 90 (0, 0)) := (hg.block B hB (fun he => hvB he.symm)).trans hb
 have h5 : (w4.setCell ⟨B, 0, none⟩ v').heap[B]? = some (.cells #[v', .bool bad] 90 (0, 0)) := by simp [World.setCell, Array.getElem?_modify, h4]
 have t5 : Turned (fun j => j = B) w4 (w4.setCell ⟨B, 0, none⟩ v') := (Turned.refl (fun j => j = B) w4).setCell (p := ⟨B, 0, none⟩) rfl v'
 refine ⟨h4, ⟨v', h5, ?_⟩, ?_⟩
 ·have := ownsRow_turned t5 (fun k hk => by omega) hown
  simpa using this
 ·refine ⟨t5.os.trans (hg.os.trans ht.os), t5.tape.trans (hg.tape.trans ht.tape), t5.output.trans (hg.output.trans ht.output), Nat.le_trans ht.size (Nat.le_trans hg.size t5.size), fun b hb hf => ?_⟩
  have hne : v.ownBlock ≠ some b := hf.2 v _ h0
  have hlt1 : b < w1.heap.size := Nat.lt_of_lt_of_le hb ht.size
  refine ⟨?_, hf.1, fun u x hu he => ?_⟩
  ·rw [t5.block b (Nat.lt_of_lt_of_le hlt1 hg.size) hf.1, hg.block b hlt1 (fun he => hne he.symm), ht.block b hb hf.1]
  ·rw [h5] at hu
   cases hu
   rcases hex b he with h1 | h1
   ·exact hne h1
   ·omega
theorem set_bad {B : Nat} {w : World} {v x : Value} (h0 : w.heap[B]? = some (.cells #[v, x] 90 (0, 0))) (y : Value) : Turned (fun j => j = B) w (w.setCell ⟨B, 1, none⟩ y) /\ (w.setCell ⟨B, 1, none⟩ y).heap[B]? = some (.cells #[v, y] 90 (0, 0)) :=
 ⟨(Turned.refl (fun j => j = B) w).setCell (p := ⟨B, 1, none⟩) rfl y, by simp [World.setCell, Array.getElem?_modify, h0]⟩
theorem alloc_box {w : World} {b : Nat} {o : Obj} (h : w.heap[b]? = some o) (x : Obj) : (w.alloc x).heap[b]? = some o := by
 rw [hao _ _ (getElem?_lt h)]; exact h
theorem pr_cells {V : World} {N t : Nat} {a b : Value} (h : V.heap[N]? = some (.cells #[a, b] t (0, 0))) : V.cell? ⟨N, 0, none⟩ = some a /\ V.cell? ⟨N, 1, none⟩ = some b := by
 simp [World.cell?, h]
theorem number_pr (B : Nat) (ts : List Tok) (bad : Bool) (n : Int) (w : World) (h : PrS B ts bad w) (hl : ts.length <= 100000) :
  Calls Tryz.prog 68 #[.pointer (some ⟨B, 0, none⟩), .int .i64 n] w (PrR B (ts ++ [nuT n]) (bad || badNum n) w) := by
 obtain ⟨i0, hif, hz0, hz1, hz2⟩ := info_parts infoTok
 obtain ⟨v, h0, hown⟩ := h
 obtain ⟨c0, c1⟩ := pr_cells h0
 have fq := free_of_box h0
 obtain ⟨va, vc, rfl⟩ := owns_shape hown
 have H0 := Lib.hid h0
 have HO := Lib.hid hown
 clear h0 hown
 go_enter Tryz.func68, Tryz.ntmps68
 go_upto_region 0 with fail
 go_cut [16] from 4 to 18 (fun _ wx => Hid (Turned (fun j => j = B) w wx /\ wx.heap[B]? = some (.cells #[.slice va ts.length vc, .bool (bad || badNum n)] 90 (0, 0))))
 case first =>
  cases bad with
  | true =>
   go_wp2_with fail
   go_meet
   case rel => exact Lib.hid (set_bad H0.out _)
  | false =>
   by_cases hn : n < 0
   ·have e : Hid ((false || badNum n) = true) := Lib.hid (by simp [badNum, hn])
    go_wp2_with fail
    go_meet
    case rel => exact Lib.hid (by rw [e.out]; exact set_bad H0.out _)
   ·have e : Hid ((false || badNum n) = decide (999999999999999 < n)) := Lib.hid (by simp [badNum, hn])
    go_wp2_with fail
    go_meet
    case rel => exact Lib.hid (by rw [e.out]; exact set_bad H0.out _)
 case rest =>
  obtain ⟨k0, k1⟩ := pr_cells hcut.out.2
  have kq := free_of_box hcut.out.2
  clear c0 c1 fq
  go_wp2_with (at_builtin; refine wpList_append_exact _ rfl _ _ 69 rfl (B + 1) 68 i0 (.agg #[.int .i64 0, .int .i64 0, .string ⟨#[]⟩, .int .i64 0]) 4 40 Tryz.underlying69 hif hz0 hz1 hz2 rfl (by decide) _ _ _ rfl (ownsRow_turned (hcut.out.1.alloc _) (fun k hk => by omega) HO.out) ⟨wc.heap.size, 0, none⟩ 1 1 [(.int .i64 2), .int .i64 0, .string ⟨#[]⟩, .int .i64 n] rfl rfl (cells_four _ _ _ _ _ _) (by intro u hu; simp at hu; rcases hu with rfl | rfl | rfl | rfl <;> rfl) (by unfold maxLen; omega) (by omega) (by have := getElem?_lt hcut.out.2; simp; omega) ?_; intro v' w4 hown' hgrow hex; obtain ⟨g', cap', rfl⟩ := ownsRow_succ hown'; have HE := Lib.hid (pr_push (t := nuT n) H0.out HO.out (hcut.out.1.alloc _) (alloc_box hcut.out.2 _) hgrow hown' hex); obtain ⟨z0, z1⟩ := pr_cells HE.out.1; have zq := free_of_box HE.out.1; clear hown' hgrow hex)
  go_end0
  exact ⟨rfl, HE.out.2⟩
theorem signs_pr (B : Nat) (ts : List Tok) (bad : Bool) (s : ByteArray) (w : World) (h : PrS B ts bad w) (hl : ts.length <= 100000) (g c : Nat) (hs : w.cell? ⟨g, 0, none⟩ = some (.string s)) :
  Calls Tryz.prog 67 #[.pointer (some ⟨B, 0, none⟩), .slice (some ⟨g, 0, none⟩) 1 c] w (PrR B (ts ++ [sgT s]) bad w) := by
 obtain ⟨i0, hif, hz0, hz1, hz2⟩ := info_parts infoTok
 obtain ⟨v, h0, hown⟩ := h
 obtain ⟨c0, c1⟩ := pr_cells h0
 have fq := free_of_box h0
 obtain ⟨va, vc, rfl⟩ := owns_shape hown
 have H0 := Lib.hid h0
 have HO := Lib.hid hown
 clear h0 hown
 go_enter Tryz.func67, Tryz.ntmps67
 go_wp2_with fail
 go_loopw [8] (fun u wr => (u = (.int .i64 0) /\ wr = w) \/ (u = (.int .i64 1) /\ Hid (PrS B (ts ++ [sgT s]) bad wr /\ PrT B w wr))) (fun u _ => 1 - (intOf u).toNat)
 case atStart => exact .inl ⟨rfl, rfl⟩
 case round =>
  rcases hrel with ⟨rfl, rfl⟩ | ⟨rfl, HR⟩
  ·go_wp2_with (at_builtin; refine wpList_append_exact _ rfl _ _ 69 rfl (B + 1) 68 i0 (.agg #[.int .i64 0, .int .i64 0, .string ⟨#[]⟩, .int .i64 0]) 4 40 Tryz.underlying69 hif hz0 hz1 hz2 rfl (by decide) _ _ _ rfl (ownsRow_turned ((Turned.refl (fun j => j = B) _).alloc _) (fun k hk => by omega) HO.out) ⟨wr.heap.size, 0, none⟩ 1 1 [(.int .i64 4), .int .i64 0, .string s, .int .i64 0] rfl rfl (cells_four _ _ _ _ _ _) (by intro u hu; simp at hu; rcases hu with rfl | rfl | rfl | rfl <;> rfl) (by unfold maxLen; omega) (by omega) (by have := getElem?_lt H0.out; simp; omega) ?_; intro v' w4 hown' hgrow hex; obtain ⟨g', cap', rfl⟩ := ownsRow_succ hown'; have HE := Lib.hid (pr_push (t := sgT s) H0.out HO.out ((Turned.refl (fun j => j = B) _).alloc _) (alloc_box H0.out _) hgrow hown' hex); obtain ⟨z0, z1⟩ := pr_cells HE.out.1; have zq := free_of_box HE.out.1; clear hown' hgrow hex)
   go_roundw
   case rel => exact .inr ⟨by go_num, Lib.hid HE.out.2⟩
   case measure => simp [intOf]
  ·go_wp2_with fail
   go_end0
   exact ⟨rfl, HR.out⟩
theorem textTo_succ {s : ByteArray} {k : Nat} (hk : k < s.size) : textTo s (k + 1) = (textTo s k || (((s[k].toNat : Int) != 10) && (decide ((s[k].toNat : Int) < 32) || decide ((126 : Int) < (s[k].toNat : Int))))) := by
 have e : s.data.toList.getD k 0 = s[k] := by
  have : k < s.data.toList.length := by simpa using hk
  rw [List.getD_eq_getElem?_getD, List.getElem?_eq_getElem this]; rfl
 show (textTo s k || (s.data.toList.getD k 0 != 10 && (decide (s.data.toList.getD k 0 < 32) || decide (126 < s.data.toList.getD k 0)))) = _
 rw [e]
 congr 1
 congr 1
 ·rw [Bool.eq_iff_iff]; simp [<- UInt8.toNat_inj]; omega
 ·congr 1
  ·rw [Bool.eq_iff_iff]; simp [UInt8.lt_iff_toNat_lt]; omega
  ·rw [Bool.eq_iff_iff]; simp [UInt8.lt_iff_toNat_lt]; omega
theorem text_pr (B : Nat) (ts : List Tok) (bad : Bool) (s : ByteArray) (w : World) (h : PrS B ts bad w) (hl : ts.length <= 100000) (hs : s.size <= 100000) :
  Calls Tryz.prog 69 #[.pointer (some ⟨B, 0, none⟩), .string s] w (PrR B (ts ++ [txT s]) (bad || badText s) w) := by
 obtain ⟨i0, hif, hz0, hz1, hz2⟩ := info_parts infoTok
 obtain ⟨v, h0, hown⟩ := h
 obtain ⟨c0, c1⟩ := pr_cells h0
 have fq := free_of_box h0
 obtain ⟨va, vc, rfl⟩ := owns_shape hown
 have H0 := Lib.hid h0
 have HO := Lib.hid hown
 clear h0 hown
 go_enter Tryz.func69, Tryz.ntmps69
 go_upto_region 0 with fail
 go_cut [14] from 5 to 16 (fun _ wx => Hid (Turned (fun j => j = B) w wx /\ wx.heap[B]? = some (.cells #[.slice va ts.length vc, .bool (bad || textTo s 0)] 90 (0, 0))))
 case first =>
  cases bad with
  | true =>
   go_wp2_with fail
   go_meet
   case rel => exact Lib.hid (set_bad H0.out _)
  | false =>
   have e : Hid ((false || textTo s 0) = decide ((200 : Int) < (s.size : Int))) := Lib.hid (by
    rw [Bool.false_or]
    show decide (200 < s.size) = _
    rw [Bool.eq_iff_iff]; simp; omega)
   go_wp2_with fail
   go_meet
   case rel => exact Lib.hid (by rw [e.out]; exact set_bad H0.out _)
 case rest =>
  clear c0 c1 fq
  have HW := hcut
  clear hcut
  go_wp2_with fail
  go_loopw [19] (fun u wr => ∃ k : Nat, k <= s.size /\ u = (.int .i64 k) /\ Hid (Turned (fun j => j = B) w wr /\ wr.heap[B]? = some (.cells #[.slice va ts.length vc, .bool (bad || textTo s k)] 90 (0, 0)))) (fun u _ => s.size - (intOf u).toNat)
  case atStart => exact ⟨0, by omega, rfl, HW⟩
  case round =>
   obtain ⟨k, hk, rfl, HK⟩ := hrel
   obtain ⟨k0, k1⟩ := pr_cells HK.out.2
   have kq := free_of_box HK.out.2
   by_cases hlt : k < s.size
   ·have e : Hid ((bad || textTo s (k + 1)) = ((bad || textTo s k) || (((s[k].toNat : Int) != 10) && (decide ((s[k].toNat : Int) < 32) || decide ((126 : Int) < (s[k].toNat : Int)))))) := Lib.hid (by rw [textTo_succ hlt, Bool.or_assoc])
    have hk2 : (k : Int) < (s.size : Int) := by omega
    generalize (bad || textTo s k) = bk at *
    cases bk with
    | true =>
     have e2 : Hid ((bad || textTo s (k + 1)) = true) := Lib.hid (by rw [e.out]; rfl)
     clear e
     go_wp2_with fail
     go_roundw
     case rel => exact ⟨k + 1, by omega, by go_num, Lib.hid (by rw [e2.out]; exact ⟨HK.out.1.trans (set_bad HK.out.2 _).1, (set_bad HK.out.2 _).2⟩)⟩
     case measure => simp [intOf]; omega
    | false =>
     by_cases h10 : (s[k].toNat : Int) = 10
     ·have hb : ((s[k].toNat : Int) != 10) = false := by simpa using h10
      have e2 : Hid ((bad || textTo s (k + 1)) = false) := Lib.hid (by rw [e.out, hb]; rfl)
      clear e
      go_wp2_with fail
      go_roundw
      case rel => exact ⟨k + 1, by omega, by go_num, Lib.hid (by rw [e2.out]; exact ⟨HK.out.1.trans (set_bad HK.out.2 _).1, (set_bad HK.out.2 _).2⟩)⟩
      case measure => simp [intOf]; omega
     ·have hb : ((s[k].toNat : Int) != 10) = true := by simpa using h10
      by_cases h32 : (s[k].toNat : Int) < 32
      ·have e2 : Hid ((bad || textTo s (k + 1)) = true) := Lib.hid (by rw [e.out, hb, decide_eq_true h32]; rfl)
       clear e h10
       go_wp2_with fail
       go_roundw
       case rel => exact ⟨k + 1, by omega, by go_num, Lib.hid (by rw [e2.out]; exact ⟨HK.out.1.trans (set_bad HK.out.2 _).1, (set_bad HK.out.2 _).2⟩)⟩
       case measure => simp [intOf]; omega
      ·have e2 : Hid ((bad || textTo s (k + 1)) = decide ((126 : Int) < (s[k].toNat : Int))) := Lib.hid (by rw [e.out, hb, decide_eq_false h32]; rfl)
       clear e h10
       go_wp2_with fail
       go_roundw
       case rel => exact ⟨k + 1, by omega, by go_num, Lib.hid (by rw [e2.out]; exact ⟨HK.out.1.trans (set_bad HK.out.2 _).1, (set_bad HK.out.2 _).2⟩)⟩
       case measure => simp [intOf]; omega
   ·obtain rfl : k = s.size := by omega
    go_wp2_with (at_builtin; refine wpList_append_exact _ rfl _ _ 69 rfl (B + 1) 68 i0 (.agg #[.int .i64 0, .int .i64 0, .string ⟨#[]⟩, .int .i64 0]) 4 40 Tryz.underlying69 hif hz0 hz1 hz2 rfl (by decide) _ _ _ rfl (ownsRow_turned (HK.out.1.alloc _) (fun k hk => by omega) HO.out) ⟨wr.heap.size, 0, none⟩ 1 1 [(.int .i64 3), .int .i64 0, .string s, .int .i64 0] rfl rfl (cells_four _ _ _ _ _ _) (by intro u hu; simp at hu; rcases hu with rfl | rfl | rfl | rfl <;> rfl) (by unfold maxLen; omega) (by omega) (by have := getElem?_lt HK.out.2; simp; omega) ?_; intro v' w4 hown' hgrow hex; obtain ⟨g', cap', rfl⟩ := ownsRow_succ hown'; have HE := Lib.hid (pr_push (t := txT s) H0.out HO.out (HK.out.1.alloc _) (alloc_box HK.out.2 _) hgrow hown' hex); obtain ⟨z0, z1⟩ := pr_cells HE.out.1; have zq := free_of_box HE.out.1; clear hown' hgrow hex)
    go_end0
    exact ⟨rfl, HE.out.2⟩
def lettI (c : Int) : Bool := (decide (97 <= c) && decide (c <= 122)) || (decide (65 <= c) && decide (c <= 90)) || c == 95
theorem letter_bits : ∀ k : Fin 256, (decide (97 <= bits BinOp.or IntKind.u8 (k.val : Int) 32) && decide (bits BinOp.or IntKind.u8 (k.val : Int) 32 <= 122)) = ((decide (97 <= (k.val : Int)) && decide ((k.val : Int) <= 122)) || (decide (65 <= (k.val : Int)) && decide ((k.val : Int) <= 90))) := by decide +kernel
theorem nameE_any (c : Int) (w : World) (h0 : 0 <= c) (h1 : c <= 255) : Calls Tryz.prog 99 #[.int .u8 c] w fun e w' => e = .returned (.bool (lettI c)) /\ w = w' := by
 have hL := letter_bits ⟨c.toNat, by omega⟩
 simp only [Int.toNat_of_nonneg h0] at hL
 have HX := Lib.hid (show lettI c = ((decide (97 <= bits BinOp.or IntKind.u8 c 32) && decide (bits BinOp.or IntKind.u8 c 32 <= 122)) || c == 95) from by rw [hL]; rfl)
 clear hL
 by_cases h2 : 97 <= bits BinOp.or IntKind.u8 c 32
 ·by_cases h3 : bits BinOp.or IntKind.u8 c 32 <= 122
  ·have HR : Hid (lettI c = true) := by show _ = _; rw [HX.out, decide_eq_true h2, decide_eq_true h3]; rfl
   clear HX
   go_enter Tryz.func99, Tryz.ntmps99
   go_wp2_with fail
   go_ret
   rw [HR.out]
   exact ⟨rfl, rfl⟩
  ·have hd : decide (bits BinOp.or IntKind.u8 c 32 <= 122) = false := decide_eq_false h3
   have HR : Hid (lettI c = (c == 95)) := by show _ = _; rw [HX.out, hd, Bool.and_false, Bool.false_or]
   clear HX
   go_enter Tryz.func99, Tryz.ntmps99
   go_wp2_with fail
   go_ret
   rw [HR.out]
   exact ⟨rfl, rfl⟩
 ·have hd : decide (97 <= bits BinOp.or IntKind.u8 c 32) = false := decide_eq_false h2
  have HR : Hid (lettI c = (c == 95)) := by show _ = _; rw [HX.out, hd, Bool.false_and, Bool.false_or]
  clear HX
  go_enter Tryz.func99, Tryz.ntmps99
  go_wp2_with fail
  go_ret
  rw [HR.out]
  exact ⟨rfl, rfl⟩
theorem byte_eq_int (b : UInt8) (n : Nat) (h : n < 256) : (b == UInt8.ofNat n) = ((b.toNat : Int) == (n : Int)) := by
 rw [Bool.eq_iff_iff]
 simp only [beq_iff_eq, <- UInt8.toNat_inj, UInt8.toNat_ofNat', Nat.mod_eq_of_lt h]
 omega
theorem byte_le_int (b : UInt8) (n : Nat) (h : n < 256) : (decide (UInt8.ofNat n <= b) = decide ((n : Int) <= (b.toNat : Int))) /\ (decide (b <= UInt8.ofNat n) = decide ((b.toNat : Int) <= (n : Int))) := by
 constructor <;> (rw [Bool.eq_iff_iff]; simp only [decide_eq_true_eq, UInt8.le_iff_toNat_le, UInt8.toNat_ofNat', Nat.mod_eq_of_lt h]; omega)
theorem letterB_int (b : UInt8) : letterB b = lettI b.toNat := by
 unfold letterB lettI
 rw [show (97 : UInt8) = UInt8.ofNat 97 from rfl, show (122 : UInt8) = UInt8.ofNat 122 from rfl, show (65 : UInt8) = UInt8.ofNat 65 from rfl, show (90 : UInt8) = UInt8.ofNat 90 from rfl, show (95 : UInt8) = UInt8.ofNat 95 from rfl,
  (byte_le_int b 97 (by omega)).1, (byte_le_int b 122 (by omega)).2, (byte_le_int b 65 (by omega)).1, (byte_le_int b 90 (by omega)).2, byte_eq_int b 95 (by omega)]
 rfl
theorem digitB_int (b : UInt8) : digitB b = (decide (48 <= (b.toNat : Int)) && decide ((b.toNat : Int) <= 57)) := by
 unfold digitB
 rw [show (48 : UInt8) = UInt8.ofNat 48 from rfl, show (57 : UInt8) = UInt8.ofNat 57 from rfl, (byte_le_int b 48 (by omega)).1, (byte_le_int b 57 (by omega)).2]
 rfl
theorem byte_at {s : ByteArray} {k : Nat} (hk : k < s.size) : s.data.toList.getD k 0 = s[k] := by
 have : k < s.data.toList.length := by simpa using hk
 rw [List.getD_eq_getElem?_getD, List.getElem?_eq_getElem this]; rfl
theorem nameTo_succ {s : ByteArray} {k : Nat} (hk : k < s.size) : nameTo s (k + 1) = (nameTo s k && (lettI s[k].toNat || (decide (0 < k) && (decide (48 <= (s[k].toNat : Int)) && decide ((s[k].toNat : Int) <= 57))))) := by
 show (nameTo s k && (letterB (s.data.toList.getD k 0) || (decide (0 < k) && digitB (s.data.toList.getD k 0)))) = _
 rw [byte_at hk, letterB_int, digitB_int]
theorem name_pr (B : Nat) (ts : List Tok) (bad : Bool) (s : ByteArray) (w : World) (h : PrS B ts bad w) (hl : ts.length <= 100000) (hs : s.size <= 100000) :
  Calls Tryz.prog 66 #[.pointer (some ⟨B, 0, none⟩), .string s] w (PrR B (ts ++ [nmT s]) (bad || badName s) w) := by
 obtain ⟨i0, hif, hz0, hz1, hz2⟩ := info_parts infoTok
 obtain ⟨v, h0, hown⟩ := h
 obtain ⟨c0, c1⟩ := pr_cells h0
 have fq := free_of_box h0
 obtain ⟨va, vc, rfl⟩ := owns_shape hown
 have H0 := Lib.hid h0
 have HO := Lib.hid hown
 clear h0 hown
 go_enter Tryz.func66, Tryz.ntmps66
 go_upto_region 1 with fail
 go_cut [5] from 7 to 14 (fun u wx => u = .bool (nameTo s 0) /\ wx = w)
 case first =>
  have HZ : Hid (nameTo s 0 = (decide ((0 : Int) < (s.size : Int)) && decide ((s.size : Int) <= 32))) := Lib.hid (by
   show (decide (0 < s.size) && decide (s.size <= 32)) = _
   rw [Bool.eq_iff_iff]; simp; omega)
  by_cases hz : (0 : Int) < (s.size : Int)
  ·have HZ2 := Lib.hid (HZ.out.trans (by rw [decide_eq_true hz, Bool.true_and]))
   clear HZ
   go_wp2_with fail
   go_meet
   case rel => exact ⟨by rw [HZ2.out], rfl⟩
  ·have HZ2 := Lib.hid (HZ.out.trans (by rw [decide_eq_false hz, Bool.false_and]))
   clear HZ
   go_wp2_with fail
   go_meet
   case rel => exact ⟨by rw [HZ2.out], rfl⟩
 case rest =>
  obtain ⟨rfl, hwc⟩ := hcut
  rw [hwc]
  clear hwc
  go_wp2_with fail
  go_loopw [5, 17] (fun q u wr => ∃ k : Nat, k <= s.size /\ u = (.int .i64 k) /\ q = .bool (nameTo s k) /\ Hid (wr = w)) (fun _ u _ => s.size - (intOf u).toNat)
  case atStart => exact ⟨0, by omega, rfl, rfl, Lib.hid rfl⟩
  case round =>
   obtain ⟨k, hk, rfl, rfl, HK⟩ := hrel
   by_cases hlt : k < s.size
   ·have e := Lib.hid (nameTo_succ hlt)
    have hk2 : (k : Int) < (s.size : Int) := by omega
    have hz0 : (0 : Int) <= (s[k].toNat : Int) := by omega
    have hz1 : (s[k].toNat : Int) <= 255 := by have := s[k].toNat_lt; omega
    have HC := Lib.hid (fun (W : World) => nameE_any (s[k].toNat : Int) W hz0 hz1)
    generalize nameTo s k = q at *
    cases q with
    | false =>
     have e2 := Lib.hid (e.out.trans (Bool.false_and _))
     clear e HC
     go_wp2_with (fail)
     go_roundw
     case rel => exact ⟨k + 1, by omega, by go_num, by rw [e2.out], Lib.hid HK.out⟩
     case measure => simp [intOf]; omega
    | true =>
     generalize lettI (s[k].toNat : Int) = lt at *
     cases lt with
     | true =>
      have e2 := Lib.hid (e.out.trans (by rw [Bool.true_and, Bool.true_or]))
      clear e
      go_wp2_with (go_at_call 99; refine (HC.out _).mono ?_; rintro e w' ⟨rfl, rfl⟩)
      go_roundw
      case rel => exact ⟨k + 1, by omega, by go_num, by rw [e2.out], Lib.hid HK.out⟩
      case measure => simp [intOf]; omega
     | false =>
      by_cases hk0 : k = 0
      ·subst hk0
       have e2 := Lib.hid (e.out.trans (by rw [Bool.true_and, Bool.false_or, decide_eq_false (Nat.lt_irrefl 0), Bool.false_and]))
       clear e
       go_wp2_with (go_at_call 99; refine (HC.out _).mono ?_; rintro e w' ⟨rfl, rfl⟩)
       go_roundw
       case rel => exact ⟨0 + 1, by omega, by go_num, by rw [e2.out], Lib.hid HK.out⟩
       case measure => simp [intOf]; omega
      ·have hk3 : (0 : Int) < (k : Int) := by omega
       by_cases h48 : 48 <= (s[k].toNat : Int)
       ·have e2 := Lib.hid (e.out.trans (by rw [Bool.true_and, Bool.false_or, decide_eq_true (show 0 < k by omega), decide_eq_true h48, Bool.true_and, Bool.true_and]))
        clear e hk0
        go_wp2_with (go_at_call 99; refine (HC.out _).mono ?_; rintro e w' ⟨rfl, rfl⟩)
        go_roundw
        case rel => exact ⟨k + 1, by omega, by go_num, by rw [e2.out], Lib.hid HK.out⟩
        case measure => simp [intOf]; omega
       ·have e2 := Lib.hid (e.out.trans (by rw [Bool.true_and, Bool.false_or, decide_eq_false h48, Bool.false_and, Bool.and_false]))
        clear e hk0
        go_wp2_with (go_at_call 99; refine (HC.out _).mono ?_; rintro e w' ⟨rfl, rfl⟩)
        go_roundw
        case rel => exact ⟨k + 1, by omega, by go_num, by rw [e2.out], Lib.hid HK.out⟩
        case measure => simp [intOf]; omega
   ·obtain rfl : k = s.size := by omega
    rw [HK.out]
    clear HK
    have hq : Hid (badName s = !nameTo s s.size) := Lib.hid rfl
    generalize badName s = bs at *
    generalize nameTo s s.size = q at *
    go_upto_region 7 with fail
    go_cut [53] from 45 to 55 (fun _ wx => Hid (Turned (fun j => j = B) w wx /\ wx.heap[B]? = some (.cells #[.slice va ts.length vc, .bool (bad || bs)] 90 (0, 0))))
    case first =>
     cases bad with
     | true =>
      go_wp2_with fail
      go_meet
      case rel => exact Lib.hid (set_bad H0.out _)
     | false =>
      go_wp2_with fail
      go_meet
      case rel => exact Lib.hid (by rw [hq.out]; exact set_bad H0.out _)
    case rest =>
     obtain ⟨k0, k1⟩ := pr_cells hcut.out.2
     have kq := free_of_box hcut.out.2
     clear c0 c1 fq
     go_wp2_with (at_builtin; refine wpList_append_exact _ rfl _ _ 69 rfl (B + 1) 68 i0 (.agg #[.int .i64 0, .int .i64 0, .string ⟨#[]⟩, .int .i64 0]) 4 40 Tryz.underlying69 hif hz0 hz1 hz2 rfl (by decide) _ _ _ rfl (ownsRow_turned (hcut.out.1.alloc _) (fun k hk => by omega) HO.out) ⟨wc.heap.size, 0, none⟩ 1 1 [(.int .i64 1), .int .i64 0, .string s, .int .i64 0] rfl rfl (cells_four _ _ _ _ _ _) (by intro u hu; simp at hu; rcases hu with rfl | rfl | rfl | rfl <;> rfl) (by unfold maxLen; omega) (by omega) (by have := getElem?_lt hcut.out.2; simp; omega) ?_; intro v' w4 hown' hgrow hex; obtain ⟨g', cap', rfl⟩ := ownsRow_succ hown'; have HE := Lib.hid (pr_push (t := nmT s) H0.out HO.out (hcut.out.1.alloc _) (alloc_box hcut.out.2 _) hgrow hown' hex); obtain ⟨z0, z1⟩ := pr_cells HE.out.1; have zq := free_of_box HE.out.1; clear hown' hgrow hex)
     go_end0
     exact ⟨rfl, HE.out.2⟩
theorem text_size : (Tryz.prog.info? 96).map (·.size) = some 2 := by kernel_rfl
theorem results_tx {fn : Func} {i : Nat} (hf : fn.results = #[ResultVar.cell i 96]) (tmps : Array Value) (w : World) (N : Nat) (a b : Value) (hp : tmps.getD i undef = .pointer (some ⟨N, 0, none⟩)) (hg : w.heap[N]? = some (.cells #[a, b] 96 (0, 0))) :
  (results fn tmps).run Tryz.prog w = .ok (.agg #[a, b]) w := by
 have hp' : tmps[i]?.getD undef = .pointer (some ⟨N, 0, none⟩) := by simpa using hp
 simp [results, hf, hp', asAddr, run_loadVar_row w N 96 96 #[a, b] (0, 0) _ hg Tryz.underlying96 rfl text_size]
theorem sign1_any (s : ByteArray) (w : World) : Calls Tryz.prog 79 #[.string s] w fun e w' => e = .returned (.agg #[.string s, .bool false]) /\ Turned (fun _ => False) w w' := by
 go_enter Tryz.func79, Tryz.ntmps79
 go_wp2_with fail
 refine bodyPost_ret (results_tx rfl _ _ w.heap.size _ _ rfl (heap_alloc_new _ _)) rfl ?_
 exact ⟨rfl, (Turned.refl _ _).alloc _⟩
theorem rtext_one (t : Tok) (hn : -9223372036854775808 <= t.n /\ t.n <= 9223372036854775807) (hs : t.s.size <= 100000) (w : World) (b c : Nat) (h : w.heap[b]? = some (.cells #[.int .i64 t.kind, .int .i64 t.at_, .string t.s, .int .i64 t.n] 68 (0, 0))) :
  Calls Tryz.prog 107 #[.slice (some ⟨b, 0, none⟩) 1 c] w fun e w' => e = .returned (.string (textQ [t])) /\ Below w.heap.size w w' := by
 refine rtextall_any b 0 c [t] w ⟨getElem?_lt h, fun j u hu => ?_⟩ (by simp) (fun u hu => by simp at hu; subst hu; exact ⟨hn.1, hn.2, hs⟩)
 cases j with
 | zero =>
  simp at hu
  subst hu
  simp [World.cell?, h]
 | succ j => simp at hu
theorem tx_set {V : World} {N t : Nat} {a b x y : Value} (h : V.heap[N]? = some (.cells #[a, b] t (0, 0))) : ((V.setCell ⟨N, 0, none⟩ x).setCell ⟨N, 1, none⟩ y).heap[N]? = some (.cells #[x, y] t (0, 0)) := by
 simp [World.setCell, Array.getElem?_modify, h]
theorem tx_turned (V : World) (N : Nat) (x y : Value) : Turned (fun c => c = N) V ((V.setCell ⟨N, 0, none⟩ x).setCell ⟨N, 1, none⟩ y) :=
 ((Turned.refl (fun c => c = N) V).setCell (p := ⟨N, 0, none⟩) rfl x).setCell (p := ⟨N, 1, none⟩) rfl y
theorem cellsTx {V : World} {N t : Nat} {a b : Value} (h : V.heap[N]? = some (.cells #[a, b] t (0, 0))) : V.cell? ⟨N, 0, none⟩ = some a /\ V.cell? ⟨N, 1, none⟩ = some b := by simp [World.cell?, h]
abbrev txBox : Obj := .cells #[.string ⟨#[]⟩, .bool false] 96
theorem txnum_any (n : Int) (hn : -9223372036854775808 <= n /\ n <= 9223372036854775807) (w : World) : Calls Tryz.prog 80 #[.int .i64 n] w fun e w' => e = .returned (.agg #[.string (textQ [nuT n]), .bool (badNum n)]) /\ Turned (fun _ => False) w w' := by
 obtain ⟨w1, hw1⟩ : ∃ w1, w1 = (w.alloc txBox).alloc (.cells #[.int .i64 2, .int .i64 0, .string ⟨#[]⟩, .int .i64 n] 68) := ⟨_, rfl⟩
 have hb : w1.heap[w.heap.size]? = some txBox := by rw [hw1]; exact alloc_box (heap_alloc_new _ _) _
 have hk : w1.heap[w.heap.size + 1]? = some (.cells #[.int .i64 2, .int .i64 0, .string ⟨#[]⟩, .int .i64 n] 68 (0, 0)) := by
  have e : w.heap.size + 1 = (w.alloc txBox).heap.size := by simp
  rw [hw1, e]; exact heap_alloc_new _ _
 have t1 : Turned (fun _ => False) w w1 := by rw [hw1]; exact ((Turned.refl _ _).alloc _).alloc _
 have HC := Lib.hid (rtext_one (nuT n) hn (by simp [nuT, noB, ByteArray.size]) w1 (w.heap.size + 1) 1 hk)
 have HW := Lib.hid hw1
 have HB := Lib.hid hb
 have HT := Lib.hid t1
 clear hw1 hb hk t1
 have key : ∀ b : Bool, (b = badNum n) -> Calls Tryz.prog 80 #[.int .i64 n] w fun e w' => e = .returned (.agg #[.string (textQ [nuT n]), .bool b]) /\ Turned (fun _ => False) w w' := fun b hb => by
  unfold badNum at hb
  by_cases h0 : n < 0
  ·obtain rfl : b = true := by rw [hb]; simp [h0]
   clear hb
   go_enter Tryz.func80, Tryz.ntmps80
   go_wp2_with (rw [<- HW.out]; go_at_call 107; refine HC.out.mono ?_; rintro e W9 ⟨rfl, hbl⟩; have HT9 : Hid (Turned (fun _ => False) w1 W9) := Lib.hid (Turned.of_new hbl); have hb9 := (HT9.out.block _ (getElem?_lt HB.out) id).trans HB.out; clear hbl; obtain ⟨n0, n1⟩ := cellsTx hb9; have fq := free_of_box hb9; have HB9 := Lib.hid hb9; clear hb9)
   refine bodyPost_ret (results_tx rfl _ _ w.heap.size _ _ rfl (tx_set HB9.out)) rfl ?_
   exact ⟨rfl, (((HT.out.trans HT9.out).mono fun _ h => h.elim).trans ((tx_turned _ _ _ _).mono fun b hb => by omega)).strip⟩
  ·by_cases h1 : 999999999999999 < n
   ·obtain rfl : b = true := by rw [hb]; simp [h1]
    clear hb
    go_enter Tryz.func80, Tryz.ntmps80
    go_wp2_with (rw [<- HW.out]; go_at_call 107; refine HC.out.mono ?_; rintro e W9 ⟨rfl, hbl⟩; have HT9 : Hid (Turned (fun _ => False) w1 W9) := Lib.hid (Turned.of_new hbl); have hb9 := (HT9.out.block _ (getElem?_lt HB.out) id).trans HB.out; clear hbl; obtain ⟨n0, n1⟩ := cellsTx hb9; have fq := free_of_box hb9; have HB9 := Lib.hid hb9; clear hb9)
    refine bodyPost_ret (results_tx rfl _ _ w.heap.size _ _ rfl (tx_set HB9.out)) rfl ?_
    exact ⟨rfl, (((HT.out.trans HT9.out).mono fun _ h => h.elim).trans ((tx_turned _ _ _ _).mono fun b hb => by omega)).strip⟩
   ·obtain rfl : b = false := by rw [hb]; simp [h0, h1]
    have hval : Hid ((decide (n < 0) || decide (999999999999999 < n)) = false) := Lib.hid (by simp [h0, h1])
    clear hb
    go_enter Tryz.func80, Tryz.ntmps80
    go_wp2_with (rw [<- HW.out]; go_at_call 107; refine HC.out.mono ?_; rintro e W9 ⟨rfl, hbl⟩; have HT9 : Hid (Turned (fun _ => False) w1 W9) := Lib.hid (Turned.of_new hbl); have hb9 := (HT9.out.block _ (getElem?_lt HB.out) id).trans HB.out; clear hbl; obtain ⟨n0, n1⟩ := cellsTx hb9; have fq := free_of_box hb9; have HB9 := Lib.hid hb9; clear hb9)
    refine bodyPost_ret (results_tx rfl _ _ w.heap.size _ _ rfl (tx_set HB9.out)) rfl ?_
    exact ⟨by rw [hval.out], (((HT.out.trans HT9.out).mono fun _ h => h.elim).trans ((tx_turned _ _ _ _).mono fun b hb => by omega)).strip⟩
 exact key _ rfl
theorem txtext_any (s : ByteArray) (hs : s.size <= 100000) (w : World) : Calls Tryz.prog 81 #[.string s] w fun e w' => e = .returned (.agg #[.string (textQ [txT s]), .bool (badText s)]) /\ Turned (fun _ => False) w w' := by
 have e0 : textTo s 0 = decide ((200 : Int) < (s.size : Int)) := by
  show decide (200 < s.size) = _
  rw [Bool.eq_iff_iff]; simp; omega
 have HE0 := Lib.hid e0
 have HB0 := Lib.hid (heap_alloc_new w txBox)
 have HT0 : Hid (Turned (fun _ => False) w (w.alloc txBox)) := Lib.hid ((Turned.refl _ _).alloc _)
 have HZ : (w.alloc txBox).heap.size = w.heap.size + 1 := by simp
 have HSZ := Lib.hid HZ
 clear e0 HZ
 go_enter Tryz.func81, Tryz.ntmps81
 go_upto_region 3 with fail
 go_loopw [3, 4] (fun q u wr => ∃ k : Nat, k <= s.size /\ u = (.int .i64 k) /\ q = .bool (textTo s k) /\ Hid (wr = w.alloc txBox)) (fun _ u _ => s.size - (intOf u).toNat)
 case atStart => exact ⟨0, by omega, rfl, by rw [HE0.out], Lib.hid rfl⟩
 case round =>
  obtain ⟨k, hk, rfl, rfl, HR⟩ := hrel
  by_cases hlt : k < s.size
  ·have hk2 : (k : Int) < (s.size : Int) := by omega
   have e := Lib.hid (textTo_succ hlt)
   by_cases h10 : (s[k].toNat : Int) = 10
   ·have hb : ((s[k].toNat : Int) != 10) = false := by simpa using h10
    have e2 : Hid (textTo s (k + 1) = textTo s k) := Lib.hid (by rw [e.out, hb]; simp)
    clear e h10
    generalize textTo s k = bk at *
    cases bk <;>
    ·go_wp2_with fail
     go_roundw
     case rel => exact ⟨k + 1, by omega, by go_num, by rw [e2.out], Lib.hid HR.out⟩
     case measure => simp [intOf]; omega
   ·have hb : ((s[k].toNat : Int) != 10) = true := by simpa using h10
    by_cases h32 : (s[k].toNat : Int) < 32
    ·have e2 : Hid (textTo s (k + 1) = true) := Lib.hid (by rw [e.out, hb, decide_eq_true h32]; simp)
     clear e h10
     go_wp2_with fail
     go_roundw
     case rel => exact ⟨k + 1, by omega, by go_num, by rw [e2.out], Lib.hid HR.out⟩
     case measure => simp [intOf]; omega
    ·by_cases h126 : (126 : Int) < (s[k].toNat : Int)
     ·have e2 : Hid (textTo s (k + 1) = true) := Lib.hid (by rw [e.out, hb, decide_eq_true h126]; simp)
      clear e h10
      go_wp2_with fail
      go_roundw
      case rel => exact ⟨k + 1, by omega, by go_num, by rw [e2.out], Lib.hid HR.out⟩
      case measure => simp [intOf]; omega
     ·have e2 : Hid (textTo s (k + 1) = textTo s k) := Lib.hid (by rw [e.out, hb, decide_eq_false h32, decide_eq_false h126]; simp)
      clear e h10
      generalize textTo s k = bk at *
      cases bk <;>
      ·go_wp2_with fail
       go_roundw
       case rel => exact ⟨k + 1, by omega, by go_num, by rw [e2.out], Lib.hid HR.out⟩
       case measure => simp [intOf]; omega
  ·obtain rfl : k = s.size := by omega
   obtain ⟨w1, hw1⟩ : ∃ w1, w1 = (w.alloc txBox).alloc (.cells #[.int .i64 3, .int .i64 0, .string s, .int .i64 0] 68) := ⟨_, rfl⟩
   have hb : w1.heap[w.heap.size]? = some txBox := by rw [hw1]; exact alloc_box (heap_alloc_new _ _) _
   have hkk : w1.heap[w.heap.size + 1]? = some (.cells #[.int .i64 3, .int .i64 0, .string s, .int .i64 0] 68 (0, 0)) := by
    rw [hw1, <- HSZ.out]; exact heap_alloc_new _ _
   have t1 : Turned (fun _ => False) w w1 := by rw [hw1]; exact ((Turned.refl _ _).alloc _).alloc _
   have HC := Lib.hid (rtext_one (txT s) (by simp [txT]) hs w1 (w.heap.size + 1) 1 hkk)
   have HW := Lib.hid hw1
   have HB := Lib.hid hb
   have HT := Lib.hid t1
   clear hw1 hb hkk t1
   rw [HR.out]
   go_wp2_with (rw [<- HW.out]; go_at_call 107; refine HC.out.mono ?_; rintro e W9 ⟨rfl, hbl⟩; have HT9 : Hid (Turned (fun _ => False) w1 W9) := Lib.hid (Turned.of_new hbl); have hb9 := (HT9.out.block _ (getElem?_lt HB.out) id).trans HB.out; clear hbl; obtain ⟨n0, n1⟩ := cellsTx hb9; have fq := free_of_box hb9; have HB9 := Lib.hid hb9; clear hb9)
   refine bodyPost_ret (results_tx rfl _ _ w.heap.size _ _ rfl (tx_set HB9.out)) rfl ?_
   exact ⟨rfl, (((HT.out.trans HT9.out).mono fun _ h => h.elim).trans ((tx_turned _ _ _ _).mono fun b hb => by omega)).strip⟩
theorem txname_any (s : ByteArray) (hs : s.size <= 100000) (w : World) : Calls Tryz.prog 78 #[.string s] w fun e w' => e = .returned (.agg #[.string s, .bool (badName s)]) /\ Turned (fun _ => False) w w' := by
 have HB0 := Lib.hid (heap_alloc_new w txBox)
 have HT0 : Hid (Turned (fun _ => False) w (w.alloc txBox)) := Lib.hid ((Turned.refl _ _).alloc _)
 have hfin : ∀ (W : World) (x y : Value), W = w.alloc (.cells #[x, y] 96) -> W.heap[w.heap.size]? = some (.cells #[x, y] 96 (0, 0)) /\ Turned (fun _ => False) w W := fun W x y h => by rw [h]; exact ⟨heap_alloc_new _ _, (Turned.refl _ _).alloc _⟩
 have HFN := Lib.hid hfin
 clear hfin
 by_cases hz : s.size = 0
 ·obtain rfl : s = ⟨#[]⟩ := by
   apply ByteArray.ext
   exact Array.eq_empty_of_size_eq_zero hz
  clear hz
  go_enter Tryz.func78, Tryz.ntmps78
  go_wp2_with fail
  go_loopw [3, 4] (fun q u wr => q = .bool true /\ u = (.int .i64 0) /\ wr = w.alloc txBox) (fun _ _ _ => 0)
  case atStart => exact ⟨rfl, rfl, rfl⟩
  case round =>
   obtain ⟨rfl, rfl, rfl⟩ := hrel
   go_wp2_with fail
   refine bodyPost_ret (results_tx rfl _ _ w.heap.size _ _ rfl (HFN.out _ _ _ rfl).1) rfl ?_
   exact ⟨rfl, (HFN.out _ _ _ rfl).2⟩
 have hnil : ¬ s.toList = [] := by
  rw [ByteArray.toList_eq]
  intro h
  exact hz (by simpa using congrArg List.length h)
 have hemp : s.toList.isEmpty = false := by simpa using hnil
 have HN0 : Hid (nameTo s 0 = decide ((s.size : Int) <= 32)) := Lib.hid (by
   show (decide (0 < s.size) && decide (s.size <= 32)) = _
   rw [Bool.eq_iff_iff]; simp; omega)
 have HI : Hid (decide ((32 : Int) < (s.size : Int)) = !nameTo s 0) := Lib.hid (by rw [HN0.out, Bool.eq_iff_iff]; simp)
 clear HN0
 clear hz
 go_enter Tryz.func78, Tryz.ntmps78
 go_upto_region 3 with fail
 go_loopw [3, 4] (fun q u wr => ∃ k : Nat, k <= s.size /\ u = (.int .i64 k) /\ q = .bool (!nameTo s k) /\ Hid (wr = w.alloc txBox)) (fun _ u _ => s.size - (intOf u).toNat)
 case atStart => exact ⟨0, by omega, rfl, by rw [HI.out], Lib.hid rfl⟩
 case round =>
  clear HI hnil hemp
  obtain ⟨k, hk, rfl, rfl, HR⟩ := hrel
  by_cases hlt : k < s.size
  ·have hk2 : (k : Int) < (s.size : Int) := by omega
   have e := Lib.hid (nameTo_succ hlt)
   by_cases h97 : (97 : Int) <= (s[k].toNat : Int)
   ·by_cases h122 : (s[k].toNat : Int) <= 122
    ·skip
     have e2 : Hid (nameTo s (k + 1) = nameTo s k) := Lib.hid (by rw [e.out, show lettI (s[k].toNat : Int) = true by unfold lettI; rw [Bool.eq_iff_iff]; simp; omega]; simp)
     clear e
     go_wp2_with fail
     go_roundw
     case rel => exact ⟨k + 1, by omega, by go_num, by rw [e2.out], Lib.hid HR.out⟩
     case measure => simp [intOf]; omega
    have h65 : (65 : Int) <= (s[k].toNat : Int) := by omega
    have h90 : ¬ (s[k].toNat : Int) <= 90 := by omega
    have h95 : ((s[k].toNat : Int) == 95) = false := by simp; omega
    by_cases hk0 : k = 0
    ·subst hk0
     have hk3 : ((0 : Nat) : Int) = 0 := rfl
     have e2 : Hid (nameTo s (0 + 1) = false) := Lib.hid (by rw [e.out, show lettI (s[0].toNat : Int) = false by unfold lettI; rw [Bool.eq_iff_iff]; simp; omega]; simp)
     clear e
     go_wp2_with fail
     go_roundw
     case rel => exact ⟨0 + 1, by omega, by go_num, by rw [e2.out]; rfl, Lib.hid HR.out⟩
     case measure => simp [intOf]; omega
    have hk3 : ¬ (k : Int) = 0 := by omega
    have hk4 : ((k : Int) == 0) = false := by simpa using hk3
    by_cases h48 : (s[k].toNat : Int) < 48
    ·skip
     have e2 : Hid (nameTo s (k + 1) = false) := Lib.hid (by rw [e.out, show lettI (s[k].toNat : Int) = false by unfold lettI; rw [Bool.eq_iff_iff]; simp; omega, decide_eq_false (show ¬ 48 <= (s[k].toNat : Int) by omega)]; simp)
     clear e
     go_wp2_with fail
     go_roundw
     case rel => exact ⟨k + 1, by omega, by go_num, by rw [e2.out]; rfl, Lib.hid HR.out⟩
     case measure => simp [intOf]; omega
    by_cases h57 : (57 : Int) < (s[k].toNat : Int)
    ·skip
     have e2 : Hid (nameTo s (k + 1) = false) := Lib.hid (by rw [e.out, show lettI (s[k].toNat : Int) = false by unfold lettI; rw [Bool.eq_iff_iff]; simp; omega, decide_eq_false (show ¬ (s[k].toNat : Int) <= 57 by omega)]; simp)
     clear e
     go_wp2_with fail
     go_roundw
     case rel => exact ⟨k + 1, by omega, by go_num, by rw [e2.out]; rfl, Lib.hid HR.out⟩
     case measure => simp [intOf]; omega
    have e2 : Hid (nameTo s (k + 1) = nameTo s k) := Lib.hid (by rw [e.out, show lettI (s[k].toNat : Int) = false by unfold lettI; rw [Bool.eq_iff_iff]; simp; omega, decide_eq_true (show 48 <= (s[k].toNat : Int) by omega), decide_eq_true (show (s[k].toNat : Int) <= 57 by omega), decide_eq_true (show 0 < k by omega)]; simp)
    clear e
    go_wp2_with fail
    go_roundw
    case rel => exact ⟨k + 1, by omega, by go_num, by rw [e2.out], Lib.hid HR.out⟩
    case measure => simp [intOf]; omega
   by_cases h65 : (65 : Int) <= (s[k].toNat : Int)
   ·by_cases h90 : (s[k].toNat : Int) <= 90
    ·skip
     have e2 : Hid (nameTo s (k + 1) = nameTo s k) := Lib.hid (by rw [e.out, show lettI (s[k].toNat : Int) = true by unfold lettI; rw [Bool.eq_iff_iff]; simp; omega]; simp)
     clear e
     go_wp2_with fail
     go_roundw
     case rel => exact ⟨k + 1, by omega, by go_num, by rw [e2.out], Lib.hid HR.out⟩
     case measure => simp [intOf]; omega
    by_cases h95' : (s[k].toNat : Int) = 95
    ·have h95 : ((s[k].toNat : Int) == 95) = true := by simpa using h95'
     have e2 : Hid (nameTo s (k + 1) = nameTo s k) := Lib.hid (by rw [e.out, show lettI (s[k].toNat : Int) = true by unfold lettI; rw [Bool.eq_iff_iff]; simp; omega]; simp)
     clear e
     go_wp2_with fail
     go_roundw
     case rel => exact ⟨k + 1, by omega, by go_num, by rw [e2.out], Lib.hid HR.out⟩
     case measure => simp [intOf]; omega
    have h95 : ((s[k].toNat : Int) == 95) = false := by simpa using h95'
    by_cases hk0 : k = 0
    ·subst hk0
     have hk3 : ((0 : Nat) : Int) = 0 := rfl
     have e2 : Hid (nameTo s (0 + 1) = false) := Lib.hid (by rw [e.out, show lettI (s[0].toNat : Int) = false by unfold lettI; rw [Bool.eq_iff_iff]; simp; omega]; simp)
     clear e
     go_wp2_with fail
     go_roundw
     case rel => exact ⟨0 + 1, by omega, by go_num, by rw [e2.out]; rfl, Lib.hid HR.out⟩
     case measure => simp [intOf]; omega
    have hk3 : ¬ (k : Int) = 0 := by omega
    have hk4 : ((k : Int) == 0) = false := by simpa using hk3
    by_cases h48 : (s[k].toNat : Int) < 48
    ·skip
     have e2 : Hid (nameTo s (k + 1) = false) := Lib.hid (by rw [e.out, show lettI (s[k].toNat : Int) = false by unfold lettI; rw [Bool.eq_iff_iff]; simp; omega, decide_eq_false (show ¬ 48 <= (s[k].toNat : Int) by omega)]; simp)
     clear e
     go_wp2_with fail
     go_roundw
     case rel => exact ⟨k + 1, by omega, by go_num, by rw [e2.out]; rfl, Lib.hid HR.out⟩
     case measure => simp [intOf]; omega
    by_cases h57 : (57 : Int) < (s[k].toNat : Int)
    ·skip
     have e2 : Hid (nameTo s (k + 1) = false) := Lib.hid (by rw [e.out, show lettI (s[k].toNat : Int) = false by unfold lettI; rw [Bool.eq_iff_iff]; simp; omega, decide_eq_false (show ¬ (s[k].toNat : Int) <= 57 by omega)]; simp)
     clear e
     go_wp2_with fail
     go_roundw
     case rel => exact ⟨k + 1, by omega, by go_num, by rw [e2.out]; rfl, Lib.hid HR.out⟩
     case measure => simp [intOf]; omega
    have e2 : Hid (nameTo s (k + 1) = nameTo s k) := Lib.hid (by rw [e.out, show lettI (s[k].toNat : Int) = false by unfold lettI; rw [Bool.eq_iff_iff]; simp; omega, decide_eq_true (show 48 <= (s[k].toNat : Int) by omega), decide_eq_true (show (s[k].toNat : Int) <= 57 by omega), decide_eq_true (show 0 < k by omega)]; simp)
    clear e
    go_wp2_with fail
    go_roundw
    case rel => exact ⟨k + 1, by omega, by go_num, by rw [e2.out], Lib.hid HR.out⟩
    case measure => simp [intOf]; omega
   have h95 : ((s[k].toNat : Int) == 95) = false := by simp; omega
   by_cases hk0 : k = 0
   ·subst hk0
    have hk3 : ((0 : Nat) : Int) = 0 := rfl
    have e2 : Hid (nameTo s (0 + 1) = false) := Lib.hid (by rw [e.out, show lettI (s[0].toNat : Int) = false by unfold lettI; rw [Bool.eq_iff_iff]; simp; omega]; simp)
    clear e
    go_wp2_with fail
    go_roundw
    case rel => exact ⟨0 + 1, by omega, by go_num, by rw [e2.out]; rfl, Lib.hid HR.out⟩
    case measure => simp [intOf]; omega
   have hk3 : ¬ (k : Int) = 0 := by omega
   have hk4 : ((k : Int) == 0) = false := by simpa using hk3
   by_cases h48 : (s[k].toNat : Int) < 48
   ·skip
    have e2 : Hid (nameTo s (k + 1) = false) := Lib.hid (by rw [e.out, show lettI (s[k].toNat : Int) = false by unfold lettI; rw [Bool.eq_iff_iff]; simp; omega, decide_eq_false (show ¬ 48 <= (s[k].toNat : Int) by omega)]; simp)
    clear e
    go_wp2_with fail
    go_roundw
    case rel => exact ⟨k + 1, by omega, by go_num, by rw [e2.out]; rfl, Lib.hid HR.out⟩
    case measure => simp [intOf]; omega
   by_cases h57 : (57 : Int) < (s[k].toNat : Int)
   ·skip
    have e2 : Hid (nameTo s (k + 1) = false) := Lib.hid (by rw [e.out, show lettI (s[k].toNat : Int) = false by unfold lettI; rw [Bool.eq_iff_iff]; simp; omega, decide_eq_false (show ¬ (s[k].toNat : Int) <= 57 by omega)]; simp)
    clear e
    go_wp2_with fail
    go_roundw
    case rel => exact ⟨k + 1, by omega, by go_num, by rw [e2.out]; rfl, Lib.hid HR.out⟩
    case measure => simp [intOf]; omega
   have e2 : Hid (nameTo s (k + 1) = nameTo s k) := Lib.hid (by rw [e.out, show lettI (s[k].toNat : Int) = false by unfold lettI; rw [Bool.eq_iff_iff]; simp; omega, decide_eq_true (show 48 <= (s[k].toNat : Int) by omega), decide_eq_true (show (s[k].toNat : Int) <= 57 by omega), decide_eq_true (show 0 < k by omega)]; simp)
   clear e
   go_wp2_with fail
   go_roundw
   case rel => exact ⟨k + 1, by omega, by go_num, by rw [e2.out], Lib.hid HR.out⟩
   case measure => simp [intOf]; omega
  ·obtain rfl : k = s.size := by omega
   rw [HR.out]
   go_wp2_with fail
   refine bodyPost_ret (results_tx rfl _ _ w.heap.size _ _ rfl (HFN.out _ _ _ rfl).1) rfl ?_
   exact ⟨rfl, (HFN.out _ _ _ rfl).2⟩
theorem lvl_other {op : Int} (h20 : op ≠ 20) (h5 : op ≠ 5) (h6 : op ≠ 6) (h : op < 7 \/ 19 < op) : lvlX op = 8 := by
 unfold lvlX
 rw [if_neg h20, if_neg h5, if_neg h6, List.find?_eq_none.2]
 intro r hr
 simp only [opRows, List.mem_cons, List.not_mem_nil, or_false] at hr
 rcases hr with rfl | rfl | rfl | rfl | rfl | rfl | rfl | rfl | rfl | rfl | rfl | rfl | rfl <;> simp <;> omega
theorem strength_any (op : Int) (w : World) : Calls Tryz.prog 83 #[.int .i64 op] w fun e w' => e = .returned (.int .i64 ((lvlX op : Nat))) /\ Turned (fun _ => False) w w' := by
 by_cases h20 : op = 20
 ·subst h20
  go_enter Tryz.func83, Tryz.ntmps83
  go_wp2_with fail
  go_ret
  exact ⟨rfl, Turned.refl _ _⟩
 by_cases h5 : op = 5
 ·subst h5
  go_enter Tryz.func83, Tryz.ntmps83
  go_wp2_with fail
  go_ret
  exact ⟨rfl, Turned.refl _ _⟩
 by_cases h6 : op = 6
 ·subst h6
  go_enter Tryz.func83, Tryz.ntmps83
  go_wp2_with fail
  go_ret
  exact ⟨rfl, Turned.refl _ _⟩
 have b20 : (op == 20) = false := by simpa using h20
 have b5 : (op == 5) = false := by simpa using h5
 have b6 : (op == 6) = false := by simpa using h6
 by_cases h7 : op < 7
 ·have HL := Lib.hid (lvl_other h20 h5 h6 (.inl h7))
  have n7 : ¬ 7 <= op := by omega
  clear h20 h5 h6
  go_enter Tryz.func83, Tryz.ntmps83
  go_wp2_with fail
  go_ret
  rw [HL.out]
  exact ⟨rfl, (Turned.refl _ _).alloc _⟩
 by_cases h19 : 19 < op
 ·have HL := Lib.hid (lvl_other h20 h5 h6 (.inr h19))
  have n7 : 7 <= op := by omega
  have n19 : ¬ op <= 19 := by omega
  clear h20 h5 h6
  go_enter Tryz.func83, Tryz.ntmps83
  go_wp2_with fail
  go_ret
  rw [HL.out]
  exact ⟨rfl, (Turned.refl _ _).alloc _⟩
 rcases (by omega : op = 7 \/ op = 8 \/ op = 9 \/ op = 10 \/ op = 11 \/ op = 12 \/ op = 13 \/ op = 14 \/ op = 15 \/ op = 16 \/ op = 17 \/ op = 18 \/ op = 19) with rfl | rfl | rfl | rfl | rfl | rfl | rfl | rfl | rfl | rfl | rfl | rfl | rfl <;>
 ·clear h20 h5 h6 b20 b5 b6 h7 h19
  go_enter Tryz.func83, Tryz.ntmps83
  go_wp2_with fail
  go_ret
  exact ⟨rfl, (Turned.refl _ _).alloc _⟩
end Go.Proofs.YtjijdgkccfeeaaaGreatDoor
