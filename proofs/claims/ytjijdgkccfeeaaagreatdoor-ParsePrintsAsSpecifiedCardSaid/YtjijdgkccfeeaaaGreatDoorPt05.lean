/- Part 5 of the proof of card: LexReplW, LexReplAll, LexText, LexTextZ, LexPre, LexList, LexSrc. Conditions: those of each theorem. -/
import Derived.Deep.OwnRows
import Derived.Laws.CopyOwn
import Derived.Test.YtjijdgkccfeeaaaGreatDoorPt01
import Derived.Test.YtjijdgkccfeeaaaGreatDoorPt03
import Derived.Test.YtjijdgkccfeeaaaGreatDoorPt04
set_option maxRecDepth 100000
set_option maxHeartbeats 8000000
namespace Go.Proofs.YtjijdgkccfeeaaaGreatDoor
open Go Go.Proofs Go.RowKit
attribute [local go_sem] Oper.semAt_some
def keyAt (i : Nat) : UInt8 := if i = 0 then 10 else if i = 1 then 92 else 34
def totAt (l : List UInt8) (i : Nat) : Nat := (if 0 < i then l.count 10 else 0) + (if 1 < i then l.count 92 else 0) + (if 2 < i then l.count 34 else 0)
theorem totAt_step (l : List UInt8) (i : Nat) (h : i < 3) : totAt l (i + 1) = totAt l i + l.count (keyAt i) := by
 obtain rfl | rfl | rfl : i = 0 \/ i = 1 \/ i = 2 := by omega
 all_goals simp [totAt, keyAt]
theorem totAt_end (l : List UInt8) : totAt l 3 = escN l := by simp [totAt, escN]
theorem totAt_le (l : List UInt8) (i : Nat) : totAt l i <= escN l := by
 unfold totAt escN
 split <;> split <;> split <;> omega
theorem tab_key {base R : Nat} {W : World} {arr : Array Value} {v : Value} (h : BT base R rows W arr v) (b : UInt8) (hb : (esc b).length = 2) : ∃ q cap, W.cell? ⟨R, b.toNat, none⟩ = some (.slice (some ⟨q, 0, none⟩) 2 cap) := by
 rcases tab_at h b with ⟨-, h1, -⟩ | ⟨x, q, cap, -, h2, -⟩
 ·omega
 ·exact ⟨q, cap, h2⟩
theorem count_any (s : ByteArray) (k : UInt8) (W : World) : Calls Tryz.prog 226 #[.string s, .string ⟨#[k]⟩] W fun e w' => e = .returned (.int .i64 ((s.data.toList.count k : Nat))) /\ W = w' := (Tryz.strings_Count_one s k W).mono fun _ _ h => ⟨h.1, h.2.symm⟩
theorem v_int {a b : Int} (h : a = b) : Value.int .i64 a = Value.int .i64 b := by rw [h]
theorem v_bool {a b : Bool} (h : a = b) : Value.bool a = Value.bool b := by rw [h]
theorem take_step (s : ByteArray) (j : Nat) (h : j < s.size) : s.data.toList.take (j + 1) = s.data.toList.take j ++ [s[j]] := by
 have h1 : j < s.data.toList.length := by simpa using h
 rw [List.take_succ_eq_append_getElem h1]
 rfl
theorem take_all (s : ByteArray) : s.data.toList.take s.size = s.data.toList := List.take_of_length_le (by simp)
structure BufAt (w1 : World) (g N : Nat) (l : List UInt8) (wr : World) : Prop where
 row : ∃ c : Array Value, wr.heap[g]? = some (.cells c 5 (0, 0)) /\ c.size = N /\ ∀ (k : Nat) (b : UInt8), l[k]? = some b -> c[k]? = some (encB b)
 le : l.length <= N
 tur : Turned (fun i => i = g) w1 wr
theorem BufAt.one {w1 wr : World} {g N : Nat} {l : List UInt8} (h : BufAt w1 g N l wr) (b : UInt8) (hN : l.length < N) : BufAt w1 g N (l ++ [b]) (wr.setCell ⟨g, l.length, none⟩ (encB b)) := by
 obtain ⟨c, h1, h2, h3⟩ := h.row
 refine ⟨⟨_, set_block h1 _ _, by simp [h2], fun k x hk => ?_⟩, by simp; omega, h.tur.setCell (p := ⟨g, l.length, none⟩) rfl _⟩
 rcases Nat.lt_trichotomy k l.length with hlt | rfl | hgt
 ·rw [Array.getElem?_setIfInBounds_ne (by omega)]
  rw [List.getElem?_append_left hlt] at hk
  exact h3 k x hk
 ·rw [Array.getElem?_setIfInBounds_self_of_lt (by omega)]
  simp at hk
  rw [hk]
 ·rw [List.getElem?_eq_none (by simp; omega)] at hk
  cases hk
theorem BufAt.cell {w1 wr : World} {g N : Nat} {l : List UInt8} (h : BufAt w1 g N l wr) (k : Nat) (hk : k < N) : (wr.cell? ⟨g, k, none⟩).isSome = true /\ wr.frozen? ⟨g, k, none⟩ = false := by
 obtain ⟨c, h1, h2, h3⟩ := h.row
 refine ⟨?_, by simp [World.frozen?, h1]⟩
 rw [row_cell' h1, Array.getElem?_eq_getElem (by omega)]; rfl
theorem BufAt.conv {w1 wr : World} {g N : Nat} {l : List UInt8} (h : BufAt w1 g N l wr) (hl : l.length = N) : (convert 172 9 (.slice (some ⟨g, 0, none⟩) N N)).run Tryz.prog wr = .ok (.string ⟨l.toArray⟩) wr := by
 subst hl
 obtain ⟨c, h1, h2, h3⟩ := h.row
 refine run_convert_bytes_back wr 172 9 5 ⟨g, 0, none⟩ l.length l Tryz.underlying172 Tryz.underlying5 Tryz.underlying9 (fun i hi => ?_)
 rw [show (⟨g, 0, none⟩ : Addr).add i = ⟨g, i, none⟩ by cases i <;> simp [Addr.add], row_cell' h1]
 have := h3 i l[i] (List.getElem?_eq_getElem hi)
 simpa [encB] using this
theorem two_src {W : World} {q : Nat} {a b : Value} (h0 : W.cell? ⟨q, 0, none⟩ = some a) (h1 : W.cell? ⟨q, 1, none⟩ = some b) : ∀ (j : Nat) v, [a, b][j]? = some v -> W.drew.cell? ((⟨q, 0, none⟩ : Addr).add j) = some v := by
 intro j v hj
 match j, hj with
 | 0, hj => simp at hj; subst hj; simpa [Addr.add] using h0
 | 1, hj => simp at hj; subst hj; simpa [Addr.add] using h1
theorem BufAt.two {w1 wr w4 : World} {g N : Nat} {l : List UInt8} {cur : Array Value} (h : BufAt w1 g N l wr) (a b : UInt8) (hs : w1.heap.size = g + 1) (hc : wr.heap[g]? = some (.cells cur 5 (0, 0))) (hN : l.length + 1 < N)
  (h4 : w4.heap[g]? = some (.cells (splice cur.toList l.length [encB a, encB b]).toArray 5 (0, 0))) (hb : Below g wr w4) : BufAt w1 g N (l ++ [a, b]) w4 := by
 obtain ⟨c, h1, h2, h3⟩ := h.row
 rw [hc] at h1
 obtain rfl : cur = c := by simpa using h1
 refine ⟨⟨_, h4, ?_, fun k x hk => ?_⟩, by simp; omega, ?_⟩
 ·have := length_splice cur.toList l.length [encB a, encB b] (by simp; omega)
  simpa [h2] using this
 ·have e : (splice cur.toList l.length [encB a, encB b]).toArray[k]? = (cur.toList.take l.length ++ ([encB a, encB b] ++ cur.toList.drop (l.length + 2)))[k]? := by simp [splice]
  rw [e]
  have hl : (cur.toList.take l.length).length = l.length := by simp; omega
  rcases Nat.lt_or_ge k l.length with hlt | hge
  ·rw [List.getElem?_append_left (by omega), List.getElem?_take_of_lt hlt]
   rw [List.getElem?_append_left hlt] at hk
   simpa using h3 k x hk
  ·rw [List.getElem?_append_right (by omega), hl]
   rw [List.getElem?_append_right hge] at hk
   have hk2 : k - l.length < 2 := by have := (List.getElem?_eq_some_iff.1 hk).1; simpa using this
   rcases (by omega : k - l.length = 0 \/ k - l.length = 1) with e0 | e0
   ·rw [e0] at hk ⊢; simp at hk ⊢; rw [hk]
   ·rw [e0] at hk ⊢; simp at hk ⊢; rw [hk]
 ·exact ⟨by rw [hb.os, h.tur.os], by rw [hb.tape, h.tur.tape], by rw [hb.output, h.tur.output], Nat.le_trans h.tur.size hb.size, fun k hk hne => (hb.block k (by omega)).trans (h.tur.block k hk hne)⟩
theorem esc_part (l : List UInt8) (i : Nat) : (escL (l.take i)).length <= (escL l).length := by
 have : escL l = escL (l.take i) ++ escL (l.drop i) := by
  unfold escL
  rw [<- List.flatMap_append, List.take_append_drop]
 rw [this, List.length_append]; omega
theorem u8_size : (Tryz.prog.info? 5).map (·.size) = some 1 := by kernel_rfl
theorem bsr_any (base R : Nat) (s : ByteArray) (arr : Array Value) (v : Value) (w : World) (h : BT base R rows w arr v) (hs : s.size <= 100000) :
  Calls Tryz.prog 224 #[.pointer (some ⟨R, 0, none⟩), .string s] w fun e w' => e = .returned (.string ⟨(escL s.data.toList).toArray⟩) /\ Turned (fun _ => False) w w' := by
 obtain ⟨T, capT, r256, t0, t1, t2⟩ := tab_list h
 have HTab := Lib.hid (fun b : UInt8 => tab_at h b)
 have hRlt := getElem?_lt h.row
 obtain ⟨q10, p10, k10⟩ := tab_key h 10 rfl
 obtain ⟨q92, p92, k92⟩ := tab_key h 92 rfl
 obtain ⟨q34, p34, k34⟩ := tab_key h 34 rfl
 simp only [show ((10 : UInt8).toNat) = 10 from rfl, show ((92 : UInt8).toNat) = 92 from rfl, show ((34 : UInt8).toNat) = 34 from rfl] at k10 k92 k34
 obtain ⟨i0, hif, hz0, hz1, hz2⟩ := info_parts infoU8
 have hnot : ∀ (x : Bool) (w : World), (Op.unary .not (.bool x)).run Tryz.prog w = .ok (.bool (!x)) w := fun _ _ => rfl
 have hneq0 : ∀ W : World, (binOp .neq 172 (.slice none 0 0) (.slice none 0 0)).run Tryz.prog W = .ok (.bool false) W := fun W => by kernel_rfl
 have hneq1 : ∀ (a : Addr) (n c : Nat) (W : World), (binOp .neq 172 (.slice (some a) n c) (.slice none 0 0)).run Tryz.prog W = .ok (.bool true) W := fun a n c W => by kernel_rfl
 have hel := escN_le s.data.toList
 have hle0 : s.data.toList.length = s.size := by simp
 rw [hle0] at hel
 clear hle0
 clear h
 go_enter Tryz.func224, Tryz.ntmps224
 by_cases hbig : 24 <= s.size
 ·have kb : decide ((24 : Int) <= (s.size : Int)) = true := by simp; omega
  go_wp2_with fail
  clear kb hbig
  go_loopw [5, 6, 32] (fun n b i wr => ∃ j m : Nat, j <= 3 /\ i = (.int .i64 j) /\ n = (.int .i64 (((s.size + totAt s.data.toList j : Nat) : Int))) /\ b = .bool (decide (0 < totAt s.data.toList j)) /\ wr = w.drewN m) (fun _ _ i _ => 3 - (intOf i).toNat)
  case atStart => exact ⟨0, 0, by omega, rfl, by simp [totAt], by simp [totAt], rfl⟩
  case round =>
   obtain ⟨j, m, hj, rfl, rfl, rfl, rfl⟩ := hrel
   have htl := totAt_le s.data.toList j
   rcases (by omega : j = 0 \/ j = 1 \/ j = 2 \/ j = 3) with rfl | rfl | rfl | rfl
   ·have HC := Lib.hid (fun W : World => count_any s 10 W)
    have hst := totAt_step s.data.toList 0 (by omega)
    have hst2 : totAt s.data.toList 1 = totAt s.data.toList 0 + s.data.toList.count 10 := hst
    have htl2 := totAt_le s.data.toList 1
    have hx : ((ByteArray.mk #[10])[0]'(by decide)).toNat = 10 := rfl
    clear hst
    have HS2 := Lib.hid hst2
    generalize totAt s.data.toList 0 = t at hst2 htl HS2 ⊢
    generalize s.data.toList.count 10 = c at HC hst2 HS2
    by_cases hc : c = 0
    ·subst hc
     go_wp2_with (go_at_call 226; refine (HC.out _).mono ?_; rintro e w' ⟨rfl, rfl⟩)
     go_roundw
     case rel => exact ⟨1, m, by omega, by first | rfl | go_num, v_int (by have := HS2.out; omega), by rw [HS2.out, Nat.add_zero], rfl⟩
     case measure => simp [intOf]
    ·have kc : ((c : Int) != 0) = true := by simp; omega
     have kw : IntKind.i64.wrap ((c : Int) * 1) = c := by rw [Int.mul_one]; exact IntWalk.i64_in _ (by omega)
     clear hc
     go_wp2_with (go_at_call 226; refine (HC.out _).mono ?_; rintro e w' ⟨rfl, rfl⟩)
     go_quiet (fail)
     go_wp2_with fail
     go_roundw
     case rel => exact ⟨1, _, by omega, by first | rfl | go_num, v_int (by have := HS2.out; omega), v_bool (by have := HS2.out; simp; simp at kc; omega), rfl⟩
     case measure => simp [intOf]
   ·have HC := Lib.hid (fun W : World => count_any s 92 W)
    have hst := totAt_step s.data.toList 1 (by omega)
    have hst2 : totAt s.data.toList 2 = totAt s.data.toList 1 + s.data.toList.count 92 := hst
    have htl2 := totAt_le s.data.toList 2
    have hx : ((ByteArray.mk #[92])[0]'(by decide)).toNat = 92 := rfl
    clear hst
    have HS2 := Lib.hid hst2
    generalize totAt s.data.toList 1 = t at hst2 htl HS2 ⊢
    generalize s.data.toList.count 92 = c at HC hst2 HS2
    by_cases hc : c = 0
    ·subst hc
     go_wp2_with (go_at_call 226; refine (HC.out _).mono ?_; rintro e w' ⟨rfl, rfl⟩)
     go_roundw
     case rel => exact ⟨2, m, by omega, by first | rfl | go_num, v_int (by have := HS2.out; omega), by rw [HS2.out, Nat.add_zero], rfl⟩
     case measure => simp [intOf]
    ·have kc : ((c : Int) != 0) = true := by simp; omega
     have kw : IntKind.i64.wrap ((c : Int) * 1) = c := by rw [Int.mul_one]; exact IntWalk.i64_in _ (by omega)
     clear hc
     go_wp2_with (go_at_call 226; refine (HC.out _).mono ?_; rintro e w' ⟨rfl, rfl⟩)
     go_quiet (fail)
     go_wp2_with fail
     go_roundw
     case rel => exact ⟨2, _, by omega, by first | rfl | go_num, v_int (by have := HS2.out; omega), v_bool (by have := HS2.out; simp; simp at kc; omega), rfl⟩
     case measure => simp [intOf]
   ·have HC := Lib.hid (fun W : World => count_any s 34 W)
    have hst := totAt_step s.data.toList 2 (by omega)
    have hst2 : totAt s.data.toList 3 = totAt s.data.toList 2 + s.data.toList.count 34 := hst
    have htl2 := totAt_le s.data.toList 3
    have hx : ((ByteArray.mk #[34])[0]'(by decide)).toNat = 34 := rfl
    clear hst
    have HS2 := Lib.hid hst2
    generalize totAt s.data.toList 2 = t at hst2 htl HS2 ⊢
    generalize s.data.toList.count 34 = c at HC hst2 HS2
    by_cases hc : c = 0
    ·subst hc
     go_wp2_with (go_at_call 226; refine (HC.out _).mono ?_; rintro e w' ⟨rfl, rfl⟩)
     go_roundw
     case rel => exact ⟨3, m, by omega, by first | rfl | go_num, v_int (by have := HS2.out; omega), by rw [HS2.out, Nat.add_zero], rfl⟩
     case measure => simp [intOf]
    ·have kc : ((c : Int) != 0) = true := by simp; omega
     have kw : IntKind.i64.wrap ((c : Int) * 1) = c := by rw [Int.mul_one]; exact IntWalk.i64_in _ (by omega)
     clear hc
     go_wp2_with (go_at_call 226; refine (HC.out _).mono ?_; rintro e w' ⟨rfl, rfl⟩)
     go_quiet (fail)
     go_wp2_with fail
     go_roundw
     case rel => exact ⟨3, _, by omega, by first | rfl | go_num, v_int (by have := HS2.out; omega), v_bool (by have := HS2.out; simp; simp at kc; omega), rfl⟩
     case measure => simp [intOf]
   ·rw [totAt_end] at htl ⊢
    rw [show ((3 : Nat) : Int) = 3 from rfl]
    by_cases hE : 0 < escN s.data.toList
    ·have kE : decide (0 < escN s.data.toList) = true := by simpa using hE
     have HLen := Lib.hid (escL_len s.data.toList)
     obtain ⟨N, hN⟩ : ∃ N, s.size + escN s.data.toList = N := ⟨_, rfl⟩
     have HN : Hid ((escL s.data.toList).length = N) := by show _ = _; rw [HLen.out, <- hN]; simp
     have hN2 : N <= 200000 := by omega
     have hmake := run_make_row 172 5 i0 (.int .u8 0) Tryz.underlying172 hif hz0 hz1 rfl .i64 .i64 N (by rw [hz2]; omega) (by omega) (w.drewN m)
     rw [hN, kE]
     clear hE kE hN HLen
     go_wp2_with fail
     obtain ⟨w3, hw3⟩ : ∃ w3, w3 = (w.drewN m).alloc (.cells (madeCells #[.int .u8 0] N) 5) := ⟨_, rfl⟩
     have HB0 : Hid (BufAt w3 w.heap.size N [] w3) := by
      rw [hw3]
      exact ⟨⟨_, heap_alloc_new _ _, by rw [size_madeCells], fun k b hk => by simp at hk⟩, by simp, Turned.refl _ _⟩
     have HT3 : Hid (Turned (fun i => w.heap.size <= i) w w3) := by rw [hw3]; exact (drewN_turned _ w m).alloc _
     have hs4 : w3.heap.size = w.heap.size + 1 := by rw [hw3]; simp
     have hs3 : w.heap.size < w3.heap.size := by omega
     rw [<- hw3]
     clear hw3 hmake
     go_loopw [13, 14] (fun j u wr => ∃ i : Nat, i <= s.size /\ u = (.int .i64 i) /\ j = (.int .i64 (((escL (s.data.toList.take i)).length : Nat))) /\ Hid (BufAt w3 w.heap.size N (escL (s.data.toList.take i)) wr)) (fun _ u _ => s.size - (intOf u).toNat)
     case atStart => exact ⟨0, by omega, rfl, rfl, HB0⟩
     case round =>
      clear HB0
      obtain ⟨i, hi, rfl, rfl, HW⟩ := hrel
      have HTr : Hid (∀ p : Addr, p.block < w.heap.size -> wr.cell? p = w.cell? p) := fun p hp => by
       rw [HW.out.tur.cell (by omega) (by omega), HT3.out.cell hp (by omega)]
      by_cases hlt : i < s.size
      ·have hst := escL_snoc (s.data.toList.take i) s[i]
       rw [<- take_step s i hlt] at hst
       have hlen := esc_part s.data.toList (i + 1)
       rw [HN.out] at hlen
       have hb1 : s[i].toNat < 256 := s[i].toNat_lt
       have hb2 : (s[i].toNat : Int) < 256 := by omega
       rcases HTab.out s[i] with ⟨he, -, hc⟩ | ⟨x, q, cap, he, hc, hq0, hq1, hq2⟩
       ·rw [he] at hst
        have hcr := (HTr.out ⟨R, s[i].toNat, none⟩ hRlt).trans hc
        have hlt2 : (escL (s.data.toList.take i)).length < N := by rw [hst] at hlen; simp at hlen; omega
        obtain ⟨hs1, hf1⟩ := HW.out.cell _ hlt2
        obtain ⟨x0, hx0⟩ := Option.isSome_iff_exists.1 hs1
        have HE := Lib.hid (HW.out.one s[i] hlt2)
        rw [<- hst] at HE
        have HST := Lib.hid hst
        clear hst he hc hs1 hlen
        go_wp2_with fail
        go_roundw
        case rel => exact ⟨i + 1, by omega, by go_num, v_int (by rw [HST.out]; simp), HE⟩
        case measure => simp [intOf]; omega
       ·rw [he] at hst
        have hcr := (HTr.out ⟨R, s[i].toNat, none⟩ hRlt).trans hc
        have hlt2 : (escL (s.data.toList.take i)).length + 1 < N := by rw [hst] at hlen; simp at hlen; omega
        have HST := Lib.hid hst
        clear hst he hc hlen
        go_wp2_with fail
        obtain ⟨cur, hg1, hg2, -⟩ := HW.out.row
        have HCS : Hid ((2 : Nat) = Nat.min 2 (N - (escL (s.data.toList.take i)).length)) := by show _ = _; simp [Nat.min_def]; omega
        have hlt3 : (((escL (s.data.toList.take i)).length : Nat) : Int) <= N := by omega
        have hlt5 : (0 : Int) <= ((escL (s.data.toList.take i)).length : Nat) := by omega
        have hNe : ¬ N = (escL (s.data.toList.take i)).length := by omega
        have hq0r := (HTr.out ⟨q, 0, none⟩ hq2).trans hq0
        have hq1r := (HTr.out ⟨q, 1, none⟩ hq2).trans hq1
        have HG1 : Hid (wr.drew.heap[w.heap.size]? = some (.cells cur.toList.toArray 5 (0, 0))) := by show _ = _; rw [Array.toArray_toList]; exact hg1
        have HQ0 := Lib.hid hq0r
        have HQ1 := Lib.hid hq1r
        have HE := Lib.hid (fun w4 => HW.out.two (w4 := w4) 92 x hs4 hg1 hlt2)
        clear hg1 hq0 hq1 hq0r hq1r
        go_region_law (refine step_copy_splice rfl (.tmp 105) (.tmp 111) 172 172 rfl 5 Tryz.underlying172 u8_size (some ⟨w.heap.size, (escL (s.data.toList.take i)).length, none⟩) (some ⟨q, 0, none⟩) (N - (escL (s.data.toList.take i)).length) (N - (escL (s.data.toList.take i)).length) 2 cap rfl rfl w.heap.size (escL (s.data.toList.take i)).length cur.toList 5 HG1.out [.int .u8 92, encB x] HCS.out (fun _ => ⟨rfl, _, rfl, two_src HQ0.out HQ1.out⟩) (by simp; omega) (by simp [Value.oneCell', encB]) w.heap.size wr ((Below.refl _ _).drew) (Nat.le_refl _) ?_; intro w4 hg4 hb4)
        go_wp2_with fail
        go_roundw
        case rel => exact ⟨i + 1, by omega, by go_num, v_int (by rw [HST.out]; simp), by rw [HST.out]; exact HE.out w4 hg4.out hb4⟩
        case measure => simp [intOf]; omega
      ·obtain rfl : i = s.size := by omega
       rw [take_all, HN.out]
       rw [take_all] at HW
       have hcv := HW.out.conv HN.out
       go_wp2_with fail
       go_ret
       exact ⟨rfl, (HT3.out.trans (HW.out.tur.mono fun i hi => by omega)).strip⟩
    ·have kE : decide (0 < escN s.data.toList) = false := by simpa using hE
     have HF : Hid (escL s.data.toList = s.data.toList) := escL_same _ (by omega)
     rw [kE]
     clear hE kE
     go_wp2_with fail
     go_ret
     rw [HF.out]
     exact ⟨rfl, drewN_turned _ _ _⟩
 ·have kb : decide ((24 : Int) <= (s.size : Int)) = false := by simp; omega
  go_wp2_with fail
  clear kb hbig
  go_loop [5, 6, 10] (fun n b i => ∃ j : Nat, j <= s.size /\ i = (.int .i64 j) /\ n = (.int .i64 (((s.size + escN (s.data.toList.take j) : Nat) : Int))) /\ b = .bool (decide (0 < escN (s.data.toList.take j)))) (fun _ _ i => s.size - (intOf i).toNat)
  case atStart => exact ⟨0, by omega, rfl, by simp [escN], by simp [escN]⟩
  case round =>
   obtain ⟨j, hj, rfl, rfl, rfl⟩ := hrel
   by_cases hlt : j < s.size
   ·have hst := escN_snoc (s.data.toList.take j) s[j]
    rw [<- take_step s j hlt] at hst
    have htl := escN_le (s.data.toList.take j)
    rw [List.length_take] at htl
    have HS2 := Lib.hid hst
    have hb1 : s[j].toNat < 256 := s[j].toNat_lt
    have hb2 : (s[j].toNat : Int) < 256 := by omega
    rcases HTab.out s[j] with ⟨-, he, hc⟩ | ⟨x, q, cap, he, hc, hq0, hq1, hq2⟩
    ·have HS3 : Hid (escN (s.data.toList.take (j + 1)) = escN (s.data.toList.take j)) := by show _ = _; rw [hst, he]; rfl
     clear hst HS2 he
     generalize escN (s.data.toList.take j) = t at htl HS3 ⊢
     go_wp2_with fail
     go_round
     case rel => exact ⟨j + 1, by omega, by go_num, v_int (by have := HS3.out; omega), by rw [HS3.out]⟩
     case measure => simp [intOf]; omega
    ·have HS3 : Hid (escN (s.data.toList.take (j + 1)) = escN (s.data.toList.take j) + 1) := by show _ = _; rw [hst, he]; rfl
     clear hst HS2 he
     generalize escN (s.data.toList.take j) = t at htl HS3 ⊢
     go_wp2_with fail
     go_round
     case rel => exact ⟨j + 1, by omega, by go_num, v_int (by have := HS3.out; omega), v_bool (by rw [HS3.out]; simp)⟩
     case measure => simp [intOf]; omega
   ·obtain rfl : j = s.size := by omega
    rw [take_all]
    by_cases hE : 0 < escN s.data.toList
    ·have kE : decide (0 < escN s.data.toList) = true := by simpa using hE
     have HLen := Lib.hid (escL_len s.data.toList)
     obtain ⟨N, hN⟩ : ∃ N, s.size + escN s.data.toList = N := ⟨_, rfl⟩
     have HN : Hid ((escL s.data.toList).length = N) := by show _ = _; rw [HLen.out, <- hN]; simp
     have hN2 : N <= 200000 := by omega
     have hmake := run_make_row 172 5 i0 (.int .u8 0) Tryz.underlying172 hif hz0 hz1 rfl .i64 .i64 N (by rw [hz2]; omega) (by omega) w
     rw [hN, kE]
     clear hE kE hN HLen
     go_wp2_with fail
     obtain ⟨w3, hw3⟩ : ∃ w3, w3 = w.alloc (.cells (madeCells #[.int .u8 0] N) 5) := ⟨_, rfl⟩
     have HB0 : Hid (BufAt w3 w.heap.size N [] w3) := by
      rw [hw3]
      exact ⟨⟨_, heap_alloc_new _ _, by rw [size_madeCells], fun k b hk => by simp at hk⟩, by simp, Turned.refl _ _⟩
     have HT3 : Hid (Turned (fun i => w.heap.size <= i) w w3) := by rw [hw3]; exact (Turned.refl _ w).alloc _
     have hs4 : w3.heap.size = w.heap.size + 1 := by rw [hw3]; simp
     have hs3 : w.heap.size < w3.heap.size := by omega
     rw [<- hw3]
     clear hw3 hmake
     go_loopw [13, 14] (fun j u wr => ∃ i : Nat, i <= s.size /\ u = (.int .i64 i) /\ j = (.int .i64 (((escL (s.data.toList.take i)).length : Nat))) /\ Hid (BufAt w3 w.heap.size N (escL (s.data.toList.take i)) wr)) (fun _ u _ => s.size - (intOf u).toNat)
     case atStart => exact ⟨0, by omega, rfl, rfl, HB0⟩
     case round =>
      clear HB0
      obtain ⟨i, hi, rfl, rfl, HW⟩ := hrel
      have HTr : Hid (∀ p : Addr, p.block < w.heap.size -> wr.cell? p = w.cell? p) := fun p hp => by
       rw [HW.out.tur.cell (by omega) (by omega), HT3.out.cell hp (by omega)]
      by_cases hlt : i < s.size
      ·have hst := escL_snoc (s.data.toList.take i) s[i]
       rw [<- take_step s i hlt] at hst
       have hlen := esc_part s.data.toList (i + 1)
       rw [HN.out] at hlen
       have hb1 : s[i].toNat < 256 := s[i].toNat_lt
       have hb2 : (s[i].toNat : Int) < 256 := by omega
       rcases HTab.out s[i] with ⟨he, -, hc⟩ | ⟨x, q, cap, he, hc, hq0, hq1, hq2⟩
       ·rw [he] at hst
        have hcr := (HTr.out ⟨R, s[i].toNat, none⟩ hRlt).trans hc
        have hlt2 : (escL (s.data.toList.take i)).length < N := by rw [hst] at hlen; simp at hlen; omega
        obtain ⟨hs1, hf1⟩ := HW.out.cell _ hlt2
        obtain ⟨x0, hx0⟩ := Option.isSome_iff_exists.1 hs1
        have HE := Lib.hid (HW.out.one s[i] hlt2)
        rw [<- hst] at HE
        have HST := Lib.hid hst
        clear hst he hc hs1 hlen
        go_wp2_with fail
        go_roundw
        case rel => exact ⟨i + 1, by omega, by go_num, v_int (by rw [HST.out]; simp), HE⟩
        case measure => simp [intOf]; omega
       ·rw [he] at hst
        have hcr := (HTr.out ⟨R, s[i].toNat, none⟩ hRlt).trans hc
        have hlt2 : (escL (s.data.toList.take i)).length + 1 < N := by rw [hst] at hlen; simp at hlen; omega
        have HST := Lib.hid hst
        clear hst he hc hlen
        go_wp2_with fail
        obtain ⟨cur, hg1, hg2, -⟩ := HW.out.row
        have HCS : Hid ((2 : Nat) = Nat.min 2 (N - (escL (s.data.toList.take i)).length)) := by show _ = _; simp [Nat.min_def]; omega
        have hlt3 : (((escL (s.data.toList.take i)).length : Nat) : Int) <= N := by omega
        have hlt5 : (0 : Int) <= ((escL (s.data.toList.take i)).length : Nat) := by omega
        have hNe : ¬ N = (escL (s.data.toList.take i)).length := by omega
        have hq0r := (HTr.out ⟨q, 0, none⟩ hq2).trans hq0
        have hq1r := (HTr.out ⟨q, 1, none⟩ hq2).trans hq1
        have HG1 : Hid (wr.drew.heap[w.heap.size]? = some (.cells cur.toList.toArray 5 (0, 0))) := by show _ = _; rw [Array.toArray_toList]; exact hg1
        have HQ0 := Lib.hid hq0r
        have HQ1 := Lib.hid hq1r
        have HE := Lib.hid (fun w4 => HW.out.two (w4 := w4) 92 x hs4 hg1 hlt2)
        clear hg1 hq0 hq1 hq0r hq1r
        go_region_law (refine step_copy_splice rfl (.tmp 105) (.tmp 111) 172 172 rfl 5 Tryz.underlying172 u8_size (some ⟨w.heap.size, (escL (s.data.toList.take i)).length, none⟩) (some ⟨q, 0, none⟩) (N - (escL (s.data.toList.take i)).length) (N - (escL (s.data.toList.take i)).length) 2 cap rfl rfl w.heap.size (escL (s.data.toList.take i)).length cur.toList 5 HG1.out [.int .u8 92, encB x] HCS.out (fun _ => ⟨rfl, _, rfl, two_src HQ0.out HQ1.out⟩) (by simp; omega) (by simp [Value.oneCell', encB]) w.heap.size wr ((Below.refl _ _).drew) (Nat.le_refl _) ?_; intro w4 hg4 hb4)
        go_wp2_with fail
        go_roundw
        case rel => exact ⟨i + 1, by omega, by go_num, v_int (by rw [HST.out]; simp), by rw [HST.out]; exact HE.out w4 hg4.out hb4⟩
        case measure => simp [intOf]; omega
      ·obtain rfl : i = s.size := by omega
       rw [take_all, HN.out]
       rw [take_all] at HW
       have hcv := HW.out.conv HN.out
       go_wp2_with fail
       go_ret
       exact ⟨rfl, (HT3.out.trans (HW.out.tur.mono fun i hi => by omega)).strip⟩
    ·have kE : decide (0 < escN s.data.toList) = false := by simpa using hE
     have HF : Hid (escL s.data.toList = s.data.toList) := escL_same _ (by omega)
     rw [kE]
     clear hE kE
     go_wp2_with fail
     go_ret
     rw [HF.out]
     exact ⟨rfl, Turned.refl _ _⟩
theorem replace_any (B : Nat) (s : ByteArray) (w : World) (hF : Fresh w B) (hs : s.size <= 100000) :
  Calls Tryz.prog 72 #[.pointer (some ⟨B, 0, none⟩), .string s] w fun e w' => e = .returned (.string ⟨(escL s.data.toList).toArray⟩) /\ Turned (fun i => i = B) w w' := by
 obtain ⟨g, cap, h5, hg, hgB, h6⟩ := hF
 obtain ⟨c0, c1, c2, c3, c4, cf⟩ := five_cells h5
 have hmf : ∀ (fn : Fn) (first cap : Array Value) (w : World), (Instr.makeFunc fn first cap).run Tryz.prog w = .ok (.func fn first cap) w := fun _ _ _ _ => rfl
 have hme : ∀ (p : Value) (W : World), (method 330 215 p "Replace").run Tryz.prog W = .ok (224, p) W := fun _ _ => by kernel_rfl
 have h5' := (set_at (x := .int .i32 1) h5).2.1
 have hT1 : Turned (fun i => i = B) w (w.setCell ⟨B, 1, none⟩ (.int .i32 1)) := (Turned.refl (fun i => i = B) _).setCell (p := ⟨B, 1, none⟩) rfl _
 have h6' : SixAt (w.setCell ⟨B, 1, none⟩ (.int .i32 1)) g := h6.turned hT1 hg hgB
 have hsz : (w.setCell ⟨B, 1, none⟩ (.int .i32 1)).heap.size = w.heap.size := by simp [World.setCell]
 have HO := Lib.hid (once_any B g cap _ h5' h6' (by rw [hsz]; exact hg))
 have HD := Lib.hid (do_first B (.pointer (some ⟨B, 0, none⟩)) w (Built (w.setCell ⟨B, 1, none⟩ (.int .i32 1)) B ((w.setCell ⟨B, 1, none⟩ (.int .i32 1)).heap.size + 1)) c0 c1 (cf 1) HO.out)
 have HT1 := Lib.hid hT1
 have hB := getElem?_lt h5
 clear HO h6' h5' hT1 h6 c0 c1 c2 c3 c4 cf h5
 go_enter Tryz.func72, Tryz.ntmps72
 go_wp2_with fail
 refine HD.out.mono ?_
 rintro e W2 ⟨rfl, w1, ⟨arr, v, c, hBT, h7, hT⟩, rfl⟩
 rw [hsz] at hT hBT h7
 have e1 := (set_at (x := .int .u32 1) (show w1.drew.heap[B]? = _ from h7)).1
 have e2 := (set_at (x := .int .i32 0) e1).2.1
 have hBT2 := ((hBT.drew).other (show w1.drew.heap[B]? = _ from h7) 0 (.int .u32 1)).other e1 1 (.int .i32 0)
 have hT2 : Turned (fun i => i = B) w ((w1.drew.setCell ⟨B, 0, none⟩ (.int .u32 1)).setCell ⟨B, 1, none⟩ (.int .i32 0)) := by
  have t1 : Turned (fun i => i = B \/ w.heap.size <= i) w w1.drew := (HT1.out.mono fun _ h => .inl h).trans (hT.trans (drewN_turned _ w1 1))
  have t2 := (t1.setCell (p := ⟨B, 0, none⟩) (.inl rfl) (.int .u32 1)).setCell (p := ⟨B, 1, none⟩) (.inl rfl) (.int .i32 0)
  exact ⟨t2.os, t2.tape, t2.output, t2.size, fun k hk hne => t2.block k hk (fun h => h.elim hne (by omega))⟩
 generalize (w1.drew.setCell ⟨B, 0, none⟩ (.int .u32 1)).setCell ⟨B, 1, none⟩ (.int .i32 0) = W2 at e2 hBT2 hT2 ⊢
 obtain ⟨d0, d1, d2, d3, d4, df⟩ := five_cells e2
 have HR := Lib.hid (bsr_any _ _ s arr v W2 hBT2 hs)
 have HT2 := Lib.hid hT2
 clear hBT hBT2 h7 hT e1 e2 hT2
 go_wp2_with fail
 refine HR.out.mono ?_
 rintro e w5 ⟨rfl, ht⟩
 have HT5 := Lib.hid ht
 clear ht
 go_wp2_with fail
 go_ret
 exact ⟨rfl, HT2.out.trans (HT5.out.mono fun _ h => h.elim)⟩
def quotedB (s : ByteArray) : ByteArray := ⟨#[34]⟩ ++ ⟨(escL s.data.toList).toArray⟩ ++ ⟨#[34]⟩
def wordQ (t : Tok) : List ByteArray := if t.kind = 1 \/ t.kind = 4 then [t.s] else if t.kind = 2 then [⟨(Lib.itoa t.n).toArray⟩] else if t.kind = 3 then [quotedB t.s] else []
def wordsQ (ts : List Tok) : List ByteArray := ts.flatMap wordQ
def textQ (ts : List Tok) : ByteArray := ⟨(Lib.join ((wordsQ ts).map (·.data.toList)) [32]).toArray⟩
theorem wordsQ_step (ts : List Tok) (j : Nat) (t : Tok) (h : ts[j]? = some t) : wordsQ (ts.take (j + 1)) = wordsQ (ts.take j) ++ wordQ t := by
 have hlt : j < ts.length := (List.getElem?_eq_some_iff.1 h).1
 rw [List.take_succ_eq_append_getElem hlt]
 rw [List.getElem?_eq_getElem hlt] at h
 simp at h
 simp [wordsQ, h]
theorem wordsQ_len (ts : List Tok) : (wordsQ ts).length <= ts.length := by
 induction ts with
 | nil => exact Nat.le_refl _
 | cons t ts ih =>
  have : (wordQ t).length <= 1 := by unfold wordQ; split <;> (try split) <;> (try split) <;> simp
  simp [wordsQ] at ih ⊢
  omega
theorem six_alloc (w : World) (t : TypeId) : SixAt (w.alloc (.cells #[.string ⟨#[34]⟩, .string ⟨#[92, 34]⟩, .string ⟨#[92]⟩, .string ⟨#[92, 92]⟩, .string ⟨#[10]⟩, .string ⟨#[92, 110]⟩] t)) w.heap.size := fun j y hj => by
 rw [row_cell' (heap_alloc_new w _)]
 have : (sixV.toArray)[j]? = some y := by simpa using hj
 exact this
theorem print_all (b o c : Nat) (ts : List Tok) (w : World) (m : Nat) (hT : ToksAt w b o ts) (hl : ts.length <= 100000) (hk : ∀ t ∈ ts, -9223372036854775808 <= t.n /\ t.n <= 9223372036854775807 /\ t.s.size <= 100000)
  (hP : VarAt m w "internal/strconv.uint64pow10" (Lib.pow10Tab.map fun z => Value.int .u64 z).toArray) (hj : (Lib.join ((wordsQ ts).map (·.data.toList)) [32]).length <= 140737488355328) :
  Calls Tryz.prog 40 #[.slice (some ⟨b, o, none⟩) ts.length c] w fun e w' => e = .returned (.string (textQ ts)) /\ Turned (fun _ => False) w w' := by
 obtain ⟨i0, hif, hz0, hz1, hz2⟩ := info_parts infoStr
 have HT := Lib.hid hT
 have HK := Lib.hid hk
 have HP := Lib.hid hP
 have H0 : Hid (XS w (wordsQ (ts.take 0)) (.slice none 0 0) w) := ⟨⟨rfl, .inl ⟨rfl, rfl⟩⟩, Turned.refl _ _⟩
 clear hT hk hP
 go_enter Tryz.func40, Tryz.ntmps40
 go_wp2_with fail
 go_loopw [3, 8] (fun v i wr => ∃ j : Nat, j <= ts.length /\ i = (.int .i64 j) /\ Hid (XS w (wordsQ (ts.take j)) v wr)) (fun _ i _ => ts.length - (intOf i).toNat)
 case atStart => exact ⟨0, by omega, rfl, H0⟩
 case round =>
  clear H0
  obtain ⟨j, hle, rfl, HS⟩ := hrel
  have hwl := wordsQ_len (ts.take j)
  rw [List.length_take] at hwl
  by_cases hlt : j < ts.length
  ·obtain ⟨x, hx⟩ : ∃ x, ts[j]? = some x := ⟨ts[j], List.getElem?_eq_getElem hlt⟩
   have HW := Lib.hid (wordsQ_step ts j x hx)
   obtain ⟨d0, d1, d2, d3⟩ := (HT.out.turned HS.out.tur.strip).2 j x hx
   have hxm := HK.out x (List.mem_of_getElem? hx)
   obtain ⟨kind, at_, s, n⟩ := x
   simp only at d0 d1 d2 d3 hxm
   obtain ⟨hn0, hn1, hsz⟩ := hxm
   obtain ⟨va, vc, rfl⟩ := owns_shape HS.out.own
   by_cases k1 : kind = 1
   ·subst k1
    have HW2 : Hid (wordsQ (ts.take (j + 1)) = wordsQ (ts.take j) ++ [s]) := by show _ = _; rw [HW.out]; congr 1
    clear hx
    go_wp2_with (at_builtin; refine wpList_append_own _ rfl _ _ 42 rfl w.heap.size 9 i0 (.string ⟨#[]⟩) 1 16 Tryz.underlying42 hif hz0 hz1 hz2 rfl (by decide) _ _ _ rfl (HS.out.ownT (((Turned.refl _ _).alloc _).alloc _)) ⟨wr.heap.size + 1, 0, none⟩ 1 1 [.string s] rfl rfl (cell_one_at (by simp)) (by intro u hu; simp at hu; subst hu; rfl) (by unfold maxLen; omega) (by omega) (by have := HS.out.tur.size; simp; omega) ?_; intro v' w4 hown' hgrow hnil; have HE := Lib.hid (HS.out.push (((Turned.refl _ _).alloc _).alloc _) s hown' hgrow); clear hown' hgrow hnil)
    go_roundw
    case rel => exact ⟨j + 1, by omega, by go_num, by rw [HW2.out]; exact HE⟩
    case measure => simp [intOf]; omega
   by_cases k4 : kind = 4
   ·subst k4
    have HW2 : Hid (wordsQ (ts.take (j + 1)) = wordsQ (ts.take j) ++ [s]) := by show _ = _; rw [HW.out]; congr 1
    clear hx
    go_wp2_with (at_builtin; refine wpList_append_own _ rfl _ _ 42 rfl w.heap.size 9 i0 (.string ⟨#[]⟩) 1 16 Tryz.underlying42 hif hz0 hz1 hz2 rfl (by decide) _ _ _ rfl (HS.out.ownT (((Turned.refl _ _).alloc _).alloc _)) ⟨wr.heap.size + 1, 0, none⟩ 1 1 [.string s] rfl rfl (cell_one_at (by simp)) (by intro u hu; simp at hu; subst hu; rfl) (by unfold maxLen; omega) (by omega) (by have := HS.out.tur.size; simp; omega) ?_; intro v' w4 hown' hgrow hnil; have HE := Lib.hid (HS.out.push (((Turned.refl _ _).alloc _).alloc _) s hown' hgrow); clear hown' hgrow hnil)
    go_roundw
    case rel => exact ⟨j + 1, by omega, by go_num, by rw [HW2.out]; exact HE⟩
    case measure => simp [intOf]; omega
   by_cases k2 : kind = 2
   ·subst k2
    have HW2 : Hid (wordsQ (ts.take (j + 1)) = wordsQ (ts.take j) ++ [⟨(Lib.itoa n).toArray⟩]) := by show _ = _; rw [HW.out]; congr 1
    have HI : Hid (Calls Tryz.prog 70 #[.int .i64 n] (wr.alloc (.cells #[.int .i64 2, .int .i64 at_, .string s, .int .i64 n] 68)) fun e w' => e = .returned (.string ⟨(Lib.itoa n).toArray⟩) /\ Turned (fun _ => False) (wr.alloc (.cells #[.int .i64 2, .int .i64 at_, .string s, .int .i64 n] 68)) w') :=
     itoa_any n hn0 hn1 _ (HP.out.turned (HS.out.tur.strip.alloc _) fun _ _ => id).1
    clear hx
    go_wp2_with (first | (go_at_call 70; refine HI.out.mono ?_; intro e w7 hh; have hI := hh.2; obtain rfl := hh.1; clear hh) | (at_builtin; refine wpList_append_own _ rfl _ _ 42 rfl w.heap.size 9 i0 (.string ⟨#[]⟩) 1 16 Tryz.underlying42 hif hz0 hz1 hz2 rfl (by decide) _ _ _ rfl (HS.out.ownT ((((Turned.refl _ _).alloc _).trans hI).alloc _)) ⟨w7.heap.size, 0, none⟩ 1 1 [.string ⟨(Lib.itoa n).toArray⟩] rfl rfl (cell_one_new _ _ _) (by intro u hu; simp at hu; subst hu; rfl) (by unfold maxLen; omega) (by omega) (by have q1 := HS.out.tur.size; have q2 := hI.size; simp at q2 ⊢; omega) ?_; intro v' w4 hown' hgrow hnil; have HE := Lib.hid (HS.out.push ((((Turned.refl _ _).alloc _).trans hI).alloc _) ⟨(Lib.itoa n).toArray⟩ hown' hgrow); clear hown' hgrow hnil))
    go_roundw
    case rel => exact ⟨j + 1, by omega, by go_num, by rw [HW2.out]; exact HE⟩
    case measure => simp [intOf]; omega
   by_cases k3 : kind = 3
   ·subst k3
    have HW2 : Hid (wordsQ (ts.take (j + 1)) = wordsQ (ts.take j) ++ [quotedB s]) := by show _ = _; rw [HW.out]; congr 1
    have hpb : (ByteArray.mk (escL s.data.toList).toArray).size <= 200000 := by
     have h1 := escL_len s.data.toList
     have h2 := escN_le s.data.toList
     have h3 : s.data.toList.length = s.size := by simp
     show (escL s.data.toList).length <= 200000
     omega
    have HQ : Hid (quotedB s = ⟨#[34]⟩ ++ ⟨(escL s.data.toList).toArray⟩ ++ ⟨#[34]⟩) := rfl
    clear hx
    go_wp2_with fail
    refine region_R (R := fun j V => j < 10 -> (fun V => V.cell? ⟨wr.heap.size, 2, none⟩ = some (.string s)) V) (by kernel_rfl) ?_
    have HS0 : Hid (((wr.alloc (.cells #[.int .i64 3, .int .i64 at_, .string s, .int .i64 n] 68)).drew).cell? ⟨wr.heap.size, 2, none⟩ = some (.string s)) := by show _ = _; simp
    refine tk (n := 10) 0 (.slice va (wordsQ (ts.take j)).length vc) rfl (.inl ⟨by rfl, ?_⟩) HS0.out ?_
    ·intro V v1
     go_simp
    simp only [zz0, zz1, Act.put, zz3, zz4, zz5]
    refine tk (n := 10) 3 (.pointer (some ⟨wr.heap.size, 2, none⟩)) rfl (.inl ⟨by rfl, ?_⟩) HS0.out ?_
    ·intro V v1
     go_simp
    simp only [zz0, zz1, zz2, Act.put, zz3, zz4, zz5]
    refine tk (n := 10) 4 (.string s) rfl (.inl ⟨by rfl, ?_⟩) HS0.out ?_
    ·intro V v1
     go_simp
    simp only [zz0, zz1, zz2, Act.put, zz3, zz4, zz5]
    refine wpAnyR_all (rs := [1]) (by kernel_rfl) (by simp) (fun i hi2 => ?_)
    obtain rfl : i = 1 := by simpa using hi2
    clear hi2
    refine wpOp_plain rfl rfl ?_
    simp only [zz0, zz1, zz2]
    go_simp
    obtain ⟨W1, hW1⟩ : ∃ W1, W1 = (wr.alloc (.cells #[.int .i64 3, .int .i64 at_, .string s, .int .i64 n] 68)).alloc (.cells #[.string ⟨#[34]⟩, .string ⟨#[92, 34]⟩, .string ⟨#[92]⟩, .string ⟨#[92, 92]⟩, .string ⟨#[10]⟩, .string ⟨#[92, 110]⟩] 9) := ⟨_, rfl⟩
    have HT1 : Hid (Turned (fun _ => False) wr W1.drew) := by rw [hW1]; exact (((Turned.refl _ _).alloc _).alloc _).drew
    have H61 : Hid (SixAt W1.drew (wr.heap.size + 1)) := by
     have h := six_alloc (wr.alloc (.cells #[.int .i64 3, .int .i64 at_, .string s, .int .i64 n] 68)) 9
     rw [show (wr.alloc (.cells #[.int .i64 3, .int .i64 at_, .string s, .int .i64 n] 68)).heap.size = wr.heap.size + 1 by simp] at h
     rw [hW1]
     exact h
    have hS1 : W1.drew.cell? ⟨wr.heap.size, 2, none⟩ = some (.string s) := by rw [hW1]; simp
    have hs1 : wr.heap.size + 1 < W1.drew.heap.size := by rw [hW1]; simp
    rw [<- hW1]
    clear hW1
    generalize W1.drew = W2 at HT1 H61 hS1 hs1 ⊢
    refine wpAnyR_all (rs := [2]) (by kernel_rfl) (by simp) (fun i hi2 => ?_)
    obtain rfl : i = 2 := by simpa using hi2
    clear hi2
    refine wpOp_plain rfl rfl ?_
    simp only [zz0, zz1, zz2]
    go_simp
    refine (new_any _ _ H61.out).mono ?_
    rintro e W3 ⟨B, rfl, HF⟩
    have hS3 : W3.cell? ⟨wr.heap.size, 2, none⟩ = some (.string s) := (HF.out.2.2.cell (p := ⟨wr.heap.size, 2, none⟩) (show wr.heap.size < W2.heap.size by omega) id).trans hS1
    have hB := HF.out.2.1
    go_simp
    refine wpAnyR_all (rs := [5]) (by kernel_rfl) (by simp) (fun i hi2 => ?_)
    obtain rfl : i = 5 := by simpa using hi2
    clear hi2
    refine wpOp_plain rfl rfl ?_
    simp only [zz0, zz1, zz2]
    go_simp
    refine (replace_any B s W3 HF.out.1 hsz).mono ?_
    rintro e W4 ⟨rfl, ht4⟩
    have hs3 := HF.out.2.2.size
    have hS4 : W4.cell? ⟨wr.heap.size, 2, none⟩ = some (.string s) := (ht4.cell (p := ⟨wr.heap.size, 2, none⟩) (show wr.heap.size < W3.heap.size by omega) (show ¬ wr.heap.size = B by omega)).trans hS3
    have HT4 : Hid (Turned (fun _ => False) wr W4) := by
     have t1 : Turned (fun i => wr.heap.size <= i) wr W4 := ((HT1.out.trans HF.out.2.2).mono fun _ h => h.elim).trans (ht4.mono fun i hi => by omega)
     exact t1.strip
    have hs4 := ht4.size
    clear ht4
    generalize ByteArray.mk (escL s.data.toList).toArray = pb at hpb HQ ⊢
    have ad1 : ∀ W : World, (Op.stringOp .add ⟨#[34]⟩ pb).run Tryz.prog W = .ok (.string (⟨#[34]⟩ ++ pb)) W := fun W => run_string_add_sum W ⟨#[34]⟩ pb (by show 1 + pb.size <= _; omega)
    have ad2 : ∀ W : World, (Op.stringOp .add (⟨#[34]⟩ ++ pb) ⟨#[34]⟩).run Tryz.prog W = .ok (.string (⟨#[34]⟩ ++ pb ++ ⟨#[34]⟩)) W := fun W => run_string_add_sum W (⟨#[34]⟩ ++ pb) ⟨#[34]⟩ (by rw [ByteArray.size_append]; show 1 + pb.size + 1 <= _; omega)
    go_simp
    refine wpAnyR_all (rs := [6]) (by kernel_rfl) (by simp) (fun i hi2 => ?_)
    obtain rfl : i = 6 := by simpa using hi2
    clear hi2
    refine wpOp_plain rfl rfl ?_
    simp only [zz0, zz1, zz2]
    go_simp
    refine wpAnyR_all (rs := [7]) (by kernel_rfl) (by simp) (fun i hi2 => ?_)
    obtain rfl : i = 7 := by simpa using hi2
    clear hi2
    refine wpOp_plain rfl rfl ?_
    simp only [zz0, zz1, zz2]
    go_simp
    refine wpAnyR_all (rs := [8]) (by kernel_rfl) (by simp) (fun i hi2 => ?_)
    obtain rfl : i = 8 := by simpa using hi2
    clear hi2
    refine wpOp_plain rfl rfl ?_
    simp only [zz0, zz1, zz2]
    go_simp
    have hlt4 : wr.heap.size < W4.heap.size := by omega
    have hS5 : (W4.alloc (.cells #[.string (⟨#[34]⟩ ++ pb ++ ⟨#[34]⟩)] 9)).cell? ⟨wr.heap.size, 2, none⟩ = some (.string s) := by rw [World.cell?_alloc_past _ _ _ hlt4]; exact hS4
    refine ⟨hS5, ?_⟩
    refine wpAnyR_all (rs := [9]) (by kernel_rfl) (by simp) (fun i hi2 => ?_)
    obtain rfl : i = 9 := by simpa using hi2
    clear hi2
    refine wpOp_append_exact _ rfl rfl _ _ 42 rfl w.heap.size 9 i0 (.string ⟨#[]⟩) 1 16 Tryz.underlying42 hif hz0 hz1 hz2 rfl (by decide) (.slice va (wordsQ (ts.take j)).length vc) _ _ rfl (HS.out.ownT (HT4.out.alloc _)) ⟨W4.heap.size, 0, none⟩ 1 1 [.string (⟨#[34]⟩ ++ pb ++ ⟨#[34]⟩)] rfl rfl (cell_one_new _ _ _) (by intro u hu; simp at hu; subst hu; rfl) (by unfold maxLen; omega) (by omega) (by have q1 := HS.out.tur.size; simp; omega) ?_
    intro v' w4 hown' hgrow hex
    have hS6 : w4.cell? ⟨wr.heap.size, 2, none⟩ = some (.string s) := by
     have e := hgrow.block wr.heap.size (by simp; omega) (fun e => by have := (ownsRow_block HS.out.own _ e.symm).2; omega)
     have : w4.cell? ⟨wr.heap.size, 2, none⟩ = (W4.alloc (.cells #[.string (⟨#[34]⟩ ++ pb ++ ⟨#[34]⟩)] 9)).cell? ⟨wr.heap.size, 2, none⟩ := by simp only [World.cell?, e]
     rw [this]; exact hS5
    have HE := Lib.hid (HS.out.push (HT4.out.alloc _) (⟨#[34]⟩ ++ pb ++ ⟨#[34]⟩) hown' hgrow)
    clear hown' hgrow hex
    refine ⟨fun _ => hS6, ?_⟩
    simp only [zz0, zz1, zz2, Act.put, zz3, zz4, zz5]
    refine wpAnyR_all (rs := [10]) (by kernel_rfl) (by simp) (fun i hi2 => ?_)
    obtain rfl : i = 10 := by simpa using hi2
    clear hi2
    refine wpOp_plain rfl rfl ?_
    simp only [zz0, zz1, zz2]
    go_simp
    refine wpAnyR_done (by kernel_rfl) ?_ _
    go_wp2_with fail
    go_roundw
    case rel => exact ⟨j + 1, by omega, by go_num, by rw [HW2.out, HQ.out]; exact HE⟩
    case measure => simp [intOf]; omega
   ·have HW2 : Hid (wordsQ (ts.take (j + 1)) = wordsQ (ts.take j)) := by
     show _ = _
     rw [HW.out]
     unfold wordQ
     rw [if_neg (by simp [k1, k4]), if_neg (by simpa using k2), if_neg (by simpa using k3), List.append_nil]
    have q1 : (kind == 1) = false := by simpa using k1
    have q2 : (kind == 2) = false := by simpa using k2
    have q3 : (kind == 3) = false := by simpa using k3
    have q4 : (kind == 4) = false := by simpa using k4
    clear hx k1 k2 k3 k4
    go_wp2_with fail
    go_roundw
    case rel => exact ⟨j + 1, by omega, by go_num, by rw [HW2.out]; exact HS.out.stay ((Turned.refl _ _).alloc _)⟩
    case measure => simp [intOf]; omega
  ·obtain rfl : j = ts.length := by omega
   have HJ := Lib.hid (join_any w wr (wordsQ (ts.take ts.length)) u3 HS.out (by omega) (by rw [List.take_length]; exact hj))
   rw [List.take_length] at HJ
   go_wp2_with (go_at_call 73; refine HJ.out.mono ?_; rintro e w7 ⟨rfl, HQ⟩; have HQ := Lib.hid HQ)
   go_ret
   exact ⟨rfl, HQ.out⟩
theorem below_turned {A B : World} (h : Turned (fun _ => False) A B) : Below A.heap.size A B := h.below (Nat.le_refl _) fun _ h => h.elim
theorem dec_len (k : Nat) : ∀ u : Nat, u < 10 ^ (k + 1) -> (Lib.decDigits u).length <= k + 1 := by
 induction k with
 | zero => intro u hu; rw [Lib.decDigits, dif_pos (by omega)]; simp
 | succ k ih =>
  intro u hu
  rw [Lib.decDigits]
  split
  ·simp
  ·have hp : 10 ^ (k + 1 + 1) = 10 ^ (k + 1) * 10 := rfl
   have := ih (u / 10) (by omega)
   simp only [List.length_append, List.length_cons, List.length_nil]
   omega
theorem itoa_len (x : Int) (h0 : -9223372036854775808 <= x) (h1 : x <= 9223372036854775807) : (Lib.itoa x).length <= 20 := by
 unfold Lib.itoa
 split
 ·have := dec_len 18 x.natAbs (by omega)
  simp only [List.length_cons]
  omega
 ·have := dec_len 18 x.toNat (by omega)
  omega
def itoaB (x : Int) : ByteArray := ⟨(Lib.itoa x).toArray⟩
theorem itoaB_len (x : Int) (h0 : -9223372036854775808 <= x) (h1 : x <= 9223372036854775807) : (itoaB x).size <= 20 := itoa_len x h0 h1
def outQ (ws : List ByteArray) : ByteArray := ⟨(Lib.join (ws.map (·.data.toList)) [32]).toArray⟩
theorem textQ_out (ts : List Tok) : textQ ts = outQ (wordsQ ts) := rfl
theorem outQ_one (x : ByteArray) : outQ [x] = x := by
 unfold outQ
 rw [List.map_cons, List.map_nil, Lib.join_one]
theorem join_snoc (a : List UInt8) (l : List (List UInt8)) (x sep : List UInt8) : Lib.join (a :: l ++ [x]) sep = Lib.join (a :: l) sep ++ sep ++ x := by
 rw [List.cons_append, Lib.join_cons, Lib.join_cons]
 unfold Lib.joinTail
 simp
theorem outQ_snoc (ws : List ByteArray) (x : ByteArray) (h : ws ≠ []) : outQ (ws ++ [x]) = outQ ws ++ ⟨#[32]⟩ ++ x := by
 cases ws with
 | nil => exact absurd rfl h
 | cons a l =>
  apply ByteArray.ext
  apply Array.ext'
  unfold outQ
  rw [List.map_append, List.map_cons, List.map_cons, List.map_nil, join_snoc]
  simp
def RQ (ts : List Tok) (j : Nat) (fb : Bool) (out : ByteArray) : Prop := out = outQ (wordsQ (ts.take j)) /\ fb = (wordsQ (ts.take j)).isEmpty
theorem rq_skip {ts : List Tok} {j : Nat} {fb : Bool} {out : ByteArray} {x : Tok} (h : RQ ts j fb out) (hx : ts[j]? = some x) (hw : wordQ x = []) : RQ ts (j + 1) fb out := by
 unfold RQ
 rw [wordsQ_step ts j x hx, hw, List.append_nil]
 exact h
theorem rq_first {ts : List Tok} {j : Nat} {out wd : ByteArray} {x : Tok} (h : RQ ts j true out) (hx : ts[j]? = some x) (hw : wordQ x = [wd]) : RQ ts (j + 1) false (out ++ wd) := by
 have he : wordsQ (ts.take j) = [] := List.isEmpty_iff.1 h.2.symm
 refine ⟨?_, ?_⟩
 ·rw [wordsQ_step ts j x hx, hw, h.1, he, List.nil_append, outQ_one]
  apply ByteArray.ext
  apply Array.ext'
  simp [outQ, Lib.join_nil]
 ·rw [wordsQ_step ts j x hx, hw, he]
  rfl
theorem rq_more {ts : List Tok} {j : Nat} {out wd : ByteArray} {x : Tok} (h : RQ ts j false out) (hx : ts[j]? = some x) (hw : wordQ x = [wd]) : RQ ts (j + 1) false (out ++ ⟨#[32]⟩ ++ wd) := by
 have he : wordsQ (ts.take j) ≠ [] := fun e => by have := h.2; rw [e] at this; cases this
 refine ⟨?_, ?_⟩
 ·rw [wordsQ_step ts j x hx, hw, h.1, outQ_snoc _ _ he]
 ·rw [wordsQ_step ts j x hx, hw]
  cases hl : wordsQ (ts.take j) <;> rfl
theorem wordQ_none {kind at_ n : Int} {s : ByteArray} (k1 : kind ≠ 1) (k4 : kind ≠ 4) (k2 : kind ≠ 2) (k3 : kind ≠ 3) : wordQ ⟨kind, at_, s, n⟩ = [] := by
 unfold wordQ
 rw [if_neg (by simp [k1, k4]), if_neg k2, if_neg k3]
theorem quotedB_len (s : ByteArray) : (quotedB s).size <= 2 * s.size + 2 := by
 have h1 := escL_len s.data.toList
 have h2 := escN_le s.data.toList
 have h3 : s.data.toList.length = s.size := by simp
 unfold quotedB
 simp only [ByteArray.size_append]
 have h4 : (ByteArray.mk (escL s.data.toList).toArray).size = (escL s.data.toList).length := rfl
 have h5 : (ByteArray.mk #[34]).size = 1 := rfl
 omega
theorem byte_add (a b : ByteArray) : (a ++ b).size = a.size + b.size := ByteArray.size_append
theorem byte_add3 (a b c : ByteArray) : (a ++ b ++ c).size = a.size + b.size + c.size := by rw [byte_add, byte_add]
theorem byte_one (b : UInt8) : (ByteArray.mk #[b]).size = 1 := rfl
theorem textQ_len (ts : List Tok) (hk : ∀ t ∈ ts, -9223372036854775808 <= t.n /\ t.n <= 9223372036854775807 /\ t.s.size <= 100000) : (textQ ts).size <= ts.length * 200010 := by
 have key : ∀ j, j <= ts.length -> ∃ fb out, RQ ts j fb out /\ out.size <= j * 200010 := by
  intro j
  induction j with
  | zero => intro _; exact ⟨true, ⟨#[]⟩, ⟨rfl, rfl⟩, Nat.zero_le _⟩
  | succ j ih =>
   intro hj
   obtain ⟨fb, out, h1, h2⟩ := ih (by omega)
   obtain ⟨x, hx⟩ : ∃ x, ts[j]? = some x := ⟨_, List.getElem?_eq_getElem (by omega)⟩
   obtain ⟨hn0, hn1, hsz⟩ := hk x (List.mem_of_getElem? hx)
   have hw : wordQ x = [] \/ ∃ wd, wordQ x = [wd] /\ wd.size <= 200002 := by
    unfold wordQ
    split
    ·exact .inr ⟨_, rfl, by omega⟩
    ·split
     ·have := itoaB_len x.n hn0 hn1
      exact .inr ⟨_, rfl, by unfold itoaB at this; omega⟩
     ·split
      ·have := quotedB_len x.s
       exact .inr ⟨_, rfl, by omega⟩
      ·exact .inl rfl
   rcases hw with hw | ⟨wd, hw, hwd⟩
   ·exact ⟨fb, out, rq_skip h1 hx hw, Nat.le_trans h2 (Nat.mul_le_mul_right _ (Nat.le_succ j))⟩
   ·cases fb
    ·exact ⟨_, _, rq_more h1 hx hw, by rw [byte_add3, byte_one]; omega⟩
    ·exact ⟨_, _, rq_first h1 hx hw, by rw [byte_add]; omega⟩
 obtain ⟨fb, out, h1, h2⟩ := key ts.length (Nat.le_refl _)
 have h3 := h1.1
 rw [List.take_length] at h3
 rw [textQ_out, <- h3]
 exact h2
theorem text_zero (a : Option Addr) (c : Nat) (w : World) : Calls Tryz.prog 40 #[.slice a 0 c] w fun e w' => e = .returned (.string ⟨#[]⟩) /\ Below w.heap.size w w' := by
 have HJ := Lib.hid (join_any w w [] (.slice none 0 0) ⟨⟨rfl, .inl ⟨rfl, rfl⟩⟩, Turned.refl _ _⟩ (by simp) (by simp [Lib.join_nil]))
 go_enter Tryz.func40, Tryz.ntmps40
 go_wp2_with fail
 go_loopw [3, 8] (fun v i wr => v = .slice none 0 0 /\ i = (.int .i64 0) /\ wr = w) (fun _ i _ => 0)
 case atStart => exact ⟨rfl, rfl, rfl⟩
 case round =>
  obtain ⟨rfl, rfl, rfl⟩ := hrel
  go_wp2_with (go_at_call 73; refine HJ.out.mono ?_; rintro e w7 ⟨rfl, HQ⟩; have HQ := Lib.hid HQ)
  go_ret
  exact ⟨rfl, below_turned HQ.out⟩
theorem pre_list (s : ByteArray) (k : Nat) : (s.extract 0 k).data.toList = s.data.toList.take k := by
 simp
def Tok.shift (d : Nat) (t : Tok) : Tok := ⟨t.kind, t.at_ + d, t.s, t.n⟩
def TR.shift (d : Nat) : TR -> TR
 | .none => .none
 | .err c => .err c
 | .tok t tt => .tok (t.shift d) (tt + d)
def nameL (l : List UInt8) : TR := if clsI l[0]!.toNat ≠ 3 then .none else if 32 < spanL 2 l then .err 2 else .tok ⟨1, 0, ⟨(l.take (spanL 2 l)).toArray⟩, 0⟩ (spanL 2 l)
def numL (l : List UInt8) : TR := if clsI l[0]!.toNat ≠ 2 then .none else numOf 0 (spanL 2 l) ⟨(l.take (spanL 2 l)).toArray⟩
def txtL (l : List UInt8) : TR := if l[0]! ≠ 34 then .none else textL 0 l.tail 1 []
def sgnL (l : List UInt8) : List (List UInt8) -> TR
 | [] => if 0 <= Lib.indexByte signText.data.toList l[0]! then .tok ⟨4, 0, ⟨#[l[0]!]⟩, 0⟩ 1 else .none
 | p :: ps => if Lib.hasPrefix l p then .tok ⟨4, 0, ⟨p.toArray⟩, 0⟩ 2 else sgnL l ps
def headT (l : List UInt8) : TR := firstT [nameL l, numL l, txtL l, sgnL l pairs]
theorem extract_rest (s : ByteArray) (k n : Nat) : s.extract k (k + n) = ⟨((rest s k).take n).toArray⟩ := by
 apply ByteArray.ext
 apply Array.ext'
 simp [rest]
theorem name_shift (s : ByteArray) (k : Nat) : nameT s k = (nameL (rest s k)).shift k := by
 unfold nameT nameL spanTo
 rw [Nat.add_sub_cancel_left, extract_rest]
 split
 ·rfl
 ·split
  ·rfl
  ·simp [TR.shift, Tok.shift, Nat.add_comm]
theorem num_shift (s : ByteArray) (k : Nat) : numT s k = (numL (rest s k)).shift k := by
 unfold numT numL spanTo numOf
 rw [extract_rest]
 split
 ·rfl
 ·split
  ·split
   ·rfl
   ·simp [TR.shift, Tok.shift, Nat.add_comm]
  ·rfl
theorem textL_shiftN (d k0 : Nat) : ∀ (n : Nat) (x : List UInt8), x.length <= n -> ∀ (j : Nat) (b : List UInt8), textL (k0 + d) x (j + d) b = (textL k0 x j b).shift d := by
 intro n
 induction n using Nat.strongRecOn with
 | _ n ih =>
  intro x hx j b
  by_cases hb : 200 < b.length
  ·rw [textL_lim _ _ _ _ hb, textL_lim _ _ _ _ hb]; rfl
  cases x with
  | nil => rw [textL_nil _ _ _ hb, textL_nil _ _ _ hb]; rfl
  | cons c x =>
   simp only [List.length_cons] at hx
   by_cases h34 : c = 34
   ·subst h34
    rw [textL_quote _ _ _ _ hb, textL_quote _ _ _ _ hb]
    simp [TR.shift, Tok.shift, Nat.add_right_comm]
   by_cases h92 : c = 92
   ·subst h92
    cases x with
    | nil => rw [textL_esc0 _ _ _ hb, textL_esc0 _ _ _ hb]; rfl
    | cons e x =>
     simp only [List.length_cons] at hx
     rw [textL_esc _ _ _ _ _ hb, textL_esc _ _ _ _ _ hb, Nat.add_right_comm]
     split
     ·exact ih (n - 2) (by omega) x (by omega) _ _
     ·split
      ·exact ih (n - 2) (by omega) x (by omega) _ _
      ·split
       ·exact ih (n - 2) (by omega) x (by omega) _ _
       ·rfl
   by_cases hc : c.toNat < 32 \/ 126 < c.toNat
   ·rw [textL_bad _ _ _ _ _ hb h34 h92 hc, textL_bad _ _ _ _ _ hb h34 h92 hc]; rfl
   ·rw [textL_step _ _ _ _ _ hb h34 h92 hc, textL_step _ _ _ _ _ hb h34 h92 hc, Nat.add_right_comm]
    exact ih (n - 1) (by omega) x (by omega) _ _
theorem textL_shift (d k0 : Nat) (x : List UInt8) (j : Nat) (b : List UInt8) : textL (k0 + d) x (j + d) b = (textL k0 x j b).shift d := textL_shiftN d k0 _ x (Nat.le_refl _) j b
theorem sgn_shift (s : ByteArray) (k : Nat) : ∀ ps, signL s k ps = (sgnL (rest s k) ps).shift k
 | [] => by
  unfold signL sgnL
  split <;> simp [TR.shift, Tok.shift, Nat.add_comm]
 | p :: ps => by
  unfold signL sgnL
  split
  ·simp [TR.shift, Tok.shift, Nat.add_comm]
  ·exact sgn_shift s k ps
theorem firstT_shift (d : Nat) : ∀ l, firstT (l.map (TR.shift d)) = (firstT l).shift d
 | [] => rfl
 | .none :: l => by
  show firstT (l.map (TR.shift d)) = _
  rw [firstT_shift d l]; rfl
 | .err _ :: _ => rfl
 | .tok _ _ :: _ => rfl
theorem next_head (s : ByteArray) (k : Nat) (hk : k < s.size) : nextT s k = (headT (rest s k)).shift k := by
 unfold nextT headT
 rw [<- firstT_shift]
 simp only [List.map]
 rw [name_shift, num_shift, signT, sgn_shift]
 congr 4
 unfold textT txtL
 rw [rest_cons s k hk]
 simp only [List.tail_cons]
 split
 ·rfl
 ·have := textL_shift k 0 (rest s (k + 1)) 1 []
  simpa [Nat.add_comm] using this
theorem textL_some (k0 : Nat) (l : List UInt8) (j : Nat) (b : List UInt8) : textL k0 l j b ≠ .none := by
 fun_induction textL k0 l j b <;> simp_all
theorem numOf_some (k tt : Nat) (s : ByteArray) : numOf k tt s ≠ .none := by
 unfold numOf
 split
 ·split <;> simp
 ·simp
def orChar : TR -> TR
 | .none => .err 26
 | r => r
theorem head_sign {b : UInt8} {l : List UInt8} (h : clsI b.toNat < 2) (h2 : b ≠ 34) : headT (b :: l) = orChar (sgnL (b :: l) pairs) := by
 have e1 : nameL (b :: l) = .none := by unfold nameL; rw [if_pos (by simp; omega)]
 have e2 : numL (b :: l) = .none := by unfold numL; rw [if_pos (by simp; omega)]
 have e3 : txtL (b :: l) = .none := by unfold txtL; rw [if_pos (by simpa using h2)]
 unfold headT
 rw [e1, e2, e3]
 generalize sgnL (b :: l) pairs = r
 cases r <;> rfl
theorem pairs_len : ∀ p ∈ pairs, p.length = 2 := by decide
def Breaks (y : List UInt8) : Prop := ∃ c y', y = c :: y' /\ (c = 32 \/ c = 9 \/ c = 10 \/ c = 13 \/ c = 35)
def LR.cons (t : Tok) : LR -> LR
 | .ok ts => .ok (t :: ts)
 | .err k c => .err k c
def LR.shift (d : Nat) : LR -> LR
 | .ok ts => .ok (ts.map (Tok.shift d))
 | .err k c => .err (k + d) c
end Go.Proofs.YtjijdgkccfeeaaaGreatDoor
