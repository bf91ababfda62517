/- Part 9 of the proof of card: ParTxC, ParSame, ParSameW, ParPrB, ParPrC. Conditions: those of each theorem. -/
import Derived.Maps.OwnOps
import Derived.Test.YtjijdgkccfeeaaaGreatDoorPt01
import Derived.Test.YtjijdgkccfeeaaaGreatDoorPt02
import Derived.Test.YtjijdgkccfeeaaaGreatDoorPt07
import Derived.Test.YtjijdgkccfeeaaaGreatDoorPt08
set_option maxRecDepth 20000
set_option maxHeartbeats 4000000
namespace Go.Proofs.YtjijdgkccfeeaaaGreatDoor
open Go Go.Proofs Go.RowKit
attribute [local go_sem] Oper.semAt_some
def TxsAt (W : World) (l : List (ByteArray × Bool)) (p : Option Addr) : Prop := ∀ i q, l[i]? = some q -> ∃ b a, p = some ⟨b, a, none⟩ /\ W.cell? ⟨b, a + i * 2, none⟩ = some (.string q.1) /\ W.cell? ⟨b, a + i * 2 + 1, none⟩ = some (.bool q.2)
theorem TxsAt.turned {W W' : World} {l : List (ByteArray × Bool)} {p : Option Addr} (h : TxsAt W l p) (ht : Turned (fun _ => False) W W') : TxsAt W' l p := fun i q hq => by
 obtain ⟨b, a, h1, h2, h3⟩ := h i q hq
 exact ⟨b, a, h1, cell_turned ht id h2, cell_turned ht id h3⟩
def joinT (l : List (ByteArray × Bool)) : ByteArray × Bool := (outQ (l.map (·.1)), l.any (·.2))
structure JS (w wr : World) (S : ByteArray) (B : Bool) : Prop where
 tur : Turned (fun _ => False) w wr
 out : wr.heap[w.heap.size + 1]? = some (.cells #[.string S, .bool B] 96 (0, 0))
 res : wr.heap[w.heap.size]? = some txBox
theorem JS.move {w wr W : World} {S : ByteArray} {B : Bool} (h : JS w wr S B) (ht : Turned (fun _ => False) wr W) : JS w W S B := ⟨h.tur.trans ht, (ht.block _ (getElem?_lt h.out) id).trans h.out, (ht.block _ (getElem?_lt h.res) id).trans h.res⟩
theorem JS.set {w wr : World} {S : ByteArray} {B : Bool} (h : JS w wr S B) (T : ByteArray) : JS w (wr.setCell ⟨w.heap.size + 1, 0, none⟩ (.string T)) T B := by
 have ht : Turned (fun b => b = w.heap.size + 1) wr (wr.setCell ⟨w.heap.size + 1, 0, none⟩ (.string T)) := (Turned.refl (fun b => b = w.heap.size + 1) wr).setCell (p := ⟨w.heap.size + 1, 0, none⟩) rfl _
 refine ⟨((h.tur.mono fun _ h => h.elim).trans (ht.mono fun b hb => by omega)).strip, ?_, (ht.block _ (getElem?_lt h.res) (by omega)).trans h.res⟩
 simp [World.setCell, Array.getElem?_modify, h.out]
theorem JS.setB {w wr : World} {S : ByteArray} {B : Bool} (h : JS w wr S B) (C : Bool) : JS w (wr.setCell ⟨w.heap.size + 1, 1, none⟩ (.bool C)) S C := by
 have ht : Turned (fun b => b = w.heap.size + 1) wr (wr.setCell ⟨w.heap.size + 1, 1, none⟩ (.bool C)) := (Turned.refl (fun b => b = w.heap.size + 1) wr).setCell (p := ⟨w.heap.size + 1, 1, none⟩) rfl _
 refine ⟨((h.tur.mono fun _ h => h.elim).trans (ht.mono fun b hb => by omega)).strip, ?_, (ht.block _ (getElem?_lt h.res) (by omega)).trans h.res⟩
 simp [World.setCell, Array.getElem?_modify, h.out]
theorem joinT_first {l : List (ByteArray × Bool)} {q : ByteArray × Bool} (h : l[0]? = some q) : outQ ((l.take (0 + 1)).map (·.1)) = ⟨#[]⟩ ++ q.1 := by
 cases l with
 | nil => cases h
 | cons a l =>
  simp at h
  subst h
  rw [Nat.zero_add, List.take_succ_cons, List.take_zero, List.map_cons, List.map_nil, outQ_one]
  apply ByteArray.ext; apply Array.ext'; simp
theorem joinT_more {l : List (ByteArray × Bool)} {q : ByteArray × Bool} {k : Nat} (h : l[k]? = some q) (hk : 0 < k) : outQ ((l.take (k + 1)).map (·.1)) = outQ ((l.take k).map (·.1)) ++ ⟨#[32]⟩ ++ q.1 := by
 rw [List.take_add_one, h, Option.toList_some, List.map_append, List.map_cons, List.map_nil, outQ_snoc]
 intro h2
 have h3 := congrArg List.length h2
 have hlt := lt_of_some h
 rw [List.length_map, List.length_take, List.length_nil] at h3
 omega
theorem joinT_bad {l : List (ByteArray × Bool)} {q : ByteArray × Bool} {k : Nat} (h : l[k]? = some q) : (l.take (k + 1)).any (·.2) = ((l.take k).any (·.2) || q.2) := by
 rw [List.take_add_one, h, Option.toList_some, List.any_append]; simp
def bigT : Nat := 1000000001
theorem join_size {S : ByteArray} {z : Nat} {k : Nat} (h : S.size <= z) : (if k = 0 then S else S ++ ⟨#[32]⟩).size <= z + 1 := by
 split
 ·omega
 ·rw [ByteArray.size_append]
  have : (⟨#[32]⟩ : ByteArray).size = 1 := rfl
  omega
theorem join_bound {k n : Nat} (h : k <= n) (hn : n <= 1000000) : k * bigT <= 1000001000000 * 1000 /\ (k + 1) * bigT = k * bigT + bigT := by
 refine ⟨?_, Nat.succ_mul _ _⟩
 have h1 : k * bigT <= 1000000 * bigT := Nat.mul_le_mul_right _ (by omega)
 have h2 : 1000000 * bigT <= 1000001000000 * 1000 := by decide
 omega
theorem tjoin_any (l : List (ByteArray × Bool)) (p : Option Addr) (c : Nat) (w : World) (h : TxsAt w l p) (hl : l.length <= 1000000) (hs : ∀ q ∈ l, q.1.size <= 1000000000) :
  Calls Tryz.prog 43 #[.slice p l.length c] w fun e w' => e = .returned (.agg #[.string (joinT l).1, .bool (joinT l).2]) /\ Turned (fun _ => False) w w' := by
 have HT := Lib.hid h
 have HQ := Lib.hid hs
 have S0 : Hid (JS w ((w.alloc txBox).alloc txBox) ⟨#[]⟩ false) := Lib.hid ⟨((Turned.refl _ _).alloc _).alloc _, by
  have e : w.heap.size + 1 = (w.alloc txBox).heap.size := by simp
  rw [e]; exact heap_alloc_new _ _, alloc_box (heap_alloc_new _ _) _⟩
 clear h hs
 go_enter Tryz.func43, Tryz.ntmps43
 go_upto_region 3 with fail
 go_loopw [4] (fun u wr => ∃ (k : Nat) (S : ByteArray) (B : Bool), k <= l.length /\ u = (.int .i64 k) /\ S.size <= k * bigT /\ Hid (JS w wr S B) /\ Hid (S = outQ ((l.take k).map (·.1)) /\ B = (l.take k).any (·.2))) (fun u _ => l.length - (intOf u).toNat)
 case atStart => exact ⟨0, ⟨#[]⟩, false, by omega, rfl, by simp [ByteArray.size], S0, Lib.hid ⟨rfl, rfl⟩⟩
 case round =>
  clear S0
  obtain ⟨k, S, B, hk, rfl, hS, SJ, HE⟩ := hrel
  obtain ⟨x0, x1⟩ := cellsTx SJ.out.out
  have f3 := free_of_box SJ.out.out
  by_cases hlt : k < l.length
  ·obtain ⟨q, hq⟩ := some_of_lt hlt
   have hk2 : (k : Int) < (l.length : Int) := by omega
   obtain ⟨hb1, hb2⟩ := join_bound hk hl
   have hqs := HQ.out q (List.mem_of_getElem? hq)
   obtain ⟨T, hT, hTs⟩ : ∃ T : ByteArray, T = (if k = 0 then S else S ++ ⟨#[32]⟩) /\ T.size <= k * bigT + 1 := ⟨_, rfl, join_size hS⟩
   have HE2 : Hid (T ++ q.1 = outQ ((l.take (k + 1)).map (·.1)) /\ (B || q.2) = (l.take (k + 1)).any (·.2)) := Lib.hid ⟨by
    by_cases h0 : k = 0
    ·subst h0
     rw [joinT_first hq, hT, if_pos rfl, HE.out.1]
     congr 1
    ·rw [joinT_more hq (by omega), hT, if_neg h0, HE.out.1], by rw [joinT_bad hq, HE.out.2]⟩
   have HQA := Lib.hid (fun (W : World) (ht : Turned (fun _ => False) w W) => (HT.out.turned ht) k q hq)
   have hT9 : T.size <= 2000000000000000 := by omega
   have hS9 : S.size <= 2000000000000000 := by omega
   by_cases h0 : k = 0
   ·rw [if_pos h0] at hT
    subst hT
    have hk3 : ¬ (0 : Int) < (k : Int) := by omega
    go_upto_region 7 with fail
    clear x0 x1 f3
    obtain ⟨W1, rfl⟩ : ∃ W1, W1 = wr := ⟨_, rfl⟩
    have SJ1 := SJ
    clear SJ
    obtain ⟨qb, qa, rfl, q0, q1⟩ := HQA.out W1 SJ1.out.tur
    obtain ⟨x0, x1⟩ := cellsTx SJ1.out.out
    refine region_tail (w := W1) (Turned.refl _ _) 9 (by kernel_rfl) (by kernel_rfl) (fun V hT => ?_)
    clear x0 x1 q0 q1
    have SJV := Lib.hid (SJ1.out.move hT)
    clear hT SJ1
    obtain ⟨qb2, qa2, he, q0, q1⟩ := HQA.out V SJV.out.tur
    cases he
    try simp only [h0, Nat.zero_mul, Nat.add_zero] at q0 q1
    obtain ⟨x0, x1⟩ := cellsTx SJV.out.out
    have f3 := free_of_box SJV.out.out
    simp only [List.take_succ_cons, List.take_zero, List.drop_succ_cons, List.drop_zero]
    have ad : ∀ W : World, (Op.stringOp .add T q.1).run Tryz.prog W = .ok (.string (T ++ q.1)) W := fun W => run_string_add_sum W T q.1 (by omega)
    repeat still_step
    refine wpStill_nil ?_
    go_upto_region 8 with fail
    clear x0 x1 f3 q0 q1
    obtain ⟨W2, hW2⟩ : ∃ W2, W2 = V.setCell ⟨w.heap.size + 1, 0, none⟩ (.string (T ++ q.1)) := ⟨_, rfl⟩
    have SJ2 := Lib.hid (SJV.out.set (T ++ q.1))
    rw [<- hW2] at SJ2 ⊢
    clear hW2 SJV
    obtain ⟨qb3, qa3, he, q0, q1⟩ := HQA.out W2 SJ2.out.tur
    cases he
    try simp only [h0, Nat.zero_mul, Nat.add_zero] at q0 q1
    obtain ⟨x0, x1⟩ := cellsTx SJ2.out.out
    have f3 := free_of_box SJ2.out.out
    have hTq : (T ++ q.1).size <= (k + 1) * bigT := by rw [ByteArray.size_append, hb2]; unfold bigT at *; omega
    generalize T ++ q.1 = TQ at *
    obtain ⟨qs, qbad⟩ := q
    dsimp only at *
    cases B with
    | true =>
     go_wp2_with fail
     have SJ3 := Lib.hid (SJ2.out.setB true)
     go_roundw
     case rel => exact ⟨k + 1, TQ, true, by omega, by go_num, hTq, SJ3, Lib.hid ⟨HE2.out.1, by rw [<- HE2.out.2]; rfl⟩⟩
     case measure => simp [intOf]; omega
    | false =>
     go_wp2_with fail
     have SJ3 := Lib.hid (SJ2.out.setB qbad)
     go_roundw
     case rel => exact ⟨k + 1, TQ, qbad, by omega, by go_num, hTq, SJ3, Lib.hid ⟨HE2.out.1, by rw [<- HE2.out.2]; rfl⟩⟩
     case measure => simp [intOf]; omega
   ·rw [if_neg h0] at hT
    subst hT
    have hk3 : (0 : Int) < (k : Int) := by omega
    go_upto_region 7 with fail
    clear x0 x1 f3
    obtain ⟨W1, hW1⟩ : ∃ W1, W1 = wr.setCell ⟨w.heap.size + 1, 0, none⟩ (.string (S ++ ⟨#[32]⟩)) := ⟨_, rfl⟩
    have SJ1 := Lib.hid (SJ.out.set (S ++ ⟨#[32]⟩))
    rw [<- hW1] at SJ1 ⊢
    clear hW1 SJ
    obtain ⟨qb, qa, rfl, q0, q1⟩ := HQA.out W1 SJ1.out.tur
    obtain ⟨x0, x1⟩ := cellsTx SJ1.out.out
    refine region_tail (w := W1) (Turned.refl _ _) 9 (by kernel_rfl) (by kernel_rfl) (fun V hT => ?_)
    clear x0 x1 q0 q1
    have SJV := Lib.hid (SJ1.out.move hT)
    clear hT SJ1
    obtain ⟨qb2, qa2, he, q0, q1⟩ := HQA.out V SJV.out.tur
    cases he
    try simp only [h0, Nat.zero_mul, Nat.add_zero] at q0 q1
    obtain ⟨x0, x1⟩ := cellsTx SJV.out.out
    have f3 := free_of_box SJV.out.out
    simp only [List.take_succ_cons, List.take_zero, List.drop_succ_cons, List.drop_zero]
    have ad : ∀ W : World, (Op.stringOp .add (S ++ ⟨#[32]⟩) q.1).run Tryz.prog W = .ok (.string ((S ++ ⟨#[32]⟩) ++ q.1)) W := fun W => run_string_add_sum W (S ++ ⟨#[32]⟩) q.1 (by omega)
    repeat still_step
    refine wpStill_nil ?_
    go_upto_region 8 with fail
    clear x0 x1 f3 q0 q1
    obtain ⟨W2, hW2⟩ : ∃ W2, W2 = V.setCell ⟨w.heap.size + 1, 0, none⟩ (.string ((S ++ ⟨#[32]⟩) ++ q.1)) := ⟨_, rfl⟩
    have SJ2 := Lib.hid (SJV.out.set ((S ++ ⟨#[32]⟩) ++ q.1))
    rw [<- hW2] at SJ2 ⊢
    clear hW2 SJV
    obtain ⟨qb3, qa3, he, q0, q1⟩ := HQA.out W2 SJ2.out.tur
    cases he
    try simp only [h0, Nat.zero_mul, Nat.add_zero] at q0 q1
    obtain ⟨x0, x1⟩ := cellsTx SJ2.out.out
    have f3 := free_of_box SJ2.out.out
    have hTq : ((S ++ ⟨#[32]⟩) ++ q.1).size <= (k + 1) * bigT := by rw [ByteArray.size_append, hb2]; unfold bigT at *; omega
    generalize (S ++ ⟨#[32]⟩) ++ q.1 = TQ at *
    obtain ⟨qs, qbad⟩ := q
    dsimp only at *
    cases B with
    | true =>
     go_wp2_with fail
     have SJ3 := Lib.hid (SJ2.out.setB true)
     go_roundw
     case rel => exact ⟨k + 1, TQ, true, by omega, by go_num, hTq, SJ3, Lib.hid ⟨HE2.out.1, by rw [<- HE2.out.2]; rfl⟩⟩
     case measure => simp [intOf]; omega
    | false =>
     go_wp2_with fail
     have SJ3 := Lib.hid (SJ2.out.setB qbad)
     go_roundw
     case rel => exact ⟨k + 1, TQ, qbad, by omega, by go_num, hTq, SJ3, Lib.hid ⟨HE2.out.1, by rw [<- HE2.out.2]; rfl⟩⟩
     case measure => simp [intOf]; omega
  ·obtain rfl : k = l.length := by omega
   have HE3 : Hid (S = (joinT l).1 /\ B = (joinT l).2) := Lib.hid (by
    have := HE.out
    rw [List.take_length] at this
    exact this)
   have hres := SJ.out.res
   obtain ⟨z0, z1⟩ := cellsTx hres
   have f2 := free_of_box hres
   clear HE hres
   go_wp2_with fail
   refine bodyPost_ret (results_tx rfl _ _ w.heap.size _ _ rfl (tx_set SJ.out.res)) rfl ?_
   rw [<- HE3.out.1, <- HE3.out.2]
   exact ⟨rfl, ((SJ.out.tur.mono fun _ h => h.elim).trans ((tx_turned _ _ _ _).mono fun b hb => by omega)).strip⟩
mutual
def sameX (o : Bool) : Ex -> Ex -> Bool
 | .mk p n s ks a, .mk q m t ls b =>
  p == q && (p != 1 || n == m) && (!(decide (2 <= p) && decide (p <= 4)) || s.data.toList == t.data.toList) && (!o || a == b) && (decide (1 <= p) && decide (p <= 3) || sameXs o ks ls)
def sameXs (o : Bool) : List Ex -> List Ex -> Bool
 | [], [] => true
 | x :: xs, y :: ys => sameX o x y && sameXs o xs ys
 | _, _ => false
end
def sameA (o : Bool) (x y : Ar) : Bool :=
 x.kind == y.kind && (!o || x.at_ == y.at_) && (!(x.kind == 1 || x.kind == 3) || x.s.data.toList == y.s.data.toList) && (x.kind != 2 || x.n == y.n) && (x.kind != 5 || sameX o x.e y.e)
def sameAs (o : Bool) : List Ar -> List Ar -> Bool
 | [], [] => true
 | x :: xs, y :: ys => sameA o x y && sameAs o xs ys
 | _, _ => false
mutual
def sameF (o : Bool) : Fm -> Fm -> Bool
 | .mk w as_ fs a, .mk v bs gs b => w.data.toList == v.data.toList && (!o || a == b) && sameAs o as_ bs && sameFs o fs gs
def sameFs (o : Bool) : List Fm -> List Fm -> Bool
 | [], [] => true
 | x :: xs, y :: ys => sameF o x y && sameFs o xs ys
 | _, _ => false
end
mutual
theorem sameX_refl (o : Bool) : ∀ x : Ex, sameX o x x = true
 | .mk p n s ks a => by simp [sameX, sameXs_refl o ks]
theorem sameXs_refl (o : Bool) : ∀ xs : List Ex, sameXs o xs xs = true
 | [] => rfl
 | x :: xs => by simp [sameXs, sameX_refl o x, sameXs_refl o xs]
end
theorem sameA_refl (o : Bool) (x : Ar) : sameA o x x = true := by simp [sameA, sameX_refl]
theorem sameAs_refl (o : Bool) : ∀ xs : List Ar, sameAs o xs xs = true
 | [] => rfl
 | x :: xs => by simp [sameAs, sameA_refl, sameAs_refl o xs]
mutual
theorem sameF_refl (o : Bool) : ∀ x : Fm, sameF o x x = true
 | .mk w as_ fs a => by simp [sameF, sameAs_refl, sameFs_refl o fs]
theorem sameFs_refl (o : Bool) : ∀ xs : List Fm, sameFs o xs xs = true
 | [] => rfl
 | x :: xs => by simp [sameFs, sameF_refl o x, sameFs_refl o xs]
end
theorem sameXs_iff (o : Bool) : ∀ xs ys : List Ex, sameXs o xs ys = true ↔ xs.length = ys.length /\ ∀ (i : Nat) (x y : Ex), xs[i]? = some x -> ys[i]? = some y -> sameX o x y = true
 | [], [] => by simp [sameXs]
 | x :: xs, y :: ys => by
  simp only [sameXs, Bool.and_eq_true, sameXs_iff o xs ys, List.length_cons]
  constructor
  ·rintro ⟨h, hl, hi⟩
   refine ⟨by omega, fun i a b ha hb => ?_⟩
   cases i with
   | zero => simp at ha hb; subst ha hb; exact h
   | succ i => exact hi i a b (by simpa using ha) (by simpa using hb)
  ·rintro ⟨hl, hi⟩
   exact ⟨hi 0 x y rfl rfl, by omega, fun i a b ha hb => hi (i + 1) a b (by simpa using ha) (by simpa using hb)⟩
 | [], _ :: _ => by simp [sameXs]
 | _ :: _, [] => by simp [sameXs]
theorem sameAs_iff (o : Bool) : ∀ xs ys : List Ar, sameAs o xs ys = true ↔ xs.length = ys.length /\ ∀ (i : Nat) (x y : Ar), xs[i]? = some x -> ys[i]? = some y -> sameA o x y = true
 | [], [] => by simp [sameAs]
 | x :: xs, y :: ys => by
  simp only [sameAs, Bool.and_eq_true, sameAs_iff o xs ys, List.length_cons]
  constructor
  ·rintro ⟨h, hl, hi⟩
   refine ⟨by omega, fun i a b ha hb => ?_⟩
   cases i with
   | zero => simp at ha hb; subst ha hb; exact h
   | succ i => exact hi i a b (by simpa using ha) (by simpa using hb)
  ·rintro ⟨hl, hi⟩
   exact ⟨hi 0 x y rfl rfl, by omega, fun i a b ha hb => hi (i + 1) a b (by simpa using ha) (by simpa using hb)⟩
 | [], _ :: _ => by simp [sameAs]
 | _ :: _, [] => by simp [sameAs]
theorem sameFs_iff (o : Bool) : ∀ xs ys : List Fm, sameFs o xs ys = true ↔ xs.length = ys.length /\ ∀ (i : Nat) (x y : Fm), xs[i]? = some x -> ys[i]? = some y -> sameF o x y = true
 | [], [] => by simp [sameFs]
 | x :: xs, y :: ys => by
  simp only [sameFs, Bool.and_eq_true, sameFs_iff o xs ys, List.length_cons]
  constructor
  ·rintro ⟨h, hl, hi⟩
   refine ⟨by omega, fun i a b ha hb => ?_⟩
   cases i with
   | zero => simp at ha hb; subst ha hb; exact h
   | succ i => exact hi i a b (by simpa using ha) (by simpa using hb)
  ·rintro ⟨hl, hi⟩
   exact ⟨hi 0 x y rfl rfl, by omega, fun i a b ha hb => hi (i + 1) a b (by simpa using ha) (by simpa using hb)⟩
 | [], _ :: _ => by simp [sameFs]
 | _ :: _, [] => by simp [sameFs]
def exA (x : Ex) (k : Value) : Value := .agg #[.int .i64 x.op, .int .i64 x.n, .string x.s, k, .int .i64 x.at_]
theorem KidsAt.len {W : World} {N : Nat -> Prop} {l : List Ex} {v : Value} (h : KidsAt W N l v) : l.length <= maxLen := by
 cases h with
 | nil => simp
 | some _ _ _ _ _ _ hl => exact hl
theorem kidsAt_get {W : World} {N : Nat -> Prop} {l : List Ex} {p : Option Addr} {n c i : Nat} {x : Ex} (h : KidsAt W N l (.slice p n c)) (hi : l[i]? = some x) :
  ∃ b a k, p = some ⟨b, a, none⟩ /\ (W.cell? ⟨b, a + i * 5, none⟩ = some (.int .i64 x.op) /\ W.cell? ⟨b, a + i * 5 + 1, none⟩ = some (.int .i64 x.n) /\ W.cell? ⟨b, a + i * 5 + 2, none⟩ = some (.string x.s) /\ W.cell? ⟨b, a + i * 5 + 3, none⟩ = some k /\ W.cell? ⟨b, a + i * 5 + 4, none⟩ = some (.int .i64 x.at_)) /\ KidsAt W N x.kids k := by
 cases h with
 | nil => simp at hi
 | some _ b a c k hN hl hcell hk =>
  have hlt := lt_of_some hi
  have hc := hcell i hlt
  simp only [hi, exV] at hc
  exact ⟨b, a, k i, rfl, ⟨hc 0 _ rfl, hc 1 _ rfl, hc 2 _ rfl, hc 3 _ rfl, hc 4 _ rfl⟩, hk i x hi⟩
theorem KidsAt.all {W W' : World} {N : Nat -> Prop} {l : List Ex} {v : Value} (h : KidsAt W N l v) (ht : Turned (fun _ => False) W W') : KidsAt W' (fun _ => True) l v := h.move ht (fun _ _ => id) (fun _ _ _ => trivial)
theorem sameXs_no {o : Bool} {xs ys : List Ex} {i : Nat} {x y : Ex} (hx : xs[i]? = some x) (hy : ys[i]? = some y) (h : sameX o x y = false) : sameXs o xs ys = false := by
 cases hh : sameXs o xs ys with
 | false => rfl
 | true => rw [((sameXs_iff o xs ys).1 hh).2 i x y hx hy] at h; cases h
theorem sameXs_len {o : Bool} {xs ys : List Ex} (h : xs.length ≠ ys.length) : sameXs o xs ys = false := by
 cases hh : sameXs o xs ys with
 | false => rfl
 | true => exact absurd ((sameXs_iff o xs ys).1 hh).1 h
def SameTo (o : Bool) (xs ys : List Ex) (i : Nat) : Prop := ∀ (j : Nat) (x y : Ex), j < i -> xs[j]? = some x -> ys[j]? = some y -> sameX o x y = true
theorem SameTo.succ {o : Bool} {xs ys : List Ex} {i : Nat} {x y : Ex} (h : SameTo o xs ys i) (hx : xs[i]? = some x) (hy : ys[i]? = some y) (hs : sameX o x y = true) : SameTo o xs ys (i + 1) := fun j u v hj hu hv => by
 rcases Nat.lt_or_ge j i with h1 | h1
 ·exact h j u v h1 hu hv
 ·obtain rfl : j = i := by omega
  rw [hx] at hu; rw [hy] at hv; cases hu; cases hv; exact hs
theorem SameTo.done {o : Bool} {xs ys : List Ex} (h : SameTo o xs ys xs.length) (hl : xs.length = ys.length) : sameXs o xs ys = true := (sameXs_iff o xs ys).2 ⟨hl, fun i x y hx hy => h i x y (lt_of_some hx) hx hy⟩
theorem cell_lt {W : World} {b o : Nat} {u : Value} (h : W.cell? ⟨b, o, none⟩ = some u) : b < W.heap.size := by
 rcases Nat.lt_or_ge b W.heap.size with h1 | h1
 ·exact h1
 ·simp [World.cell?, h1] at h
theorem eqExpr_of (xs ys : List Ex) (u v : Value) (N : Nat -> Prop) (w : World) (hx : KidsAt w N xs u) (hy : KidsAt w N ys v)
  (HE : ∀ x ∈ xs, ∀ y a b W, KidsAt W (fun _ => True) x.kids a -> KidsAt W (fun _ => True) y.kids b -> Calls Tryz.prog 16 #[exA x a, exA y b] W fun e w' => e = .returned (.bool (sameX false x y)) /\ Turned (fun _ => False) W w') :
  Calls Tryz.prog 37 #[u, v, .func (Fn.func 16) #[] #[]] w fun e w' => e = .returned (.bool (sameXs false xs ys)) /\ Turned (fun _ => False) w w' := by
 have hlx := hx.len
 have hly := hy.len
 obtain ⟨pu, cu, rfl⟩ := hx.shape
 obtain ⟨pv, cv, rfl⟩ := hy.shape
 have HX := Lib.hid hx
 have HY := Lib.hid hy
 have HF := Lib.hid HE
 unfold maxLen at hlx hly
 clear hx hy HE
 by_cases hl : xs.length = ys.length
 ·have HL := Lib.hid hl
  obtain ⟨n, hn⟩ : ∃ n, n = xs.length := ⟨_, rfl⟩
  have HN := Lib.hid hn
  have HN2 : Hid (n = ys.length) := Lib.hid (hn.trans hl)
  rw [<- hl, <- hn]
  rw [<- hn] at hlx
  clear hl hly hn
  go_enter Tryz.func37, Tryz.ntmps37
  go_wp2_with fail
  go_loopw [17] (fun c wr => ∃ i : Nat, i <= n /\ c = (.int .i64 i) /\ Hid (Turned (fun _ => False) w wr /\ SameTo false xs ys i)) (fun c _ => n - (intOf c).toNat)
  case atStart => exact ⟨0, by omega, rfl, Lib.hid ⟨Turned.refl _ _, fun j x y hj => by omega⟩⟩
  case round =>
   obtain ⟨i, hi, rfl, HO⟩ := hrel
   by_cases hlt : i < n
   ·obtain ⟨x, hx⟩ := some_of_lt (show i < xs.length by rw [<- HN.out]; exact hlt)
    obtain ⟨y, hy⟩ := some_of_lt (show i < ys.length by rw [<- HN2.out]; exact hlt)
    obtain ⟨bx, ax, kx, rfl, ⟨x0, x1, x2, x3, x4⟩, HKX⟩ := kidsAt_get (HX.out.all HO.out.1) hx
    obtain ⟨by_, ay, ky, rfl, ⟨y0, y1, y2, y3, y4⟩, HKY⟩ := kidsAt_get (HY.out.all HO.out.1) hy
    obtain ⟨pk, ck, rfl⟩ := HKX.shape
    obtain ⟨pl, cl, rfl⟩ := HKY.shape
    have lx := cell_lt x0
    have ly := cell_lt y0
    have HC : Hid (∀ W, Turned (fun _ => False) wr W -> Calls Tryz.prog 16 #[.agg #[.int .i64 x.op, .int .i64 x.n, .string x.s, .slice pk x.kids.length ck, .int .i64 x.at_], .agg #[.int .i64 y.op, .int .i64 y.n, .string y.s, .slice pl y.kids.length cl, .int .i64 y.at_]] W fun e w' => e = .returned (.bool (sameX false x y)) /\ Turned (fun _ => False) W w') :=
     Lib.hid fun W hW => HF.out x (List.mem_of_getElem? hx) y _ _ W (HKX.all hW) (HKY.all hW)
    have HT : Hid (sameX false x y = true -> SameTo false xs ys (i + 1)) := Lib.hid fun h => HO.out.2.succ hx hy h
    have HU : Hid (sameX false x y = false -> sameXs false xs ys = false) := Lib.hid fun h => sameXs_no hx hy h
    clear hx hy HKX HKY
    generalize sameX false x y = r at HC HT HU
    cases r with
    | true =>
     have HT2 := Lib.hid (HT.out rfl)
     clear HT HU
     go_wp2_with (go_at_call 16; refine (HC.out _ (((Turned.refl _ _).alloc _).alloc _)).mono ?_; rintro e w' ⟨rfl, hT⟩)
     go_roundw
     case rel => exact ⟨i + 1, by omega, by go_num, Lib.hid ⟨HO.out.1.trans ((((Turned.refl _ _).alloc _).alloc _).trans hT), HT2.out⟩⟩
     case measure => simp [intOf]; omega
    | false =>
     have HU2 := Lib.hid (HU.out rfl)
     clear HT HU
     go_wp2_with (go_at_call 16; refine (HC.out _ (((Turned.refl _ _).alloc _).alloc _)).mono ?_; rintro e w' ⟨rfl, hT⟩)
     go_ret
     rw [HU2.out]
     exact ⟨rfl, HO.out.1.trans ((((Turned.refl _ _).alloc _).alloc _).trans hT)⟩
   ·obtain rfl : i = n := by omega
    have HS : Hid (sameXs false xs ys = true) := Lib.hid (SameTo.done (by rw [<- HN.out]; exact HO.out.2) HL.out)
    go_wp2_with fail
    go_ret
    rw [HS.out]
    exact ⟨rfl, HO.out.1⟩
 ·have hl2 : (xs.length : Int) ≠ (ys.length : Int) := by omega
  have HS := Lib.hid (sameXs_len (o := false) hl)
  clear hl
  have hb : ((xs.length : Int) != (ys.length : Int)) = true := by simpa using hl2
  clear hl2
  go_enter Tryz.func37, Tryz.ntmps37
  go_wp2_with fail
  go_ret
  rw [HS.out]
  exact ⟨rfl, Turned.refl _ _⟩
theorem bytes_ne {s t : ByteArray} (h : s ≠ t) : (s.data.toList == t.data.toList) = false := by
 rw [beq_eq_false_iff_ne]
 exact fun e => h (by cases s; cases t; simp at e; subst e; rfl)
theorem ex_kid_lt {x : Ex} {l : List Ex} (h : x ∈ l) (op n : Int) (s : ByteArray) (a : Int) : SizeOf.sizeOf x < SizeOf.sizeOf (Ex.mk op n s l a) := by
 have := List.sizeOf_lt_of_mem h
 simp only [Ex.mk.sizeOf_spec]
 omega
theorem sameExpr_any : ∀ (m : Nat) (x : Ex), SizeOf.sizeOf x <= m -> ∀ (y : Ex) (a b : Value) (w : World), KidsAt w (fun _ => True) x.kids a -> KidsAt w (fun _ => True) y.kids b -> Calls Tryz.prog 16 #[exA x a, exA y b] w fun e w' => e = .returned (.bool (sameX false x y)) /\ Turned (fun _ => False) w w'
 | 0, .mk op n s ks at_, hm => by simp only [Ex.mk.sizeOf_spec] at hm; omega
 | m + 1, .mk op n s ks at_, hm => by
  intro y a b w hx hy
  obtain ⟨op', n', s', ls, at'⟩ := y
  have ih : ∀ x ∈ ks, ∀ y a b W, KidsAt W (fun _ => True) x.kids a -> KidsAt W (fun _ => True) y.kids b -> Calls Tryz.prog 16 #[exA x a, exA y b] W fun e w' => e = .returned (.bool (sameX false x y)) /\ Turned (fun _ => False) W w' :=
   fun x hx y a b W => sameExpr_any m x (by have := ex_kid_lt hx op n s at_; omega) y a b W
  simp only [Ex.kids] at hx hy
  have HEq := Lib.hid (fun (W : World) (hW : Turned (fun _ => False) w W) => eqExpr_of ks ls a b _ W (hx.all hW) (hy.all hW) ih)
  obtain ⟨pa, ca, rfl⟩ := hx.shape
  obtain ⟨pb, cb, rfl⟩ := hy.shape
  clear hx hy ih
  have HX := Lib.hid (show sameX false (.mk op n s ks at_) (.mk op' n' s' ls at') = (op == op' && (op != 1 || n == n') && (!(decide (2 <= op) && decide (op <= 4)) || s.data.toList == s'.data.toList) && (!false || at_ == at') && (decide (1 <= op) && decide (op <= 3) || sameXs false ks ls)) from by rw [sameX])
  simp only [exA, Ex.op, Ex.n, Ex.s, Ex.at_]
  generalize sameX false (.mk op n s ks at_) (.mk op' n' s' ls at') = r at HX ⊢
  generalize sameXs false ks ls = q at HX HEq
  by_cases h0 : op = op'
  ·subst h0
   by_cases h1 : op = 1
   ·subst h1
    have HR : Hid (r = (n == n')) := by show _ = _; rw [HX.out]; simp
    clear HX HEq
    go_enter Tryz.func16, Tryz.ntmps16
    go_wp2_with fail
    go_ret
    rw [HR.out]
    exact ⟨rfl, ((Turned.refl _ _).alloc _).alloc _⟩
   ·by_cases h2 : op = 2
    ·subst h2
     have HR : Hid (r = (s.data.toList == s'.data.toList)) := by show _ = _; rw [HX.out]; simp
     clear HX HEq
     go_enter Tryz.func16, Tryz.ntmps16
     go_wp2_with fail
     go_ret
     rw [HR.out]
     exact ⟨by simp [ByteArray.toList_eq], ((Turned.refl _ _).alloc _).alloc _⟩
    ·by_cases h3 : op = 3
     ·subst h3
      have HR : Hid (r = (s.data.toList == s'.data.toList)) := by show _ = _; rw [HX.out]; simp
      clear HX HEq
      go_enter Tryz.func16, Tryz.ntmps16
      go_wp2_with fail
      go_ret
      rw [HR.out]
      exact ⟨by simp [ByteArray.toList_eq], ((Turned.refl _ _).alloc _).alloc _⟩
     ·by_cases h4 : op = 4
      ·subst h4
       by_cases hs : s = s'
       ·subst hs
        have HR : Hid (r = q) := by show _ = _; rw [HX.out]; simp
        clear HX
        go_enter Tryz.func16, Tryz.ntmps16
        go_wp2_with (go_at_call 37; refine (HEq.out _ (((Turned.refl _ _).alloc _).alloc _)).mono ?_; rintro e w' ⟨rfl, hT⟩)
        go_ret
        rw [HR.out]
        exact ⟨rfl, (((Turned.refl _ _).alloc _).alloc _).trans hT⟩
       ·have HR : Hid (r = false) := by
         show _ = _
         rw [HX.out]
         rw [bytes_ne hs]; simp
        have hb : (s.toList == s'.toList) = false := by rw [ByteArray.toList_eq, ByteArray.toList_eq]; exact bytes_ne hs
        clear HX HEq
        go_enter Tryz.func16, Tryz.ntmps16
        go_wp2_with fail
        go_ret
        rw [HR.out]
        exact ⟨rfl, ((Turned.refl _ _).alloc _).alloc _⟩
      ·have HR : Hid (r = q) := by
        show _ = _
        rw [HX.out]
        have e1 : (decide (1 <= op) && decide (op <= 3)) = false := by simp; omega
        have e2 : (decide (2 <= op) && decide (op <= 4)) = false := by simp; omega
        rw [e1, e2]; simp [h1]
       have b1 : (op == 1) = false := by simpa using h1
       have b2 : (op == 2) = false := by simpa using h2
       have b3 : (op == 3) = false := by simpa using h3
       have b4 : (op == 4) = false := by simpa using h4
       clear HX h1 h2 h3 h4
       go_enter Tryz.func16, Tryz.ntmps16
       go_wp2_with (go_at_call 37; refine (HEq.out _ (((Turned.refl _ _).alloc _).alloc _)).mono ?_; rintro e w' ⟨rfl, hT⟩)
       go_ret
       rw [HR.out]
       exact ⟨rfl, (((Turned.refl _ _).alloc _).alloc _).trans hT⟩
  ·have HR : Hid (r = false) := by show _ = _; rw [HX.out]; simp [h0]
   have hb : (op != op') = true := by simpa using h0
   clear HX HEq h0
   go_enter Tryz.func16, Tryz.ntmps16
   go_wp2_with fail
   go_ret
   rw [HR.out]
   exact ⟨rfl, ((Turned.refl _ _).alloc _).alloc _⟩
open Go.Maps
theorem wpList_insert_own {H : Type} {P : Program} (w : World) {ops : Array Oper} {rest : List Oper} {o : Oper} {a : Act} {Q : Exit -> Act -> World -> Prop}
  (hg : o.guard = none) (m x v : Operand) (t : TypeId) (hop : o.op = Op.insert t m x v)
  (k e : TypeId) (K : Keyed P k) (ht : P.underlying t = some (.map k e)) (R : Value -> Option (DataW H × List MemPlace)) (b n : Nat) (D : DataW H)
  (hm : a.eval m = .map (some b)) (hown : w.ownsMap P k R b n D) (hn : n < maxLen) (key val : Value) (kl : Lit) (hx : a.eval x = key) (hv : a.eval v = val) (hkey : keyOf P k key = some kl)
  (d : DataW H) (ps : List MemPlace) (hval : R val = some (d, ps))
  (hK : ∀ w', w'.ownsMap P k R b (n + 1) (D.put kl d) -> w.grownBy w' (some b) -> wpList P ops Q rest (a.put o.dst undef) w') :
  wpList P ops Q (o :: rest) a w := by
 refine wpList_plain hg fun K' hK' => ?_
 obtain ⟨w', hrun, r1, r2⟩ := hown.update K ht hn hkey hval
 unfold Oper.wp
 simp [execOp, hop, hm, hx, hv, hrun, Result.andThen]
 exact hK' _ _ (hK w' r1 r2)
def opOf (op : Int) : Option Nat := opRows.findIdx? fun r => r.2.1 == op
theorem exprE_pr (op : Int) (eb : Nat) (w : World) (he : w.cell? ⟨eb, 0, none⟩ = some (.int .i64 op)) (s : ByteArray) (o : Int) (lv : Nat) :
  Calls Tryz.prog 77 #[.agg #[.string s, .int .i64 o, (.int .i64 ((lv : Nat)))], .pointer (some ⟨eb, 0, none⟩)] w fun e w' => e = .returned (.bool (o == op)) /\ Turned (fun _ => False) w w' := by
 have hlt := cell_lt he
 go_enter Tryz.func77, Tryz.ntmps77
 go_wp2_with fail
 go_ret
 exact ⟨rfl, (Turned.refl _ _).alloc _⟩
structure OJ (op : Int) (w : World) (i : Nat) (wr : World) : Prop where
 tur : Turned (fun _ => False) w wr
 no : ∀ j r, j < i -> opRows[j]? = some r -> (r.2.1 == op) = false
theorem OJ.found {op : Int} {w wr : World} {i : Nat} {r : ByteArray × Int × Nat} (h : OJ op w i wr) (hr : opRows[i]? = some r) (hy : (r.2.1 == op) = true) : opOf op = some i := by
 unfold opOf
 rw [List.findIdx?_eq_some_iff_getElem]
 obtain ⟨h1, h2⟩ := List.getElem?_eq_some_iff.1 hr
 refine ⟨h1, by rw [h2]; exact hy, fun j hj => ?_⟩
 have h3 := h.no j opRows[j] hj (List.getElem?_eq_getElem (by omega))
 rw [h3]; decide
theorem OJ.next {op : Int} {w wr wr' : World} {i : Nat} {r : ByteArray × Int × Nat} (h : OJ op w i wr) (hr : opRows[i]? = some r) (hy : (r.2.1 == op) = false) (hT : Turned (fun _ => False) wr wr') : OJ op w (i + 1) wr' :=
 ⟨h.tur.trans hT, fun j r hj hjr => by
  rcases Nat.lt_or_ge j i with h1 | h1
  ·exact h.no j r h1 hjr
  ·obtain rfl : j = i := by omega
   rw [hr] at hjr; cases hjr; exact hy⟩
theorem OJ.none {op : Int} {w wr : World} (h : OJ op w 13 wr) : opOf op = .none := by
 unfold opOf
 rw [List.findIdx?_eq_none_iff]
 intro x hx
 obtain ⟨j, hj, rfl⟩ := List.mem_iff_getElem.1 hx
 have h3 := h.no j opRows[j] (by simpa [opRows] using hj) (List.getElem?_eq_getElem hj)
 rw [h3]
theorem indexE_pr (op : Int) (eb gb : Nat) (w : World) (he : w.cell? ⟨eb, 0, none⟩ = some (.int .i64 op)) (hr : RowAt w gb 0 3 13 opRow) :
  Calls Tryz.prog 75 #[.slice (some ⟨gb, 0, none⟩) 13 13, .func (Fn.func 77) #[] #[.pointer (some ⟨eb, 0, none⟩)]] w fun e w' => e = .returned (.int .i64 (idxI (opOf op))) /\ Turned (fun _ => False) w w' := by
 have HR := Lib.hid hr
 have HC := Lib.hid (fun (W : World) (hT : Turned (fun _ => False) w W) (s : ByteArray) (o : Int) (lv : Nat) => exprE_pr op eb W (cell_turned hT id he) s o lv)
 clear hr he
 go_enter Tryz.func75, Tryz.ntmps75
 go_wp2_with fail
 go_loopw [8] (fun u wr => ∃ i : Nat, i <= 13 /\ u = (.int .i64 i) /\ Hid (OJ op w i wr)) (fun u _ => 13 - (intOf u).toNat)
 case atStart => exact ⟨0, by omega, rfl, Lib.hid ⟨Turned.refl _ _, fun j r hj => by omega⟩⟩
 case round =>
  obtain ⟨i, hi, rfl, HO⟩ := hrel
  by_cases hlt : i < 13
  ·obtain ⟨r, hr⟩ := some_of_lt (show i < opRows.length by simpa [opRows] using hlt)
   obtain ⟨rs, ro, rl⟩ := r
   have hrow := HR.out.turned HO.out.tur id i hlt
   simp only [opRow, hr, binV, Nat.zero_add] at hrow
   have q0 : wr.cell? ⟨gb, i * 3, none⟩ = some (.string rs) := hrow 0 _ rfl
   have q1 : wr.cell? ⟨gb, i * 3 + 1, none⟩ = some (.int .i64 ro) := hrow 1 _ rfl
   have q2 : wr.cell? ⟨gb, i * 3 + 2, none⟩ = some (.int .i64 ((rl : Nat))) := hrow 2 _ rfl
   have HCr := Lib.hid (HC.out wr HO.out.tur rs ro rl)
   have HY : Hid ((ro == op) = true -> opOf op = some i) := Lib.hid fun hy => HO.out.found hr hy
   have HN : Hid ((ro == op) = false -> ∀ wr', Turned (fun _ => False) wr wr' -> OJ op w (i + 1) wr') := Lib.hid fun hy wr' hT => HO.out.next hr hy hT
   clear hr hrow
   generalize (ro == op) = m at HCr HY HN
   cases m with
   | true =>
    have HYX : Hid (idxI (opOf op) = i) := by show _ = _; rw [HY.out rfl]; rfl
    clear HY HN
    go_wp2_with (go_at_call 77; refine HCr.out.mono ?_; rintro e w' ⟨rfl, hT⟩)
    go_ret
    rw [HYX.out]
    exact ⟨rfl, HO.out.tur.trans hT⟩
   | false =>
    have HNX := Lib.hid (HN.out rfl)
    clear HY HN
    go_wp2_with (go_at_call 77; refine HCr.out.mono ?_; rintro e w' ⟨rfl, hT⟩)
    go_roundw
    case rel => exact ⟨i + 1, by omega, by go_num, Lib.hid (HNX.out _ hT)⟩
    case measure => simp [intOf]; omega
  ·obtain rfl : i = 13 := by omega
   have HE : Hid (idxI (opOf op) = -1) := by show _ = _; rw [HO.out.none]; rfl
   go_wp2_with fail
   go_ret
   rw [HE.out]
   exact ⟨rfl, HO.out.tur⟩
theorem lvlOp_found {op : Int} {i : Nat} {r : ByteArray × Int × Nat} (h : opOf op = some i) (hr : opRows[i]? = some r) : (opRows.find? fun r => r.2.1 == op) = some r := by
 unfold opOf at h
 rw [List.findIdx?_eq_some_iff_getElem] at h
 obtain ⟨h1, h2, h3⟩ := h
 rw [List.find?_eq_some_iff_getElem]
 obtain ⟨h4, h5⟩ := List.getElem?_eq_some_iff.1 hr
 rw [h5] at h2
 refine ⟨h2, i, h1, h5, fun j hj => ?_⟩
 have := h3 j hj
 simpa using this
theorem lvlOp_none {op : Int} (h : opOf op = none) : (opRows.find? fun r => r.2.1 == op) = none := by
 unfold opOf at h
 rw [List.findIdx?_eq_none_iff] at h
 rw [List.find?_eq_none]
 intro x hx
 rw [h x hx]; decide
theorem level_pr (x : Ex) (a : Value) (N : Nat -> Prop) (w : World) (hk : KidsAt w N x.kids a) : Calls Tryz.prog 106 #[exA x a] w fun e w' => e = .returned (.int .i64 ((lvlX x.op : Nat))) /\ Turned (fun _ => False) w w' := by
 obtain ⟨pa, ca, rfl⟩ := hk.shape
 clear hk
 obtain ⟨op, n, s, ks, at_⟩ := x
 simp only [exA, Ex.op, Ex.n, Ex.s, Ex.at_, Ex.kids]
 by_cases h20 : op = 20
 ·subst h20
  go_enter Tryz.func106, Tryz.ntmps106
  go_wp2_with fail
  go_ret
  exact ⟨rfl, (Turned.refl _ _).alloc _⟩
 ·by_cases h5 : op = 5
  ·subst h5
   go_enter Tryz.func106, Tryz.ntmps106
   go_wp2_with fail
   go_ret
   exact ⟨rfl, (Turned.refl _ _).alloc _⟩
  ·by_cases h6 : op = 6
   ·subst h6
    go_enter Tryz.func106, Tryz.ntmps106
    go_wp2_with fail
    go_ret
    exact ⟨rfl, (Turned.refl _ _).alloc _⟩
   ·have HL : Hid (lvlX op = match opRows.find? fun r => r.2.1 == op with | some r => r.2.2 | none => 8) := Lib.hid (by rw [lvlX, if_neg h20, if_neg h5, if_neg h6]; rfl)
    have b20 : (op == 20) = false := by simpa using h20
    have b5 : (op == 5) = false := by simpa using h5
    have b6 : (op == 6) = false := by simpa using h6
    obtain ⟨W1, hW1⟩ : ∃ W1, W1 = w.alloc (.cells #[.int .i64 op, .int .i64 n, .string s, .slice pa ks.length ca, .int .i64 at_] 31) := ⟨_, rfl⟩
    have HT : Hid (Turned (fun _ => False) w W1) := Lib.hid (by rw [hW1]; exact (Turned.refl _ _).alloc _)
    have HB : Hid (∀ V, Turned (fun _ => False) W1 V -> V.cell? ⟨w.heap.size, 0, none⟩ = some (.int .i64 op)) := Lib.hid fun V hV => cell_turned hV id (by rw [hW1]; exact cells_list w [(.int .i64 op), .int .i64 n, .string s, .slice pa ks.length ca, .int .i64 at_] 31 0 _ rfl)
    have HOP := Lib.hid (operators_any W1)
    rw [hW1] at HOP
    clear h20 h5 h6
    go_enter Tryz.func106, Tryz.ntmps106
    go_wp2_with (go_at_call 76; refine HOP.out.mono ?_; rintro e w' ⟨g, rfl, hg, hrow, hT⟩; rw [<- hW1] at hT; have HR := Lib.hid hrow; have HT1 := Lib.hid hT; clear hrow hT hg)
    go_loopw [15] (fun u wr => ∃ i : Nat, i <= 13 /\ u = (.int .i64 i) /\ Hid (OJ op w' i wr)) (fun u _ => 13 - (intOf u).toNat)
    case atStart => exact ⟨0, by omega, rfl, Lib.hid ⟨Turned.refl _ _, fun j r hj => by omega⟩⟩
    case round =>
     obtain ⟨i, hi, rfl, HO⟩ := hrel
     have p0 := HB.out wr (HT1.out.trans HO.out.tur)
     have pl := cell_lt p0
     by_cases hlt : i < 13
     ·obtain ⟨r, hr⟩ := some_of_lt (show i < opRows.length by simpa [opRows] using hlt)
      have HRR := Lib.hid hr
      obtain ⟨rs, ro, rl⟩ := r
      have hrow := HR.out.turned HO.out.tur id i hlt
      simp only [opRow, hr, binV, Nat.zero_add] at hrow
      have q0 : wr.cell? ⟨g, i * 3, none⟩ = some (.string rs) := hrow 0 _ rfl
      have q1 : wr.cell? ⟨g, i * 3 + 1, none⟩ = some (.int .i64 ro) := hrow 1 _ rfl
      have q2 : wr.cell? ⟨g, i * 3 + 2, none⟩ = some (.int .i64 ((rl : Nat))) := hrow 2 _ rfl
      clear hr hrow
      cases hm : (ro == op) with
      | true =>
       have HYX : Hid (lvlX op = rl) := by show _ = _; rw [HL.out, lvlOp_found (HO.out.found HRR.out hm) HRR.out]
       go_wp2_with fail
       go_ret
       rw [HYX.out]
       exact ⟨rfl, HT.out.trans (HT1.out.trans (HO.out.tur.trans ((Turned.refl _ _).alloc _)))⟩
      | false =>
       have HNX := Lib.hid (fun wr' hT => HO.out.next (wr' := wr') HRR.out hm hT)
       go_wp2_with fail
       go_roundw
       case rel => exact ⟨i + 1, by omega, by go_num, Lib.hid (HNX.out _ ((Turned.refl _ _).alloc _))⟩
       case measure => simp [intOf]; omega
     ·obtain rfl : i = 13 := by omega
      have HE : Hid (lvlX op = 8) := by show _ = _; rw [HL.out, lvlOp_none HO.out.none]
      go_wp2_with fail
      go_ret
      rw [HE.out]
      exact ⟨rfl, HT.out.trans (HT1.out.trans HO.out.tur)⟩
mutual
def smallX : Ex -> Bool
 | .mk _ _ s ks _ => decide (s.size <= 100000) && smallXs ks
def smallXs : List Ex -> Bool
 | [] => true
 | x :: xs => smallX x && smallXs xs
end
theorem smallXs_mem : ∀ {l : List Ex} {x : Ex}, smallXs l = true -> x ∈ l -> smallX x = true
 | y :: l, x, h, hm => by
  rw [smallXs, Bool.and_eq_true] at h
  rcases List.mem_cons.1 hm with rfl | hm
  ·exact h.1
  ·exact smallXs_mem h.2 hm
theorem smallX_s {x : Ex} (h : smallX x = true) : x.s.size <= 100000 := by
 obtain ⟨op, n, s, ks, at_⟩ := x
 rw [smallX, Bool.and_eq_true] at h
 exact of_decide_eq_true h.1
theorem smallX_kids {x : Ex} (h : smallX x = true) : smallXs x.kids = true := by
 obtain ⟨op, n, s, ks, at_⟩ := x
 rw [smallX, Bool.and_eq_true] at h
 exact h.2
structure XE (B eb : Nat) (x : Ex) (a : Value) (w : World) (ts : List Tok) (bad : Bool) (W : World) : Prop where
 ps : PrS B ts bad W
 tr : PrT B w W
 box : W.heap[eb]? = some (.cells #[.int .i64 x.op, .int .i64 x.n, .string x.s, a, .int .i64 x.at_] 31 (0, 0))
 fr : Free B W eb
 kids : KidsAt W (fun b => b < B) x.kids a
section
variable {B eb : Nat} {x : Ex} {a : Value} {w W W' : World} {ts us : List Tok} {bad bad' : Bool}
theorem XE.start (h : PrS B ts bad w) (hk : KidsAt w (fun b => b < B) x.kids a) : XE B w.heap.size x a w ts bad (w.alloc (.cells #[.int .i64 x.op, .int .i64 x.n, .string x.s, a, .int .i64 x.at_] 31)) := by
 have ht : Turned (fun _ => False) w (w.alloc (.cells #[.int .i64 x.op, .int .i64 x.n, .string x.s, a, .int .i64 x.at_] 31)) := (Turned.refl _ _).alloc _
 obtain ⟨h1, h2⟩ := h.same ht
 exact ⟨h1, h2, heap_alloc_new _ _, h.fresh ht (Nat.le_refl _), hk.move ht (fun _ _ => id) (fun _ hb _ => hb)⟩
theorem XE.call (h : Hid (XE B eb x a w ts bad W)) (hp : PrS B us bad' W') (ht : PrT B W W') : Hid (XE B eb x a w us bad' W') := by
 have hlt := getElem?_lt h.out.box
 obtain ⟨h1, h2⟩ := ht.keep eb hlt h.out.fr
 exact Lib.hid ⟨hp, h.out.tr.trans ht, h1.trans h.out.box, h2, h.out.kids.move ht.turned (fun b hb hn => hn (h.out.ps.data hb)) (fun _ hb _ => hb)⟩
theorem XE.same (h : Hid (XE B eb x a w ts bad W)) (ht : Turned (fun _ => False) W W') : Hid (XE B eb x a w ts bad W') := by
 obtain ⟨h1, h2⟩ := h.out.ps.same ht
 exact XE.call h h1 h2
theorem XE.cells (h : Hid (XE B eb x a w ts bad W)) : W.cell? ⟨eb, 0, none⟩ = some (.int .i64 x.op) /\ W.cell? ⟨eb, 1, none⟩ = some (.int .i64 x.n) /\ W.cell? ⟨eb, 2, none⟩ = some (.string x.s) /\ W.cell? ⟨eb, 3, none⟩ = some a /\ W.cell? ⟨eb, 4, none⟩ = some (.int .i64 x.at_) := by
 have hb := h.out.box
 simp [World.cell?, hb]
end
theorem str_cell (w : World) (s : ByteArray) : (w.alloc (.cells #[.string s] 9)).cell? ⟨w.heap.size, 0, none⟩ = some (.string s) := by
 show (match (w.alloc _).heap[w.heap.size]? with | some (.cells c _ _) => c[0]? | _ => none) = _
 rw [heap_alloc_new]; rfl
theorem sign_pr {B : Nat} {ts : List Tok} {bad : Bool} {W : World} (h : PrS B ts bad W) (hl : ts.length <= 100000) (s : ByteArray) (c : Nat) :
  Calls Tryz.prog 67 #[.pointer (some ⟨B, 0, none⟩), .slice (some ⟨W.heap.size, 0, none⟩) 1 c] (W.alloc (.cells #[.string s] 9)) fun e w' => e = .returned (.tuple #[]) /\ PrS B (ts ++ [sgT s]) bad w' /\ PrT B W w' := by
 obtain ⟨h1, h2⟩ := h.same ((Turned.refl (fun _ => False) W).alloc (.cells #[.string s] 9))
 exact (signs_pr B ts bad s _ h1 hl W.heap.size c (str_cell W s)).mono fun e w' ⟨he, hp, ht⟩ => ⟨he, hp, h2.trans ht⟩
def ExprC (x : Ex) : Prop := ∀ (B : Nat) (ts : List Tok) (bad : Bool) (a : Value) (W : World), PrS B ts bad W -> KidsAt W (fun b => b < B) x.kids a -> ts.length + (showX x).2.1.length <= 100000 -> smallX x = true ->
 Calls Tryz.prog 41 #[.pointer (some ⟨B, 0, none⟩), exA x a] W (PrR B (ts ++ (showX x).2.1) (bad || (showX x).2.2) W)
def OpndC (x : Ex) : Prop := ∀ (B : Nat) (ts : List Tok) (bad : Bool) (a : Value) (need : Nat) (W : World), PrS B ts bad W -> KidsAt W (fun b => b < B) x.kids a -> ts.length + (opndX need x.op (showX x).2).1.length <= 100000 -> smallX x = true ->
 Calls Tryz.prog 74 #[.pointer (some ⟨B, 0, none⟩), exA x a, (.int .i64 ((need : Nat)))] W (PrR B (ts ++ (opndX need x.op (showX x).2).1) (bad || (opndX need x.op (showX x).2).2) W)
theorem operand_of {x : Ex} (hx : ExprC x) : OpndC x := by
 intro B ts bad a need w h hk hl hs
 have HL := Lib.hid (fun (W : World) (hW : KidsAt W (fun b => b < B) x.kids a) => level_pr x a _ W hW)
 have HE := Lib.hid hx
 have HS := Lib.hid (XE.start h hk)
 obtain ⟨pa, ca, rfl⟩ := hk.shape
 clear h hk hx
 unfold exA
 obtain ⟨W1, hW1⟩ : ∃ W1, W1 = w.alloc (.cells #[.int .i64 x.op, .int .i64 x.n, .string x.s, .slice pa x.kids.length ca, .int .i64 x.at_] 31) := ⟨_, rfl⟩
 obtain ⟨eb, heb⟩ : ∃ eb, eb = w.heap.size := ⟨_, rfl⟩
 rw [<- hW1, <- heb] at HS
 have HW := Lib.hid hW1
 have HB := Lib.hid heb
 clear hW1 heb
 go_enter Tryz.func74, Tryz.ntmps74
 go_upto_region 1 with fail
 rw [<- HW.out, <- HB.out]
 obtain ⟨c0, c1, c2, c3, c4⟩ := XE.cells HS
 by_cases hn : need <= lvlX x.op
 ·have hn2 : (need : Int) <= (lvlX x.op : Int) := by omega
  have HO : Hid (opndX need x.op (showX x).2 = (showX x).2) := Lib.hid (by rw [opndX, if_pos hn])
  rw [HO.out] at hl
  clear hn
  have HCL := Lib.hid (HL.out W1 HS.out.kids)
  unfold exA at HCL
  go_wp2_with (first | (go_at_call 106; refine HCL.out.mono ?_; rintro e w2 ⟨rfl, hT⟩; have HS2 := XE.same HS hT; obtain ⟨d0, d1, d2, d3, d4⟩ := XE.cells HS2; clear hT) | (go_at_call 41; refine (HE.out B ts bad _ _ HS2.out.ps HS2.out.kids hl hs).mono ?_; rintro e w3 ⟨rfl, hp, ht⟩))
  go_end0
  rw [HO.out]
  exact ⟨rfl, hp, HS2.out.tr.trans ht⟩
 ·have hn2 : ¬ (need : Int) <= (lvlX x.op : Int) := by omega
  have HO : Hid (opndX need x.op (showX x).2 = (sgT ⟨#[40]⟩ :: ((showX x).2.1 ++ [sgT ⟨#[41]⟩]), (showX x).2.2)) := Lib.hid (by rw [opndX, if_neg hn])
  rw [HO.out] at hl
  clear hn
  simp only [List.length_cons, List.length_append, List.length_nil] at hl
  have HCL := Lib.hid (HL.out W1 HS.out.kids)
  unfold exA at HCL
  go_upto_region 3 with (go_at_call 106; refine HCL.out.mono ?_; rintro e w2 ⟨rfl, hT⟩; have HS2 := XE.same HS hT; clear hT)
  clear c0 c1 c2 c3 c4 HCL
  have HC1 := Lib.hid (sign_pr HS2.out.ps (by omega) ⟨#[40]⟩ 1)
  go_upto_region 4 with (go_at_call 67; refine HC1.out.mono ?_; rintro e w3 ⟨rfl, hp, ht⟩; have HS3 := XE.call HS2 hp ht; obtain ⟨d0, d1, d2, d3, d4⟩ := XE.cells HS3; clear hp ht)
  have HC2 := Lib.hid (HE.out B _ bad _ _ HS3.out.ps HS3.out.kids (by simp; omega) hs)
  unfold exA at HC2
  go_upto_region 5 with (go_at_call 41; refine HC2.out.mono ?_; rintro e w4 ⟨rfl, hp, ht⟩; have HS4 := XE.call HS3 hp ht; clear hp ht)
  have HC3 := Lib.hid (sign_pr HS4.out.ps (by simp; omega) ⟨#[41]⟩ 1)
  go_wp2_with (go_at_call 67; refine HC3.out.mono ?_; rintro e w5 ⟨rfl, hp, ht⟩; have HS5 := XE.call HS4 hp ht; clear hp ht)
  go_end0
  rw [HO.out]
  refine ⟨rfl, ?_, HS5.out.tr⟩
  have := HS5.out.ps
  simpa using this
end Go.Proofs.YtjijdgkccfeeaaaGreatDoor
