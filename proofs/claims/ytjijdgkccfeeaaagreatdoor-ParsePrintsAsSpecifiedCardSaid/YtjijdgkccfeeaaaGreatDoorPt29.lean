/- Part 29 of the proof of card: ParTxM, ParTxP, ParFew, Post, OpenS. Conditions: those of each theorem. -/
import Derived.Test.YtjijdgkccfeeaaaGreatDoorCards
import Derived.Test.YtjijdgkccfeeaaaGreatDoorTie
import Derived.Below
import Derived.ChangeSame
import Derived.WalkKit
import Derived.ProofKit
import Derived.OpenShut
import Derived.Deep.DeepHandedRow
import Derived.Lib.LaidTab
import Derived.WideKeyArgs
import Derived.Carry
import Derived.Lib.SmallJoins
import Derived.Deep.Slices
import Derived.Deep.Fields
import Derived.Test.YtjijdgkccfeeaaaGreatDoorPt01
import Derived.Test.YtjijdgkccfeeaaaGreatDoorPt18
import Derived.Test.YtjijdgkccfeeaaaGreatDoorPt19
import Derived.Test.YtjijdgkccfeeaaaGreatDoorPt28
set_option maxRecDepth 20000
set_option maxHeartbeats 4000000
namespace Go.Proofs.YtjijdgkccfeeaaaGreatDoor
open Go Go.Proofs Go.RowKit
attribute [local go_sem] Oper.semAt_some
def shownFT (t : ByteArray × Bool) : ByteArray × Int := if t.2 then (noB, 1) else match formsP t.1 with
 | .bad _ c => if c = 0 then (t.1, 0) else (noB, 2)
 | .ok _ => (t.1, 0)
def shownFs (l : List Fm) : ByteArray × Int := shownFT (joinT (rtFs l))
theorem sprint_any (l : List Fm) (hs : SzFs l) (hl : l.length <= 100000) (p : Option Addr) (c0 : Nat) (w : World) (hf : FormsAt w (fun _ => True) l (.slice p l.length c0)) : Calls Tryz.prog 22 #[.slice p l.length c0] w fun e w' => e = .returned (.agg #[.string (shownFs l).1, (.int .i64 ((shownFs l).2))]) /\ Turned (fun _ => False) w w' := by
 have HFF : Hid (∀ g ∈ l, ∀ (a b : Value) (W : World), ArgsAt W (fun _ => True) g.args a -> FormsAt W (fun _ => True) g.body b -> Calls Tryz.prog 42 #[fmA g a b] W (ShowF g W)) := Lib.hid fun g hg a b W hA hB => sform_any _ g (Nat.le_refl _) (SzFs_mem hs hg).1 a b W hA hB
 have HSZ : Hid (∀ q ∈ rtFs l, q.1.size <= 1000000000) := Lib.hid fun q hq => by
  rw [rtFs_map] at hq
  obtain ⟨g, hg, rfl⟩ := List.mem_map.1 hq
  exact (SzFs_mem hs hg).2
 have HHL := Lib.hid hl
 have S0 := St.start (T := fun W => FormsAt W (fun _ => True) l (.slice p l.length c0)) hf (fun A B h hb => h.all (Turned.of_new hb))
 clear hf hs hl
 have HX : Hid (shownFs l = shownFT (joinT (rtFs l))) := Lib.hid rfl
 go_enter Tryz.func22, Tryz.ntmps22
 go_upto_region 1 with fail
 obtain ⟨W1, b2, hW, hB, hbl, S1⟩ := St.box S0 shBox
 have HGE : Hid (w.heap.size <= b2) := Lib.hid (by omega)
 rw [<- hW, <- hB]
 clear hW hB hbl S0
 have T5 : Hid (TG W1 W1 (.slice none 0 0) (rtFs (l.take 0))) := Lib.hid (by rw [List.take_zero, rtFs]; exact TG.none W1)
 go_upto_region 3 with fail
 go_loopw [3, 4] (fun u i wr => ∃ (k : Nat) (v : Value), v = u /\ i = (.int .i64 k) /\ k <= l.length /\ Hid (TG W1 wr v (rtFs (l.take k)))) (fun _ i _ => l.length - (intOf i).toNat)
 case atStart => exact ⟨0, _, rfl, rfl, by omega, T5⟩
 case round =>
  clear T5
  obtain ⟨k2, v2, rfl, rfl, hk2, T6⟩ := hrel
  have S6 := St.call S1 T6.out.bel
  have hbl := HHL.out
  have hLL : (rtFs (l.take k2)).length <= 100000 := by
   rw [rtFs_map, List.length_map, List.length_take]
   omega
  by_cases hlt2 : k2 < l.length
  ·obtain ⟨y, hy⟩ := some_of_lt hlt2
   have hkk2 : (k2 : Int) < (l.length : Int) := by omega
   have HST : Hid (rtFs (l.take k2) ++ [rtF y] = rtFs (l.take (k2 + 1))) := Lib.hid (by
    rw [List.take_add_one, hy, Option.toList_some, rtFs_map, rtFs_map, List.map_append]; rfl)
   generalize rtFs (l.take k2) = L2 at T6 hLL HST
   obtain ⟨fb, fa, fk, fm, rfl, ⟨y0, y1, y2, y3⟩, HKA, HKB⟩ := formsAt_get (i := k2) S6.out.tab hy
   obtain ⟨pk, ck, rfl⟩ := HKA.shape
   obtain ⟨pm, cm, rfl⟩ := HKB.shape
   have HC := Lib.hid (HFF.out y (List.mem_of_getElem? hy) _ _ _ HKA HKB)
   unfold fmA ShowF at HC
   generalize rtF y = t at HC HST
   clear hy HKA HKB S6
   go_upto_region 4 with (first | (go_at_call 42; refine HC.out.mono ?_; rintro e W8 ⟨rfl, ht⟩; have T7 := Lib.hid (T6.out.call ht); clear ht y0 y1 y2 y3) | (at_builtin; refine wpList_push T7 t (by omega) rfl _ _ rfl rfl rfl ?_; intro g2 cap2 W9 T9))
   go_wp2_with fail
   go_roundw
   case rel => exact ⟨k2 + 1, _, rfl, by go_num, by omega, by rw [<- HST.out]; exact T9⟩
   case measure => simp [intOf]; omega
  ·obtain rfl : k2 = l.length := by omega
   rw [List.take_length] at T6 hLL
   obtain ⟨pv, cv, rfl⟩ := T6.out.shape
   have HJ := Lib.hid (tjoin_any (rtFs l) pv cv _ T6.out.at (by omega) HSZ.out)
   clear hlt2 hk2 hbl HHL HSZ
   generalize joinT (rtFs l) = t at HJ HX
   have hkk2 : ¬ (l.length : Int) < (l.length : Int) := by omega
   go_upto_region 7 with (go_at_call 43; refine HJ.out.mono ?_; rintro e W3 ⟨rfl, ht⟩; have S3 := St.call S6 (below_turned ht); clear ht S6 HJ T6)
   obtain ⟨W4, b3, hW, hB, hbl, S4⟩ := St.box S3 (.cells #[.string t.1, .bool t.2] 96)
   rw [<- hW, <- hB]
   clear hW hB hbl S3
   obtain ⟨ts, tb⟩ := t
   obtain ⟨y0, y1⟩ := St.cells2 S4 0 rfl
   dsimp only at y0 y1 S4
   cases tb with
   | true =>
    have HR : Hid (shownFs l = (noB, 1)) := Lib.hid (HX.out.trans rfl)
    have hb2 := S4.out.lays.get 1 rfl
    obtain ⟨z0, z1⟩ := cellsTx hb2
    have fq := free_of_box hb2
    have HB2 := Lib.hid hb2
    clear hb2
    go_wp2_with fail
    refine bodyPost_ret (results_shown rfl _ _ b2 _ _ rfl (tx_set HB2.out)) rfl ?_
    rw [HR.out]
    exact ⟨rfl, ((Turned.of_new (C := fun b => w.heap.size <= b) S4.out.bel).trans ((tx_turned _ _ _ _).mono fun b hb => by have := HGE.out; omega)).strip⟩
   | false =>
    have hfld := run_field_read
    have hfld2 := run_field_problem
    have HEX := Lib.hid (rformsS_all ts W4)
    cases hP : formsP ts with
    | bad a c =>
     have HEC : Hid (Calls Tryz.prog 11 #[.string ts] W4 fun e w' => e = .returned (.agg #[.slice none 0 0, .int .i64 0, .int .i64 0, .string ⟨#[]⟩, .slice none 0 0, .int .i64 0, .int .i64 a, .int .i64 c]) /\ Turned (fun _ => False) W4 w') := Lib.hid (HEX.out.mono fun e w' h => by
      unfold ReadF at h
      rw [hP] at h
      exact ⟨h.2, h.1⟩)
     by_cases hc : c = 0
     ·have HR : Hid (shownFs l = (ts, 0)) := Lib.hid (by rw [HX.out]; unfold shownFT; rw [hP]; simp [hc])
      have hcb : (c != 0) = false := by simp [hc]
      clear hc hP HEX
      go_wp2_with (go_at_call 11; refine HEC.out.mono ?_; rintro e W5 ⟨rfl, ht⟩; have S5 := St.call S4 (below_turned ht); clear ht y0 y1 S4; obtain ⟨y0, y1⟩ := St.cells2 S5 0 rfl; have hb2 := S5.out.lays.get 1 rfl; obtain ⟨z0, z1⟩ := cellsTx hb2; have fq := free_of_box hb2; have HB2 := Lib.hid hb2; clear hb2)
      refine bodyPost_ret (results_shown rfl _ _ b2 _ _ rfl (tx_set HB2.out)) rfl ?_
      rw [HR.out]
      exact ⟨rfl, ((Turned.of_new (C := fun b => w.heap.size <= b) S5.out.bel).trans ((tx_turned _ _ _ _).mono fun b hb => by have := HGE.out; omega)).strip⟩
     ·have HR : Hid (shownFs l = (noB, 2)) := Lib.hid (by rw [HX.out]; unfold shownFT; rw [hP]; simp [hc])
      have hcb : (c != 0) = true := by simpa using hc
      clear hc hP HEX
      go_wp2_with (go_at_call 11; refine HEC.out.mono ?_; rintro e W5 ⟨rfl, ht⟩; have S5 := St.call S4 (below_turned ht); clear ht y0 y1 S4; obtain ⟨y0, y1⟩ := St.cells2 S5 0 rfl; have hb2 := S5.out.lays.get 1 rfl; obtain ⟨z0, z1⟩ := cellsTx hb2; have fq := free_of_box hb2; have HB2 := Lib.hid hb2; clear hb2)
      refine bodyPost_ret (results_shown rfl _ _ b2 _ _ rfl (tx_set HB2.out)) rfl ?_
      rw [HR.out]
      exact ⟨rfl, ((Turned.of_new (C := fun b => w.heap.size <= b) S5.out.bel).trans ((tx_turned _ _ _ _).mono fun b hb => by have := HGE.out; omega)).strip⟩
    | ok fs =>
     have HR : Hid (shownFs l = (ts, 0)) := Lib.hid (by rw [HX.out]; unfold shownFT; rw [hP]; rfl)
     have HEC : Hid (Calls Tryz.prog 11 #[.string ts] W4 fun e w' => ∃ p cc, e = .returned (.agg #[.slice p fs.length cc, .int .i64 0, .int .i64 0, .string ⟨#[]⟩, .slice none 0 0, .int .i64 0, .int .i64 0, .int .i64 0]) /\ Turned (fun _ => False) W4 w') := Lib.hid (HEX.out.mono fun e w' h => by
      unfold ReadF at h
      rw [hP] at h
      obtain ⟨ht, p, c, he, -⟩ := h
      exact ⟨p, c, he, ht⟩)
     clear hP HEX
     go_wp2_with (go_at_call 11; refine HEC.out.mono ?_; rintro e W5 ⟨pz, cz, rfl, ht⟩; have S5 := St.call S4 (below_turned ht); clear ht y0 y1 S4; obtain ⟨y0, y1⟩ := St.cells2 S5 0 rfl; have hb2 := S5.out.lays.get 1 rfl; obtain ⟨z0, z1⟩ := cellsTx hb2; have fq := free_of_box hb2; have HB2 := Lib.hid hb2; clear hb2)
     refine bodyPost_ret (results_shown rfl _ _ b2 _ _ rfl (tx_set HB2.out)) rfl ?_
     rw [HR.out]
     exact ⟨rfl, ((Turned.of_new (C := fun b => w.heap.size <= b) S5.out.bel).trans ((tx_turned _ _ _ _).mono fun b hb => by have := HGE.out; omega)).strip⟩
theorem joinTail_app (s : List UInt8) (a b : List (List UInt8)) : Lib.joinTail s (a ++ b) = Lib.joinTail s a ++ Lib.joinTail s b := by simp [Lib.joinTail]
theorem joinTail_one (s a : List UInt8) (b : List (List UInt8)) : Lib.joinTail s (a :: b) = s ++ (a ++ Lib.joinTail s b) := by simp [Lib.joinTail]
theorem tail_joins (s : List UInt8) : ∀ Ls : List (List (List UInt8)), (∀ L ∈ Ls, L ≠ []) -> Lib.joinTail s (Ls.map fun L => Lib.join L s) = Lib.joinTail s Ls.flatten
 | [], _ => rfl
 | [] :: Ls, h => absurd rfl (h [] (by simp))
 | (a :: l) :: Ls, h => by
  rw [List.map_cons, joinTail_one, Lib.join_cons, tail_joins s Ls (fun L hL => h L (List.mem_cons_of_mem _ hL)), List.flatten_cons, joinTail_app, joinTail_one]
  simp
theorem join_joins (s : List UInt8) (Ls : List (List (List UInt8))) (h : ∀ L ∈ Ls, L ≠ []) : Lib.join (Ls.map fun L => Lib.join L s) s = Lib.join Ls.flatten s := by
 match Ls, h with
 | [], _ => rfl
 | [] :: Ls, h => exact absurd rfl (h [] (by simp))
 | (a :: l) :: Ls, h =>
  rw [List.map_cons, Lib.join_cons, Lib.join_cons, tail_joins s Ls (fun L hL => h L (List.mem_cons_of_mem _ hL)), List.flatten_cons, List.cons_append, Lib.join_cons, joinTail_app]
  simp
theorem outQ_outs (Ls : List (List ByteArray)) (h : ∀ L ∈ Ls, L ≠ []) : outQ (Ls.map outQ) = outQ Ls.flatten := by
 have h1 := join_joins [32] (Ls.map fun L => L.map (·.data.toList)) (fun L hL => by
  obtain ⟨M, hM, rfl⟩ := List.mem_map.1 hL
  intro h2
  exact h M hM (List.map_eq_nil_iff.1 h2))
 unfold outQ
 rw [List.map_map]
 rw [List.map_map] at h1
 have h2 : (Ls.map ((fun L => Lib.join L [32]) ∘ fun L => L.map (·.data.toList))) = Ls.map ((fun x : ByteArray => x.data.toList) ∘ fun ws => ⟨(Lib.join (ws.map (·.data.toList)) [32]).toArray⟩) := by
  apply List.map_congr_left
  intro L _
  simp
 rw [h2] at h1
 rw [h1, List.map_flatten]
theorem wordsQ_app (a b : List Tok) : wordsQ (a ++ b) = wordsQ a ++ wordsQ b := by simp [wordsQ]
theorem textQ_eq (a : List Tok) : textQ a = outQ (wordsQ a) := rfl
def Right (p : Pr) (t : ByteArray × Bool) : Prop := t.2 = p.2 /\ (p.2 = false -> wordsQ p.1 ≠ [] /\ t.1 = textQ p.1)
def RightL (p : Pr) (ts : List (ByteArray × Bool)) : Prop := ts.any (·.2) = p.2 /\ (p.2 = false -> ∃ Ls : List (List ByteArray), (∀ L ∈ Ls, L ≠ []) /\ ts.map (·.1) = Ls.map outQ /\ Ls.flatten = wordsQ p.1)
theorem Right.one {p : Pr} {t : ByteArray × Bool} (h : Right p t) : RightL p [t] := by
 refine ⟨by simpa using h.1, fun hp => ⟨[wordsQ p.1], ?_, ?_, ?_⟩⟩
 ·intro L hL
  rw [List.mem_singleton.1 hL]
  exact (h.2 hp).1
 ·simp [(h.2 hp).2, textQ_eq]
 ·simp
theorem RightL.app {p q : Pr} {ts us : List (ByteArray × Bool)} (h : RightL p ts) (g : RightL q us) : RightL (Pr.app p q) (ts ++ us) := by
 refine ⟨by rw [List.any_append, h.1, g.1]; rfl, fun hp => ?_⟩
 obtain ⟨h1, h2⟩ := Bool.or_eq_false_iff.1 (show (p.2 || q.2) = false from hp)
 obtain ⟨L, a1, a2, a3⟩ := h.2 h1
 obtain ⟨M, b1, b2, b3⟩ := g.2 h2
 refine ⟨L ++ M, fun x hx => ?_, by rw [List.map_append, List.map_append, a2, b2], ?_⟩
 ·rcases List.mem_append.1 hx with hx | hx
  ·exact a1 x hx
  ·exact b1 x hx
 ·rw [List.flatten_append, a3, b3]
  exact (wordsQ_app _ _).symm
theorem RightL.cons {p q : Pr} {t : ByteArray × Bool} {us : List (ByteArray × Bool)} (h : Right p t) (g : RightL q us) : RightL (Pr.app p q) (t :: us) := RightL.app h.one g
theorem RightL.nil : RightL ([], false) [] := ⟨rfl, fun _ => ⟨[], by simp, rfl, rfl⟩⟩
theorem RightL.text {p : Pr} {ts : List (ByteArray × Bool)} (h : RightL p ts) : (joinT ts).2 = p.2 /\ (p.2 = false -> (joinT ts).1 = textQ p.1) := by
 refine ⟨h.1, fun hp => ?_⟩
 obtain ⟨L, a1, a2, a3⟩ := h.2 hp
 show outQ (ts.map (·.1)) = _
 rw [a2, outQ_outs L a1, a3]
 rfl
theorem RightL.join {p : Pr} {ts : List (ByteArray × Bool)} (h : RightL p ts) (hn : ts ≠ []) : Right p (joinT ts) := by
 refine ⟨h.text.1, fun hp => ⟨?_, h.text.2 hp⟩⟩
 obtain ⟨L, a1, a2, a3⟩ := h.2 hp
 rw [<- a3]
 match L, a1, a2 with
 | [], _, a2 => exact absurd (List.map_eq_nil_iff.1 a2) hn
 | [] :: L, a1, _ => exact absurd rfl (a1 [] (by simp))
 | (x :: y) :: L, _, _ => simp
theorem Right.bad {l : List Tok} {s : ByteArray} : Right (l, true) (s, true) := ⟨rfl, fun h => by cases h⟩
theorem right_sign (s : ByteArray) : Right ([sgT s], false) (tx s) := by
 refine ⟨rfl, fun _ => ⟨?_, ?_⟩⟩
 ·simp [wordsQ, wordQ, sgT]
 ·rw [textQ_eq]; simp [wordsQ, wordQ, sgT, outQ_one, tx]
theorem right_name (s : ByteArray) (b : Bool) : Right ([nmT s], b) (s, b) := by
 refine ⟨rfl, fun _ => ⟨?_, ?_⟩⟩
 ·simp [wordsQ, wordQ, nmT]
 ·rw [textQ_eq]; simp [wordsQ, wordQ, nmT, outQ_one]
theorem right_num (n : Int) (b : Bool) : Right ([nuT n], b) (textQ [nuT n], b) := ⟨rfl, fun _ => ⟨by simp [wordsQ, wordQ, nuT], rfl⟩⟩
theorem right_text (s : ByteArray) (b : Bool) : Right ([txT s], b) (textQ [txT s], b) := ⟨rfl, fun _ => ⟨by simp [wordsQ, wordQ, txT], rfl⟩⟩
theorem right_at {p : Pr} {t : ByteArray × Bool} (need : Nat) (op : Int) (h : Right p t) : Right (opndX need op p) (rtAt need op t) := by
 unfold opndX rtAt
 split
 ·exact h
 ·have h1 := RightL.cons (right_sign ⟨#[40]⟩) (RightL.cons h (right_sign ⟨#[41]⟩).one)
  have h2 := h1.join (by simp)
  have e : Pr.app ([sgT ⟨#[40]⟩], false) (Pr.app p ([sgT ⟨#[41]⟩], false)) = (sgT ⟨#[40]⟩ :: (p.1 ++ [sgT ⟨#[41]⟩]), p.2) := by simp [Pr.app]
  rw [e] at h2
  exact h2
def RightK : List (Int × Pr) -> List (Int × (ByteArray × Bool)) -> Prop
 | [], [] => True
 | (p, a) :: K, (q, t) :: L => p = q /\ Right a t /\ RightK K L
 | _, _ => False
theorem right_call : ∀ (k : Nat) (K : List (Int × Pr)) (L : List (Int × (ByteArray × Bool))), RightK K L -> RightL (callX k K) (rtCall k L)
 | _, [], [], _ => RightL.nil
 | k, (p, a) :: K, (q, t) :: L, h => by
  obtain ⟨rfl, h1, h2⟩ := h
  unfold callX rtCall
  have h3 := RightL.cons (right_at 0 p h1) (right_call (k + 1) K L h2)
  split
  ·exact RightL.app (right_sign ⟨#[44]⟩).one h3
  ·exact RightL.app RightL.nil h3
 | _, [], _ :: _, h => h.elim
 | _, _ :: _, [], h => h.elim
theorem right_head (op n : Int) (s : ByteArray) (K : List (Int × Pr)) (L : List (Int × (ByteArray × Bool))) (h : RightK K L) : Right (headX op n s K) (rtH op n s L) := by
 unfold headX rtH
 split
 ·exact right_num _ _
 split
 ·exact right_text _ _
 split
 ·exact right_name _ _
 split
 ·have h1 := RightL.cons (right_name s (badName s)) (RightL.cons (right_sign ⟨#[40]⟩) (RightL.app (right_call 0 K L h) (right_sign ⟨#[41]⟩).one))
  have e : ∀ X : Pr, Pr.app ([nmT s], badName s) (Pr.app ([sgT ⟨#[40]⟩], false) X) = Pr.app ([nmT s, sgT ⟨#[40]⟩], badName s) X := fun X => by simp [Pr.app]
  rw [e] at h1
  exact h1.join (by simp)
 match K, L, h with
 | [], [], _ => exact Right.bad
 | [(p, a)], [(q, t)], h =>
  obtain ⟨rfl, h1, -⟩ := h
  dsimp only
  split
  ·exact (RightL.cons (right_sign _) (right_at 3 p h1).one).join (by simp)
  split
  ·exact (RightL.cons (right_sign _) (right_at 7 p h1).one).join (by simp)
  ·exact Right.bad
 | [(p, a), (p2, a2)], [(q, t), (q2, t2)], h =>
  obtain ⟨rfl, h1, rfl, h2, -⟩ := h
  dsimp only
  generalize (opRows.find? fun r => r.2.1 == op) = o
  cases o with
  | some r => exact (RightL.cons (right_at _ p h1) (RightL.cons (right_sign _) (right_at _ p2 h2).one)).join (by simp)
  | none => exact Right.bad
 | [(p, a), (p2, a2), (p3, a3)], [(q, t), (q2, t2), (q3, t3)], h =>
  obtain ⟨rfl, h1, rfl, h2, rfl, h3, -⟩ := h
  dsimp only
  split
  ·exact (RightL.cons (right_at _ p h1) (RightL.cons (right_sign _) (RightL.cons (right_at _ p2 h2) (RightL.cons (right_sign _) (right_at _ p3 h3).one)))).join (by simp)
  ·exact Right.bad
 | _ :: _ :: _ :: _ :: _, _ :: _ :: _ :: _ :: _, _ => exact Right.bad
mutual
theorem right_X : ∀ x : Ex, Right (showX x).2 (rtX x)
 | .mk op n s ks _ => by
  rw [showX, rtX]
  exact right_head op n s _ _ (right_Xs ks)
theorem right_Xs : ∀ l : List Ex, RightK (showXs l) (rtXs l)
 | [] => by rw [showXs, rtXs]; trivial
 | x :: l => by
  rw [showXs, rtXs]
  have h1 := right_X x
  obtain ⟨op, n, s, ks, at_⟩ := x
  rw [showX] at h1 ⊢
  exact ⟨rfl, h1, right_Xs l⟩
end
theorem right_A (a : Ar) : RightL (showA a) (rtArg a) := by
 unfold showA rtArg
 split
 ·exact (right_name _ _).one
 split
 ·split
  ·by_cases hn : a.n < -999999999999999
   ·rw [if_pos hn]
    exact ⟨by simp [tx, hn], fun h => by simp [hn] at h⟩
   ·rw [if_neg hn]
    have e1 : IntKind.i64.wrap (-(a.n + 1) + 1) = -a.n := by rw [IntWalk.i64_in _ (by omega)]; omega
    have e2 : wrap64 (-a.n) = -a.n := by unfold wrap64; omega
    have e3 : max (-a.n) 0 = -a.n := by omega
    rw [e1, e2, e3]
    have h1 := RightL.app (right_sign ⟨#[45]⟩).one (right_num (-a.n) (badNum (-a.n))).one
    have e4 : Pr.app ([sgT ⟨#[45]⟩], false) ([nuT (-a.n)], badNum (-a.n)) = ([sgT ⟨#[45]⟩, nuT (-a.n)], badNum (-a.n) || decide (a.n < -999999999999999)) := by simp [Pr.app, hn]
    rw [e4] at h1
    simpa using h1
  ·exact (right_num _ _).one
 split
 ·exact (right_text _ _).one
 split
 ·exact (right_sign _).one
 split
 ·have h1 := RightL.cons (right_sign ⟨#[40]⟩) (RightL.cons (right_X a.e) (right_sign ⟨#[41]⟩).one)
  have e : Pr.app ([sgT ⟨#[40]⟩], false) (Pr.app (showX a.e).2 ([sgT ⟨#[41]⟩], false)) = (sgT ⟨#[40]⟩ :: ((showX a.e).2.1 ++ [sgT ⟨#[41]⟩]), (showX a.e).2.2) := by simp [Pr.app]
  rw [e] at h1
  exact h1
 ·exact Right.bad.one
theorem right_As : ∀ l : List Ar, RightL (showAs l) (l.flatMap rtArg)
 | [] => RightL.nil
 | a :: l => by
  rw [showAs, List.flatMap_cons]
  exact RightL.app (right_A a) (right_As l)
mutual
theorem right_F : ∀ f : Fm, Right (showF f) (rtF f)
 | .mk w zs fs _ => by
  rw [showF, rtF]
  have hf := right_Fs fs
  have h1 : RightL (if fs.isEmpty then ([sgT ⟨#[59]⟩], false) else Pr.app ([sgT ⟨#[123]⟩], false) (Pr.app (showFs fs) ([sgT ⟨#[125]⟩], false))) (if fs.length = 0 then [tx ⟨#[59]⟩] else tx ⟨#[123]⟩ :: (rtFs fs ++ [tx ⟨#[125]⟩])) := by
   cases fs with
   | nil => exact (right_sign _).one
   | cons f fs => exact RightL.cons (right_sign _) (RightL.app hf (right_sign _).one)
  exact (RightL.app (RightL.cons (right_name w (badName w)) (right_As zs)) h1).join (by simp) |> fun h => by
   rw [Pr.app_assoc] at h
   exact h
theorem right_Fs : ∀ l : List Fm, RightL (showFs l) (rtFs l)
 | [] => by rw [showFs, rtFs]; exact RightL.nil
 | f :: l => by
  rw [showFs, rtFs]
  exact RightL.cons (right_F f) (right_Fs l)
end
theorem shownX_eq (x : Ex) : shownX x = printX x := by
 obtain ⟨h1, h2⟩ := right_X x
 unfold shownX printX shownT printed
 rw [h1]
 cases hb : (showX x).2.2 with
 | true => rfl
 | false =>
  rw [(h2 hb).2]
  simp only [Bool.false_eq_true, ↓reduceIte]
  cases hr : exprP (textQ (showX x).2.1) with
  | bad a c => simp [okE, exprP_err hr]
  | ok y => rfl
theorem shownFs_eq (l : List Fm) : shownFs l = printFs l := by
 obtain ⟨h1, h2⟩ := (right_Fs l).text
 unfold shownFs printFs shownFT printed
 rw [h1]
 cases hb : (showFs l).2 with
 | true => rfl
 | false =>
  rw [h2 hb]
  simp only [Bool.false_eq_true, ↓reduceIte]
  cases hr : formsP (textQ (showFs l).1) with
  | bad a c => simp [okE, formsP_err hr]
  | ok y => rfl
mutual
def fewX : Ex -> Int -> Int
 | .mk _ _ s ks _, n => if n <= 0 \/ 300 < s.size then -1 else fewXs ks (n - 1)
def fewXs : List Ex -> Int -> Int
 | [], n => n
 | k :: ks, n => if n < 0 then n else fewXs ks (fewX k n)
end
def fewAs : List Ar -> Int -> Int
 | [], n => n
 | a :: zs, n => if n < 0 then n else if 300 < a.s.size then -1 else fewAs zs (fewX a.e n)
mutual
def fewF : Fm -> Int -> Int
 | .mk w zs fs _, n => if 300 < w.size then -1 else if fewAs zs (n - zs.length) < 0 then fewAs zs (n - zs.length) else max (fewFs fs (fewAs zs (n - zs.length) - fs.length)) (-1)
def fewFs : List Fm -> Int -> Int
 | [], n => n
 | f :: fs, n => if n < 0 then n else fewFs fs (fewF f n)
end
def fewL (l : List Fm) (n : Int) : Int := max (fewFs l (n - l.length)) (-1)
theorem fewX_eq (x : Ex) (n : Int) : fewX x n = if n <= 0 \/ 300 < x.s.size then -1 else fewXs x.kids (n - 1) := by cases x; rw [fewX]; rfl
theorem fewF_eq (f : Fm) (n : Int) : fewF f n = if 300 < f.word.size then -1 else if fewAs f.args (n - f.args.length) < 0 then fewAs f.args (n - f.args.length) else fewL f.body (fewAs f.args (n - f.args.length)) := by cases f; rw [fewF]; rfl
mutual
theorem fewX_le : ∀ (x : Ex) (n : Int), 0 <= n -> -1 <= fewX x n /\ fewX x n <= n
 | .mk _ _ s ks _, n, h => by
  rw [fewX]
  split
  ·omega
  ·have := fewXs_le ks (n - 1) (by omega)
   omega
theorem fewXs_le : ∀ (l : List Ex) (n : Int), -1 <= n -> -1 <= fewXs l n /\ fewXs l n <= n
 | [], n, h => by rw [fewXs]; omega
 | k :: ks, n, h => by
  rw [fewXs]
  split
  ·omega
  ·have h1 := fewX_le k n (by omega)
   have h2 := fewXs_le ks (fewX k n) h1.1
   omega
end
theorem fewXs_neg {l : List Ex} {n : Int} (h : n < 0) : fewXs l n = n := by
 cases l with
 | nil => rw [fewXs]
 | cons k ks => rw [fewXs, if_pos h]
theorem fewXs_step {l : List Ex} {k : Nat} {y : Ex} {n : Int} (hy : l[k]? = some y) (h : 0 <= n) : fewXs (l.drop k) n = fewXs (l.drop (k + 1)) (fewX y n) := by
 have hlt := lt_of_some hy
 rw [List.drop_eq_getElem_cons hlt, fewXs, if_neg (by omega)]
 rw [List.getElem?_eq_getElem hlt] at hy
 cases hy; rfl
theorem exprs_any : ∀ (m : Nat) (x : Ex), SizeOf.sizeOf x <= m -> ∀ (n : Int) (a : Value) (w : World), 0 <= n -> n <= 1000 -> KidsAt w (fun _ => True) x.kids a ->
  Calls Tryz.prog 19 #[exA x a, .int .i64 n] w fun e w' => e = .returned (.int .i64 (fewX x n)) /\ Turned (fun _ => False) w w'
 | 0, x, hm => by cases x; simp at hm
 | m + 1, x, hm => by
  intro n a w hn0 hn1 hk
  have HF : Hid (∀ y ∈ x.kids, ∀ (n : Int) (a : Value) (w : World), 0 <= n -> n <= 1000 -> KidsAt w (fun _ => True) y.kids a -> Calls Tryz.prog 19 #[exA y a, .int .i64 n] w fun e w' => e = .returned (.int .i64 (fewX y n)) /\ Turned (fun _ => False) w w') :=
   Lib.hid fun y hy n a w h0 h1 hk => exprs_any m y (by
    have h1 := List.sizeOf_lt_of_mem hy
    obtain ⟨p, n, s, ks, at_⟩ := x
    simp only [Ex.mk.sizeOf_spec] at hm
    simp only [Ex.kids] at h1
    omega) n a w h0 h1 hk
  have hE := fewX_eq x n
  obtain ⟨pa, ca, rfl⟩ := hk.shape
  have hlk := hk.len
  unfold maxLen at hlk
  have HK := Lib.hid hk
  clear hk hm
  by_cases h0 : n <= 0
  ·rw [if_pos (.inl h0)] at hE
   have HE := Lib.hid hE
   clear hE HF
   unfold exA
   go_enter Tryz.func19, Tryz.ntmps19
   go_wp2_with fail
   go_ret
   rw [HE.out]
   exact ⟨rfl, (Turned.refl _ _).alloc _⟩
  by_cases hs : 300 < x.s.size
  ·rw [if_pos (.inr hs)] at hE
   have HE := Lib.hid hE
   have hs2 : (300 : Int) < (x.s.size : Int) := by omega
   clear hE HF hs
   unfold exA
   go_enter Tryz.func19, Tryz.ntmps19
   go_wp2_with fail
   go_ret
   rw [HE.out]
   exact ⟨rfl, (Turned.refl _ _).alloc _⟩
  rw [if_neg (by omega)] at hE
  have HE := Lib.hid hE
  have hs2 : ¬ (300 : Int) < (x.s.size : Int) := by omega
  have hw : IntKind.i64.wrap (n - 1) = n - 1 := IntWalk.i64_in _ (by omega)
  obtain ⟨w1, hw1⟩ : ∃ w1, w1 = w.alloc (.cells #[.int .i64 x.op, .int .i64 x.n, .string x.s, .slice pa x.kids.length ca, .int .i64 x.at_] 31) := ⟨_, rfl⟩
  have hb : w1.heap[w.heap.size]? = some (.cells #[.int .i64 x.op, .int .i64 x.n, .string x.s, .slice pa x.kids.length ca, .int .i64 x.at_] 31 (0, 0)) := by rw [hw1]; exact heap_alloc_new _ _
  have t1 : Turned (fun _ => False) w w1 := by rw [hw1]; exact (Turned.refl _ _).alloc _
  have HW := Lib.hid hw1
  have HB := Lib.hid hb
  have HT := Lib.hid t1
  clear hE hs hw1 hb t1
  unfold exA
  go_enter Tryz.func19, Tryz.ntmps19
  go_upto_region 5 with fail
  rw [<- HW.out]
  clear HW hw hs2
  go_loopw [1, 5] (fun v i wr => ∃ (k : Nat) (z : Int), k <= x.kids.length /\ z <= 1000 /\ v = (.int .i64 z) /\ i = (.int .i64 k) /\ Hid (Turned (fun _ => False) w1 wr /\ fewXs (x.kids.drop k) z = fewX x n)) (fun _ i _ => x.kids.length - (intOf i).toNat)
  case atStart => exact ⟨0, n - 1, by omega, by omega, rfl, rfl, Lib.hid ⟨Turned.refl _ _, by rw [HE.out]; rfl⟩⟩
  case round =>
   obtain ⟨k, z, hk, hz, rfl, rfl, HR⟩ := hrel
   obtain ⟨x0, x1, x2, x3, x4⟩ := cellsFive ((HR.out.1.block _ (getElem?_lt HB.out) id).trans HB.out)
   by_cases hlt : k < x.kids.length
   ·have hix : (k : Int) < (x.kids.length : Int) := by omega
    by_cases hz0 : 0 <= z
    ·obtain ⟨y, hy⟩ := some_of_lt hlt
     obtain ⟨yb, ya, yk, rfl, ⟨y0, y1, y2, y3, y4⟩, HKy⟩ := kidsAt_get (HK.out.all (HT.out.trans HR.out.1)) hy
     obtain ⟨py, cy, rfl⟩ := HKy.shape
     have HC := Lib.hid (HF.out y (List.mem_of_getElem? hy) z _ wr hz0 hz HKy)
     have hle := fewX_le y z hz0
     have HR2 : Hid (fewXs (x.kids.drop (k + 1)) (fewX y z) = fewX x n) := Lib.hid (by rw [<- fewXs_step hy hz0]; exact HR.out.2)
     generalize fewX y z = z2 at HC hle HR2
     unfold exA at HC
     clear hy HKy
     go_wp2_with (go_at_call 19; refine HC.out.mono ?_; rintro e W9 ⟨rfl, ht⟩; have HT9 := Lib.hid (HR.out.1.trans ht); clear ht)
     go_roundw
     case rel => exact ⟨k + 1, z2, by omega, by omega, rfl, by go_num, Lib.hid ⟨HT9.out, HR2.out⟩⟩
     case measure => simp [intOf]; omega
    ·have HR2 : Hid (fewX x n = z) := Lib.hid (by rw [<- HR.out.2]; exact fewXs_neg (by omega))
     go_wp2_with fail
     go_ret
     rw [HR2.out]
     exact ⟨rfl, HT.out.trans HR.out.1⟩
   ·have hix : ¬ (k : Int) < (x.kids.length : Int) := by omega
    have HR2 : Hid (fewX x n = z) := Lib.hid (by rw [<- HR.out.2, List.drop_eq_nil_of_le (by omega), fewXs])
    go_wp2_with fail
    go_ret
    rw [HR2.out]
    exact ⟨rfl, HT.out.trans HR.out.1⟩
theorem fewAs_le : ∀ (l : List Ar) (n : Int), (n < 0 -> fewAs l n = n) /\ (0 <= n -> -1 <= fewAs l n /\ fewAs l n <= n)
 | [], n => ⟨fun _ => by rw [fewAs], fun h => by rw [fewAs]; omega⟩
 | a :: zs, n => ⟨fun h => by rw [fewAs, if_pos h], fun h => by
   rw [fewAs, if_neg (by omega)]
   split
   ·omega
   ·have h1 := fewX_le a.e n h
    have h2 := fewAs_le zs (fewX a.e n)
    by_cases h3 : fewX a.e n < 0
    ·rw [h2.1 h3]; omega
    ·have := h2.2 (by omega); omega⟩
theorem fewAs_step {l : List Ar} {k : Nat} {y : Ar} {n : Int} (hy : l[k]? = some y) (h : 0 <= n) : fewAs (l.drop k) n = if 300 < y.s.size then -1 else fewAs (l.drop (k + 1)) (fewX y.e n) := by
 have hlt := lt_of_some hy
 rw [List.drop_eq_getElem_cons hlt, fewAs, if_neg (by omega)]
 rw [List.getElem?_eq_getElem hlt] at hy
 cases hy; rfl
mutual
theorem fewF_le : ∀ (f : Fm) (n : Int), 0 <= n -> fewF f n <= n
 | .mk w zs fs _, n, h => by
  rw [fewF]
  have h1 := fewAs_le zs (n - zs.length)
  split
  ·omega
  ·split
   ·rename_i h2
    by_cases h3 : n - (zs.length : Int) < 0
    ·rw [h1.1 h3]; omega
    ·have := h1.2 (by omega); omega
   ·rename_i h2
    have h4 : 0 <= n - (zs.length : Int) := by
     rcases Int.lt_or_le (n - (zs.length : Int)) 0 with h3 | h3
     ·rw [h1.1 h3] at h2; omega
     ·exact h3
    have h5 := h1.2 h4
    have h6 := fewFs_le fs (fewAs zs (n - zs.length) - fs.length)
    rcases Int.lt_or_le (fewAs zs (n - zs.length) - (fs.length : Int)) 0 with h7 | h7
    ·have := h6.1 h7; omega
    ·have := h6.2 h7; omega
theorem fewFs_le : ∀ (l : List Fm) (n : Int), (n < 0 -> fewFs l n = n) /\ (0 <= n -> fewFs l n <= n)
 | [], n => ⟨fun _ => by rw [fewFs], fun _ => by rw [fewFs]; omega⟩
 | f :: fs, n => ⟨fun h => by rw [fewFs, if_pos h], fun h => by
   rw [fewFs, if_neg (by omega)]
   have h1 := fewF_le f n h
   have h2 := fewFs_le fs (fewF f n)
   rcases Int.lt_or_le (fewF f n) 0 with h3 | h3
   ·rw [h2.1 h3]; omega
   ·have := h2.2 h3; omega⟩
end
theorem fewL_le (l : List Fm) (n : Int) (h : 0 <= n) : -1 <= fewL l n /\ fewL l n <= n := by
 unfold fewL
 have h1 := fewFs_le l (n - l.length)
 rcases Int.lt_or_le (n - (l.length : Int)) 0 with h3 | h3
 ·rw [h1.1 h3]; omega
 ·have := h1.2 h3; omega
theorem fewFs_step {l : List Fm} {k : Nat} {y : Fm} {n : Int} (hy : l[k]? = some y) (h : 0 <= n) : fewFs (l.drop k) n = fewFs (l.drop (k + 1)) (fewF y n) := by
 have hlt := lt_of_some hy
 rw [List.drop_eq_getElem_cons hlt, fewFs, if_neg (by omega)]
 rw [List.getElem?_eq_getElem hlt] at hy
 cases hy; rfl
theorem forms_few : ∀ (m : Nat) (l : List Fm), SizeOf.sizeOf l <= m -> ∀ (n : Int) (v : Value) (w : World), 0 <= n -> n <= 1000 -> FormsAt w (fun _ => True) l v ->
  Calls Tryz.prog 38 #[v, .int .i64 n] w fun e w' => e = .returned (.int .i64 (fewL l n)) /\ Turned (fun _ => False) w w'
 | 0, l, hm => by cases l <;> simp at hm
 | m + 1, l, hm => by
  intro n v w hn0 hn1 hf
  have HF : Hid (∀ f ∈ l, ∀ (n : Int) (v : Value) (w : World), 0 <= n -> n <= 1000 -> FormsAt w (fun _ => True) f.body v -> Calls Tryz.prog 38 #[v, .int .i64 n] w fun e w' => e = .returned (.int .i64 (fewL f.body n)) /\ Turned (fun _ => False) w w') :=
   Lib.hid fun f hf n v w h0 h1 hk => forms_few m f.body (by
    have h1 := List.sizeOf_lt_of_mem hf
    obtain ⟨s, zs, fs, at_⟩ := f
    simp only [Fm.mk.sizeOf_spec] at h1
    simp only [Fm.body]
    omega) n v w h0 h1 hk
  obtain ⟨pv, cv, rfl⟩ := hf.shape
  have hlk := hf.len
  unfold maxLen at hlk
  have hw : IntKind.i64.wrap (n - (l.length : Int)) = n - (l.length : Int) := IntWalk.i64_in _ (by omega)
  have HL := Lib.hid hf
  clear hf hm
  go_enter Tryz.func38, Tryz.ntmps38
  go_upto_region 3 with fail
  clear hw
  go_loopw [1, 5] (fun v i wr => ∃ (k : Nat) (z : Int), k <= l.length /\ z <= 1000 /\ v = (.int .i64 z) /\ i = (.int .i64 k) /\ Hid (Turned (fun _ => False) w wr /\ max (fewFs (l.drop k) z) (-1) = fewL l n)) (fun _ i _ => l.length - (intOf i).toNat)
  case atStart => exact ⟨0, n - l.length, by omega, by omega, rfl, rfl, Lib.hid ⟨Turned.refl _ _, rfl⟩⟩
  case round =>
   obtain ⟨k, z, hk, hz, rfl, rfl, HR⟩ := hrel
   obtain ⟨wo, rfl⟩ : ∃ wo, wo = wr := ⟨_, rfl⟩
   by_cases hlt : k < l.length
   ·have hix : (k : Int) < (l.length : Int) := by omega
    by_cases hz0 : 0 <= z
    ·obtain ⟨y, hy⟩ := some_of_lt hlt
     obtain ⟨fb, fa, fk, fm, rfl, ⟨x0, x1, x2, x3⟩, HA, HB⟩ := formsAt_get (HL.out.all HR.out.1) hy
     obtain ⟨pa, ca, rfl⟩ := HA.shape
     obtain ⟨pb, cb, rfl⟩ := HB.shape
     have hla := HA.len
     unfold maxLen at hla
     have hwz : IntKind.i64.wrap (z - (y.args.length : Int)) = z - (y.args.length : Int) := IntWalk.i64_in _ (by omega)
     have hE := fewF_eq y z
     have HST : Hid (max (fewFs (l.drop (k + 1)) (fewF y z)) (-1) = fewL l n) := Lib.hid (by rw [<- fewFs_step hy hz0]; exact HR.out.2)
     have HFL := Lib.hid (fewF_le y z hz0)
     have HAS := Lib.hid (fewAs_le y.args (z - y.args.length))
     have HC := Lib.hid (fun (z' : Int) (W : World) (h0 : 0 <= z') (h1 : z' <= 1000) (h : Turned (fun _ => False) wo W) => HF.out y (List.mem_of_getElem? hy) z' _ W h0 h1 (HB.all h))
     have HAr := Lib.hid HA
     have HX0 := Lib.hid x0
     have HX1 := Lib.hid x1
     have HX2 := Lib.hid x2
     have HE := Lib.hid hE
     clear hy HA HB hE
     by_cases hw3 : 300 < y.word.size
     ·have hw4 : (300 : Int) < (y.word.size : Int) := by omega
      have HRES : Hid (fewL l n = -1) := Lib.hid (by
       have h1 := HE.out
       rw [if_pos hw3] at h1
       rw [<- HST.out, h1, (fewFs_le _ _).1 (by omega)]; rfl)
      clear hw3 HE HST HFL HAS HC HAr
      go_wp2_with fail
      go_ret
      rw [HRES.out]
      exact ⟨rfl, HR.out.1⟩
     ·have hw4 : ¬ (300 : Int) < (y.word.size : Int) := by omega
      go_upto_region 9 with fail
      clear x0 x1 x2 x3 hwz hw4
      go_loopw [1, 6] (fun v i wr => ∃ (i' : Nat) (z' : Int), i' <= y.args.length /\ z' <= 1000 /\ v = (.int .i64 z') /\ i = (.int .i64 i') /\ Hid (Turned (fun _ => False) wo wr /\ fewAs (y.args.drop i') z' = fewAs y.args (z - y.args.length))) (fun _ i _ => y.args.length - (intOf i).toNat)
      case atStart => exact ⟨0, z - y.args.length, by omega, by omega, rfl, rfl, Lib.hid ⟨Turned.refl _ _, rfl⟩⟩
      case round =>
       obtain ⟨i', z', hi', hz', rfl, rfl, HI⟩ := hrel
       have x1 := cell_turned HI.out.1 id HX1.out
       have hout : ∀ h : fewAs y.args (z - y.args.length) = z', True := fun _ => trivial
       by_cases hgo : i' < y.args.length /\ 0 <= z'
       ·obtain ⟨hli, hz0'⟩ := hgo
        have hiy : (i' : Int) < (y.args.length : Int) := by omega
        obtain ⟨a, ha⟩ := some_of_lt hli
        obtain ⟨ab, aa, ak, rfl, ⟨a0, a1, a2, a3, a4, a5, a6, a7, a8⟩, HK⟩ := argsAt_get (HAr.out.all HI.out.1) ha
        obtain ⟨pk, ck, rfl⟩ := HK.shape
        have hst := fewAs_step ha hz0'
        by_cases hs3 : 300 < a.s.size
        ·have hs4 : (300 : Int) < (a.s.size : Int) := by omega
         have HRES : Hid (fewL l n = -1) := Lib.hid (by
          rw [if_pos hs3, HI.out.2] at hst
          have h1 := HE.out
          rw [if_neg hw3, hst, if_pos (by omega)] at h1
          rw [<- HST.out, h1, (fewFs_le _ _).1 (by omega)]; rfl)
         clear hs3 hst ha HK HC HE HST HFL HAS
         go_wp2_with fail
         go_ret
         rw [HRES.out]
         exact ⟨rfl, HR.out.1.trans HI.out.1⟩
        ·have hs4 : ¬ (300 : Int) < (a.s.size : Int) := by omega
         rw [if_neg hs3, HI.out.2] at hst
         have hle := fewX_le a.e z' hz0'
         have HCX := Lib.hid (exprs_any _ a.e (Nat.le_refl _) z' (.slice pk a.e.kids.length ck) wr hz0' hz' HK)
         have HST2 := Lib.hid hst
         generalize fewX a.e z' = z2 at HCX hle HST2
         unfold exA at HCX
         clear hs3 hst ha HK
         go_wp2_with (go_at_call 19; refine HCX.out.mono ?_; rintro e W9 ⟨rfl, ht⟩; have HT9 := Lib.hid (HI.out.1.trans ht); clear ht)
         go_roundw
         case rel => exact ⟨i' + 1, z2, by omega, by omega, rfl, by go_num, Lib.hid ⟨HT9.out, HST2.out.symm⟩⟩
         case measure => simp [intOf]; omega
       ·have HAV : Hid (fewAs y.args (z - y.args.length) = z') := Lib.hid (by
         rw [<- HI.out.2]
         rcases Int.lt_or_le z' 0 with h | h
         ·exact (fewAs_le _ _).1 h
         ·rw [List.drop_eq_nil_of_le (by omega), fewAs])
        by_cases hli : i' < y.args.length
        ·have hiy : (i' : Int) < (y.args.length : Int) := by omega
         have hz1 : ¬ 0 <= z' := by omega
         have HFZ : Hid (fewF y z = z') := Lib.hid (by
          have h1 := HE.out
          rw [if_neg hw3, HAV.out, if_pos (by omega)] at h1
          exact h1)
         have HST2 := Lib.hid (HFZ.out ▸ HST.out)
         clear HE HST HFL HAS HC HAr HAV HFZ hw3
         go_wp2_with fail
         go_roundw
         case rel => exact ⟨k + 1, z', by omega, by omega, rfl, by go_num, Lib.hid ⟨HR.out.1.trans HI.out.1, HST2.out⟩⟩
         case measure => simp [intOf]; omega
        have hiy : ¬ (i' : Int) < (y.args.length : Int) := by omega
        by_cases hz1 : 0 <= z'
        ·have HFZ : Hid (fewF y z = fewL y.body z') := Lib.hid (by
          have h1 := HE.out
          rw [if_neg hw3, HAV.out, if_neg (by omega)] at h1
          exact h1)
         have HST2 := Lib.hid (HFZ.out ▸ HST.out)
         have HCB := Lib.hid (HC.out z' wr hz1 hz' HI.out.1)
         have hle := fewL_le y.body z' hz1
         have x2 := cell_turned HI.out.1 id HX2.out
         clear HE HST HFL HAS HC HAr HAV HFZ hw3
         generalize fewL y.body z' = z2 at HST2 HCB hle
         go_wp2_with (go_at_call 38; refine HCB.out.mono ?_; rintro e W9 ⟨rfl, ht⟩; have HT9 := Lib.hid ((HR.out.1.trans HI.out.1).trans ht); clear ht)
         go_roundw
         case rel => exact ⟨k + 1, z2, by omega, by omega, rfl, by go_num, Lib.hid ⟨HT9.out, HST2.out⟩⟩
         case measure => simp [intOf]; omega
        ·have HFZ : Hid (fewF y z = z') := Lib.hid (by
          have h1 := HE.out
          rw [if_neg hw3, HAV.out, if_pos (by omega)] at h1
          exact h1)
         have HST2 := Lib.hid (HFZ.out ▸ HST.out)
         clear HE HST HFL HAS HC HAr HAV HFZ hw3
         go_wp2_with fail
         go_roundw
         case rel => exact ⟨k + 1, z', by omega, by omega, rfl, by go_num, Lib.hid ⟨HR.out.1.trans HI.out.1, HST2.out⟩⟩
         case measure => simp [intOf]; omega
    ·have HR2 : Hid (fewL l n = max z (-1)) := Lib.hid (by rw [<- HR.out.2, (fewFs_le _ _).1 (by omega)])
     go_wp2_with fail
     go_ret
     rw [HR2.out]
     exact ⟨rfl, HR.out.1⟩
   ·have hix : ¬ (k : Int) < (l.length : Int) := by omega
    have HR2 : Hid (fewL l n = max z (-1)) := Lib.hid (by rw [<- HR.out.2, List.drop_eq_nil_of_le (by omega), fewFs])
    go_wp2_with fail
    go_ret
    rw [HR2.out]
    exact ⟨rfl, HR.out.1⟩
theorem few_any (l : List Fm) (n : Int) (v : Value) (w : World) (h0 : 0 <= n) (h1 : n <= 1000) (h : FormsAt w (fun _ => True) l v) : Calls Tryz.prog 18 #[v, .int .i64 n] w fun e w' => e = .returned (.bool (decide (0 <= fewL l n))) /\ Turned (fun _ => False) w w' := by
 have HC := Lib.hid (forms_few _ l (Nat.le_refl _) n v w h0 h1 h)
 generalize fewL l n = z at HC
 obtain ⟨p, c, rfl⟩ := h.shape
 clear h
 go_enter Tryz.func18, Tryz.ntmps18
 go_wp2_with (go_at_call 38; refine HC.out.mono ?_; rintro e W9 ⟨rfl, ht⟩; have HT9 := Lib.hid ht; clear ht)
 go_ret
 exact ⟨rfl, HT9.out⟩
open Go.WideShapes Go.ChangeShapes
theorem ownNone : ownKnob Tryz.prog.godebug = none := by kernel_rfl
section
variable {H : Type} {enc : TypeId × Value -> H} {P : Program}
theorem post_of_below {f : Func} {s : ChangeSpec} {apart fresh handsOn again : Bool} {W W' : World} {args : Array Value} {v : Value} {ds gs : List (DataW H)} {before pa pv : List MemPlace}
  (hW : DataW.Whole enc P f.params.toList s.vars apart W args.toList ds gs before)
  (hres : ∀ (b : Nat) (sp : Nat -> Bool) (hd : Bool), DataW.TrodAll enc P W' b sp hd f.resultTypes.toList (v.resultList f.resultTypes.size) (s.fn H (ds ++ gs)).results [])
  (hargs : ∀ sp : Nat -> Bool, (∀ p ∈ before, sp p.block = true) -> DataW.TrodAll enc P W' 0 sp true f.params.toList args.toList (s.fn H (ds ++ gs)).args pa)
  (hvars : ∀ sp : Nat -> Bool, (∀ p ∈ before, sp p.block = true) -> DataW.TrodVars enc P W' sp s.vars (s.fn H (ds ++ gs)).vars pv)
  (hps : before = pa ++ pv) (hb : Below W.heap.size W W')
  (hok : ∀ (j : Nat) (t : TypeId) (r : Value), f.resultTypes[j]? = some t -> (v.resultList f.resultTypes.size)[j]? = some r -> Value.okWide P W' .any 0 t r) :
  s.post enc P f apart fresh handsOn again W args v W' := by
 have hlt : ∀ p ∈ before, p.block < W.heap.size := fun p hp => hW.lt p hp
 have hold : ∀ p ∈ before, (fun b => decide (b < W.heap.size)) p.block = true := fun p hp => by simpa using hlt p hp
 refine ⟨ds, gs, before, [], pa, pv, hW, hres _ _ _, hargs _ hold, hvars _ hold, World.keptBut_mono (fun p hp => ⟨hp, ?_⟩) (hb.frame (· ∈ before)), fun _ => ?_⟩
 ·rw [hps, List.mem_append] at hp
  exact Or.inr hp
 ·obtain ⟨_, _, _, _, _, hz, hn⟩ := hW
  refine ⟨hok, _, _, ([] ++ pa) ++ pv, ⟨[] ++ pa, pv, trodAll_append (hargs _ (fun _ _ => rfl)) (hres _ _ _), hvars _ (fun _ _ => rfl), rfl, ?_, ?_⟩, ?_⟩
  ·intro b off hp
   have hin : MemPlace.cell b off ∈ before := by rw [hps]; simpa using hp
   rw [hb.frozen (hlt _ hin)]
   exact hz b off hin
  ·intro ha
   have := hn ha
   rw [hps] at this
   simpa using this
  ·intro p hp _
   rw [hps]
   simpa using hp
theorem trodAll_stays (hl : laidOutB P = true) {W W' : World} (hb : Below W.heap.size W W') {sp : Nat -> Bool} : ∀ (ts : List TypeId) (vs : List Value) (ds : List (DataW H)) (ps : List MemPlace), (ts.all fun t => P.readableRec t && decide (t < P.types.size)) = true ->
  DataW.TrodAll enc P W 0 (fun _ => true) true ts vs ds ps -> (∀ p ∈ ps, p.block < W.heap.size) -> (∀ p ∈ ps, sp p.block = true) -> DataW.TrodAll enc P W' 0 sp true ts vs ds ps
 | [], vs, ds, ps, _, h, _, _ => by
  obtain ⟨rfl, rfl, rfl⟩ := trodAll_nil h
  exact trodAll_mk0
 | t :: ts, vs, ds, ps, hr, h, hlt, hsp => by
  obtain ⟨v, vs', d, ds', p, q, rfl, rfl, rfl, h1, h2⟩ := trodAll_cons h
  simp only [List.all_cons, Bool.and_eq_true, decide_eq_true_eq] at hr
  exact trodAll_cons_mk (WideElems.Trod_stays hl hr.1.1 hr.1.2 h1 (fun x hx => hb.same (hlt x (List.mem_append_left _ hx))) (fun x hx => hsp x (List.mem_append_left _ hx)))
   (trodAll_stays hl hb ts vs' ds' q hr.2 h2 (fun x hx => hlt x (List.mem_append_right _ hx)) (fun x hx => hsp x (List.mem_append_right _ hx)))
theorem law_post {f : FuncId} {fn : Func} {s : ChangeSpec} {apart fresh handsOn again : Bool} {W : World} {args : Array Value} {ds gs : List (DataW H)} {before : List MemPlace} {tb : TypeId}
  (hl : laidOutB P = true) (hpar : (fn.params.toList.all fun t => P.readableRec t && decide (t < P.types.size)) = true) (hres : fn.resultTypes = #[tb]) (htb : P.underlying tb = some .bool) (hvars : s.vars = [])
  (hW : DataW.Whole enc P fn.params.toList s.vars apart W args.toList ds gs before)
  (hspec : (s.fn H ds).results = [.lit (.bool true)] /\ (s.fn H ds).args = ds /\ (s.fn H ds).vars = [])
  (hcall : Calls P f args W fun e W' => e = .returned (.bool true) /\ Below W.heap.size W W') :
  Calls P f args W fun e W' => ∃ v, e = .returned v /\ s.post enc P fn apart fresh handsOn again W args v W' := by
 refine hcall.mono fun e W' ⟨he, hb⟩ => ⟨.bool true, he, ?_⟩
 have hlt : ∀ p ∈ before, p.block < W.heap.size := fun p hp => hW.lt p hp
 have hW' := hW
 obtain ⟨p, q, hA, hV, rfl, -, -⟩ := hW
 rw [hvars] at hV
 obtain ⟨rfl, rfl⟩ := trodVars_none hV
 simp only [List.append_nil] at hlt hW'
 obtain ⟨s1, s2, s3⟩ := hspec
 refine post_of_below (pa := p) (pv := []) hW' (fun b sp hd => ?_) (fun sp hsp => ?_) (fun sp hsp => ?_) (by simp) hb (ok_one hres rfl (okWide_bool_mk htb _))
 ·rw [List.append_nil, s1, hres]
  exact trodAll_mk1 (shut_bool htb _)
 ·rw [List.append_nil, s2]
  exact trodAll_stays hl hb _ _ _ _ hpar hA hlt hsp
 ·rw [List.append_nil, s3, hvars]
  rfl
end
open Go.Deep
theorem exists_list {α : Type} (d : α) (Q : Nat -> α -> Prop) : ∀ (n : Nat), (∀ i, i < n -> ∃ x, Q i x) -> ∃ l : List α, l.length = n /\ ∀ i, i < n -> Q i (l.getD i d)
 | 0, _ => ⟨[], rfl, fun _ h => absurd h (Nat.not_lt_zero _)⟩
 | n + 1, h => by
  obtain ⟨l, hl, hq⟩ := exists_list d Q n (fun i hi => h i (by omega))
  obtain ⟨x, hx⟩ := h n (by omega)
  refine ⟨l ++ [x], by simp [hl], fun i hi => ?_⟩
  rcases Nat.lt_or_ge i n with c | c
  ·have := hq i c
   rwa [List.getD_eq_getElem?_getD, List.getElem?_append_left (by omega), <- List.getD_eq_getElem?_getD]
  ·obtain rfl : i = n := by omega
   rwa [List.getD_eq_getElem?_getD, List.getElem?_append_right (by omega), hl, Nat.sub_self]
section
variable {H : Type} {enc : TypeId × Value -> H} {P : Program} {w : World} {base : Nat} {spare : Nat -> Bool} {held : Bool}
end
end Go.Proofs.YtjijdgkccfeeaaaGreatDoor
