/- Part 10 of the proof of card: ParPrD, ParSameV. Conditions: those of each theorem. -/
import Derived.Test.YtjijdgkccfeeaaaGreatDoorPt01
import Derived.Test.YtjijdgkccfeeaaaGreatDoorPt02
import Derived.Test.YtjijdgkccfeeaaaGreatDoorPt09
set_option maxRecDepth 20000
set_option maxHeartbeats 8000000
namespace Go.Proofs.YtjijdgkccfeeaaaGreatDoor
open Go Go.Proofs Go.RowKit Go.Maps
attribute [local go_sem] Oper.semAt_some
theorem keyII : Keyed Tryz.prog 3 := int_keyed Tryz.underlying3
theorem zeroI (w : World) : (zeroValue 3).run Tryz.prog w = .ok (.int .i64 0) w := by kernel_rfl
def mapD0 : DataW Unit := .map []
def mapD : DataW Unit := ((mapD0.put (.int .i64 5) (.lit (.int .i64 1))).put (.int .i64 6) (.lit (.int .i64 1))).put (.int .i64 20) (.lit (.int .i64 3))
def MapS (b : Nat) (W : World) : Prop := W.ownsMap Tryz.prog 3 (plainElem Tryz.prog 3) b 3 mapD
theorem map_at {b : Nat} {W : World} (h : MapS b W) (k c : Int) (hk : (Lit.int .i64 k).wf = true) (hc : mapD.atKey (.int .i64 k) (.lit (.int .i64 0)) = .lit (.int .i64 c)) : (Instr.lookup 132 (.map (some b)) (.int .i64 k) false).run Tryz.prog W = .ok (.int .i64 c) W := by
 obtain ⟨c', h1, h2, -⟩ := World.ownsMap.lookup_int h keyII Tryz.underlying132 Tryz.underlying3 (zeroI W) (keyOf_int_mk Tryz.underlying3 hk)
 rw [hc] at h2
 cases h2
 exact h1
theorem map5 : mapD.atKey (.int .i64 5) (.lit (.int .i64 0)) = .lit (.int .i64 1) := by kernel_rfl
theorem map6 : mapD.atKey (.int .i64 6) (.lit (.int .i64 0)) = .lit (.int .i64 1) := by kernel_rfl
theorem map20 : mapD.atKey (.int .i64 20) (.lit (.int .i64 0)) = .lit (.int .i64 3) := by kernel_rfl
theorem XE.setBad {B eb : Nat} {x : Ex} {a : Value} {w W : World} {ts : List Tok} {bad : Bool} (h : Hid (XE B eb x a w ts bad W)) : W.frozen? ⟨B, 1, none⟩ = false /\ (∃ v, W.cell? ⟨B, 1, none⟩ = some v) /\ PrS B ts true (W.setCell ⟨B, 1, none⟩ (.bool true)) /\ PrT B W (W.setCell ⟨B, 1, none⟩ (.bool true)) := by
 obtain ⟨v, h0, h1⟩ := h.out.ps
 have ht : Turned (fun j => j = B) W (W.setCell ⟨B, 1, none⟩ (.bool true)) := (Turned.refl (fun j => j = B) W).setCell (p := ⟨B, 1, none⟩) rfl _
 have hb := (set_bad h0 (.bool true)).2
 refine ⟨free_of_box h0 1, ⟨_, (pr_cells h0).2⟩, ⟨v, hb, ownsRow_turned ht (fun k hk => by omega) h1⟩, ht.os, ht.tape, ht.output, ht.size, fun b hlt hf => ⟨ht.block b hlt hf.1, hf.1, fun u y hu => ?_⟩⟩
 rw [hb] at hu
 cases hu
 exact hf.2 v _ h0
theorem showX_head (x : Ex) : (showX x).2 = headX x.op x.n x.s (showXs x.kids) := by cases x; rfl
theorem turned_made {w w1 w2 w3 : World} {o : Obj} (h1 : (w.alloc o).grownBy w1 (some w.heap.size)) (h2 : w1.grownBy w2 (some w.heap.size)) (h3 : w2.grownBy w3 (some w.heap.size)) : Turned (fun _ => False) w w3 := by
 have ht : Turned (fun j => j = w.heap.size) w w3 := (((Turned.refl _ _).alloc o).trans (Turned.of_grown h1 fun k hk => by cases hk; rfl)).trans ((Turned.of_grown h2 fun k hk => by cases hk; rfl).trans (Turned.of_grown h3 fun k hk => by cases hk; rfl))
 exact ⟨ht.os, ht.tape, ht.output, ht.size, fun k hk _ => ht.block k hk (by omega)⟩
theorem showXs_len (l : List Ex) : (showXs l).length = l.length := by rw [showXs_map, List.length_map]
theorem showX_pair (x : Ex) : showX x = (x.op, (showX x).2) := by cases x; rfl
theorem showXs_at {l : List Ex} {i : Nat} {y : Ex} (h : l[i]? = some y) : (showXs l)[i]? = some (y.op, (showX y).2) := by
 rw [showXs_map, List.getElem?_map, h, <- showX_pair]; rfl
theorem showXs_one (y : Ex) : showXs [y] = [(y.op, (showX y).2)] := by rw [<- showX_pair]; rfl
theorem showXs_two (y z : Ex) : showXs [y, z] = [(y.op, (showX y).2), (z.op, (showX z).2)] := by rw [<- showX_pair, <- showX_pair]; rfl
theorem showXs_three (y z u : Ex) : showXs [y, z, u] = [(y.op, (showX y).2), (z.op, (showX z).2), (u.op, (showX u).2)] := by rw [<- showX_pair, <- showX_pair, <- showX_pair]; rfl
theorem callX_snoc : ∀ (l : List (Int × Pr)) (k : Nat) (op : Int) (p : Pr), callX k (l ++ [(op, p)]) = Pr.app (callX k l) (Pr.app (if 0 < k + l.length then [sgT ⟨#[44]⟩] else [], false) (opndX 0 op p))
 | [], k, op, p => by simp [callX, Pr.app_nil, Pr.nil_app]
 | (o, q) :: l, k, op, p => by
  rw [List.cons_append, callX, callX, callX_snoc l (k + 1) op p, Pr.app_assoc, Pr.app_assoc, List.length_cons, show k + 1 + l.length = k + (l.length + 1) by omega]
theorem callX_succ {K : List (Int × Pr)} {i : Nat} {op : Int} {p : Pr} (h : K[i]? = some (op, p)) : callX 0 (K.take (i + 1)) = Pr.app (callX 0 (K.take i)) (Pr.app (if 0 < i then [sgT ⟨#[44]⟩] else [], false) (opndX 0 op p)) := by
 have hlt := lt_of_some h
 have e : K.take (i + 1) = K.take i ++ [(op, p)] := by rw [List.take_add_one, h]; rfl
 rw [e, callX_snoc, List.length_take, Nat.min_eq_left (by omega), Nat.zero_add]
theorem callX_app : ∀ (l r : List (Int × Pr)) (k : Nat), callX k (l ++ r) = Pr.app (callX k l) (callX (k + l.length) r)
 | [], r, k => by simp [callX, Pr.nil_app]
 | (o, q) :: l, r, k => by
  rw [List.cons_append, callX, callX, callX_app l r (k + 1), Pr.app_assoc, Pr.app_assoc, List.length_cons, show k + 1 + l.length = k + (l.length + 1) by omega]
theorem callX_le (K : List (Int × Pr)) (i : Nat) : (callX 0 (K.take i)).1.length <= (callX 0 K).1.length := by
 have h := callX_app (K.take i) (K.drop i) 0
 rw [List.take_append_drop] at h
 rw [h]
 simp [Pr.app]
theorem list_three {α : Type} {l : List α} (h : l.length = 3) : ∃ a b c, l = [a, b, c] := by
 rcases l with _ | ⟨a, _ | ⟨b, _ | ⟨c, _ | ⟨d, l⟩⟩⟩⟩
 ·cases h
 ·cases h
 ·cases h
 ·exact ⟨a, b, c, rfl⟩
 ·simp at h
theorem list_two {α : Type} {l : List α} (h : l.length = 2) : ∃ a b, l = [a, b] := by
 rcases l with _ | ⟨a, _ | ⟨b, _ | ⟨c, l⟩⟩⟩
 ·cases h
 ·cases h
 ·exact ⟨a, b, rfl⟩
 ·simp at h
theorem opOf_lt {op : Int} {i : Nat} (h : opOf op = some i) : i < 13 := by
 unfold opOf at h
 rw [List.findIdx?_eq_some_iff_getElem] at h
 obtain ⟨h1, -⟩ := h
 simpa [opRows] using h1
theorem opRow_le {i : Nat} {r : ByteArray × Int × Nat} (h : opRows[i]? = some r) : r.2.2 <= 6 :=
 (show ∀ r ∈ opRows, r.2.2 <= 6 by decide) r (List.mem_of_getElem? h)
theorem index_none {op : Int} {eb gb : Nat} {w : World} (h : opOf op = none) (he : w.cell? ⟨eb, 0, none⟩ = some (.int .i64 op)) (hr : RowAt w gb 0 3 13 opRow) :
  Calls Tryz.prog 75 #[.slice (some ⟨gb, 0, none⟩) 13 13, .func (Fn.func 77) #[] #[.pointer (some ⟨eb, 0, none⟩)]] w fun e w' => e = .returned (.int .i64 (-1)) /\ Turned (fun _ => False) w w' := by
 have := indexE_pr op eb gb w he hr
 rw [h] at this
 exact this
theorem index_some {op : Int} {i eb gb : Nat} {w : World} (h : opOf op = some i) (he : w.cell? ⟨eb, 0, none⟩ = some (.int .i64 op)) (hr : RowAt w gb 0 3 13 opRow) :
  Calls Tryz.prog 75 #[.slice (some ⟨gb, 0, none⟩) 13 13, .func (Fn.func 77) #[] #[.pointer (some ⟨eb, 0, none⟩)]] w fun e w' => e = .returned (.int .i64 ((i : Nat))) /\ Turned (fun _ => False) w w' := by
 have := indexE_pr op eb gb w he hr
 rw [h] at this
 exact this
theorem keepBox {B b : Nat} {W W' : World} {o : Obj} (h : W.heap[b]? = some o /\ Free B W b) (ht : PrT B W W') : W'.heap[b]? = some o /\ Free B W' b := by
 obtain ⟨h1, h2⟩ := ht.keep b (getElem?_lt h.1) h.2
 exact ⟨h1.trans h.1, h2⟩
theorem three_of {V : World} {N t : Nat} {a b c : Value} (hh : V.heap[N]? = some (.cells #[a, b, c] t (0, 0))) : V.cell? ⟨N, 0, none⟩ = some a /\ V.cell? ⟨N, 1, none⟩ = some b /\ V.cell? ⟨N, 2, none⟩ = some c := by
 simp [World.cell?, hh]
theorem headX_bad5 (n : Int) (s : ByteArray) (ks : List Ex) (h : ks.length ≠ 1) : headX 5 n s (showXs ks) = ([], true) := by
 rcases ks with _ | ⟨a, _ | ⟨b, _ | ⟨c, _ | ⟨d, l⟩⟩⟩⟩
 ·rfl
 ·exact absurd rfl h
 ·rfl
 ·rfl
 ·rfl
theorem headX_bad6 (n : Int) (s : ByteArray) (ks : List Ex) (h : ks.length ≠ 1) : headX 6 n s (showXs ks) = ([], true) := by
 rcases ks with _ | ⟨a, _ | ⟨b, _ | ⟨c, _ | ⟨d, l⟩⟩⟩⟩
 ·rfl
 ·exact absurd rfl h
 ·rfl
 ·rfl
 ·rfl
theorem headX_bad20 (n : Int) (s : ByteArray) (ks : List Ex) (h : ks.length ≠ 3) : headX 20 n s (showXs ks) = ([], true) := by
 rcases ks with _ | ⟨a, _ | ⟨b, _ | ⟨c, _ | ⟨d, l⟩⟩⟩⟩
 ·rfl
 ·rfl
 ·rfl
 ·exact absurd rfl h
 ·rfl
theorem headX_bad {op : Int} (n : Int) (s : ByteArray) (ks : List Ex) (h1 : ¬ op = 1) (h2 : ¬ op = 2) (h3 : ¬ op = 3) (h4 : ¬ op = 4) (h5 : ¬ op = 5) (h6 : ¬ op = 6) (h20 : ¬ op = 20) (h : opOf op = none \/ ks.length ≠ 2) : headX op n s (showXs ks) = ([], true) := by
 unfold headX
 rw [if_neg h1, if_neg h2, if_neg h3, if_neg h4]
 rcases ks with _ | ⟨a, _ | ⟨b, _ | ⟨c, _ | ⟨d, l⟩⟩⟩⟩
 ·rfl
 ·rw [showXs_one]; simp only; rw [if_neg h5, if_neg h6]
 ·rcases h with h | h
  ·rw [showXs_two]; simp only; rw [lvlOp_none h]
  ·exact absurd rfl h
 ·rw [showXs_three]; simp only; rw [if_neg h20]
 ·rfl
theorem headX_bin {op : Int} (n : Int) (s : ByteArray) (y z : Ex) (h1 : ¬ op = 1) (h2 : ¬ op = 2) (h3 : ¬ op = 3) (h4 : ¬ op = 4) {i : Nat} {r : ByteArray × Int × Nat} (h : opOf op = some i) (hr : opRows[i]? = some r) :
  headX op n s (showXs [y, z]) = Pr.app (opndX (if r.2.2 = 4 then 5 else r.2.2) y.op (showX y).2) (Pr.app ([sgT r.1], false) (opndX (r.2.2 + 1) z.op (showX z).2)) := by
 unfold headX
 rw [if_neg h1, if_neg h2, if_neg h3, if_neg h4, showXs_two]
 simp only
 rw [lvlOp_found h hr]
theorem expr_of (x : Ex) (hx : ∀ y ∈ x.kids, OpndC y) : ExprC x := by
 intro B ts bad a w h hk hl hs
 have hmm := @run_makeMap Tryz.prog
 have HK := Lib.hid hx
 have hss := smallX_s hs
 have HSM := Lib.hid (smallX_kids hs)
 have HS := Lib.hid (XE.start h hk)
 obtain ⟨pa, ca, rfl⟩ := hk.shape
 have hlen := hk.len
 unfold maxLen at hlen
 clear h hk hx hs
 unfold exA
 rw [showX_head] at hl ⊢
 obtain ⟨op, n, s, ks, at_⟩ := x
 simp only [Ex.op, Ex.n, Ex.s, Ex.at_, Ex.kids] at hl hlen HK HS hss HSM ⊢
 obtain ⟨W1, hW1⟩ : ∃ W1, W1 = w.alloc (.cells #[.int .i64 op, .int .i64 n, .string s, .slice pa ks.length ca, .int .i64 at_] 31) := ⟨_, rfl⟩
 obtain ⟨eb, heb⟩ : ∃ eb, eb = w.heap.size := ⟨_, rfl⟩
 rw [<- hW1, <- heb] at HS
 have HW := Lib.hid hW1
 have HB := Lib.hid heb
 clear hW1 heb
 have HM0 := Lib.hid (World.ownsMap_made W1 Tryz.prog 3 (plainElem (H := Unit) Tryz.prog 3))
 go_enter Tryz.func41, Tryz.ntmps41
 go_upto_region 1 with fail
 rw [<- HW.out, <- HB.out]
 go_cut [4] from 10 to 11 (fun m wx => ∃ b, m = .map (some b) /\ Hid (MapS b wx /\ Turned (fun _ => False) W1 wx))
 case first =>
  clear HK HSM HS HW HB
  go_wp2_with (first
   | (refine wpList_insert_own _ rfl _ _ _ 132 rfl 3 3 keyII Tryz.underlying132 _ W1.heap.size 0 _ rfl HM0.out (by decide) _ _ _ rfl rfl (keyOf_int_mk Tryz.underlying3 (by decide)) _ [] (plainElem_int Tryz.underlying3 (by decide)) ?_; intro w1 hown1 hg1; have HM1 := Lib.hid hown1; have HG1 := Lib.hid hg1; clear hown1 hg1)
   | (refine wpList_insert_own _ rfl _ _ _ 132 rfl 3 3 keyII Tryz.underlying132 _ W1.heap.size 1 _ rfl HM1.out (by decide) _ _ _ rfl rfl (keyOf_int_mk Tryz.underlying3 (by decide)) _ [] (plainElem_int Tryz.underlying3 (by decide)) ?_; intro w2 hown2 hg2; have HM2 := Lib.hid hown2; have HG2 := Lib.hid hg2; clear hown2 hg2)
   | (refine wpList_insert_own _ rfl _ _ _ 132 rfl 3 3 keyII Tryz.underlying132 _ W1.heap.size 2 _ rfl HM2.out (by decide) _ _ _ rfl rfl (keyOf_int_mk Tryz.underlying3 (by decide)) _ [] (plainElem_int Tryz.underlying3 (by decide)) ?_; intro w3 hown3 hg3; have HM3 := Lib.hid hown3; have HG3 := Lib.hid hg3; clear hown3 hg3))
  go_meet
  case rel => exact ⟨_, rfl, Lib.hid ⟨HM3.out, turned_made (HG1.out) (HG2.out) (HG3.out)⟩⟩
 case rest =>
  obtain ⟨mb, rfl, HMP⟩ := hcut
  have HS1 := XE.same HS HMP.out.2
  clear HS hmm HM0
  obtain ⟨c0, c1, c2, c3, c4⟩ := XE.cells HS1
  simp only [Ex.op, Ex.n, Ex.s, Ex.at_] at c0 c1 c2 c3 c4
  by_cases h1 : op = 1
  ·subst h1
   have HH : Hid (headX 1 n s (showXs ks) = ([nuT n], badNum n)) := Lib.hid rfl
   have HC := Lib.hid (number_pr B ts bad n wc HS1.out.ps (by omega))
   clear HK
   go_wp2_with (go_at_call 68; refine HC.out.mono ?_; rintro e w2 ⟨rfl, hp, ht⟩)
   go_end0
   rw [HH.out]
   exact ⟨rfl, hp, HS1.out.tr.trans ht⟩
  by_cases h2 : op = 2
  ·subst h2
   have HH : Hid (headX 2 n s (showXs ks) = ([txT s], badText s)) := Lib.hid rfl
   have HC := Lib.hid (text_pr B ts bad s wc HS1.out.ps (by omega) hss)
   clear HK
   go_wp2_with (go_at_call 69; refine HC.out.mono ?_; rintro e w2 ⟨rfl, hp, ht⟩)
   go_end0
   rw [HH.out]
   exact ⟨rfl, hp, HS1.out.tr.trans ht⟩
  by_cases h3 : op = 3
  ·subst h3
   have HH : Hid (headX 3 n s (showXs ks) = ([nmT s], badName s)) := Lib.hid rfl
   have HC := Lib.hid (name_pr B ts bad s wc HS1.out.ps (by omega) hss)
   clear HK
   go_wp2_with (go_at_call 66; refine HC.out.mono ?_; rintro e w2 ⟨rfl, hp, ht⟩)
   go_end0
   rw [HH.out]
   exact ⟨rfl, hp, HS1.out.tr.trans ht⟩
  by_cases h4 : op = 4
  ·subst h4
   have HH : Hid (headX 4 n s (showXs ks) = Pr.app ([nmT s, sgT ⟨#[40]⟩], badName s) (Pr.app (callX 0 (showXs ks)) ([sgT ⟨#[41]⟩], false))) := Lib.hid rfl
   have hl2 : ts.length + (2 + ((callX 0 (showXs ks)).1.length + 1)) <= 100000 := by have h := hl; rw [HH.out] at h; simp [Pr.app] at h; omega
   have HC := Lib.hid (name_pr B ts bad s wc HS1.out.ps (by omega) hss)
   go_upto_region 21 with (go_at_call 66; refine HC.out.mono ?_; rintro e w2 ⟨rfl, hp, ht⟩; have HS2 := XE.call HS1 hp ht; clear hp ht)
   have HC2 := Lib.hid (sign_pr HS2.out.ps (by simp; omega) ⟨#[40]⟩ 1)
   go_upto_region 22 with (go_at_call 67; refine HC2.out.mono ?_; rintro e w3 ⟨rfl, hp, ht⟩; have HS3 := XE.call HS2 hp ht; clear hp ht)
   clear c0 c1 c2 c3 c4
   obtain ⟨c0, c1, c2, c3, c4⟩ := XE.cells HS3
   simp only [Ex.op, Ex.n, Ex.s, Ex.at_] at c0 c1 c2 c3 c4
   go_wp2_with fail
   go_loopw [89] (fun u wr => ∃ i : Nat, i <= ks.length /\ u = (.int .i64 i) /\ Hid (XE B eb (.mk 4 n s ks at_) (.slice pa ks.length ca) w (ts ++ [nmT s] ++ [sgT ⟨#[40]⟩] ++ (callX 0 ((showXs ks).take i)).1) (bad || badName s || (callX 0 ((showXs ks).take i)).2) wr)) (fun u _ => ks.length - (intOf u).toNat)
   case atStart => exact ⟨0, by omega, rfl, by simpa [callX] using HS3⟩
   case round =>
    clear c0 c1 c2 c3 c4
    obtain ⟨i, hi, rfl, HR⟩ := hrel
    by_cases hlt : i < ks.length
    ·obtain ⟨y, hy⟩ := some_of_lt hlt
     have hym := List.mem_of_getElem? hy
     obtain ⟨bx, ax, ky, rfl, ⟨x0, x1, x2, x3, x4⟩, HKY⟩ := kidsAt_get HR.out.kids hy
     have HY := Lib.hid (XE.start HR.out.ps HKY)
     obtain ⟨pk, ck, rfl⟩ := HKY.shape
     have lx := cell_lt x0
     have HCO := Lib.hid (HK.out y hym)
     have hsy := smallXs_mem HSM.out hym
     have HP := Lib.hid (callX_succ (i := i) (showXs_at hy))
     have hle := callX_le (showXs ks) (i + 1)
     rw [HP.out] at hle
     simp only [Pr.app, List.length_append] at hle
     have HS4 := XE.same HR ((Turned.refl (fun _ => False) wr).alloc (.cells #[.int .i64 y.op, .int .i64 y.n, .string y.s, .slice pk y.kids.length ck, .int .i64 y.at_] 31))
     clear hy hym HKY
     by_cases hi0 : 0 < i
     ·have hi1 : (0 : Int) < (i : Int) := by omega
      rw [if_pos hi0] at hle
      have HP2 := Lib.hid (HP.out.trans (by rw [if_pos hi0]))
      go_upto_region 26 with fail
      obtain ⟨W4, hW4⟩ : ∃ W4, W4 = wr.alloc (.cells #[.int .i64 y.op, .int .i64 y.n, .string y.s, .slice pk y.kids.length ck, .int .i64 y.at_] 31) := ⟨_, rfl⟩
      rw [<- hW4] at HS4 HY ⊢
      clear hW4 x0 x1 x2 x3 x4
      have HC3 := Lib.hid (sign_pr HS4.out.ps (by simp at hle ⊢; omega) ⟨#[44]⟩ 1)
      clear HP
      have HLE := Lib.hid hle
      clear hle
      go_wp2_with (first | (go_at_call 67; refine HC3.out.mono ?_; rintro e w4 ⟨rfl, hp, ht⟩; have HS5 := XE.call HS4 hp ht; have HY2 := XE.call HY hp ht; clear hp ht; obtain ⟨d0, d1, d2, d3, d4⟩ := XE.cells HY2; have HC4 := Lib.hid (HCO.out B _ _ _ 0 w4 HS5.out.ps HY2.out.kids (by have h := HLE.out; simp at h ⊢; omega) hsy); unfold exA at HC4) | (go_at_call 74; refine HC4.out.mono ?_; rintro e w5 ⟨rfl, hp, ht⟩; have HS6 := XE.call HS5 hp ht; clear hp ht))
      go_roundw
      case rel => exact ⟨i + 1, by omega, by go_num, by rw [HP2.out]; simpa [Pr.app, Bool.or_assoc] using HS6⟩
      case measure => simp [intOf]; omega
     ·have hi1 : ¬ (0 : Int) < (i : Int) := by omega
      rw [if_neg hi0] at hle
      have HP2 := Lib.hid (HP.out.trans (by rw [if_neg hi0]))
      have HC4 := Lib.hid (HCO.out B _ _ _ 0 _ HS4.out.ps HY.out.kids (by simp at hle ⊢; omega) hsy)
      unfold exA at HC4
      clear HP hle hi0
      go_wp2_with (go_at_call 74; refine HC4.out.mono ?_; rintro e w5 ⟨rfl, hp, ht⟩; have HS6 := XE.call HS4 hp ht; clear hp ht)
      go_roundw
      case rel => exact ⟨i + 1, by omega, by go_num, by rw [HP2.out]; simpa [Pr.app, Bool.or_assoc] using HS6⟩
      case measure => simp [intOf]; omega
    ·obtain rfl : i = ks.length := by omega
     have HE : Hid ((showXs ks).take ks.length = showXs ks) := Lib.hid (by rw [<- showXs_len ks]; exact List.take_length)
     rw [HE.out] at HR
     have HC3 := Lib.hid (sign_pr HR.out.ps (by simp; omega) ⟨#[41]⟩ 1)
     go_wp2_with (go_at_call 67; refine HC3.out.mono ?_; rintro e w4 ⟨rfl, hp, ht⟩; have HS5 := XE.call HR hp ht; clear hp ht)
     go_end0
     rw [HH.out]
     refine ⟨rfl, ?_, HS5.out.tr⟩
     have := HS5.out.ps
     simpa [Pr.app, Bool.or_assoc] using this
  by_cases h5 : op = 5
  ·subst h5
   have hlk := map_at HMP.out.1 5 1 (by decide) map5
   by_cases hk : ks.length = 1
   ·obtain ⟨y, rfl⟩ := List.length_eq_one_iff.1 hk
    have HH : Hid (headX 5 n s (showXs [y]) = Pr.app ([sgT ⟨#[33]⟩], false) (opndX 3 y.op (showX y).2)) := Lib.hid (by rw [showXs_one]; rfl)
    have hl2 : ts.length + (1 + (opndX 3 y.op (showX y).2).1.length) <= 100000 := by have h := hl; rw [HH.out] at h; simp [Pr.app] at h; omega
    have hsy := smallXs_mem HSM.out (List.mem_singleton.2 rfl)
    have HCO := Lib.hid (HK.out y (List.mem_singleton.2 rfl))
    simp only [List.length_cons, List.length_nil] at c3 HS1 ⊢
    have HC := Lib.hid (sign_pr HS1.out.ps (by omega) ⟨#[33]⟩ 1)
    clear hl hk hlen
    go_upto_region 43 with (go_at_call 67; refine HC.out.mono ?_; rintro e w2 ⟨rfl, hp, ht⟩; have HS2 := XE.call HS1 hp ht; clear hp ht)
    clear c0 c1 c2 c3 c4
    obtain ⟨c0, c1, c2, c3, c4⟩ := XE.cells HS2
    simp only [Ex.op, Ex.n, Ex.s, Ex.at_] at c0 c1 c2 c3 c4
    obtain ⟨bx, ax, ky, rfl, ⟨x0, x1, x2, x3, x4⟩, HKY⟩ := kidsAt_get (i := 0) HS2.out.kids rfl
    simp only [Nat.zero_mul, Nat.add_zero] at x0 x1 x2 x3 x4
    obtain ⟨pk, ck, rfl⟩ := HKY.shape
    have HC4 := Lib.hid (HCO.out B _ _ _ 3 w2 HS2.out.ps HKY (by simp; omega) hsy)
    unfold exA at HC4
    clear HKY
    go_wp2_with (go_at_call 74; refine HC4.out.mono ?_; rintro e w5 ⟨rfl, hp, ht⟩; have HS6 := XE.call HS2 hp ht; clear hp ht)
    go_end0
    rw [HH.out]
    refine ⟨rfl, ?_, HS6.out.tr⟩
    have := HS6.out.ps
    simpa [Pr.app, Bool.or_assoc] using this
   ·have HH : Hid (headX 5 n s (showXs ks) = ([], true)) := Lib.hid (headX_bad5 n s ks hk)
    have hkb : ((ks.length : Int) != 1) = true := by simp; omega
    obtain ⟨fz, ⟨fv, fc⟩, fp, ft⟩ := XE.setBad HS1
    have HF := Lib.hid (And.intro fp ft)
    clear fp ft
    clear HK hk
    go_wp2_with fail
    go_end0
    rw [HH.out]
    refine ⟨rfl, ?_, HS1.out.tr.trans HF.out.2⟩
    simpa using HF.out.1
  by_cases h6 : op = 6
  ·subst h6
   have hlk := map_at HMP.out.1 6 1 (by decide) map6
   by_cases hk : ks.length = 1
   ·obtain ⟨y, rfl⟩ := List.length_eq_one_iff.1 hk
    have HH : Hid (headX 6 n s (showXs [y]) = Pr.app ([sgT ⟨#[45]⟩], false) (opndX 7 y.op (showX y).2)) := Lib.hid (by rw [showXs_one]; rfl)
    have hl2 : ts.length + (1 + (opndX 7 y.op (showX y).2).1.length) <= 100000 := by have h := hl; rw [HH.out] at h; simp [Pr.app] at h; omega
    have hsy := smallXs_mem HSM.out (List.mem_singleton.2 rfl)
    have HCO := Lib.hid (HK.out y (List.mem_singleton.2 rfl))
    simp only [List.length_cons, List.length_nil] at c3 HS1 ⊢
    have HC := Lib.hid (sign_pr HS1.out.ps (by omega) ⟨#[45]⟩ 1)
    clear hl hk hlen
    go_upto_region 46 with (go_at_call 67; refine HC.out.mono ?_; rintro e w2 ⟨rfl, hp, ht⟩; have HS2 := XE.call HS1 hp ht; clear hp ht)
    clear c0 c1 c2 c3 c4
    obtain ⟨c0, c1, c2, c3, c4⟩ := XE.cells HS2
    simp only [Ex.op, Ex.n, Ex.s, Ex.at_] at c0 c1 c2 c3 c4
    obtain ⟨bx, ax, ky, rfl, ⟨x0, x1, x2, x3, x4⟩, HKY⟩ := kidsAt_get (i := 0) HS2.out.kids rfl
    simp only [Nat.zero_mul, Nat.add_zero] at x0 x1 x2 x3 x4
    obtain ⟨pk, ck, rfl⟩ := HKY.shape
    have HC4 := Lib.hid (HCO.out B _ _ _ 7 w2 HS2.out.ps HKY (by simp; omega) hsy)
    unfold exA at HC4
    clear HKY
    go_wp2_with (go_at_call 74; refine HC4.out.mono ?_; rintro e w5 ⟨rfl, hp, ht⟩; have HS6 := XE.call HS2 hp ht; clear hp ht)
    go_end0
    rw [HH.out]
    refine ⟨rfl, ?_, HS6.out.tr⟩
    have := HS6.out.ps
    simpa [Pr.app, Bool.or_assoc] using this
   ·have HH : Hid (headX 6 n s (showXs ks) = ([], true)) := Lib.hid (headX_bad6 n s ks hk)
    have hkb : ((ks.length : Int) != 1) = true := by simp; omega
    obtain ⟨fz, ⟨fv, fc⟩, fp, ft⟩ := XE.setBad HS1
    have HF := Lib.hid (And.intro fp ft)
    clear fp ft
    clear HK hk
    go_wp2_with fail
    go_end0
    rw [HH.out]
    refine ⟨rfl, ?_, HS1.out.tr.trans HF.out.2⟩
    simpa using HF.out.1
  by_cases h20 : op = 20
  ·subst h20
   have hlk := map_at HMP.out.1 20 3 (by decide) map20
   by_cases hk : ks.length = 3
   ·obtain ⟨y, y2, y3, rfl⟩ := list_three hk
    have HH : Hid (headX 20 n s (showXs [y, y2, y3]) = Pr.app (opndX 1 y.op (showX y).2) (Pr.app ([sgT ⟨#[63]⟩], false) (Pr.app (opndX 0 y2.op (showX y2).2) (Pr.app ([sgT ⟨#[58]⟩], false) (opndX 0 y3.op (showX y3).2))))) := Lib.hid (by rw [showXs_three]; rfl)
    have hl2 : ts.length + ((opndX 1 y.op (showX y).2).1.length + (1 + ((opndX 0 y2.op (showX y2).2).1.length + (1 + (opndX 0 y3.op (showX y3).2).1.length)))) <= 100000 := by have h := hl; rw [HH.out] at h; simp [Pr.app] at h; omega
    simp only [List.length_cons, List.length_nil] at c3 HS1 ⊢
    have HSY := Lib.hid (And.intro (smallXs_mem HSM.out (show y ∈ [y, y2, y3] by simp)) (And.intro (smallXs_mem HSM.out (show y2 ∈ [y, y2, y3] by simp)) (smallXs_mem HSM.out (show y3 ∈ [y, y2, y3] by simp))))
    have HCO := Lib.hid (And.intro (HK.out y (by simp)) (And.intro (HK.out y2 (by simp)) (HK.out y3 (by simp))))
    clear hl hk hlen
    obtain ⟨bx, ax, ky, rfl, ⟨x0, x1, x2, x3, x4⟩, HKY⟩ := kidsAt_get (i := 0) HS1.out.kids rfl
    simp only [Nat.zero_mul, Nat.add_zero] at x0 x1 x2 x3 x4
    obtain ⟨pk, ck, rfl⟩ := HKY.shape
    have HC1 := Lib.hid (HCO.out.1 B _ _ _ 1 wc HS1.out.ps HKY (by omega) HSY.out.1)
    unfold exA at HC1
    clear HKY
    go_upto_region 37 with (go_at_call 74; refine HC1.out.mono ?_; rintro e w2 ⟨rfl, hp, ht⟩; have HS2 := XE.call HS1 hp ht; clear hp ht)
    clear c0 c1 c2 c3 c4 x0 x1 x2 x3 x4
    have HC2 := Lib.hid (sign_pr HS2.out.ps (by simp; omega) ⟨#[63]⟩ 1)
    go_upto_region 38 with (go_at_call 67; refine HC2.out.mono ?_; rintro e w3 ⟨rfl, hp, ht⟩; have HS3 := XE.call HS2 hp ht; clear hp ht)
    obtain ⟨c0, c1, c2, c3, c4⟩ := XE.cells HS3
    simp only [Ex.op, Ex.n, Ex.s, Ex.at_] at c0 c1 c2 c3 c4
    obtain ⟨bx2, ax2, ky2, he2, ⟨x0, x1, x2, x3, x4⟩, HKY2⟩ := kidsAt_get (i := 1) HS3.out.kids rfl
    cases he2
    simp only [Nat.one_mul] at x0 x1 x2 x3 x4
    obtain ⟨pk2, ck2, rfl⟩ := HKY2.shape
    have HC3 := Lib.hid (HCO.out.2.1 B _ _ _ 0 w3 HS3.out.ps HKY2 (by simp; omega) HSY.out.2.1)
    unfold exA at HC3
    clear HKY2
    go_upto_region 39 with (go_at_call 74; refine HC3.out.mono ?_; rintro e w4 ⟨rfl, hp, ht⟩; have HS4 := XE.call HS3 hp ht; clear hp ht)
    clear c0 c1 c2 c3 c4 x0 x1 x2 x3 x4
    have HC4 := Lib.hid (sign_pr HS4.out.ps (by simp; omega) ⟨#[58]⟩ 1)
    go_upto_region 40 with (go_at_call 67; refine HC4.out.mono ?_; rintro e w5 ⟨rfl, hp, ht⟩; have HS5 := XE.call HS4 hp ht; clear hp ht)
    obtain ⟨c0, c1, c2, c3, c4⟩ := XE.cells HS5
    simp only [Ex.op, Ex.n, Ex.s, Ex.at_] at c0 c1 c2 c3 c4
    obtain ⟨bx3, ax3, ky3, he3, ⟨x0, x1, x2, x3, x4⟩, HKY3⟩ := kidsAt_get (i := 2) HS5.out.kids rfl
    cases he3
    obtain ⟨pk3, ck3, rfl⟩ := HKY3.shape
    have HC5 := Lib.hid (HCO.out.2.2 B _ _ _ 0 w5 HS5.out.ps HKY3 (by simp; omega) HSY.out.2.2)
    unfold exA at HC5
    clear HKY3
    go_wp2_with (go_at_call 74; refine HC5.out.mono ?_; rintro e w6 ⟨rfl, hp, ht⟩; have HS6 := XE.call HS5 hp ht; clear hp ht)
    go_end0
    rw [HH.out]
    refine ⟨rfl, ?_, HS6.out.tr⟩
    have := HS6.out.ps
    simpa [Pr.app, Bool.or_assoc] using this
   ·have HH : Hid (headX 20 n s (showXs ks) = ([], true)) := Lib.hid (headX_bad20 n s ks hk)
    have hkb : ((ks.length : Int) != 3) = true := by simp; omega
    obtain ⟨fz, ⟨fv, fc⟩, fp, ft⟩ := XE.setBad HS1
    have HF := Lib.hid (And.intro fp ft)
    clear fp ft
    clear HK hk
    go_wp2_with fail
    go_end0
    rw [HH.out]
    refine ⟨rfl, ?_, HS1.out.tr.trans HF.out.2⟩
    simpa using HF.out.1
  have HNB : Hid (opOf op = none \/ ks.length ≠ 2 -> headX op n s (showXs ks) = ([], true)) := Lib.hid (headX_bad n s ks h1 h2 h3 h4 h5 h6 h20)
  have b1 : (op == 1) = false := by simpa using h1
  have b2 : (op == 2) = false := by simpa using h2
  have b3 : (op == 3) = false := by simpa using h3
  have b4 : (op == 4) = false := by simpa using h4
  have b5 : (op == 5) = false := by simpa using h5
  have b6 : (op == 6) = false := by simpa using h6
  have b20 : (op == 20) = false := by simpa using h20
  have HNG := Lib.hid (And.intro h1 (And.intro h2 (And.intro h3 h4)))
  clear h1 h2 h3 h4 h5 h6 h20
  have hmf : ∀ (fn : Fn) (first cap : Array Value) (w : World), (Instr.makeFunc fn first cap).run Tryz.prog w = .ok (.func fn first cap) w := fun _ _ _ _ => rfl
  have HOP := Lib.hid (operators_any wc)
  clear hss HMP
  cases hop : opOf op with
  | none =>
   have HH := Lib.hid (HNB.out (.inl hop))
   go_upto_region 4 with (first | (go_at_call 76; refine HOP.out.mono ?_; rintro e w2 ⟨g, rfl, hg, hrow, hT⟩; have HS2 := XE.same HS1 hT; have HIX := Lib.hid (index_none hop (XE.cells HS2).1 hrow); clear hg hrow hT) | (go_at_call 75; refine HIX.out.mono ?_; rintro e w3 ⟨rfl, hT⟩; have HS3 := XE.same HS2 hT; clear hT))
   obtain ⟨fz, ⟨fv, fc⟩, fp, ft⟩ := XE.setBad HS3
   have HF := Lib.hid (And.intro fp ft)
   clear fp ft HK c0 c1 c2 c3 c4 hop
   go_wp2_with fail
   go_end0
   rw [HH.out]
   refine ⟨rfl, ?_, HS3.out.tr.trans HF.out.2⟩
   simpa using HF.out.1
  | some i =>
   have hi13 := opOf_lt hop
   obtain ⟨r, hr⟩ := some_of_lt (show i < opRows.length by simpa [opRows] using hi13)
   go_upto_region 4 with (first | (go_at_call 76; refine HOP.out.mono ?_; rintro e w2 ⟨g, rfl, hg, hrow, hT⟩; have HS2 := XE.same HS1 hT; have HIX := Lib.hid (index_some hop (XE.cells HS2).1 hrow); clear hg hrow hT) | (go_at_call 75; refine HIX.out.mono ?_; rintro e w3 ⟨rfl, hT⟩; have HS3 := XE.same HS2 hT; clear hT))
   clear c0 c1 c2 c3 c4
   obtain ⟨c0, c1, c2, c3, c4⟩ := XE.cells HS3
   simp only [Ex.op, Ex.n, Ex.s, Ex.at_] at c0 c1 c2 c3 c4
   have hi0 : ¬ (i : Int) < 0 := by omega
   by_cases hk : ks.length = 2
   ·obtain ⟨y, z, rfl⟩ := list_two hk
    obtain ⟨rs, ro, rl⟩ := r
    have HH := Lib.hid (headX_bin n s y z HNG.out.1 HNG.out.2.1 HNG.out.2.2.1 HNG.out.2.2.2 hop hr)
    have hrl := opRow_le hr
    simp only at HH hrl
    obtain ⟨left, hleft⟩ : ∃ left : Nat, left = if rl = 4 then 5 else rl := ⟨_, rfl⟩
    rw [<- hleft] at HH
    have hl2 : ts.length + ((opndX left y.op (showX y).2).1.length + (1 + (opndX (rl + 1) z.op (showX z).2).1.length)) <= 100000 := by have h := hl; rw [HH.out] at h; simp [Pr.app] at h; omega
    simp only [List.length_cons, List.length_nil] at c3 HS3 ⊢
    have HSY := Lib.hid (And.intro (smallXs_mem HSM.out (show y ∈ [y, z] by simp)) (smallXs_mem HSM.out (show z ∈ [y, z] by simp)))
    have HCO := Lib.hid (And.intro (HK.out y (by simp)) (HK.out z (by simp)))
    have HOP2 := Lib.hid (operators_any w3)
    have HRW := Lib.hid hr
    have HLE := Lib.hid hleft
    clear hl hk hlen hop hr hleft HNB HNG HK HSM
    go_upto_region 7 with (go_at_call 76; refine HOP2.out.mono ?_; rintro e w4 ⟨g2, rfl, hg, hrow, hT⟩; have HS4 := XE.same HS3 hT; have h3 := hrow i hi13; simp only [opRow, HRW.out, binV, Nat.zero_add] at h3; have q0 : w4.cell? ⟨g2, i * 3, none⟩ = some (.string rs) := h3 0 _ rfl; have q1 : w4.cell? ⟨g2, i * 3 + 1, none⟩ = some (.int .i64 ro) := h3 1 _ rfl; have q2 : w4.cell? ⟨g2, i * 3 + 2, none⟩ = some (.int .i64 ((rl : Nat))) := h3 2 _ rfl; clear hg hrow hT h3)
    obtain ⟨W5, hW5⟩ : ∃ W5, W5 = w4.alloc (.cells #[.string rs, .int .i64 ro, (.int .i64 ((rl : Nat)))] 137) := ⟨_, rfl⟩
    obtain ⟨b8, hb8⟩ : ∃ b8, b8 = w4.heap.size := ⟨_, rfl⟩
    have HT5 : Hid (Turned (fun _ => False) w4 W5) := Lib.hid (by rw [hW5]; exact (Turned.refl _ _).alloc _)
    have HS5 := XE.same HS4 HT5.out
    have HB5 : Hid (W5.heap[b8]? = some (.cells #[.string rs, .int .i64 ro, (.int .i64 ((rl : Nat)))] 137 (0, 0)) /\ Free B W5 b8) := Lib.hid ⟨by rw [hW5, hb8]; exact heap_alloc_new _ _, HS4.out.ps.fresh HT5.out (by omega)⟩
    rw [<- hW5, <- hb8]
    clear hW5 hb8 q0 q1 q2 c0 c1 c2 c3 c4
    obtain ⟨e0, e1, e2⟩ := three_of HB5.out.1
    go_upto_if 35 with fail
    go_cut [9] from 34 to 35 (fun u wx => u = (.int .i64 ((left : Nat))) /\ wx = W5)
    case first =>
     by_cases h4 : rl = 4
     ·subst h4
      have HL4 : Hid (left = 5) := Lib.hid (by rw [HLE.out]; rfl)
      go_wp2_with fail
      go_meet
      case rel => exact ⟨by rw [HL4.out]; rfl, rfl⟩
     ·have HL4 : Hid (left = rl) := Lib.hid (by rw [HLE.out, if_neg h4])
      have hb4 : ((rl : Int) == 4) = false := by simp; omega
      clear h4
      go_wp2_with fail
      go_meet
      case rel => exact ⟨by rw [HL4.out], rfl⟩
    case rest =>
     obtain ⟨rfl, hwc⟩ := hcut
     rw [hwc]
     clear hwc e0 e1 e2
     obtain ⟨c0, c1, c2, c3, c4⟩ := XE.cells HS5
     simp only [Ex.op, Ex.n, Ex.s, Ex.at_] at c0 c1 c2 c3 c4
     obtain ⟨bx, ax, ky, he1, ⟨x0, x1, x2, x3, x4⟩, HKY⟩ := kidsAt_get (i := 0) HS5.out.kids rfl
     subst he1
     simp only [Nat.zero_mul, Nat.add_zero] at x0 x1 x2 x3 x4
     obtain ⟨pk, ck, rfl⟩ := HKY.shape
     have HC1 := Lib.hid (HCO.out.1 B _ _ _ left W5 HS5.out.ps HKY (by omega) HSY.out.1)
     unfold exA at HC1
     clear HKY
     go_upto_region 11 with (go_at_call 74; refine HC1.out.mono ?_; rintro e w6 ⟨rfl, hp, ht⟩; have HS6 := XE.call HS5 hp ht; have HB6 := Lib.hid (keepBox HB5.out ht); clear hp ht)
     clear c0 c1 c2 c3 c4 x0 x1 x2 x3 x4
     obtain ⟨e0, e1, e2⟩ := three_of HB6.out.1
     have HC2 := Lib.hid (sign_pr HS6.out.ps (by simp; omega) rs 1)
     go_upto_region 12 with (go_at_call 67; refine HC2.out.mono ?_; rintro e w7 ⟨rfl, hp, ht⟩; have HS7 := XE.call HS6 hp ht; have HB7 := Lib.hid (keepBox HB6.out ht); clear hp ht)
     clear e0 e1 e2
     refine region_tail (w := w7) (Turned.refl _ _) 10 (by kernel_rfl) (by kernel_rfl) (fun V hT => ?_)
     have HS8 := XE.same HS7 hT
     have HB8 := Lib.hid ((hT.block b8 (getElem?_lt HB7.out.1) id).trans HB7.out.1)
     clear hT
     obtain ⟨e0, e1, e2⟩ := three_of HB8.out
     obtain ⟨c0, c1, c2, c3, c4⟩ := XE.cells HS8
     simp only [Ex.op, Ex.n, Ex.s, Ex.at_] at c0 c1 c2 c3 c4
     obtain ⟨bx2, ax2, ky2, he2, ⟨x0, x1, x2, x3, x4⟩, HKY2⟩ := kidsAt_get (i := 1) HS8.out.kids rfl
     cases he2
     simp only [Nat.one_mul] at x0 x1 x2 x3 x4
     obtain ⟨pk2, ck2, rfl⟩ := HKY2.shape
     have HC3 := Lib.hid (HCO.out.2 B _ _ _ (rl + 1) V HS8.out.ps HKY2 (by simp; omega) HSY.out.2)
     unfold exA at HC3
     clear HKY2
     have hle : (left : Int) <= (rl : Int) + 1 := by have := HLE.out; split at this <;> omega
     simp only [List.take_succ_cons, List.take_zero, List.drop_succ_cons, List.drop_zero]
     repeat still_step
     refine wpStill_nil ?_
     have hmx : (((rl + 1 : Nat) : Int)) = max (left : Int) ((rl : Int) + 1) := by omega
     rw [hmx] at HC3
     clear hmx hle
     go_wp2_with (go_at_call 74; refine HC3.out.mono ?_; rintro e w8 ⟨rfl, hp, ht⟩; have HS9 := XE.call HS8 hp ht; clear hp ht)
     go_end0
     rw [HH.out]
     refine ⟨rfl, ?_, HS9.out.tr⟩
     have := HS9.out.ps
     simpa [Pr.app, Bool.or_assoc] using this
   ·have HH := Lib.hid (HNB.out (.inr hk))
    have hkb : ((ks.length : Int) != 2) = true := by simp; omega
    obtain ⟨fz, ⟨fv, fc⟩, fp, ft⟩ := XE.setBad HS3
    have HF := Lib.hid (And.intro fp ft)
    clear fp ft HK hk hop hr
    go_wp2_with fail
    go_end0
    rw [HH.out]
    refine ⟨rfl, ?_, HS3.out.tr.trans HF.out.2⟩
    simpa using HF.out.1
theorem expr_pr : ∀ (m : Nat) (x : Ex), SizeOf.sizeOf x <= m -> ExprC x
 | 0, .mk op n s ks at_, hm => by simp only [Ex.mk.sizeOf_spec] at hm; omega
 | m + 1, .mk op n s ks at_, hm => expr_of _ fun y hy => operand_of (expr_pr m y (by have := ex_kid_lt (show y ∈ ks from hy) op n s at_; omega))
def arA (x : Ar) (k : Value) : Value := .agg #[.int .i64 x.kind, .int .i64 x.n, .string x.s, .int .i64 x.e.op, .int .i64 x.e.n, .string x.e.s, k, .int .i64 x.e.at_, .int .i64 x.at_]
def fmA (x : Fm) (a b : Value) : Value := .agg #[.string x.word, a, b, .int .i64 x.at_]
theorem ArgsAt.len {W : World} {N : Nat -> Prop} {l : List Ar} {v : Value} (h : ArgsAt W N l v) : l.length <= maxLen := by
 cases h with
 | nil => simp
 | some _ _ _ _ _ _ hl => exact hl
theorem FormsAt.len {W : World} {N : Nat -> Prop} {l : List Fm} {v : Value} (h : FormsAt W N l v) : l.length <= maxLen := by
 cases h with
 | nil => simp
 | some _ _ _ _ _ _ _ hl => exact hl
theorem argsAt_get {W : World} {N : Nat -> Prop} {l : List Ar} {p : Option Addr} {n c i : Nat} {x : Ar} (h : ArgsAt W N l (.slice p n c)) (hi : l[i]? = some x) :
  ∃ b a k, p = some ⟨b, a, none⟩ /\ (W.cell? ⟨b, a + i * 9, none⟩ = some (.int .i64 x.kind) /\ W.cell? ⟨b, a + i * 9 + 1, none⟩ = some (.int .i64 x.n) /\ W.cell? ⟨b, a + i * 9 + 2, none⟩ = some (.string x.s) /\ W.cell? ⟨b, a + i * 9 + 3, none⟩ = some (.int .i64 x.e.op) /\ W.cell? ⟨b, a + i * 9 + 4, none⟩ = some (.int .i64 x.e.n) /\ W.cell? ⟨b, a + i * 9 + 5, none⟩ = some (.string x.e.s) /\ W.cell? ⟨b, a + i * 9 + 6, none⟩ = some k /\ W.cell? ⟨b, a + i * 9 + 7, none⟩ = some (.int .i64 x.e.at_) /\ W.cell? ⟨b, a + i * 9 + 8, none⟩ = some (.int .i64 x.at_)) /\ KidsAt W N x.e.kids k := by
 cases h with
 | nil => simp at hi
 | some _ b a c k hN hl hcell hk =>
  have hlt := lt_of_some hi
  have hc := hcell i hlt
  simp only [hi, arV] at hc
  exact ⟨b, a, k i, rfl, ⟨hc 0 _ rfl, hc 1 _ rfl, hc 2 _ rfl, hc 3 _ rfl, hc 4 _ rfl, hc 5 _ rfl, hc 6 _ rfl, hc 7 _ rfl, hc 8 _ rfl⟩, hk i x hi⟩
theorem formsAt_get {W : World} {N : Nat -> Prop} {l : List Fm} {p : Option Addr} {n c i : Nat} {x : Fm} (h : FormsAt W N l (.slice p n c)) (hi : l[i]? = some x) :
  ∃ b a k m, p = some ⟨b, a, none⟩ /\ (W.cell? ⟨b, a + i * 4, none⟩ = some (.string x.word) /\ W.cell? ⟨b, a + i * 4 + 1, none⟩ = some k /\ W.cell? ⟨b, a + i * 4 + 2, none⟩ = some m /\ W.cell? ⟨b, a + i * 4 + 3, none⟩ = some (.int .i64 x.at_)) /\ ArgsAt W N x.args k /\ FormsAt W N x.body m := by
 cases h with
 | nil => simp at hi
 | some _ b a c k m hN hl hcell ha hb =>
  have hlt := lt_of_some hi
  have hc := hcell i hlt
  simp only [hi, fmV] at hc
  exact ⟨b, a, k i, m i, rfl, ⟨hc 0 _ rfl, hc 1 _ rfl, hc 2 _ rfl, hc 3 _ rfl⟩, ha i x hi, hb i x hi⟩
theorem ArgsAt.all {W W' : World} {N : Nat -> Prop} {l : List Ar} {v : Value} (h : ArgsAt W N l v) (ht : Turned (fun _ => False) W W') : ArgsAt W' (fun _ => True) l v := h.move ht (fun _ _ => id) (fun _ _ _ => trivial)
theorem FormsAt.all {W W' : World} {N : Nat -> Prop} {l : List Fm} {v : Value} (h : FormsAt W N l v) (ht : Turned (fun _ => False) W W') : FormsAt W' (fun _ => True) l v := h.move ht (fun _ _ => id) (fun _ _ _ => trivial)
theorem sameAs_no {o : Bool} {xs ys : List Ar} {i : Nat} {x y : Ar} (hx : xs[i]? = some x) (hy : ys[i]? = some y) (h : sameA o x y = false) : sameAs o xs ys = false := by
 cases hh : sameAs o xs ys with
 | false => rfl
 | true => rw [((sameAs_iff o xs ys).1 hh).2 i x y hx hy] at h; cases h
theorem sameAs_len {o : Bool} {xs ys : List Ar} (h : xs.length ≠ ys.length) : sameAs o xs ys = false := by
 cases hh : sameAs o xs ys with
 | false => rfl
 | true => exact absurd ((sameAs_iff o xs ys).1 hh).1 h
def SameToA (o : Bool) (xs ys : List Ar) (i : Nat) : Prop := ∀ (j : Nat) (x y : Ar), j < i -> xs[j]? = some x -> ys[j]? = some y -> sameA o x y = true
theorem SameToA.succ {o : Bool} {xs ys : List Ar} {i : Nat} {x y : Ar} (h : SameToA o xs ys i) (hx : xs[i]? = some x) (hy : ys[i]? = some y) (hs : sameA o x y = true) : SameToA o xs ys (i + 1) := fun j u v hj hu hv => by
 rcases Nat.lt_or_ge j i with h1 | h1
 ·exact h j u v h1 hu hv
 ·obtain rfl : j = i := by omega
  rw [hx] at hu; rw [hy] at hv; cases hu; cases hv; exact hs
theorem SameToA.done {o : Bool} {xs ys : List Ar} (h : SameToA o xs ys xs.length) (hl : xs.length = ys.length) : sameAs o xs ys = true := (sameAs_iff o xs ys).2 ⟨hl, fun i x y hx hy => h i x y (lt_of_some hx) hx hy⟩
theorem sameFs_no {o : Bool} {xs ys : List Fm} {i : Nat} {x y : Fm} (hx : xs[i]? = some x) (hy : ys[i]? = some y) (h : sameF o x y = false) : sameFs o xs ys = false := by
 cases hh : sameFs o xs ys with
 | false => rfl
 | true => rw [((sameFs_iff o xs ys).1 hh).2 i x y hx hy] at h; cases h
theorem sameFs_len {o : Bool} {xs ys : List Fm} (h : xs.length ≠ ys.length) : sameFs o xs ys = false := by
 cases hh : sameFs o xs ys with
 | false => rfl
 | true => exact absurd ((sameFs_iff o xs ys).1 hh).1 h
def SameToF (o : Bool) (xs ys : List Fm) (i : Nat) : Prop := ∀ (j : Nat) (x y : Fm), j < i -> xs[j]? = some x -> ys[j]? = some y -> sameF o x y = true
theorem SameToF.succ {o : Bool} {xs ys : List Fm} {i : Nat} {x y : Fm} (h : SameToF o xs ys i) (hx : xs[i]? = some x) (hy : ys[i]? = some y) (hs : sameF o x y = true) : SameToF o xs ys (i + 1) := fun j u v hj hu hv => by
 rcases Nat.lt_or_ge j i with h1 | h1
 ·exact h j u v h1 hu hv
 ·obtain rfl : j = i := by omega
  rw [hx] at hu; rw [hy] at hv; cases hu; cases hv; exact hs
theorem SameToF.done {o : Bool} {xs ys : List Fm} (h : SameToF o xs ys xs.length) (hl : xs.length = ys.length) : sameFs o xs ys = true := (sameFs_iff o xs ys).2 ⟨hl, fun i x y hx hy => h i x y (lt_of_some hx) hx hy⟩
theorem sameArg_any (x y : Ar) (a b : Value) (w : World) (hx : KidsAt w (fun _ => True) x.e.kids a) (hy : KidsAt w (fun _ => True) y.e.kids b) : Calls Tryz.prog 48 #[arA x a, arA y b] w fun e w' => e = .returned (.bool (sameA false x y)) /\ Turned (fun _ => False) w w' := by
 have HE := Lib.hid (fun (W : World) (hW : Turned (fun _ => False) w W) => sameExpr_any _ x.e (Nat.le_refl _) y.e a b W (hx.all hW) (hy.all hW))
 obtain ⟨pa, ca, rfl⟩ := hx.shape
 obtain ⟨pb, cb, rfl⟩ := hy.shape
 clear hx hy
 have HX := Lib.hid (show sameA false x y = (x.kind == y.kind && (!false || x.at_ == y.at_) && (!(x.kind == 1 || x.kind == 3) || x.s.data.toList == y.s.data.toList) && (x.kind != 2 || x.n == y.n) && (x.kind != 5 || sameX false x.e y.e)) from rfl)
 generalize sameA false x y = r at HX ⊢
 obtain ⟨k, n, s, e, at_⟩ := x
 obtain ⟨k', n', s', e', at'⟩ := y
 obtain ⟨op, en, es, ks, ea⟩ := e
 obtain ⟨op', en', es', ls, ea'⟩ := e'
 simp only [arA, Ex.op, Ex.n, Ex.s, Ex.at_, Ex.kids, exA] at HE HX ⊢
 generalize sameX false (.mk op en es ks ea) (.mk op' en' es' ls ea') = q at HX HE
 by_cases h0 : k = k'
 ·subst h0
  by_cases h1 : k = 1
  ·subst h1
   have HR : Hid (r = (s.data.toList == s'.data.toList)) := by show _ = _; rw [HX.out]; simp
   clear HX HE
   go_enter Tryz.func48, Tryz.ntmps48
   go_wp2_with fail
   go_ret
   rw [HR.out]
   exact ⟨by simp [ByteArray.toList_eq], ((Turned.refl _ _).alloc _).alloc _⟩
  ·by_cases h3 : k = 3
   ·subst h3
    have HR : Hid (r = (s.data.toList == s'.data.toList)) := by show _ = _; rw [HX.out]; simp
    clear HX HE
    go_enter Tryz.func48, Tryz.ntmps48
    go_wp2_with fail
    go_ret
    rw [HR.out]
    exact ⟨by simp [ByteArray.toList_eq], ((Turned.refl _ _).alloc _).alloc _⟩
   ·by_cases h2 : k = 2
    ·subst h2
     have HR : Hid (r = (n == n')) := by show _ = _; rw [HX.out]; simp
     clear HX HE
     go_enter Tryz.func48, Tryz.ntmps48
     go_wp2_with fail
     go_ret
     rw [HR.out]
     exact ⟨rfl, ((Turned.refl _ _).alloc _).alloc _⟩
    ·by_cases h5 : k = 5
     ·subst h5
      have HR : Hid (r = q) := by show _ = _; rw [HX.out]; simp
      clear HX
      go_enter Tryz.func48, Tryz.ntmps48
      go_wp2_with (go_at_call 16; refine (HE.out _ (((Turned.refl _ _).alloc _).alloc _)).mono ?_; rintro e w' ⟨rfl, hT⟩)
      go_ret
      rw [HR.out]
      exact ⟨rfl, (((Turned.refl _ _).alloc _).alloc _).trans hT⟩
     ·have b1 : (k == 1) = false := by simpa using h1
      have b2 : (k == 2) = false := by simpa using h2
      have b3 : (k == 3) = false := by simpa using h3
      have b5 : (k == 5) = false := by simpa using h5
      have HR : Hid (r = true) := by show _ = _; rw [HX.out]; simp [h1, h2, h3, h5]
      clear HX HE h1 h2 h3 h5
      go_enter Tryz.func48, Tryz.ntmps48
      go_wp2_with fail
      go_ret
      rw [HR.out]
      exact ⟨rfl, ((Turned.refl _ _).alloc _).alloc _⟩
 ·have hb : (k != k') = true := by simpa using h0
  have HR : Hid (r = false) := by show _ = _; rw [HX.out]; simp [h0]
  clear HX HE h0
  go_enter Tryz.func48, Tryz.ntmps48
  go_wp2_with fail
  go_ret
  rw [HR.out]
  exact ⟨rfl, ((Turned.refl _ _).alloc _).alloc _⟩
theorem eqArg_any (xs ys : List Ar) (u v : Value) (N : Nat -> Prop) (w : World) (hx : ArgsAt w N xs u) (hy : ArgsAt w N ys v) :
  Calls Tryz.prog 47 #[u, v, .func (Fn.func 48) #[] #[]] w fun e w' => e = .returned (.bool (sameAs false xs ys)) /\ Turned (fun _ => False) w w' := by
 have hlx := hx.len
 have hly := hy.len
 obtain ⟨pu, cu, rfl⟩ := hx.shape
 obtain ⟨pv, cv, rfl⟩ := hy.shape
 have HX := Lib.hid hx
 have HY := Lib.hid hy
 unfold maxLen at hlx hly
 clear hx hy
 by_cases hl : xs.length = ys.length
 ·have HL := Lib.hid hl
  obtain ⟨n, hn⟩ : ∃ n, n = xs.length := ⟨_, rfl⟩
  have HN := Lib.hid hn
  have HN2 : Hid (n = ys.length) := Lib.hid (hn.trans hl)
  rw [<- hl, <- hn]
  rw [<- hn] at hlx
  clear hl hly hn
  go_enter Tryz.func47, Tryz.ntmps47
  go_wp2_with fail
  go_loopw [17] (fun c wr => ∃ i : Nat, i <= n /\ c = (.int .i64 i) /\ Hid (Turned (fun _ => False) w wr /\ SameToA false xs ys i)) (fun c _ => n - (intOf c).toNat)
  case atStart => exact ⟨0, by omega, rfl, Lib.hid ⟨Turned.refl _ _, fun j x y hj => by omega⟩⟩
  case round =>
   obtain ⟨i, hi, rfl, HO⟩ := hrel
   by_cases hlt : i < n
   ·obtain ⟨x, hx⟩ := some_of_lt (show i < xs.length by rw [<- HN.out]; exact hlt)
    obtain ⟨y, hy⟩ := some_of_lt (show i < ys.length by rw [<- HN2.out]; exact hlt)
    obtain ⟨bx, ax, kx, rfl, ⟨x0, x1, x2, x3, x4, x5, x6, x7, x8⟩, HKx⟩ := argsAt_get (HX.out.all HO.out.1) hx
    obtain ⟨by_, ay, ky, rfl, ⟨y0, y1, y2, y3, y4, y5, y6, y7, y8⟩, HKy⟩ := argsAt_get (HY.out.all HO.out.1) hy
    obtain ⟨px, cpx, rfl⟩ := HKx.shape
    obtain ⟨py, cpy, rfl⟩ := HKy.shape
    have lx := cell_lt x0
    have ly := cell_lt y0
    have HC : Hid (∀ W, Turned (fun _ => False) wr W -> Calls Tryz.prog 48 #[.agg #[.int .i64 x.kind, .int .i64 x.n, .string x.s, .int .i64 x.e.op, .int .i64 x.e.n, .string x.e.s, .slice px x.e.kids.length cpx, .int .i64 x.e.at_, .int .i64 x.at_], .agg #[.int .i64 y.kind, .int .i64 y.n, .string y.s, .int .i64 y.e.op, .int .i64 y.e.n, .string y.e.s, .slice py y.e.kids.length cpy, .int .i64 y.e.at_, .int .i64 y.at_]] W fun e w' => e = .returned (.bool (sameA false x y)) /\ Turned (fun _ => False) W w') :=
     Lib.hid fun W hW => sameArg_any x y _ _ W (HKx.all hW) (HKy.all hW)
    have HT : Hid (sameA false x y = true -> SameToA false xs ys (i + 1)) := Lib.hid fun h => HO.out.2.succ hx hy h
    have HU : Hid (sameA false x y = false -> sameAs false xs ys = false) := Lib.hid fun h => sameAs_no hx hy h
    clear hx hy HKx HKy
    generalize sameA false x y = r at HC HT HU
    cases r with
    | true =>
     have HT2 := Lib.hid (HT.out rfl)
     clear HT HU
     go_wp2_with (go_at_call 48; refine (HC.out _ (((Turned.refl _ _).alloc _).alloc _)).mono ?_; rintro e w' ⟨rfl, hT⟩)
     go_roundw
     case rel => exact ⟨i + 1, by omega, by go_num, Lib.hid ⟨HO.out.1.trans ((((Turned.refl _ _).alloc _).alloc _).trans hT), HT2.out⟩⟩
     case measure => simp [intOf]; omega
    | false =>
     have HU2 := Lib.hid (HU.out rfl)
     clear HT HU
     go_wp2_with (go_at_call 48; refine (HC.out _ (((Turned.refl _ _).alloc _).alloc _)).mono ?_; rintro e w' ⟨rfl, hT⟩)
     go_ret
     rw [HU2.out]
     exact ⟨rfl, HO.out.1.trans ((((Turned.refl _ _).alloc _).alloc _).trans hT)⟩
   ·obtain rfl : i = n := by omega
    have HS : Hid (sameAs false xs ys = true) := Lib.hid (SameToA.done (by rw [<- HN.out]; exact HO.out.2) HL.out)
    go_wp2_with fail
    go_ret
    rw [HS.out]
    exact ⟨rfl, HO.out.1⟩
 ·have hl2 : (xs.length : Int) ≠ (ys.length : Int) := by omega
  have HS := Lib.hid (sameAs_len (o := false) hl)
  clear hl
  have hb : ((xs.length : Int) != (ys.length : Int)) = true := by simpa using hl2
  clear hl2
  go_enter Tryz.func47, Tryz.ntmps47
  go_wp2_with fail
  go_ret
  rw [HS.out]
  exact ⟨rfl, Turned.refl _ _⟩
theorem eqForm_of (xs ys : List Fm) (u v : Value) (N : Nat -> Prop) (w : World) (hx : FormsAt w N xs u) (hy : FormsAt w N ys v)
  (HE : ∀ x ∈ xs, ∀ y a b c d W, ArgsAt W (fun _ => True) x.args a -> FormsAt W (fun _ => True) x.body b -> ArgsAt W (fun _ => True) y.args c -> FormsAt W (fun _ => True) y.body d -> Calls Tryz.prog 46 #[fmA x a b, fmA y c d] W fun e w' => e = .returned (.bool (sameF false x y)) /\ Turned (fun _ => False) W w') :
  Calls Tryz.prog 45 #[u, v, .func (Fn.func 46) #[] #[]] w fun e w' => e = .returned (.bool (sameFs false xs ys)) /\ Turned (fun _ => False) w w' := by
 have hlx := hx.len
 have hly := hy.len
 obtain ⟨pu, cu, rfl⟩ := hx.shape
 obtain ⟨pv, cv, rfl⟩ := hy.shape
 have HX := Lib.hid hx
 have HY := Lib.hid hy
 have HF := Lib.hid HE
 unfold maxLen at hlx hly
 clear hx hy HE
 by_cases hl : xs.length = ys.length
 ·have HL := Lib.hid hl
  obtain ⟨n, hn⟩ : ∃ n, n = xs.length := ⟨_, rfl⟩
  have HN := Lib.hid hn
  have HN2 : Hid (n = ys.length) := Lib.hid (hn.trans hl)
  rw [<- hl, <- hn]
  rw [<- hn] at hlx
  clear hl hly hn
  go_enter Tryz.func45, Tryz.ntmps45
  go_wp2_with fail
  go_loopw [17] (fun c wr => ∃ i : Nat, i <= n /\ c = (.int .i64 i) /\ Hid (Turned (fun _ => False) w wr /\ SameToF false xs ys i)) (fun c _ => n - (intOf c).toNat)
  case atStart => exact ⟨0, by omega, rfl, Lib.hid ⟨Turned.refl _ _, fun j x y hj => by omega⟩⟩
  case round =>
   obtain ⟨i, hi, rfl, HO⟩ := hrel
   by_cases hlt : i < n
   ·obtain ⟨x, hx⟩ := some_of_lt (show i < xs.length by rw [<- HN.out]; exact hlt)
    obtain ⟨y, hy⟩ := some_of_lt (show i < ys.length by rw [<- HN2.out]; exact hlt)
    obtain ⟨bx, ax, kx, mx, rfl, ⟨x0, x1, x2, x3⟩, HKx, HMx⟩ := formsAt_get (HX.out.all HO.out.1) hx
    obtain ⟨by_, ay, ky, my, rfl, ⟨y0, y1, y2, y3⟩, HKy, HMy⟩ := formsAt_get (HY.out.all HO.out.1) hy
    obtain ⟨px, cx, rfl⟩ := HKx.shape
    obtain ⟨qx, dx, rfl⟩ := HMx.shape
    obtain ⟨py, cy, rfl⟩ := HKy.shape
    obtain ⟨qy, dy, rfl⟩ := HMy.shape
    have lx := cell_lt x0
    have ly := cell_lt y0
    have HC : Hid (∀ W, Turned (fun _ => False) wr W -> Calls Tryz.prog 46 #[.agg #[.string x.word, .slice px x.args.length cx, .slice qx x.body.length dx, .int .i64 x.at_], .agg #[.string y.word, .slice py y.args.length cy, .slice qy y.body.length dy, .int .i64 y.at_]] W fun e w' => e = .returned (.bool (sameF false x y)) /\ Turned (fun _ => False) W w') :=
     Lib.hid fun W hW => HF.out x (List.mem_of_getElem? hx) y _ _ _ _ W (HKx.all hW) (HMx.all hW) (HKy.all hW) (HMy.all hW)
    have HT : Hid (sameF false x y = true -> SameToF false xs ys (i + 1)) := Lib.hid fun h => HO.out.2.succ hx hy h
    have HU : Hid (sameF false x y = false -> sameFs false xs ys = false) := Lib.hid fun h => sameFs_no hx hy h
    clear hx hy HKx HMx HKy HMy
    generalize sameF false x y = r at HC HT HU
    cases r with
    | true =>
     have HT2 := Lib.hid (HT.out rfl)
     clear HT HU
     go_wp2_with (go_at_call 46; refine (HC.out _ (((Turned.refl _ _).alloc _).alloc _)).mono ?_; rintro e w' ⟨rfl, hT⟩)
     go_roundw
     case rel => exact ⟨i + 1, by omega, by go_num, Lib.hid ⟨HO.out.1.trans ((((Turned.refl _ _).alloc _).alloc _).trans hT), HT2.out⟩⟩
     case measure => simp [intOf]; omega
    | false =>
     have HU2 := Lib.hid (HU.out rfl)
     clear HT HU
     go_wp2_with (go_at_call 46; refine (HC.out _ (((Turned.refl _ _).alloc _).alloc _)).mono ?_; rintro e w' ⟨rfl, hT⟩)
     go_ret
     rw [HU2.out]
     exact ⟨rfl, HO.out.1.trans ((((Turned.refl _ _).alloc _).alloc _).trans hT)⟩
   ·obtain rfl : i = n := by omega
    have HS : Hid (sameFs false xs ys = true) := Lib.hid (SameToF.done (by rw [<- HN.out]; exact HO.out.2) HL.out)
    go_wp2_with fail
    go_ret
    rw [HS.out]
    exact ⟨rfl, HO.out.1⟩
 ·have hl2 : (xs.length : Int) ≠ (ys.length : Int) := by omega
  have HS := Lib.hid (sameFs_len (o := false) hl)
  clear hl
  have hb : ((xs.length : Int) != (ys.length : Int)) = true := by simpa using hl2
  clear hl2
  go_enter Tryz.func45, Tryz.ntmps45
  go_wp2_with fail
  go_ret
  rw [HS.out]
  exact ⟨rfl, Turned.refl _ _⟩
theorem two_old {w w' : World} {a b c d a' b' c' d' : Value} {t u : TypeId} (h : Turned (fun _ => False) ((w.alloc (.cells #[a, b, c, d] t)).alloc (.cells #[a', b', c', d'] u)) w') : w'.cell? ⟨w.heap.size, 2, none⟩ = some c /\ w'.cell? ⟨w.heap.size + 1, 2, none⟩ = some c' := by
 refine ⟨cell_turned h id ?_, cell_turned h id ?_⟩
 ·show (match ((w.alloc _).alloc _).heap[w.heap.size]? with | some (.cells c _ _) => c[2]? | _ => none) = some c
  rw [hao _ _ (by simp), heap_alloc_new]
  rfl
 ·have : w.heap.size + 1 = (w.alloc (.cells #[a, b, c, d] t)).heap.size := by simp
  rw [this]
  show (match ((w.alloc _).alloc _).heap[(w.alloc _).heap.size]? with | some (.cells c _ _) => c[2]? | _ => none) = some c'
  rw [heap_alloc_new]
  rfl
theorem fm_kid_lt {x : Fm} {l : List Fm} (h : x ∈ l) (s : ByteArray) (zs : List Ar) (a : Int) : SizeOf.sizeOf x < SizeOf.sizeOf (Fm.mk s zs l a) := by
 have := List.sizeOf_lt_of_mem h
 simp only [Fm.mk.sizeOf_spec]
 omega
theorem sameF_any : ∀ (m : Nat) (x : Fm), SizeOf.sizeOf x <= m -> ∀ (y : Fm) (a b c d : Value) (w : World), ArgsAt w (fun _ => True) x.args a -> FormsAt w (fun _ => True) x.body b -> ArgsAt w (fun _ => True) y.args c -> FormsAt w (fun _ => True) y.body d -> Calls Tryz.prog 46 #[fmA x a b, fmA y c d] w fun e w' => e = .returned (.bool (sameF false x y)) /\ Turned (fun _ => False) w w'
 | 0, .mk s zs fs at_, hm => by simp only [Fm.mk.sizeOf_spec] at hm; omega
 | m + 1, .mk s zs fs at_, hm => by
  intro y a b c d w h1 h2 h3 h4
  obtain ⟨t, bs, gs, bt⟩ := y
  simp only [Fm.args, Fm.body] at h1 h2 h3 h4
  have HA := Lib.hid (fun (W : World) (hW : Turned (fun _ => False) w W) => eqArg_any zs bs a c _ W (h1.all hW) (h3.all hW))
  have HB : Hid (∀ (W : World) (hW : Turned (fun _ => False) w W), Calls Tryz.prog 24 #[b, d] W fun e w' => e = .returned (.bool (sameFs false fs gs)) /\ Turned (fun _ => False) W w') := Lib.hid fun W hW => by
   have HE := Lib.hid (eqForm_of fs gs b d _ W (h2.all hW) (h4.all hW) (fun x hx => sameF_any m x (by have := fm_kid_lt hx s zs at_; omega)))
   obtain ⟨pb, cb, rfl⟩ := h2.shape
   obtain ⟨pd, cd, rfl⟩ := h4.shape
   go_enter Tryz.func24, Tryz.ntmps24
   go_wp2_with (go_at_call 45; refine HE.out.mono ?_; rintro e w' ⟨rfl, hT⟩)
   go_ret
   exact ⟨rfl, hT⟩
  have HX := Lib.hid (show sameF false (.mk s zs fs at_) (.mk t bs gs bt) = (s.data.toList == t.data.toList && (!false || at_ == bt) && sameAs false zs bs && sameFs false fs gs) from by rw [sameF])
  obtain ⟨pa, ca, rfl⟩ := h1.shape
  obtain ⟨pb, cb, rfl⟩ := h2.shape
  obtain ⟨pc, cc, rfl⟩ := h3.shape
  obtain ⟨pd, cd, rfl⟩ := h4.shape
  clear h1 h2 h3 h4
  simp only [fmA, Fm.word, Fm.at_]
  generalize sameF false (.mk s zs fs at_) (.mk t bs gs bt) = r at HX ⊢
  generalize sameAs false zs bs = q at HX HA
  generalize sameFs false fs gs = z at HX HB
  by_cases hs : s = t
  ·subst hs
   cases q with
   | true =>
    have HR : Hid (r = z) := by show _ = _; rw [HX.out]; simp
    have HZ := Lib.hid (fun w' (hT : Turned (fun _ => False) ((w.alloc (.cells #[.string s, .slice pa zs.length ca, .slice pb fs.length cb, .int .i64 at_] 45)).alloc (.cells #[.string s, .slice pc bs.length cc, .slice pd gs.length cd, .int .i64 bt] 45)) w') => two_old hT)
    clear HX
    go_enter Tryz.func46, Tryz.ntmps46
    go_wp2_with (first | (go_at_call 47; refine (HA.out _ (((Turned.refl _ _).alloc _).alloc _)).mono ?_; rintro e w' ⟨rfl, hT⟩; obtain ⟨z1, z2⟩ := HZ.out _ hT) | (go_at_call 24; refine (HB.out _ ((((Turned.refl _ _).alloc _).alloc _).trans hT)).mono ?_; rintro e w7 ⟨rfl, hT2⟩))
    go_ret
    rw [HR.out]
    exact ⟨rfl, ((((Turned.refl _ _).alloc _).alloc _).trans hT).trans hT2⟩
   | false =>
    have HR : Hid (r = false) := by show _ = _; rw [HX.out]; simp
    clear HX HB
    go_enter Tryz.func46, Tryz.ntmps46
    go_wp2_with (go_at_call 47; refine (HA.out _ (((Turned.refl _ _).alloc _).alloc _)).mono ?_; rintro e w' ⟨rfl, hT⟩)
    go_ret
    rw [HR.out]
    exact ⟨rfl, (((Turned.refl _ _).alloc _).alloc _).trans hT⟩
  ·have HR : Hid (r = false) := by show _ = _; rw [HX.out, bytes_ne hs]; simp
   have hb : (s.toList == t.toList) = false := by rw [ByteArray.toList_eq, ByteArray.toList_eq]; exact bytes_ne hs
   clear HX HA HB
   go_enter Tryz.func46, Tryz.ntmps46
   go_wp2_with fail
   go_ret
   rw [HR.out]
   exact ⟨rfl, ((Turned.refl _ _).alloc _).alloc _⟩
theorem same_any (xs ys : List Fm) (u v : Value) (N : Nat -> Prop) (w : World) (hx : FormsAt w N xs u) (hy : FormsAt w N ys v) : Calls Tryz.prog 24 #[u, v] w fun e w' => e = .returned (.bool (sameFs false xs ys)) /\ Turned (fun _ => False) w w' := by
 have HE := Lib.hid (eqForm_of xs ys u v _ w hx hy (fun x _ => sameF_any _ x (Nat.le_refl _)))
 obtain ⟨pb, cb, rfl⟩ := hx.shape
 obtain ⟨pd, cd, rfl⟩ := hy.shape
 go_enter Tryz.func24, Tryz.ntmps24
 go_wp2_with (go_at_call 45; refine HE.out.mono ?_; rintro e w' ⟨rfl, hT⟩)
 go_ret
 exact ⟨rfl, hT⟩
end Go.Proofs.YtjijdgkccfeeaaaGreatDoor
