/- Part 11 of the proof of card: ParPrE, ParWalkC, ParWalkD. Conditions: those of each theorem. -/
import Derived.Test.YtjijdgkccfeeaaaGreatDoorPt01
import Derived.Test.YtjijdgkccfeeaaaGreatDoorPt07
import Derived.Test.YtjijdgkccfeeaaaGreatDoorPt10
set_option maxRecDepth 20000
set_option maxHeartbeats 8000000
namespace Go.Proofs.YtjijdgkccfeeaaaGreatDoor
open Go Go.Proofs Go.RowKit
attribute [local go_sem] Oper.semAt_some
def smallA (a : Ar) : Bool := decide (a.s.size <= 100000) && smallX a.e
mutual
def smallF : Fm -> Bool
 | .mk w zs fs _ => decide (w.size <= 100000) && zs.all smallA && smallFs fs
def smallFs : List Fm -> Bool
 | [] => true
 | x :: xs => smallF x && smallFs xs
end
theorem smallFs_mem : ∀ {l : List Fm} {x : Fm}, smallFs l = true -> x ∈ l -> smallF x = true
 | y :: l, x, h, hm => by
  rw [smallFs, Bool.and_eq_true] at h
  rcases List.mem_cons.1 hm with rfl | hm
  ·exact h.1
  ·exact smallFs_mem h.2 hm
theorem smallF_parts {x : Fm} (h : smallF x = true) : x.word.size <= 100000 /\ (∀ a ∈ x.args, smallA a = true) /\ smallFs x.body = true := by
 obtain ⟨w, zs, fs, at_⟩ := x
 rw [smallF, Bool.and_eq_true, Bool.and_eq_true] at h
 exact ⟨of_decide_eq_true h.1.1, fun a ha => List.all_eq_true.1 h.1.2 a ha, h.2⟩
structure XF (B eb : Nat) (x : Fm) (a b : Value) (w : World) (ts : List Tok) (bad : Bool) (W : World) : Prop where
 ps : PrS B ts bad W
 tr : PrT B w W
 box : W.heap[eb]? = some (.cells #[.string x.word, a, b, .int .i64 x.at_] 45 (0, 0))
 fr : Free B W eb
 args : ArgsAt W (fun b => b < B) x.args a
 body : FormsAt W (fun b => b < B) x.body b
structure XG (B eb : Nat) (x : Ar) (k : Value) (w : World) (ts : List Tok) (bad : Bool) (W : World) : Prop where
 ps : PrS B ts bad W
 tr : PrT B w W
 box : W.heap[eb]? = some (.cells #[.int .i64 x.kind, .int .i64 x.n, .string x.s, .int .i64 x.e.op, .int .i64 x.e.n, .string x.e.s, k, .int .i64 x.e.at_, .int .i64 x.at_] 48 (0, 0))
 fr : Free B W eb
 kids : KidsAt W (fun b => b < B) x.e.kids k
section
variable {B eb : Nat} {x : Fm} {y : Ar} {a b k : Value} {w W W' : World} {ts us : List Tok} {bad bad' : Bool}
theorem XF.start (h : PrS B ts bad w) (ha : ArgsAt w (fun b => b < B) x.args a) (hb : FormsAt w (fun b => b < B) x.body b) : XF B w.heap.size x a b w ts bad (w.alloc (.cells #[.string x.word, a, b, .int .i64 x.at_] 45)) := by
 have ht : Turned (fun _ => False) w (w.alloc (.cells #[.string x.word, a, b, .int .i64 x.at_] 45)) := (Turned.refl _ _).alloc _
 obtain ⟨h1, h2⟩ := h.same ht
 exact ⟨h1, h2, heap_alloc_new _ _, h.fresh ht (Nat.le_refl _), ha.move ht (fun _ _ => id) (fun _ hb _ => hb), hb.move ht (fun _ _ => id) (fun _ hb _ => hb)⟩
theorem XF.call (h : Hid (XF B eb x a b w ts bad W)) (hp : PrS B us bad' W') (ht : PrT B W W') : Hid (XF B eb x a b w us bad' W') := by
 obtain ⟨h1, h2⟩ := keepBox ⟨h.out.box, h.out.fr⟩ ht
 exact Lib.hid ⟨hp, h.out.tr.trans ht, h1, h2, h.out.args.move ht.turned (fun b hb hn => hn (h.out.ps.data hb)) (fun _ hb _ => hb), h.out.body.move ht.turned (fun b hb hn => hn (h.out.ps.data hb)) (fun _ hb _ => hb)⟩
theorem XF.same (h : Hid (XF B eb x a b w ts bad W)) (ht : Turned (fun _ => False) W W') : Hid (XF B eb x a b w ts bad W') := by
 obtain ⟨h1, h2⟩ := h.out.ps.same ht
 exact XF.call h h1 h2
theorem XF.cells (h : Hid (XF B eb x a b w ts bad W)) : W.cell? ⟨eb, 0, none⟩ = some (.string x.word) /\ W.cell? ⟨eb, 1, none⟩ = some a /\ W.cell? ⟨eb, 2, none⟩ = some b /\ W.cell? ⟨eb, 3, none⟩ = some (.int .i64 x.at_) := by
 have hb := h.out.box
 simp [World.cell?, hb]
theorem XG.start (h : PrS B ts bad w) (ha : KidsAt w (fun b => b < B) y.e.kids k) : XG B w.heap.size y k w ts bad (w.alloc (.cells #[.int .i64 y.kind, .int .i64 y.n, .string y.s, .int .i64 y.e.op, .int .i64 y.e.n, .string y.e.s, k, .int .i64 y.e.at_, .int .i64 y.at_] 48)) := by
 have ht : Turned (fun _ => False) w (w.alloc (.cells #[.int .i64 y.kind, .int .i64 y.n, .string y.s, .int .i64 y.e.op, .int .i64 y.e.n, .string y.e.s, k, .int .i64 y.e.at_, .int .i64 y.at_] 48)) := (Turned.refl _ _).alloc _
 obtain ⟨h1, h2⟩ := h.same ht
 exact ⟨h1, h2, heap_alloc_new _ _, h.fresh ht (Nat.le_refl _), ha.move ht (fun _ _ => id) (fun _ hb _ => hb)⟩
theorem XG.call (h : Hid (XG B eb y k w ts bad W)) (hp : PrS B us bad' W') (ht : PrT B W W') : Hid (XG B eb y k w us bad' W') := by
 obtain ⟨h1, h2⟩ := keepBox ⟨h.out.box, h.out.fr⟩ ht
 exact Lib.hid ⟨hp, h.out.tr.trans ht, h1, h2, h.out.kids.move ht.turned (fun b hb hn => hn (h.out.ps.data hb)) (fun _ hb _ => hb)⟩
theorem XG.cells (h : Hid (XG B eb y k w ts bad W)) : W.cell? ⟨eb, 0, none⟩ = some (.int .i64 y.kind) /\ W.cell? ⟨eb, 1, none⟩ = some (.int .i64 y.n) /\ W.cell? ⟨eb, 2, none⟩ = some (.string y.s) /\ W.cell? ⟨eb, 3, none⟩ = some (.int .i64 y.e.op) /\ W.cell? ⟨eb, 4, none⟩ = some (.int .i64 y.e.n) /\ W.cell? ⟨eb, 5, none⟩ = some (.string y.e.s) /\ W.cell? ⟨eb, 6, none⟩ = some k /\ W.cell? ⟨eb, 7, none⟩ = some (.int .i64 y.e.at_) := by
 have hb := h.out.box
 simp [World.cell?, hb]
end
theorem PrS.setBad {B : Nat} {W : World} {ts : List Tok} {bad : Bool} (h : PrS B ts bad W) (c : Bool) : W.frozen? ⟨B, 1, none⟩ = false /\ W.cell? ⟨B, 1, none⟩ = some (.bool bad) /\ PrS B ts c (W.setCell ⟨B, 1, none⟩ (.bool c)) /\ PrT B W (W.setCell ⟨B, 1, none⟩ (.bool c)) := by
 obtain ⟨v, h0, h1⟩ := h
 have ht : Turned (fun j => j = B) W (W.setCell ⟨B, 1, none⟩ (.bool c)) := (Turned.refl (fun j => j = B) W).setCell (p := ⟨B, 1, none⟩) rfl _
 have hb := (set_bad h0 (.bool c)).2
 refine ⟨free_of_box h0 1, (pr_cells h0).2, ⟨v, hb, ownsRow_turned ht (fun k hk => by omega) h1⟩, ht.os, ht.tape, ht.output, ht.size, fun b hlt hf => ⟨ht.block b hlt hf.1, hf.1, fun u y hu => ?_⟩⟩
 rw [hb] at hu
 cases hu
 exact hf.2 v _ h0
theorem showAs_app : ∀ (l r : List Ar), showAs (l ++ r) = Pr.app (showAs l) (showAs r)
 | [], r => by rw [List.nil_append, showAs, Pr.nil_app]
 | a :: l, r => by rw [List.cons_append, showAs, showAs, showAs_app l r, Pr.app_assoc]
theorem showAs_succ {l : List Ar} {i : Nat} {y : Ar} (h : l[i]? = some y) : showAs (l.take (i + 1)) = Pr.app (showAs (l.take i)) (showA y) := by
 have e : l.take (i + 1) = l.take i ++ [y] := by rw [List.take_add_one, h]; rfl
 rw [e, showAs_app, showAs, showAs, Pr.app_nil]
theorem showAs_le (l : List Ar) (i : Nat) : (showAs (l.take i)).1.length <= (showAs l).1.length := by
 have h := showAs_app (l.take i) (l.drop i)
 rw [List.take_append_drop] at h
 rw [h]; simp [Pr.app]
theorem showFs_app : ∀ (l r : List Fm), showFs (l ++ r) = Pr.app (showFs l) (showFs r)
 | [], r => by rw [List.nil_append, showFs, Pr.nil_app]
 | a :: l, r => by rw [List.cons_append, showFs, showFs, showFs_app l r, Pr.app_assoc]
theorem showFs_succ {l : List Fm} {i : Nat} {y : Fm} (h : l[i]? = some y) : showFs (l.take (i + 1)) = Pr.app (showFs (l.take i)) (showF y) := by
 have e : l.take (i + 1) = l.take i ++ [y] := by rw [List.take_add_one, h]; rfl
 rw [e, showFs_app, showFs, showFs, Pr.app_nil]
theorem showFs_le (l : List Fm) (i : Nat) : (showFs (l.take i)).1.length <= (showFs l).1.length := by
 have h := showFs_app (l.take i) (l.drop i)
 rw [List.take_append_drop] at h
 rw [h]; simp [Pr.app]
def FormC (x : Fm) : Prop := ∀ (B : Nat) (ts : List Tok) (bad : Bool) (a b : Value) (W : World), PrS B ts bad W -> ArgsAt W (fun b => b < B) x.args a -> FormsAt W (fun b => b < B) x.body b -> ts.length + (showF x).1.length <= 100000 -> smallF x = true ->
 Calls Tryz.prog 39 #[.pointer (some ⟨B, 0, none⟩), fmA x a b] W (PrR B (ts ++ (showF x).1) (bad || (showF x).2) W)
theorem form_of (x : Fm) (hx : ∀ y ∈ x.body, FormC y) : FormC x := by
 intro B ts bad a b w h ha hb hl hs
 obtain ⟨hsw, hsa, hsb⟩ := smallF_parts hs
 have HSA := Lib.hid hsa
 have HSB := Lib.hid hsb
 have HK := Lib.hid hx
 have HS := Lib.hid (XF.start h ha hb)
 have hla := ha.len
 have hlb := hb.len
 unfold maxLen at hla hlb
 obtain ⟨pa, ca, rfl⟩ := ha.shape
 obtain ⟨pb, cb, rfl⟩ := hb.shape
 clear h ha hb hs hx hsa hsb
 have HX : Hid (showF x = Pr.app ([nmT x.word], badName x.word) (Pr.app (showAs x.args) (if x.body.isEmpty then ([sgT ⟨#[59]⟩], false) else Pr.app ([sgT ⟨#[123]⟩], false) (Pr.app (showFs x.body) ([sgT ⟨#[125]⟩], false))))) := Lib.hid (by cases x; rw [showF]; rfl)
 unfold fmA
 obtain ⟨W1, hW1⟩ : ∃ W1, W1 = w.alloc (.cells #[.string x.word, .slice pa x.args.length ca, .slice pb x.body.length cb, .int .i64 x.at_] 45) := ⟨_, rfl⟩
 obtain ⟨eb, heb⟩ : ∃ eb, eb = w.heap.size := ⟨_, rfl⟩
 rw [<- hW1, <- heb] at HS
 have HW := Lib.hid hW1
 have HB := Lib.hid heb
 clear hW1 heb
 have hlA : ts.length + (1 + (showAs x.args).1.length + 1) <= 100000 := by
  have h := hl; rw [HX.out] at h; simp [Pr.app] at h
  split at h <;> simp at h <;> omega
 go_enter Tryz.func39, Tryz.ntmps39
 go_upto_region 1 with fail
 rw [<- HW.out, <- HB.out]
 obtain ⟨c0, c1, c2, c3⟩ := XF.cells HS
 have HC := Lib.hid (name_pr B ts bad x.word W1 HS.out.ps (by omega) hsw)
 go_upto_region 2 with (go_at_call 66; refine HC.out.mono ?_; rintro e w2 ⟨rfl, hp, ht⟩; have HS2 := XF.call HS hp ht; clear hp ht)
 clear c0 c1 c2 c3 HS
 obtain ⟨c0, c1, c2, c3⟩ := XF.cells HS2
 go_wp2_with fail
 go_loopw [15] (fun u wr => ∃ i : Nat, i <= x.args.length /\ u = (.int .i64 i) /\ Hid (XF B eb x (.slice pa x.args.length ca) (.slice pb x.body.length cb) w (ts ++ [nmT x.word] ++ (showAs (x.args.take i)).1) (bad || badName x.word || (showAs (x.args.take i)).2) wr)) (fun u _ => x.args.length - (intOf u).toNat)
 case atStart => exact ⟨0, by omega, rfl, by simpa [showAs] using HS2⟩
 case round =>
  clear c0 c1 c2 c3 HS2
  obtain ⟨i, hi, rfl, HR⟩ := hrel
  by_cases hlt : i < x.args.length
  ·obtain ⟨y, hy⟩ := some_of_lt hlt
   have hym := List.mem_of_getElem? hy
   have hsy := HSA.out y hym
   obtain ⟨bx, ax, ky, he1, ⟨x0, x1, x2, x3, x4, x5, x6, x7, x8⟩, HKY⟩ := argsAt_get HR.out.args hy
   subst he1
   have HP := Lib.hid (showAs_succ hy)
   have hle := showAs_le x.args (i + 1)
   rw [HP.out] at hle
   simp only [Pr.app, List.length_append] at hle
   have HY := Lib.hid (XG.start HR.out.ps HKY)
   obtain ⟨pk, ck, rfl⟩ := HKY.shape
   have lx := cell_lt x0
   have HS4 := XF.same HR ((Turned.refl (fun _ => False) wr).alloc (.cells #[.int .i64 y.kind, .int .i64 y.n, .string y.s, .int .i64 y.e.op, .int .i64 y.e.n, .string y.e.s, .slice pk y.e.kids.length ck, .int .i64 y.e.at_, .int .i64 y.at_] 48))
   clear hy hym HKY HR
   go_upto_region 5 with fail
   obtain ⟨W4, hW4⟩ : ∃ W4, W4 = wr.alloc (.cells #[.int .i64 y.kind, .int .i64 y.n, .string y.s, .int .i64 y.e.op, .int .i64 y.e.n, .string y.e.s, .slice pk y.e.kids.length ck, .int .i64 y.e.at_, .int .i64 y.at_] 48) := ⟨_, rfl⟩
   obtain ⟨b5, hb5⟩ : ∃ b5, b5 = wr.heap.size := ⟨_, rfl⟩
   rw [<- hW4, <- hb5] at HY
   rw [<- hW4] at HS4
   rw [<- hW4, <- hb5]
   clear hW4 hb5 x0 x1 x2 x3 x4 x5 x6 x7 x8 lx
   obtain ⟨d0, d1, d2, d3, d4, d5, d6, d7⟩ := XG.cells HY
   obtain ⟨kind, n, s, e, at_⟩ := y
   simp only at d0 d1 d2 d3 d4 d5 d6 d7 hle hsy
   rw [smallA, Bool.and_eq_true] at hsy
   obtain ⟨hss, hse⟩ := hsy
   have hss2 : s.size <= 100000 := by simpa using hss
   clear hss
   simp only at hse
   have HLE := Lib.hid hle
   have hln : ts.length + 1 + (showAs (x.args.take i)).1.length <= 100000 := by omega
   clear hle
   by_cases k1 : kind = 1
   ·subst k1
    have HA : Hid (showA ⟨1, n, s, e, at_⟩ = ([nmT s], badName s)) := Lib.hid (by rw [showA]; rfl)
    have HC := Lib.hid (name_pr B _ _ s W4 HS4.out.ps (by simp; omega) hss2)
    go_wp2_with (go_at_call 66; refine HC.out.mono ?_; rintro e w5 ⟨rfl, hp, ht⟩; have HS5 := XF.call HS4 hp ht; clear hp ht)
    go_roundw
    case rel => exact ⟨i + 1, by omega, by go_num, by rw [HP.out, HA.out]; simpa [Pr.app, Bool.or_assoc] using HS5⟩
    case measure => simp [intOf]; omega
   by_cases k2 : kind = 2
   ·subst k2
    by_cases hn : n < 0
    ·have HA : Hid (showA ⟨2, n, s, e, at_⟩ = ([sgT ⟨#[45]⟩, nuT (max (wrap64 (-n)) 0)], badNum (max (wrap64 (-n)) 0) || decide (n < -999999999999999))) := Lib.hid (by simp [showA, hn])
     have HC := Lib.hid (sign_pr HS4.out.ps (by simp; omega) ⟨#[45]⟩ 1)
     have hl5 : ts.length + 1 + ((showAs (x.args.take i)).1.length + 2) <= 100000 := by have h := HLE.out; rw [HA.out] at h; simp at h; omega
     go_upto_region 12 with (go_at_call 67; refine HC.out.mono ?_; rintro e w5 ⟨rfl, hp, ht⟩; have HS5 := XF.call HS4 hp ht; have HY5 := XG.call HY hp ht; clear hp ht)
     clear d0 d1 d2 d3 d4 d5 d6 d7
     obtain ⟨d0, d1, d2, d3, d4, d5, d6, d7⟩ := XG.cells HY5
     have HC2 := Lib.hid (number_pr B _ _ (max (wrap64 (-n)) 0) w5 HS5.out.ps (by simp; omega))
     go_upto_region 13 with (go_at_call 68; refine HC2.out.mono ?_; rintro e w6 ⟨rfl, hp, ht⟩; have HS6 := XF.call HS5 hp ht; have HY6 := XG.call HY5 hp ht; clear hp ht)
     generalize hb6 : (bad || badName x.word || (showAs (List.take i x.args)).2 || badNum (max (wrap64 (-n)) 0)) = b6 at HS6 HY6
     clear d0 d1 d2 d3 d4 d5 d6 d7
     obtain ⟨d0, d1, d2, d3, d4, d5, d6, d7⟩ := XG.cells HY6
     have HB6 := Lib.hid hb6
     clear hb6
     cases b6 with
     | true =>
      obtain ⟨fz, fc, fp, ft⟩ := PrS.setBad HS6.out.ps true
      have HS7 := XF.call HS6 fp ft
      have HE7 : Hid ((bad || badName x.word || (Pr.app (showAs (x.args.take i)) ([sgT ⟨#[45]⟩, nuT (max (wrap64 (-n)) 0)], badNum (max (wrap64 (-n)) 0) || decide (n < -999999999999999))).2) = true) := Lib.hid (by simp only [Pr.app, <- Bool.or_assoc]; rw [HB6.out]; rfl)
      clear fp ft
      go_wp2_with fail
      go_roundw
      case rel => exact ⟨i + 1, by omega, by go_num, by rw [HP.out, HA.out, HE7.out]; simpa [Pr.app] using HS7⟩
      case measure => simp [intOf]; omega
     | false =>
      obtain ⟨fz, fc, fp, ft⟩ := PrS.setBad HS6.out.ps (decide (n < -999999999999999))
      have HS7 := XF.call HS6 fp ft
      have HE7 : Hid ((bad || badName x.word || (Pr.app (showAs (x.args.take i)) ([sgT ⟨#[45]⟩, nuT (max (wrap64 (-n)) 0)], badNum (max (wrap64 (-n)) 0) || decide (n < -999999999999999))).2) = decide (n < -999999999999999)) := Lib.hid (by simp only [Pr.app, <- Bool.or_assoc]; rw [HB6.out]; rfl)
      clear fp ft
      go_wp2_with fail
      go_roundw
      case rel => exact ⟨i + 1, by omega, by go_num, by rw [HP.out, HA.out, HE7.out]; simpa [Pr.app] using HS7⟩
      case measure => simp [intOf]; omega
    ·have HA : Hid (showA ⟨2, n, s, e, at_⟩ = ([nuT n], badNum n)) := Lib.hid (by simp [showA, hn])
     have HC := Lib.hid (number_pr B _ _ n W4 HS4.out.ps (by simp; omega))
     go_wp2_with (go_at_call 68; refine HC.out.mono ?_; rintro e w5 ⟨rfl, hp, ht⟩; have HS5 := XF.call HS4 hp ht; clear hp ht)
     go_roundw
     case rel => exact ⟨i + 1, by omega, by go_num, by rw [HP.out, HA.out]; simpa [Pr.app, Bool.or_assoc] using HS5⟩
     case measure => simp [intOf]; omega
   by_cases k3 : kind = 3
   ·subst k3
    have HA : Hid (showA ⟨3, n, s, e, at_⟩ = ([txT s], badText s)) := Lib.hid (by rw [showA]; rfl)
    have HC := Lib.hid (text_pr B _ _ s W4 HS4.out.ps (by simp; omega) hss2)
    go_wp2_with (go_at_call 69; refine HC.out.mono ?_; rintro e w5 ⟨rfl, hp, ht⟩; have HS5 := XF.call HS4 hp ht; clear hp ht)
    go_roundw
    case rel => exact ⟨i + 1, by omega, by go_num, by rw [HP.out, HA.out]; simpa [Pr.app, Bool.or_assoc] using HS5⟩
    case measure => simp [intOf]; omega
   by_cases k4 : kind = 4
   ·subst k4
    have HA : Hid (showA ⟨4, n, s, e, at_⟩ = ([sgT ⟨#[45, 62]⟩], false)) := Lib.hid (by rw [showA]; rfl)
    have HC := Lib.hid (sign_pr HS4.out.ps (by simp; omega) ⟨#[45, 62]⟩ 1)
    go_wp2_with (go_at_call 67; refine HC.out.mono ?_; rintro e w5 ⟨rfl, hp, ht⟩; have HS5 := XF.call HS4 hp ht; clear hp ht)
    go_roundw
    case rel => exact ⟨i + 1, by omega, by go_num, by rw [HP.out, HA.out]; simpa [Pr.app, Bool.or_assoc] using HS5⟩
    case measure => simp [intOf]; omega
   by_cases k5 : kind = 5
   ·subst k5
    have HA : Hid (showA ⟨5, n, s, e, at_⟩ = (sgT ⟨#[40]⟩ :: ((showX e).2.1 ++ [sgT ⟨#[41]⟩]), (showX e).2.2)) := Lib.hid (by rw [showA]; rfl)
    have hl5 : ts.length + 1 + ((showAs (x.args.take i)).1.length + (1 + (showX e).2.1.length + 1)) <= 100000 := by have h := HLE.out; rw [HA.out] at h; simp at h; omega
    have HC := Lib.hid (sign_pr HS4.out.ps (by simp; omega) ⟨#[40]⟩ 1)
    go_upto_region 21 with (go_at_call 67; refine HC.out.mono ?_; rintro e w5 ⟨rfl, hp, ht⟩; have HS5 := XF.call HS4 hp ht; have HY5 := XG.call HY hp ht; clear hp ht)
    clear d0 d1 d2 d3 d4 d5 d6 d7
    obtain ⟨d0, d1, d2, d3, d4, d5, d6, d7⟩ := XG.cells HY5
    simp only at d3 d4 d5 d6 d7
    have HC2 := Lib.hid (expr_pr _ e (Nat.le_refl _) B _ _ _ w5 HS5.out.ps HY5.out.kids (by simp; omega) hse)
    unfold exA at HC2
    go_upto_region 22 with (go_at_call 41; refine HC2.out.mono ?_; rintro e w6 ⟨rfl, hp, ht⟩; have HS6 := XF.call HS5 hp ht; clear hp ht)
    have HC3 := Lib.hid (sign_pr HS6.out.ps (by simp; omega) ⟨#[41]⟩ 1)
    go_wp2_with (go_at_call 67; refine HC3.out.mono ?_; rintro e w7 ⟨rfl, hp, ht⟩; have HS7 := XF.call HS6 hp ht; clear hp ht)
    go_roundw
    case rel => exact ⟨i + 1, by omega, by go_num, by rw [HP.out, HA.out]; simpa [Pr.app, Bool.or_assoc] using HS7⟩
    case measure => simp [intOf]; omega
   have e1 : (kind == 1) = false := by simpa using k1
   have e2 : (kind == 2) = false := by simpa using k2
   have e3 : (kind == 3) = false := by simpa using k3
   have e4 : (kind == 4) = false := by simpa using k4
   have e5 : (kind == 5) = false := by simpa using k5
   have HA : Hid (showA ⟨kind, n, s, e, at_⟩ = ([], true)) := Lib.hid (by rw [showA]; simp only; rw [if_neg k1, if_neg k2, if_neg k3, if_neg k4, if_neg k5])
   clear k1 k2 k3 k4 k5
   obtain ⟨fz, fc, fp, ft⟩ := PrS.setBad HS4.out.ps true
   have HS5 := XF.call HS4 fp ft
   clear fp ft
   go_wp2_with fail
   go_roundw
   case rel => exact ⟨i + 1, by omega, by go_num, by rw [HP.out, HA.out]; simpa [Pr.app, Bool.or_assoc] using HS5⟩
   case measure => simp [intOf]; omega
  ·obtain rfl : i = x.args.length := by omega
   rw [List.take_length] at HR
   obtain ⟨c0, c1, c2, c3⟩ := XF.cells HR
   by_cases hb0 : x.body.length = 0
   ·have hbe : x.body = [] := List.length_eq_zero_iff.1 hb0
    have HX2 : Hid (showF x = Pr.app ([nmT x.word], badName x.word) (Pr.app (showAs x.args) ([sgT ⟨#[59]⟩], false))) := Lib.hid (by rw [HX.out, hbe]; rfl)
    have hb1 : ((x.body.length : Int) == 0) = true := by simp [hb0]
    have HC4 := Lib.hid (sign_pr HR.out.ps (by simp; omega) ⟨#[59]⟩ 1)
    clear hbe hb0
    go_wp2_with (go_at_call 67; refine HC4.out.mono ?_; rintro e w7 ⟨rfl, hp, ht⟩; have HS7 := XF.call HR hp ht; clear hp ht)
    go_end0
    rw [HX2.out]
    refine ⟨rfl, ?_, HS7.out.tr⟩
    have := HS7.out.ps
    simpa [Pr.app, Bool.or_assoc] using this
   ·have HX2 : Hid (showF x = Pr.app ([nmT x.word], badName x.word) (Pr.app (showAs x.args) (Pr.app ([sgT ⟨#[123]⟩], false) (Pr.app (showFs x.body) ([sgT ⟨#[125]⟩], false))))) := Lib.hid (by
     rw [HX.out, if_neg]
     intro h
     exact hb0 (by simpa using h))
    have hb1 : ((x.body.length : Int) == 0) = false := by rw [beq_eq_false_iff_ne]; omega
    have hl6 : ts.length + (1 + ((showAs x.args).1.length + (1 + ((showFs x.body).1.length + 1)))) <= 100000 := by have h := hl; rw [HX2.out] at h; simp [Pr.app] at h; omega
    have HC4 := Lib.hid (sign_pr HR.out.ps (by simp; omega) ⟨#[123]⟩ 1)
    clear hb0 HX
    go_upto_region 27 with (go_at_call 67; refine HC4.out.mono ?_; rintro e w7 ⟨rfl, hp, ht⟩; have HS7 := XF.call HR hp ht; clear hp ht)
    clear c0 c1 c2 c3
    obtain ⟨c0, c1, c2, c3⟩ := XF.cells HS7
    go_wp2_with fail
    go_loopw [97] (fun u wr => ∃ i : Nat, i <= x.body.length /\ u = (.int .i64 i) /\ Hid (XF B eb x (.slice pa x.args.length ca) (.slice pb x.body.length cb) w (ts ++ [nmT x.word] ++ (showAs x.args).1 ++ [sgT ⟨#[123]⟩] ++ (showFs (x.body.take i)).1) (bad || badName x.word || (showAs x.args).2 || (showFs (x.body.take i)).2) wr)) (fun u _ => x.body.length - (intOf u).toNat)
    case atStart => exact ⟨0, by omega, rfl, by simpa [showFs] using HS7⟩
    case round =>
     clear c0 c1 c2 c3 HS7
     obtain ⟨j, hj, rfl, HJ⟩ := hrel
     by_cases hlj : j < x.body.length
     ·obtain ⟨y, hy⟩ := some_of_lt hlj
      have hym := List.mem_of_getElem? hy
      have hsy := smallFs_mem HSB.out hym
      have HCF := Lib.hid (HK.out y hym)
      obtain ⟨bx, ax, ky, my, he1, ⟨x0, x1, x2, x3⟩, HKA, HKB⟩ := formsAt_get HJ.out.body hy
      subst he1
      obtain ⟨pk, ck, rfl⟩ := HKA.shape
      obtain ⟨qk, dk, rfl⟩ := HKB.shape
      have HP := Lib.hid (showFs_succ hy)
      have hle := showFs_le x.body (j + 1)
      rw [HP.out] at hle
      simp only [Pr.app, List.length_append] at hle
      have lx := cell_lt x0
      have ht4 : Turned (fun _ => False) wr (wr.alloc (.cells #[.string y.word, .slice pk y.args.length ck, .slice qk y.body.length dk, .int .i64 y.at_] 45)) := (Turned.refl (fun _ => False) wr).alloc _
      have HS4 := XF.same HJ ht4
      have HC5 := Lib.hid (HCF.out B _ _ _ _ _ HS4.out.ps (HKA.move ht4 (fun _ _ => id) (fun _ hb _ => hb)) (HKB.move ht4 (fun _ _ => id) (fun _ hb _ => hb)) (by simp at hle ⊢; omega) hsy)
      unfold fmA at HC5
      clear hy hym HKA HKB HJ hle ht4
      go_wp2_with (go_at_call 39; refine HC5.out.mono ?_; rintro e w5 ⟨rfl, hp, ht⟩; have HS5 := XF.call HS4 hp ht; clear hp ht)
      go_roundw
      case rel => exact ⟨j + 1, by omega, by go_num, by rw [HP.out]; simpa [Pr.app, Bool.or_assoc] using HS5⟩
      case measure => simp [intOf]; omega
     ·obtain rfl : j = x.body.length := by omega
      rw [List.take_length] at HJ
      have HC6 := Lib.hid (sign_pr HJ.out.ps (by simp; omega) ⟨#[125]⟩ 1)
      go_wp2_with (go_at_call 67; refine HC6.out.mono ?_; rintro e w7 ⟨rfl, hp, ht⟩; have HS8 := XF.call HJ hp ht; clear hp ht)
      go_end0
      rw [HX2.out]
      refine ⟨rfl, ?_, HS8.out.tr⟩
      have := HS8.out.ps
      simpa [Pr.app, Bool.or_assoc] using this
theorem form_pr : ∀ (m : Nat) (x : Fm), SizeOf.sizeOf x <= m -> FormC x
 | 0, .mk s zs fs at_, hm => by simp only [Fm.mk.sizeOf_spec] at hm; omega
 | m + 1, .mk s zs fs at_, hm => form_of _ fun y hy => form_pr m y (by have := fm_kid_lt (show y ∈ fs from hy) s zs at_; omega)
def XR (B g cap : Nat) (ts : List Tok) (nf : Int) (w : World) (r : PR Ex) (e : Ending) (w' : World) : Prop :=
 match r with
 | .ok x j => ∃ p c, e = .returned (.agg #[.int .i64 x.op, .int .i64 x.n, .string x.s, .slice p x.kids.length c, .int .i64 x.at_]) /\ KidsAt w' (fun b => w.heap.size <= b) x.kids (.slice p x.kids.length c) /\ PS B g cap ts w' j nf /\ Turned (fun b => b = B) w w'
 | .err j c => e = .panicked [stopE ts j c] /\ Turned (fun b => b = B) w w'
structure Hyp (B g cap : Nat) (ts : List Tok) (f : Nat) : Prop where
 expr : ∀ (m : Nat) (k : Nat) (d : Int) (r : PR Ex) (w : World) (nf : Int), m < f -> 0 <= d -> d <= 31 -> runF ts m .expr k d = some r -> PS B g cap ts w k nf -> Calls Tryz.prog 31 #[.pointer (some ⟨B, 0, none⟩), .int .i64 d] w (XR B g cap ts nf w r)
 level : ∀ (m n : Nat) (z : Int) (k : Nat) (d : Int) (r : PR Ex) (w : World) (nf : Int), m < f -> z = n -> 1 <= n -> n <= 7 -> 0 <= d -> d <= 30 -> runF ts m (.level n) k d = some r -> PS B g cap ts w k nf -> Calls Tryz.prog 57 #[.pointer (some ⟨B, 0, none⟩), .int .i64 z, .int .i64 d] w (XR B g cap ts nf w r)
 neg : ∀ (m : Nat) (k : Nat) (d : Int) (r : PR Ex) (w : World) (nf : Int), m < f -> 0 <= d -> d <= 30 -> runF ts m .neg k d = some r -> PS B g cap ts w k nf -> Calls Tryz.prog 88 #[.pointer (some ⟨B, 0, none⟩), .int .i64 d] w (XR B g cap ts nf w r)
 atom : ∀ (m : Nat) (k : Nat) (d : Int) (r : PR Ex) (w : World) (nf : Int), m < f -> 0 <= d -> d <= 30 -> (∀ t, ts[k]? = some t -> isS t ⟨#[45]⟩ = false) -> runF ts m .atom k d = some r -> PS B g cap ts w k nf -> Calls Tryz.prog 114 #[.pointer (some ⟨B, 0, none⟩), .int .i64 d] w (XR B g cap ts nf w r)
theorem expr_size : (Tryz.prog.info? 31).map (·.size) = some 5 := by kernel_rfl
theorem results_ex {fn : Func} {i : Nat} (hf : fn.results = #[ResultVar.cell i 31]) (tmps : Array Value) (w : World) (b : Nat) (x y z u v : Value) (hp : tmps.getD i undef = .pointer (some ⟨b, 0, none⟩)) (hg : w.heap[b]? = some (.cells #[x, y, z, u, v] 31 (0, 0))) :
  (results fn tmps).run Tryz.prog w = .ok (.agg #[x, y, z, u, v]) w := by
 have hp' : tmps[i]?.getD undef = .pointer (some ⟨b, 0, none⟩) := by simpa using hp
 simp [results, hf, hp', asAddr, run_loadVar_row w b 31 31 #[x, y, z, u, v] (0, 0) _ hg Tryz.underlying31 rfl expr_size]
theorem neg_step {B g cap : Nat} {ts : List Tok} {f : Nat} (IH : Hyp B g cap ts f) (m : Nat) (k : Nat) (d : Int) (r : PR Ex) (w : World) (nf : Int) (hm : m <= f) (hd0 : 0 <= d) (hd : d <= 30) (hr : runF ts m .neg k d = some r) (h : PS B g cap ts w k nf) :
  Calls Tryz.prog 88 #[.pointer (some ⟨B, 0, none⟩), .int .i64 d] w (XR B g cap ts nf w r) := by
 obtain ⟨t, ht⟩ := some_of_lt h.lt
 obtain ⟨m, rfl⟩ : ∃ m', m = m' + 1 := by
  cases m with
  | zero => simp [runF] at hr
  | succ m' => exact ⟨m', rfl⟩
 unfold runF at hr
 simp only [ht] at hr
 have S0 := SP.start h
 by_cases hs : isS t ⟨#[45]⟩ = true
 ·have hk1 := h.ok.sign ht hs
  obtain ⟨u, hu⟩ := some_of_lt hk1
  rw [if_pos hs] at hr
  simp only [hu] at hr
  have hf := field_tok1
  go_enter Tryz.func88, Tryz.ntmps88
  go_wp2_with fail
  obtain ⟨W1, b1, hW, hb, S1⟩ := SP.box S0 (.cells #[.int .i64 0, .int .i64 0, .string ⟨#[]⟩, .slice none 0 0, .int .i64 0] 31)
  rw [<- hW, <- hb]
  clear hW hb S0
  refine (is_ps S1.out.ps ht _).mono ?_
  rintro e W2 ⟨rfl, rfl⟩
  go_wp2_with fail
  refine (next_ps S1.out.ps ht hk1).mono ?_
  rintro e W2 ⟨rfl, hp, ht2⟩
  have S2 := SP.call S1 ht2 hp
  clear S1 hp ht2
  go_wp2_with fail
  refine (deep_ps S2.out.ps hu _ _).mono ?_
  rintro e W3 ⟨hD, rfl⟩
  cases hfp : firstP u (d + 1) false with
  | some c =>
   rw [hfp] at hr hD
   cases hr
   obtain rfl : e = .panicked [stopE ts (k + 1) c] := hD
   exact ⟨rfl, rfl, S2.out.tur⟩
  | none =>
   rw [hfp] at hr hD
   obtain rfl : e = .returned (.tuple #[]) := hD
   have hd2 : d + 1 <= 30 := by
    unfold firstP at hfp
    split at hfp
    ·cases hfp
    ·split at hfp
     ·cases hfp
     ·omega
   clear hfp
   go_wp2_with fail
   rcases PR.then_some hr with ⟨j, c, h1, rfl⟩ | ⟨x, j, h1, h2⟩
   ·refine (IH.neg m (k + 1) (d + 1) _ _ nf (by omega) (by omega) hd2 h1 S2.out.ps).mono ?_
    intro e W4 hx
    obtain ⟨rfl, ht2⟩ := hx
    exact ⟨rfl, rfl, S2.out.tur.trans ht2⟩
   ·cases h2
    refine (IH.neg m (k + 1) (d + 1) _ _ nf (by omega) (by omega) hd2 h1 S2.out.ps).mono ?_
    intro e W4 hx
    obtain ⟨p, c, rfl, hk, hp, ht2⟩ := hx
    have S3 := SP.callK S2 ht2 hp hk
    clear S2 hk hp ht2
    obtain ⟨p1, p2, p3⟩ := SP.boxAt S3 0 rfl
    have q := free_of_box p1
    obtain ⟨c0, c1, c2, c3, c4⟩ := cellsFive p1
    go_wp2_with fail
    have S4 := SP.put S3 0 rfl (five_turned W4 b1 (.int .i64 6) (.int .i64 0) (.string ⟨#[]⟩) (.slice (some ⟨W4.heap.size, 0, none⟩) 1 1) (.int .i64 t.at_)) (five_set p1)
    obtain ⟨W6, bk, hW, hb, S5⟩ := SP.box S4 (.cells #[.int .i64 x.op, .int .i64 x.n, .string x.s, .slice p x.kids.length c, .int .i64 x.at_] 31)
    have hb2 : bk = W4.heap.size := by rw [hb]; simp
    rw [<- hb2] at hW S5 ⊢
    rw [<- hW]
    refine bodyPost_ret (results_ex rfl _ _ b1 (.int .i64 6) (.int .i64 0) (.string ⟨#[]⟩) (.slice (some ⟨bk, 0, none⟩) 1 1) (.int .i64 t.at_) rfl (SP.boxAt S5 1 rfl).1) rfl ?_
    have S6 := SP.adopt S5 [(x, .slice p x.kids.length c)] rfl (by simp) 1
    exact ⟨some ⟨bk, 0, none⟩, 1, rfl, SP.kidAt S6 0 rfl, S6.out.ps, S6.out.tur⟩
 ·have hs : isS t ⟨#[45]⟩ = false := by simpa using hs
  rw [if_neg (by rw [hs]; decide)] at hr
  go_enter Tryz.func88, Tryz.ntmps88
  go_wp2_with fail
  obtain ⟨W1, b1, hW, hb, S1⟩ := SP.box S0 (.cells #[.int .i64 0, .int .i64 0, .string ⟨#[]⟩, .slice none 0 0, .int .i64 0] 31)
  rw [<- hW, <- hb]
  clear hW hb S0
  refine (is_ps S1.out.ps ht _).mono ?_
  rintro e W2 ⟨rfl, rfl⟩
  go_wp2_with fail
  refine (IH.atom m k d r _ nf (by omega) hd0 hd (fun t' ht' => by rw [ht] at ht'; cases ht'; exact hs) hr S1.out.ps).mono ?_
  intro e W3 hx
  cases r with
  | err j c =>
   obtain ⟨rfl, ht2⟩ := hx
   exact ⟨rfl, rfl, S1.out.tur.trans ht2⟩
  | ok x j =>
   obtain ⟨p, c, rfl, hk, hp, ht2⟩ := hx
   have S2 := SP.callK S1 ht2 hp hk
   clear S1 hk hp ht2
   obtain ⟨p1, p2, p3⟩ := SP.boxAt S2 0 rfl
   have q := free_of_box p1
   obtain ⟨c0, c1, c2, c3, c4⟩ := cellsFive p1
   go_wp2_with fail
   have S3 := SP.put S2 0 rfl (five_turned _ _ (.int .i64 x.op) (.int .i64 x.n) (.string x.s) (.slice p x.kids.length c) (.int .i64 x.at_)) (five_set p1)
   refine bodyPost_ret (results_ex rfl _ _ b1 (.int .i64 x.op) (.int .i64 x.n) (.string x.s) (.slice p x.kids.length c) (.int .i64 x.at_) rfl (five_set p1)) rfl ?_
   exact ⟨p, c, rfl, SP.kidAt S3 0 rfl, S3.out.ps, S3.out.tur⟩
theorem firstP_le {t : Tok} {d : Int} {no : Bool} (h : firstP t d no = none) : d <= 30 := by
 unfold firstP at h
 split at h
 ·cases h
 ·split at h
  ·cases h
  ·omega
theorem expr_step {B g cap : Nat} {ts : List Tok} {f : Nat} (IH : Hyp B g cap ts f) (m : Nat) (k : Nat) (d : Int) (r : PR Ex) (w : World) (nf : Int) (hm : m <= f) (hd0 : 0 <= d) (hd : d <= 31) (hr : runF ts m .expr k d = some r) (h : PS B g cap ts w k nf) :
  Calls Tryz.prog 31 #[.pointer (some ⟨B, 0, none⟩), .int .i64 d] w (XR B g cap ts nf w r) := by
 obtain ⟨t, ht⟩ := some_of_lt h.lt
 obtain ⟨m, rfl⟩ : ∃ m', m = m' + 1 := by
  cases m with
  | zero => simp [runF] at hr
  | succ m' => exact ⟨m', rfl⟩
 unfold runF at hr
 simp only [ht] at hr
 have S0 := SP.start h
 go_enter Tryz.func31, Tryz.ntmps31
 go_wp2_with fail
 obtain ⟨W1, rb, hW, hb, S1⟩ := SP.box S0 (.cells #[.int .i64 0, .int .i64 0, .string ⟨#[]⟩, .slice none 0 0, .int .i64 0] 31)
 rw [<- hW, <- hb]
 clear hW hb S0
 refine (deep_ps S1.out.ps ht _ _).mono ?_
 rintro e W2 ⟨hD, rfl⟩
 cases hfp : firstP t d true with
 | some c =>
  rw [hfp] at hr hD
  cases hr
  obtain rfl : e = .panicked [stopE ts k c] := hD
  exact ⟨rfl, rfl, S1.out.tur⟩
 | none =>
  rw [hfp] at hr hD
  obtain rfl : e = .returned (.tuple #[]) := hD
  have hd2 := firstP_le hfp
  clear hfp
  go_wp2_with fail
  rcases PR.then_some hr with ⟨j, c, h1, rfl⟩ | ⟨x, j, h1, h2⟩
  ·refine (IH.level m 1 1 k d _ _ nf (by omega) rfl (by omega) (by omega) hd0 hd2 h1 S1.out.ps).mono ?_
   intro e W3 hx
   obtain ⟨rfl, ht2⟩ := hx
   exact ⟨rfl, rfl, S1.out.tur.trans ht2⟩
  refine (IH.level m 1 1 k d _ _ nf (by omega) rfl (by omega) (by omega) hd0 hd2 h1 S1.out.ps).mono ?_
  intro e W3 hx
  obtain ⟨p1, c1, rfl, hk, hp, ht2⟩ := hx
  have S2 := SP.callK S1 ht2 hp hk
  clear S1 hk hp ht2 hr
  go_wp2_with fail
  obtain ⟨W4, eb, hW, hb, S3⟩ := SP.box S2 (.cells #[.int .i64 x.op, .int .i64 x.n, .string x.s, .slice p1 x.kids.length c1, .int .i64 x.at_] 31)
  rw [<- hW, <- hb]
  clear hW hb S2
  obtain ⟨u, hu⟩ := some_of_lt S3.out.ps.lt
  simp only [hu] at h2
  refine (is_ps S3.out.ps hu _).mono ?_
  rintro e W5 ⟨rfl, rfl⟩
  by_cases hq : isS u ⟨#[63]⟩ = true
  ·rw [if_neg (by rw [hq]; decide)] at h2
   have hk1 := h.ok.sign hu hq
   go_wp2_with fail
   refine (next_ps S3.out.ps hu hk1).mono ?_
   rintro e W5 ⟨rfl, hp, ht2⟩
   have S4 := SP.call S3 ht2 hp
   clear S3 hp ht2
   go_wp2_with fail
   rcases PR.then_some h2 with ⟨j2, c, h3, rfl⟩ | ⟨a, j2, h3, h4⟩
   ·refine (IH.expr m (j + 1) (d + 1) _ _ nf (by omega) (by omega) (by omega) h3 S4.out.ps).mono ?_
    intro e W6 hx
    obtain ⟨rfl, ht2⟩ := hx
    exact ⟨rfl, rfl, S4.out.tur.trans ht2⟩
   refine (IH.expr m (j + 1) (d + 1) _ _ nf (by omega) (by omega) (by omega) h3 S4.out.ps).mono ?_
   intro e W6 hx
   obtain ⟨p2, c2, rfl, hk, hp, ht2⟩ := hx
   have S5 := SP.callK S4 ht2 hp hk
   clear S4 hk hp ht2 h2
   go_wp2_with fail
   obtain ⟨W7, ab, hW, hb, S6⟩ := SP.box S5 (.cells #[.int .i64 a.op, .int .i64 a.n, .string a.s, .slice p2 a.kids.length c2, .int .i64 a.at_] 31)
   rw [<- hW, <- hb]
   clear hW hb S5
   obtain ⟨v, hv⟩ := some_of_lt S6.out.ps.lt
   simp only [hv] at h4
   by_cases hc : isS v ⟨#[58]⟩ = true
   ·rw [if_neg (by rw [hc]; decide)] at h4
    refine (need_ps S6.out.ps hv _ hc).mono ?_
    rintro e W8 ⟨rfl, hp, ht2⟩
    have S7 := SP.call S6 ht2 hp
    clear S6 hp ht2
    obtain ⟨z1, z2, z3⟩ := SP.boxAt S7 0 rfl
    obtain ⟨y0, y1, y2, y3, y4⟩ := cellsFive z1
    obtain ⟨z4, z5, z6⟩ := SP.boxAt S7 1 rfl
    obtain ⟨x0, x1, x2, x3, x4⟩ := cellsFive z4
    have hw : IntKind.i64.wrap (d + 1) = d + 1 := IntWalk.i64_in _ (by omega)
    go_wp2_with fail
    rcases PR.then_some h4 with ⟨j3, c, h5, rfl⟩ | ⟨b, j3, h5, h6⟩
    ·have S8 := SP.same S7 (Turned.refl _ _).drew
     ·skip
      ·skip
       refine region_R (R := fun j V => j < 10 -> (fun V : World => V.cell? ⟨eb, 0, none⟩ = some (.int .i64 x.op) /\ V.cell? ⟨eb, 1, none⟩ = some (.int .i64 x.n) /\ V.cell? ⟨eb, 2, none⟩ = some (.string x.s) /\ V.cell? ⟨eb, 3, none⟩ = some (.slice p1 x.kids.length c1) /\ V.cell? ⟨eb, 4, none⟩ = some (.int .i64 x.at_) /\ V.cell? ⟨ab, 0, none⟩ = some (.int .i64 a.op) /\ V.cell? ⟨ab, 1, none⟩ = some (.int .i64 a.n) /\ V.cell? ⟨ab, 2, none⟩ = some (.string a.s) /\ V.cell? ⟨ab, 3, none⟩ = some (.slice p2 a.kids.length c2) /\ V.cell? ⟨ab, 4, none⟩ = some (.int .i64 a.at_)) V) (by kernel_rfl) ?_
       refine tk (n := 10) 0 (.pointer (some ⟨eb, 4, none⟩)) rfl (.inl ⟨by rfl, ?_⟩) ⟨x0, x1, x2, x3, x4, y0, y1, y2, y3, y4⟩ ?_
       ·rintro V ⟨v0, v1, v2, v3, v4, v5, v6, v7, v8, v9⟩
        go_simp
       simp only [zz0, zz1, Act.put, zz3, zz4, zz5]
       refine tk (n := 10) 1 (.int .i64 x.at_) rfl (.inl ⟨by rfl, ?_⟩) ⟨x0, x1, x2, x3, x4, y0, y1, y2, y3, y4⟩ ?_
       ·rintro V ⟨v0, v1, v2, v3, v4, v5, v6, v7, v8, v9⟩
        go_simp
       simp only [zz0, zz1, zz2, Act.put, zz3, zz4, zz5]
       refine tk (n := 10) 2 (.agg #[.int .i64 x.op, .int .i64 x.n, .string x.s, .slice p1 x.kids.length c1, .int .i64 x.at_]) rfl (.inl ⟨by rfl, ?_⟩) ⟨x0, x1, x2, x3, x4, y0, y1, y2, y3, y4⟩ ?_
       ·rintro V ⟨v0, v1, v2, v3, v4, v5, v6, v7, v8, v9⟩
        go_simp
       simp only [zz0, zz1, zz2, Act.put, zz3, zz4, zz5]
       refine tk (n := 10) 3 (.agg #[.int .i64 a.op, .int .i64 a.n, .string a.s, .slice p2 a.kids.length c2, .int .i64 a.at_]) rfl (.inl ⟨by rfl, ?_⟩) ⟨x0, x1, x2, x3, x4, y0, y1, y2, y3, y4⟩ ?_
       ·rintro V ⟨v0, v1, v2, v3, v4, v5, v6, v7, v8, v9⟩
        go_simp
       simp only [zz0, zz1, zz2, Act.put, zz3, zz4, zz5]
       refine tk (n := 10) 4 (.pointer (some ⟨B, 0, none⟩)) rfl (.inl ⟨by rfl, ?_⟩) ⟨x0, x1, x2, x3, x4, y0, y1, y2, y3, y4⟩ ?_
       ·rintro V ⟨v0, v1, v2, v3, v4, v5, v6, v7, v8, v9⟩
        go_simp
       simp only [zz0, zz1, zz2, Act.put, zz3, zz4, zz5]
       refine tk (n := 10) 5 (.int .i64 d) rfl (.inl ⟨by rfl, ?_⟩) ⟨x0, x1, x2, x3, x4, y0, y1, y2, y3, y4⟩ ?_
       ·rintro V ⟨v0, v1, v2, v3, v4, v5, v6, v7, v8, v9⟩
        go_simp
       simp only [zz0, zz1, zz2, Act.put, zz3, zz4, zz5]
       refine tk (n := 10) 6 (.int .i64 (d + 1)) rfl (.inl ⟨by rfl, ?_⟩) ⟨x0, x1, x2, x3, x4, y0, y1, y2, y3, y4⟩ ?_
       ·rintro V ⟨v0, v1, v2, v3, v4, v5, v6, v7, v8, v9⟩
        go_simp
       simp only [zz0, zz1, zz2, Act.put, zz3, zz4, zz5]
       refine wpAnyR_all (rs := [7]) (by kernel_rfl) (by simp) (fun i hi2 => ?_)
       obtain rfl : i = 7 := by simpa using hi2
       clear hi2
       refine wpOp_plain rfl rfl ?_
       simp only [zz0, zz1, zz2]
       go_simp
       refine (IH.expr m (j2 + 1) (d + 1) _ _ nf (by omega) (by omega) (by omega) h5 S8.out.ps).mono ?_
       rintro e W9 ⟨rfl, ht2⟩
       exact ⟨rfl, rfl, S8.out.tur.trans ht2⟩
    ·cases h6
     have S8 := SP.same S7 (Turned.refl _ _).drew
     clear S7
     ·skip
      ·skip
       refine region_R (R := fun j V => j < 10 -> (fun V : World => V.cell? ⟨eb, 0, none⟩ = some (.int .i64 x.op) /\ V.cell? ⟨eb, 1, none⟩ = some (.int .i64 x.n) /\ V.cell? ⟨eb, 2, none⟩ = some (.string x.s) /\ V.cell? ⟨eb, 3, none⟩ = some (.slice p1 x.kids.length c1) /\ V.cell? ⟨eb, 4, none⟩ = some (.int .i64 x.at_) /\ V.cell? ⟨ab, 0, none⟩ = some (.int .i64 a.op) /\ V.cell? ⟨ab, 1, none⟩ = some (.int .i64 a.n) /\ V.cell? ⟨ab, 2, none⟩ = some (.string a.s) /\ V.cell? ⟨ab, 3, none⟩ = some (.slice p2 a.kids.length c2) /\ V.cell? ⟨ab, 4, none⟩ = some (.int .i64 a.at_)) V) (by kernel_rfl) ?_
       refine tk (n := 10) 0 (.pointer (some ⟨eb, 4, none⟩)) rfl (.inl ⟨by rfl, ?_⟩) ⟨x0, x1, x2, x3, x4, y0, y1, y2, y3, y4⟩ ?_
       ·rintro V ⟨v0, v1, v2, v3, v4, v5, v6, v7, v8, v9⟩
        go_simp
       simp only [zz0, zz1, Act.put, zz3, zz4, zz5]
       refine tk (n := 10) 1 (.int .i64 x.at_) rfl (.inl ⟨by rfl, ?_⟩) ⟨x0, x1, x2, x3, x4, y0, y1, y2, y3, y4⟩ ?_
       ·rintro V ⟨v0, v1, v2, v3, v4, v5, v6, v7, v8, v9⟩
        go_simp
       simp only [zz0, zz1, zz2, Act.put, zz3, zz4, zz5]
       refine tk (n := 10) 2 (.agg #[.int .i64 x.op, .int .i64 x.n, .string x.s, .slice p1 x.kids.length c1, .int .i64 x.at_]) rfl (.inl ⟨by rfl, ?_⟩) ⟨x0, x1, x2, x3, x4, y0, y1, y2, y3, y4⟩ ?_
       ·rintro V ⟨v0, v1, v2, v3, v4, v5, v6, v7, v8, v9⟩
        go_simp
       simp only [zz0, zz1, zz2, Act.put, zz3, zz4, zz5]
       refine tk (n := 10) 3 (.agg #[.int .i64 a.op, .int .i64 a.n, .string a.s, .slice p2 a.kids.length c2, .int .i64 a.at_]) rfl (.inl ⟨by rfl, ?_⟩) ⟨x0, x1, x2, x3, x4, y0, y1, y2, y3, y4⟩ ?_
       ·rintro V ⟨v0, v1, v2, v3, v4, v5, v6, v7, v8, v9⟩
        go_simp
       simp only [zz0, zz1, zz2, Act.put, zz3, zz4, zz5]
       refine tk (n := 10) 4 (.pointer (some ⟨B, 0, none⟩)) rfl (.inl ⟨by rfl, ?_⟩) ⟨x0, x1, x2, x3, x4, y0, y1, y2, y3, y4⟩ ?_
       ·rintro V ⟨v0, v1, v2, v3, v4, v5, v6, v7, v8, v9⟩
        go_simp
       simp only [zz0, zz1, zz2, Act.put, zz3, zz4, zz5]
       refine tk (n := 10) 5 (.int .i64 d) rfl (.inl ⟨by rfl, ?_⟩) ⟨x0, x1, x2, x3, x4, y0, y1, y2, y3, y4⟩ ?_
       ·rintro V ⟨v0, v1, v2, v3, v4, v5, v6, v7, v8, v9⟩
        go_simp
       simp only [zz0, zz1, zz2, Act.put, zz3, zz4, zz5]
       refine tk (n := 10) 6 (.int .i64 (d + 1)) rfl (.inl ⟨by rfl, ?_⟩) ⟨x0, x1, x2, x3, x4, y0, y1, y2, y3, y4⟩ ?_
       ·rintro V ⟨v0, v1, v2, v3, v4, v5, v6, v7, v8, v9⟩
        go_simp
       simp only [zz0, zz1, zz2, Act.put, zz3, zz4, zz5]
       refine wpAnyR_all (rs := [7]) (by kernel_rfl) (by simp) (fun i hi2 => ?_)
       obtain rfl : i = 7 := by simpa using hi2
       clear hi2
       refine wpOp_plain rfl rfl ?_
       simp only [zz0, zz1, zz2]
       go_simp
       refine (IH.expr m (j2 + 1) (d + 1) _ _ nf (by omega) (by omega) (by omega) h5 S8.out.ps).mono ?_
       rintro e W9 ⟨p3, c3, rfl, hk, hp, ht2⟩
       have S9 := SP.callK S8 ht2 hp hk
       clear S8 hk hp ht2 x0 x1 x2 x3 x4 y0 y1 y2 y3 y4
       obtain ⟨y0, y1, y2, y3, y4⟩ := cellsFive (SP.boxAt S9 0 rfl).1
       obtain ⟨x0, x1, x2, x3, x4⟩ := cellsFive (SP.boxAt S9 1 rfl).1
       refine ⟨⟨x0, x1, x2, x3, x4, y0, y1, y2, y3, y4⟩, ?_⟩
       refine wpAnyR_all (rs := [8]) (by kernel_rfl) (by simp) (fun i hi2 => ?_)
       obtain rfl : i = 8 := by simpa using hi2
       clear hi2
       refine wpOp_plain rfl rfl ?_
       simp only [zz0, zz1, zz2]
       go_simp
       obtain ⟨W10, nb, hW, hb, S10⟩ := SP.box S9 (.cells #[.int .i64 x.op, .int .i64 x.n, .string x.s, .slice p1 x.kids.length c1, .int .i64 x.at_, .int .i64 a.op, .int .i64 a.n, .string a.s, .slice p2 a.kids.length c2, .int .i64 a.at_, .int .i64 b.op, .int .i64 b.n, .string b.s, .slice p3 b.kids.length c3, .int .i64 b.at_] 31)
       rw [<- hW, <- hb]
       clear hW hb S9 x0 x1 x2 x3 x4 y0 y1 y2 y3 y4
       obtain ⟨y0, y1, y2, y3, y4⟩ := cellsFive (SP.boxAt S10 1 rfl).1
       obtain ⟨x0, x1, x2, x3, x4⟩ := cellsFive (SP.boxAt S10 2 rfl).1
       have hz := (SP.boxAt S10 3 rfl).1
       obtain ⟨r0, r1, r2, r3, r4⟩ := cellsFive hz
       have q := free_of_box hz
       refine ⟨⟨x0, x1, x2, x3, x4, y0, y1, y2, y3, y4⟩, ?_⟩
       refine wpAnyR_all (rs := [9]) (by kernel_rfl) (by simp) (fun i hi2 => ?_)
       obtain rfl : i = 9 := by simpa using hi2
       clear hi2
       refine wpOp_plain rfl rfl ?_
       simp only [zz0, zz1, zz2]
       go_simp
       refine wpAnyR_all (rs := [10]) (by kernel_rfl) (by simp) (fun i hi2 => ?_)
       obtain rfl : i = 10 := by simpa using hi2
       clear hi2
       refine wpOp_plain rfl rfl ?_
       simp only [zz0, zz1, zz2]
       go_simp
       refine wpAnyR_done (by kernel_rfl) ?_ _
       go_wp2_with fail
       have S11 := SP.adopt S10 [(x, .slice p1 x.kids.length c1), (a, .slice p2 a.kids.length c2), (b, .slice p3 b.kids.length c3)] rfl (by simp) 3
       have S12 := SP.put S11 2 rfl (five_turned _ _ (.int .i64 20) (.int .i64 0) (.string ⟨#[]⟩) (.slice (some ⟨nb, 0, none⟩) 3 3) (.int .i64 x.at_)) (five_set hz)
       refine bodyPost_ret (results_ex rfl _ _ rb (.int .i64 20) (.int .i64 0) (.string ⟨#[]⟩) (.slice (some ⟨nb, 0, none⟩) 3 3) (.int .i64 x.at_) rfl (five_set hz)) rfl ?_
       exact ⟨some ⟨nb, 0, none⟩, 3, rfl, SP.kidAt S12 0 rfl, S12.out.ps, S12.out.tur⟩
   ·have hc : isS v ⟨#[58]⟩ = false := by simpa using hc
    rw [if_pos (by rw [hc]; rfl)] at h4
    cases h4
    refine (need_no S6.out.ps hv _ hc).mono ?_
    rintro e W8 ⟨rfl, rfl⟩
    exact ⟨rfl, rfl, S6.out.tur⟩
  ·have hq : isS u ⟨#[63]⟩ = false := by simpa using hq
   rw [if_pos (by rw [hq]; rfl)] at h2
   cases h2
   obtain ⟨z1, z2, z3⟩ := SP.boxAt S3 1 rfl
   have q := free_of_box z1
   obtain ⟨y0, y1, y2, y3, y4⟩ := cellsFive z1
   obtain ⟨z4, z5, z6⟩ := SP.boxAt S3 0 rfl
   obtain ⟨x0, x1, x2, x3, x4⟩ := cellsFive z4
   go_wp2_with fail
   have S4 := SP.put S3 1 rfl (five_turned _ _ (.int .i64 x.op) (.int .i64 x.n) (.string x.s) (.slice p1 x.kids.length c1) (.int .i64 x.at_)) (five_set z1)
   refine bodyPost_ret (results_ex rfl _ _ rb (.int .i64 x.op) (.int .i64 x.n) (.string x.s) (.slice p1 x.kids.length c1) (.int .i64 x.at_) rfl (five_set z1)) rfl ?_
   exact ⟨p1, c1, rfl, SP.kidAt S4 0 rfl, S4.out.ps, S4.out.tur⟩
end Go.Proofs.YtjijdgkccfeeaaaGreatDoor
