/- Part 15 of the proof of lawSum.card: QryWalkL. Conditions: those of each theorem. -/
import Derived.Defers
import Derived.Recover
import Derived.Laws.Pointers
import Derived.Test.YthejfklieedjmaaGreatDoorQs01
import Derived.Test.YthejfklieedjmaaGreatDoorQs02
import Derived.Test.YthejfklieedjmaaGreatDoorQs07
import Derived.Test.YthejfklieedjmaaGreatDoorQs12
import Derived.Test.YthejfklieedjmaaGreatDoorQs13
import Derived.Test.YthejfklieedjmaaGreatDoorQs14
set_option linter.unusedSimpArgs false
set_option maxRecDepth 20000
set_option maxHeartbeats 4000000
namespace Go.Proofs.YthejfklieedjmaaGreatDoor
open Go Go.Proofs Go.RowKit Go.Maps
attribute [local go_sem] Oper.semAt_some
def typV (x : Ex) : Value := match typedE x with
 | .ok t => .tuple #[.int .i64 t, .agg #[.int .i64 0, .int .i64 0]]
 | .error p => .tuple #[.int .i64 0, .agg #[.int .i64 p.1, .int .i64 p.2]]
def badX (x : Ex) : Prop := operandsP x.op = -2 \/ (0 <= operandsP x.op /\ (x.kids.length : Int) ≠ operandsP x.op) \/ (x.op = 1 /\ (x.n < 0 \/ maxI < x.n))
theorem typedE_eq (x : Ex) : typedE x = if operandsP x.op = -2 \/ (0 <= operandsP x.op /\ (x.kids.length : Int) ≠ operandsP x.op) \/ (x.op = 1 /\ (x.n < 0 \/ maxI < x.n)) then .error (x.at_, 1) else match typedL x.kids with
  | .error p => .error p
  | .ok ks => if (typeOf x.op x.s ks).2 = 0 then .ok (typeOf x.op x.s ks).1 else .error (x.at_, (typeOf x.op x.s ks).2) := by cases x; rw [typedE]; rfl
theorem typV_bad {x : Ex} (h : badX x) : typV x = .tuple #[.int .i64 0, .agg #[.int .i64 x.at_, .int .i64 1]] := by
 have h2 : typedE x = .error (x.at_, 1) := by rw [typedE_eq]; exact if_pos h
 unfold typV
 rw [h2]
theorem typedE_kidErr {x : Ex} {p : Int × Int} (h : ¬ badX x) (hk : typedL x.kids = .error p) : typedE x = .error p := by
 rw [typedE_eq]
 refine (if_neg h).trans ?_
 rw [hk]
theorem typedE_kids {x : Ex} {ks : List Int} (h : ¬ badX x) (hk : typedL x.kids = .ok ks) : typedE x = if (typeOf x.op x.s ks).2 = 0 then .ok (typeOf x.op x.s ks).1 else .error (x.at_, (typeOf x.op x.s ks).2) := by
 rw [typedE_eq]
 refine (if_neg h).trans ?_
 rw [hk]
theorem typV_of {x : Ex} {ks : List Int} {t c : Int} (h : ¬ badX x) (hk : typedL x.kids = .ok ks) (ht : typeOf x.op x.s ks = (t, c)) : (c = 0 -> typV x = .tuple #[.int .i64 t, .agg #[.int .i64 0, .int .i64 0]]) /\ (c ≠ 0 -> typV x = .tuple #[.int .i64 0, .agg #[.int .i64 x.at_, .int .i64 c]]) := by
 have h1 := typedE_kids h hk
 rw [ht] at h1
 refine ⟨fun h2 => ?_, fun h2 => ?_⟩
 ·rw [if_pos h2] at h1
  unfold typV
  rw [h1]
 ·rw [if_neg h2] at h1
  unfold typV
  rw [h1]
theorem operands_nonneg {op : Int} (h4 : op ≠ 4) (h : operandsP op ≠ -2) : 0 <= operandsP op := by
 unfold operandsP at h ⊢
 repeat' split at h <;> try split
 all_goals first | omega | simp_all
theorem badCases {x : Ex} (h : badX x) : operandsP x.op = -2 \/ (operandsP x.op ≠ -2 /\ 0 <= operandsP x.op /\ (x.kids.length : Int) ≠ operandsP x.op) \/ (x.op = 1 /\ operandsP x.op = 0 /\ x.kids = [] /\ x.n < 0) \/ (x.op = 1 /\ operandsP x.op = 0 /\ x.kids = [] /\ ¬ x.n < 0 /\ 999999999999999 < x.n) := by
 by_cases h1 : operandsP x.op = -2
 ·exact .inl h1
 by_cases h2 : 0 <= operandsP x.op /\ (x.kids.length : Int) ≠ operandsP x.op
 ·exact .inr (.inl ⟨h1, h2⟩)
 right; right
 rcases h with h | h | ⟨h3, h4⟩
 ·exact absurd h h1
 ·exact absurd h h2
 ·have h5 : operandsP x.op = 0 := by rw [h3]; rfl
  rw [h5] at h2
  have h6 : x.kids = [] := by
   apply List.eq_nil_of_length_eq_zero
   omega
  unfold maxI at h4
  by_cases h7 : x.n < 0
  ·exact .inl ⟨h3, h5, h6, h7⟩
  ·exact .inr ⟨h3, h5, h6, h7, by omega⟩
theorem badNot {x : Ex} (h : ¬ badX x) : operandsP x.op ≠ -2 /\ (0 <= operandsP x.op -> (x.kids.length : Int) = operandsP x.op) /\ (x.op = 1 -> 0 <= x.n /\ x.n <= maxI) := by
 unfold badX at h
 refine ⟨fun h1 => h (.inl h1), fun h1 => ?_, fun h1 => ?_⟩
 ·apply Decidable.byContradiction
  intro h2
  exact h (.inr (.inl ⟨h1, h2⟩))
 ·have h2 : ¬ (x.n < 0 \/ maxI < x.n) := fun h2 => h (.inr (.inr ⟨h1, h2⟩))
  omega
theorem not_bad4 {x : Ex} (h : x.op = 4) : ¬ badX x := by
 unfold badX
 rw [h]
 rintro (h | ⟨h, -⟩ | ⟨h, -⟩)
 ·exact absurd h (by decide)
 ·exact absurd h (by decide)
 ·exact absurd h (by decide)
theorem typedL_err {l : List Ex} {k : Nat} {y : Ex} {ks : List Int} {p : Int × Int} (h : typedL (l.take k) = .ok ks) (hy : l[k]? = some y) (he : typedE y = .error p) : typedL l = .error p := by
 induction l generalizing k ks with
 | nil => simp at hy
 | cons x r ih =>
  cases k with
  | zero =>
   simp at hy
   subst hy
   rw [typedL, he]
  | succ k =>
   rw [List.take_succ_cons, typedL] at h
   rw [typedL]
   split at h
   ·cases h
   ·rename_i t ht
    try rw [ht]
    split at h
    ·cases h
    ·rename_i ts hts
     rw [ih hts (by simpa using hy)]
theorem typedL_snoc {l : List Ex} {k : Nat} {y : Ex} {ks : List Int} {t : Int} (h : typedL (l.take k) = .ok ks) (hy : l[k]? = some y) (he : typedE y = .ok t) : typedL (l.take (k + 1)) = .ok (ks ++ [t]) := by
 induction l generalizing k ks with
 | nil => simp at hy
 | cons x r ih =>
  cases k with
  | zero =>
   simp at hy
   subst hy
   rw [List.take_zero, typedL] at h
   cases h
   rw [List.take_succ_cons, List.take_zero, typedL, he, typedL]
   rfl
  | succ k =>
   rw [List.take_succ_cons, typedL] at h
   rw [List.take_succ_cons, typedL]
   split at h
   ·cases h
   ·rename_i t1 ht
    try rw [ht]
    split at h
    ·cases h
    ·rename_i ts hts
     cases h
     rw [ih hts (by simpa using hy)]
     rfl
mutual
theorem typedE_err : ∀ {x : Ex} {p : Int × Int}, typedE x = .error p -> p.2 ≠ 0
 | .mk op n s kids at_, p, h => by
  rw [typedE] at h
  split at h
  ·cases h; exact (by decide : (1 : Int) ≠ 0)
  ·split at h
   ·rename_i hk
    cases h
    exact typedLs_err hk
   ·split at h
    ·cases h
    ·rename_i h2
     cases h
     exact h2
theorem typedLs_err : ∀ {l : List Ex} {p : Int × Int}, typedL l = .error p -> p.2 ≠ 0
 | [], p, h => by rw [typedL] at h; cases h
 | x :: r, p, h => by
  rw [typedL] at h
  split at h
  ·rename_i hk
   cases h
   exact typedE_err hk
  ·split at h
   ·rename_i hk
    cases h
    exact typedLs_err hk
   ·cases h
end
theorem typedE_rng {x : Ex} {t : Int} (h : typedE x = .ok t) : t = 1 \/ t = 2 \/ t = 3 \/ t = 4 := by
 obtain ⟨op, n, s, ks, at_⟩ := x
 rcases typed_ok h with ⟨-, -, -, -, h⟩ | ⟨-, us, -, hs⟩ | ⟨-, a, -, -, h⟩ | ⟨-, a, b, u, v, -, -, -, hb, hne⟩
 ·exact .inl h
 ·unfold sigP sigN at hs
  split at hs <;> simp at hs <;> omega
 ·rcases h with h | h
  ·exact .inl h
  ·exact .inr (.inr (.inl h))
 ·unfold binaryP at hb
  repeat' split at hb
  all_goals omega
def binT (op : Int) (ks : List Int) : Int × Int := match ks with
 | [a, b] => if binaryP op a b = 0 then (0, 7) else (binaryP op a b, 0)
 | _ => (0, 7)
theorem typeOf_bin {op : Int} {s : ByteArray} {ks : List Int} (h1 : op ≠ 1) (h2 : op ≠ 2) (h3 : op ≠ 3) (h4 : op ≠ 4) (h6 : op ≠ 6) : typeOf op s ks = binT op ks := by
 unfold typeOf binT
 rw [if_neg h1, if_neg h2, if_neg h3, if_neg h4, if_neg h6]
 rcases ks with _ | ⟨a, _ | ⟨b, _ | ⟨c, r⟩⟩⟩ <;> rfl
def SgAt (s : ByteArray) (va vb vc : Value) (bo : Bool) (W : World) : Prop :=
 (bo = true /\ ∃ (as_ : List Int) (ty : Int) (f : Value) (b : Nat) (cs : Array Value) (c : Nat), sigP s = some (as_, ty) /\ va = .slice (some ⟨b, 0, none⟩) as_.length c /\ vb = (.int .i64 ty) /\ vc = f /\ W.heap[b]? = some (.cells cs 3 (0, 0)) /\ cs.toList.take as_.length = as_.map (fun n : Int => ((.int .i64 n) : Value)) /\ as_.length <= c /\ c <= maxLen) \/ (bo = false /\ sigP s = none)
theorem SgAt.on {s : ByteArray} {va vb vc : Value} {bo : Bool} {W V : World} {M : Nat} {zs : Array Value} (h : SgAt s va vb vc bo W) (t : Turned (fun i => i = M) W V) (hM : W.heap[M]? = some (.cells zs 133 (0, 0))) : SgAt s va vb vc bo V := by
 rcases h with ⟨h1, as_, ty, f, b, cs, c, h2, h3, h4, h5, h6, h7⟩ | h
 ·refine .inl ⟨h1, as_, ty, f, b, cs, c, h2, h3, h4, h5, (t.block b (getElem?_lt h6) ?_).trans h6, h7⟩
  rintro rfl
  rw [hM] at h6
  simp at h6
 ·exact .inr h
theorem SgAt.box {s : ByteArray} {va vb vc : Value} {bo : Bool} {W : World} (h : SgAt s va vb vc bo W) (o : Obj) : SgAt s va vb vc bo (W.alloc o) := by
 rcases h with ⟨h1, as_, ty, f, b, cs, c, h2, h3, h4, h5, h6, h7⟩ | h
 ·exact .inl ⟨h1, as_, ty, f, b, cs, c, h2, h3, h4, h5, keepB ((Turned.refl (fun _ => False) W).alloc o) h6, h7⟩
 ·exact .inr h
theorem FnB.one {B : Nat} {W : World} {k : Nat} {f : Value} (h : FnB B W k f) : f.oneCell' = true := by
 rcases h with ⟨-, rfl⟩ | ⟨-, rfl⟩ | ⟨-, rfl⟩ | ⟨-, rfl⟩ | ⟨kb, -, ⟨-, -, rfl, -⟩ | ⟨-, -, rfl, -⟩⟩ <;> rfl
theorem CM.sg {W w : World} {B : Nat} {vs : List Value} (h : CM W w B vs) (hl : vs.length = 9) {s : ByteArray} (hs : s.size <= maxLen) :
  ∃ (pp : Option Addr) (nn cc : Nat) (ty : Int) (vc : Value) (bo : Bool), (Instr.lookup 135 (.map (some B)) (.string s) true).run Tryz.prog w = .ok (.tuple #[.agg #[.slice pp nn cc, .int .i64 ty, vc], .bool bo]) w /\ vc.oneCell' = true /\ SgAt s (.slice pp nn cc) (.int .i64 ty) vc bo w := by
 rcases h.look hl hs with ⟨v, ⟨b, cs, c, as_, ty, f, h1, rfl, h3, h4, h5, h6, -, h9⟩, -, h7, -⟩ | ⟨h1, h2⟩
 ·exact ⟨_, _, _, _, _, _, h7, h9.one, .inl ⟨rfl, as_, ty, f, b, cs, c, h1, rfl, rfl, rfl, h3, h4, h5, h6⟩⟩
 ·exact ⟨_, _, _, _, _, _, h2, rfl, .inr ⟨rfl, by unfold sigP; rw [h1]; rfl⟩⟩
theorem args_list {W : World} {b c : Nat} {cs : Array Value} {as_ : List Int} (hb : W.heap[b]? = some (.cells cs 3 (0, 0))) (ht : cs.toList.take as_.length = as_.map (fun n : Int => ((.int .i64 n) : Value))) (h1 : as_.length <= c) (h2 : c <= maxLen) : Lst W.heap.size W 1 intCells as_ (some ⟨b, 0, none⟩) c :=
 ⟨h1, h2, fun i x hx => ⟨b, 0, rfl, getElem?_lt hb, fun j v hj => by
  obtain ⟨hlt, he⟩ := List.getElem?_eq_some_iff.1 hx
  have hj0 : j = 0 := by
   have := (List.getElem?_eq_some_iff.1 hj).1
   simpa using this
  subst hj0
  have h8 : (as_.map (fun n : Int => ((.int .i64 n) : Value)))[i]? = some v := by
   rw [List.getElem?_map, hx]
   exact hj
  rw [<- ht, List.getElem?_take_of_lt hlt] at h8
  rw [Nat.zero_add, Nat.mul_one, Nat.add_zero]
  simp only [World.cell?, hb]
  simpa using h8⟩⟩
theorem sig_ne {s : ByteArray} {as_ : List Int} {ty : Int} (h : sigP s = some (as_, ty)) : ty ≠ 0 := by
 unfold sigP sigN at h
 split at h <;> simp at h <;> omega
theorem typeOf_call_ok {s : ByteArray} {as_ ks : List Int} {ty : Int} (h : sigP s = some (as_, ty)) (hk : ks = as_) : typeOf 4 s ks = (ty, 0) := by
 subst hk
 simp [typeOf, h]
theorem typeOf_call_len {s : ByteArray} {as_ ks : List Int} {ty : Int} (h : sigP s = some (as_, ty)) (hk : ks.length ≠ as_.length) : typeOf 4 s ks = (0, 1) := by
 simp [typeOf, h, hk]
theorem typeOf_call_ne {s : ByteArray} {as_ ks : List Int} {ty : Int} (h : sigP s = some (as_, ty)) (hl : ks.length = as_.length) (hk : ks ≠ as_) : typeOf 4 s ks = (0, 7) := by
 simp [typeOf, h, hk, hl]
theorem typeOf_call_no {s : ByteArray} {ks : List Int} (h : sigP s = none) : typeOf 4 s ks = (0, 6) := by
 simp [typeOf, h]
theorem typed_bad (x : Ex) (hbad : badX x) (sm : x.s.size <= maxLen /\ x.kids.length <= 100000) (HFK : ∀ y ∈ x.kids, ∀ (a : Value) (w : World), KidsAt w (fun _ => True) y.kids a -> Calls Tryz.prog 45 #[exA y a] w fun e w' => e = .returned (typV y) /\ Turned (fun _ => False) w w') (a : Value) (w : World) (hk : KidsAt w (fun _ => True) x.kids a) : Calls Tryz.prog 45 #[exA x a] w fun e w' => e = .returned (typV x) /\ Turned (fun _ => False) w w' := by
 have HF := Lib.hid HFK
 have HS := Lib.hid sm
 obtain ⟨pa, ca, rfl⟩ := hk.shape
 have hlk := hk.len
 unfold maxLen at hlk
 have HK := Lib.hid hk
 obtain ⟨w1, hw1⟩ : ∃ w1, w1 = (w.alloc (.cells #[.int .i64 x.op, .int .i64 x.n, .string x.s, .slice pa x.kids.length ca, .int .i64 x.at_] 42)).alloc (.cells #[.int .i64 0, .int .i64 0] 26) := ⟨_, rfl⟩
 have hb : w1.heap[w.heap.size]? = some (.cells #[.int .i64 x.op, .int .i64 x.n, .string x.s, .slice pa x.kids.length ca, .int .i64 x.at_] 42 (0, 0)) /\ w1.heap[w.heap.size + 1]? = some (.cells #[.int .i64 0, .int .i64 0] 26 (0, 0)) := by
  have h1 := World.alloc_heap_new w (.cells #[.int .i64 x.op, .int .i64 x.n, .string x.s, .slice pa x.kids.length ca, .int .i64 x.at_] 42)
  refine ⟨?_, ?_⟩
  ·rw [hw1]; exact (((Turned.refl (fun _ => False) _).alloc _).block _ (getElem?_lt h1) id).trans h1
  ·have h2 := World.alloc_heap_new (w.alloc (.cells #[.int .i64 x.op, .int .i64 x.n, .string x.s, .slice pa x.kids.length ca, .int .i64 x.at_] 42)) (.cells #[.int .i64 0, .int .i64 0] 26)
   rw [hw1]; simpa using h2
 have HW := Lib.hid hw1
 have HB := Lib.hid hb.1
 have HBP := Lib.hid hb.2
 have HT : Hid (Turned (fun _ => False) w w1) := Lib.hid (by rw [hw1]; exact ((Turned.refl _ _).alloc _).alloc _)
 have HSZ : Hid (w1.heap.size = w.heap.size + 2) := Lib.hid (by rw [hw1]; simp)
 obtain ⟨o, ho⟩ : ∃ o, o = operandsP x.op := ⟨_, rfl⟩
 have HO := Lib.hid ho
 have HC := fun W => operands_any x.op W
 rw [<- ho] at HC
 have HCO := Lib.hid HC
 clear HC hk hw1 hb sm HFK
 have HV : Hid (typV x = .tuple #[.int .i64 0, .agg #[.int .i64 x.at_, .int .i64 1]]) := Lib.hid (typV_bad hbad)
 rcases badCases hbad with h | ⟨h1, h2, h3⟩ | ⟨h1, h2, h3, h4⟩ | ⟨h1, h2, h3, h4, h5⟩
 ·rw [<- ho] at h
  clear ho hbad
  subst h
  unfold exA
  go_enter Tryz.func45, Tryz.ntmps45
  go_upto_region 4 with (go_at_call 66; refine (HCO.out _).mono ?_; rintro e W9 ⟨rfl, rfl⟩)
  rw [<- HW.out]
  clear HW
  obtain ⟨x0, x1, x2, x3, x4⟩ := cellsFive HB.out
  go_wp2_with (go_at_call 65; refine (typed1_any 1 x.at_ w.heap.size w1 x4).mono ?_; rintro e W9 ⟨rfl, ht⟩; have HT9 := Lib.hid ht; have HB9 := Lib.hid ((ht.block _ (getElem?_lt HBP.out) id).trans HBP.out); obtain ⟨y0, y1, f0, f1⟩ := two_cells HB9.out; clear ht)
  refine bodyPost_ret (results_tp (fn := Tryz.f45) rfl _ _ (w.heap.size + 1) (.int .i64 0) (.int .i64 x.at_) (.int .i64 1) rfl rfl (two_set HB9.out)) rfl ?_
  rw [HV.out]
  exact ⟨rfl, (HT.out.trans HT9.out).freshC (((Turned.refl (fun k => k = w.heap.size + 1) W9).setCell rfl _).setCell rfl _) fun i hi => by rw [hi]; exact Nat.le_succ _⟩
 ·rw [<- ho] at h1 h2 h3
  clear ho hbad
  have h2' : (0 : Int) <= o := h2
  unfold exA
  go_enter Tryz.func45, Tryz.ntmps45
  go_upto_region 4 with (go_at_call 66; refine (HCO.out _).mono ?_; rintro e W9 ⟨rfl, rfl⟩)
  rw [<- HW.out]
  clear HW
  obtain ⟨x0, x1, x2, x3, x4⟩ := cellsFive HB.out
  go_wp2_with (go_at_call 65; refine (typed1_any 1 x.at_ w.heap.size w1 x4).mono ?_; rintro e W9 ⟨rfl, ht⟩; have HT9 := Lib.hid ht; have HB9 := Lib.hid ((ht.block _ (getElem?_lt HBP.out) id).trans HBP.out); obtain ⟨y0, y1, f0, f1⟩ := two_cells HB9.out; clear ht)
  refine bodyPost_ret (results_tp (fn := Tryz.f45) rfl _ _ (w.heap.size + 1) (.int .i64 0) (.int .i64 x.at_) (.int .i64 1) rfl rfl (two_set HB9.out)) rfl ?_
  rw [HV.out]
  exact ⟨rfl, (HT.out.trans HT9.out).freshC (((Turned.refl (fun k => k = w.heap.size + 1) W9).setCell rfl _).setCell rfl _) fun i hi => by rw [hi]; exact Nat.le_succ _⟩
 ·rw [<- ho] at h2
  have b1 : (x.op == 1) = true := by simpa using h1
  have hlo : o = (x.kids.length : Int) := by rw [h3, h2]; rfl
  clear ho hbad h1 h3 h2
  subst hlo
  have b2 : ((x.kids.length : Int) == -2) = false := by simp
  unfold exA
  go_enter Tryz.func45, Tryz.ntmps45
  go_upto_region 4 with (go_at_call 66; refine (HCO.out _).mono ?_; rintro e W9 ⟨rfl, rfl⟩)
  rw [<- HW.out]
  clear HW
  obtain ⟨x0, x1, x2, x3, x4⟩ := cellsFive HB.out
  go_wp2_with (go_at_call 65; refine (typed1_any 1 x.at_ w.heap.size w1 x4).mono ?_; rintro e W9 ⟨rfl, ht⟩; have HT9 := Lib.hid ht; have HB9 := Lib.hid ((ht.block _ (getElem?_lt HBP.out) id).trans HBP.out); obtain ⟨y0, y1, f0, f1⟩ := two_cells HB9.out; clear ht)
  refine bodyPost_ret (results_tp (fn := Tryz.f45) rfl _ _ (w.heap.size + 1) (.int .i64 0) (.int .i64 x.at_) (.int .i64 1) rfl rfl (two_set HB9.out)) rfl ?_
  rw [HV.out]
  exact ⟨rfl, (HT.out.trans HT9.out).freshC (((Turned.refl (fun k => k = w.heap.size + 1) W9).setCell rfl _).setCell rfl _) fun i hi => by rw [hi]; exact Nat.le_succ _⟩
 ·rw [<- ho] at h2
  have b1 : (x.op == 1) = true := by simpa using h1
  have hlo : o = (x.kids.length : Int) := by rw [h3, h2]; rfl
  clear ho hbad h1 h3 h2
  subst hlo
  have b2 : ((x.kids.length : Int) == -2) = false := by simp
  unfold exA
  go_enter Tryz.func45, Tryz.ntmps45
  go_upto_region 4 with (go_at_call 66; refine (HCO.out _).mono ?_; rintro e W9 ⟨rfl, rfl⟩)
  rw [<- HW.out]
  clear HW
  obtain ⟨x0, x1, x2, x3, x4⟩ := cellsFive HB.out
  go_wp2_with (go_at_call 65; refine (typed1_any 1 x.at_ w.heap.size w1 x4).mono ?_; rintro e W9 ⟨rfl, ht⟩; have HT9 := Lib.hid ht; have HB9 := Lib.hid ((ht.block _ (getElem?_lt HBP.out) id).trans HBP.out); obtain ⟨y0, y1, f0, f1⟩ := two_cells HB9.out; clear ht)
  refine bodyPost_ret (results_tp (fn := Tryz.f45) rfl _ _ (w.heap.size + 1) (.int .i64 0) (.int .i64 x.at_) (.int .i64 1) rfl rfl (two_set HB9.out)) rfl ?_
  rw [HV.out]
  exact ⟨rfl, (HT.out.trans HT9.out).freshC (((Turned.refl (fun k => k = w.heap.size + 1) W9).setCell rfl _).setCell rfl _) fun i hi => by rw [hi]; exact Nat.le_succ _⟩
theorem typed_4 (x : Ex) (h4 : x.op = 4) (sm : x.s.size <= maxLen /\ x.kids.length <= 100000) (HFK : ∀ y ∈ x.kids, ∀ (a : Value) (w : World), KidsAt w (fun _ => True) y.kids a -> Calls Tryz.prog 45 #[exA y a] w fun e w' => e = .returned (typV y) /\ Turned (fun _ => False) w w') (a : Value) (w : World) (hk : KidsAt w (fun _ => True) x.kids a) : Calls Tryz.prog 45 #[exA x a] w fun e w' => e = .returned (typV x) /\ Turned (fun _ => False) w w' := by
 have HF := Lib.hid HFK
 have HS := Lib.hid sm
 obtain ⟨pa, ca, rfl⟩ := hk.shape
 have hlk := hk.len
 unfold maxLen at hlk
 have HK := Lib.hid hk
 obtain ⟨w1, hw1⟩ : ∃ w1, w1 = (w.alloc (.cells #[.int .i64 x.op, .int .i64 x.n, .string x.s, .slice pa x.kids.length ca, .int .i64 x.at_] 42)).alloc (.cells #[.int .i64 0, .int .i64 0] 26) := ⟨_, rfl⟩
 have hb : w1.heap[w.heap.size]? = some (.cells #[.int .i64 x.op, .int .i64 x.n, .string x.s, .slice pa x.kids.length ca, .int .i64 x.at_] 42 (0, 0)) /\ w1.heap[w.heap.size + 1]? = some (.cells #[.int .i64 0, .int .i64 0] 26 (0, 0)) := by
  have h1 := World.alloc_heap_new w (.cells #[.int .i64 x.op, .int .i64 x.n, .string x.s, .slice pa x.kids.length ca, .int .i64 x.at_] 42)
  refine ⟨?_, ?_⟩
  ·rw [hw1]; exact (((Turned.refl (fun _ => False) _).alloc _).block _ (getElem?_lt h1) id).trans h1
  ·have h2 := World.alloc_heap_new (w.alloc (.cells #[.int .i64 x.op, .int .i64 x.n, .string x.s, .slice pa x.kids.length ca, .int .i64 x.at_] 42)) (.cells #[.int .i64 0, .int .i64 0] 26)
   rw [hw1]; simpa using h2
 have HW := Lib.hid hw1
 have HB := Lib.hid hb.1
 have HBP := Lib.hid hb.2
 have HT : Hid (Turned (fun _ => False) w w1) := Lib.hid (by rw [hw1]; exact ((Turned.refl _ _).alloc _).alloc _)
 have HSZ : Hid (w1.heap.size = w.heap.size + 2) := Lib.hid (by rw [hw1]; simp)
 obtain ⟨o, ho⟩ : ∃ o, o = operandsP x.op := ⟨_, rfl⟩
 have HO := Lib.hid ho
 have HC := fun W => operands_any x.op W
 rw [<- ho] at HC
 have HCO := Lib.hid HC
 clear HC hk hw1 hb sm HFK
 have HN : Hid (¬ badX x) := Lib.hid (not_bad4 h4)
 have ho4 : o = -1 := by rw [ho, h4]; rfl
 have b1 : (x.op == 1) = false := by rw [h4]; rfl
 have b3 : (x.op == 2) = false := by rw [h4]; rfl
 have b3' : (x.op == 3) = false := by rw [h4]; rfl
 have b4 : (x.op == 4) = true := by rw [h4]; rfl
 have H4 := Lib.hid h4
 clear ho h4
 subst ho4
 all_goals
  unfold exA
  go_enter Tryz.func45, Tryz.ntmps45
  go_upto_region 7 with (go_at_call 66; refine (HCO.out _).mono ?_; rintro e W9 ⟨rfl, rfl⟩)
  rw [<- HW.out]
  clear HW
  go_loopw [6, 53] (fun v i wr => ∃ (k : Nat) (p : Option Addr) (c : Nat), k <= x.kids.length /\ v = .slice p k c /\ i = (.int .i64 k) /\ Hid (Turned (fun _ => False) w1 wr /\ ∃ ks, ks.length = k /\ typedL (x.kids.take k) = .ok ks /\ Grown wr w1.heap.size 3 1 intCells (.slice p k c) ks)) (fun _ i _ => x.kids.length - (intOf i).toNat)
  case atStart => exact ⟨0, none, 0, by omega, rfl, rfl, Lib.hid ⟨Turned.refl _ _, [], rfl, by rw [List.take_zero, typedL], Grown.nil _ _ _ _ _⟩⟩
  case round =>
   obtain ⟨k, p, c, hk, rfl, rfl, HR⟩ := hrel
   obtain ⟨x0, x1, x2, x3, x4⟩ := cellsFive ((HR.out.1.block _ (getElem?_lt HB.out) id).trans HB.out)
   by_cases hlt : k < x.kids.length
   ·have hix : (k : Int) < (x.kids.length : Int) := by omega
    obtain ⟨y, hy⟩ := some_of_lt hlt
    obtain ⟨yb, ya, yk, rfl, ⟨y0, y1, y2, y3, y4⟩, HKy⟩ := kidsAt_get (HK.out.all (HT.out.trans HR.out.1)) hy
    obtain ⟨py, cy, rfl⟩ := HKy.shape
    have tV : Turned (fun _ => False) wr (wr.alloc (.cells #[.int .i64 y.op, .int .i64 y.n, .string y.s, .slice py y.kids.length cy, .int .i64 y.at_] 42)) := (Turned.refl _ _).alloc _
    have HCY := Lib.hid (HF.out y (List.mem_of_getElem? hy) _ _ (HKy.all tV))
    have HTV := Lib.hid tV
    have HY := Lib.hid hy
    unfold exA at HCY
    clear hy HKy tV
    cases hty : typedE y with
    | error e =>
     have HVY : Hid (typV y = .tuple #[.int .i64 0, .agg #[.int .i64 e.1, .int .i64 e.2]]) := Lib.hid (by unfold typV; rw [hty])
     have HV : Hid (typV x = .tuple #[.int .i64 0, .agg #[.int .i64 e.1, .int .i64 e.2]]) := Lib.hid (by
      obtain ⟨-, ks, -, hks, -⟩ := HR.out
      unfold typV
      rw [typedE_kidErr HN.out (typedL_err hks HY.out hty)])
     have hne : e.2 ≠ 0 := typedE_err hty
     have hnb : (e.2 == 0) = false := by simpa using hne
     clear hty
     go_wp2_with (go_at_call 45; refine HCY.out.mono ?_; rintro e9 W9 ⟨rfl, ht⟩; rw [HVY.out]; have HT9 := Lib.hid (HR.out.1.trans (HTV.out.trans ht)); clear ht)
     have HB9 := Lib.hid (((HT9.out.alloc (.cells #[.int .i64 e.1, .int .i64 e.2] 26)).block _ (getElem?_lt HBP.out) id).trans HBP.out)
     obtain ⟨z0, z1, f0, f1⟩ := two_cells HB9.out
     go_region
     go_wp2_with fail
     refine bodyPost_ret (results_tp (fn := Tryz.f45) rfl _ _ (w.heap.size + 1) (.int .i64 0) (.int .i64 e.1) (.int .i64 e.2) rfl rfl (two_set HB9.out)) rfl ?_
     rw [HV.out]
     exact ⟨rfl, (((HT.out.trans (HT9.out.alloc _)).freshC (((Turned.refl (fun k => k = w.heap.size + 1) _).setCell rfl _).setCell rfl _) fun i hi => by rw [hi]; exact Nat.le_succ _)).drew⟩
    | ok t =>
     have HVY : Hid (typV y = .tuple #[.int .i64 t, .agg #[.int .i64 0, .int .i64 0]]) := Lib.hid (by unfold typV; rw [hty])
     have HTY := Lib.hid hty
     clear hty
     go_upto_region 12 with (go_at_call 45; refine HCY.out.mono ?_; rintro e9 W9 ⟨rfl, ht⟩; rw [HVY.out]; have HT9 := Lib.hid (HR.out.1.trans (HTV.out.trans ht)); have HTW := Lib.hid (HTV.out.trans ht); clear ht)
     obtain ⟨-, ks, hkl, hks, hgr⟩ := HR.out
     have HKS := Lib.hid hks
     have HKL := Lib.hid hkl
     have HG := Lib.hid ((hgr.turned HTW.out fun _ h => h.elim).turned ((Turned.refl (fun _ => False) W9).alloc (.cells #[.int .i64 0, .int .i64 0] 26)) fun _ h => h.elim)
     have hklen : k <= 100000 := Nat.le_trans hk HS.out.2
     subst hkl
     clear hks hgr
     obtain ⟨V2, hV2⟩ : ∃ V2, V2 = W9.alloc (.cells #[.int .i64 0, .int .i64 0] 26) := ⟨_, rfl⟩
     have HT2 : Hid (Turned (fun _ => False) w1 V2) := Lib.hid (by rw [hV2]; exact HT9.out.alloc _)
     rw [<- hV2] at HG ⊢
     clear hV2
     go_wp2_with (at_builtin; (refine app_int V2 rfl _ _ rfl w1.heap.size (.slice p ks.length c) t ks rfl rfl HG.out HT2.out.size hklen ?_); intro p2 c2 W3 hg3 ht3; have HG3 := Lib.hid hg3; have HT3 := Lib.hid ht3; clear hg3 ht3)
     go_roundw
     case rel => exact ⟨ks.length + 1, p2, c2, by omega, by simp, by go_num, Lib.hid ⟨HT2.out.fresh HT3.out (fun i hi => hi), ks ++ [t], by simp, typedL_snoc HKS.out HY.out HTY.out, by have h := HG3.out; simpa using h⟩⟩
     case measure => simp [intOf]; omega
   ·have hix : ¬ (k : Int) < (x.kids.length : Int) := by omega
    obtain rfl : k = x.kids.length := by omega
    obtain ⟨ks, HKL, HKS, HG⟩ : ∃ ks : List Int, Hid (ks.length = x.kids.length) /\ Hid (typedL x.kids = .ok ks) /\ Hid (Grown wr w1.heap.size 3 1 intCells (.slice p x.kids.length c) ks) := by
     obtain ⟨-, ks, h1, h2, h3⟩ := HR.out
     rw [List.take_length] at h2
     exact ⟨ks, Lib.hid h1, Lib.hid h2, Lib.hid h3⟩
    have HTR := Lib.hid (HT.out.trans HR.out.1)
    replace HBP := Lib.hid ((HR.out.1.block _ (getElem?_lt HBP.out) id).trans HBP.out)
    clear hlt
    have HX4 := Lib.hid x4
    have HLT : Hid (w.heap.size < wr.heap.size) := Lib.hid (cellLt x4)
    have HPT : Hid (w.heap.size + 1 < wr.heap.size) := Lib.hid (getElem?_lt HBP.out)
    have HA : Hid (Lst wr.heap.size wr 1 intCells ks p c) := Lib.hid ((show Grown wr w1.heap.size 3 1 intCells (.slice p ks.length c) ks by rw [HKL.out]; exact HG.out).at_ (fun _ => rfl) (Nat.le_refl _))
    have HK25 : Hid (∀ V, Turned (fun k => wr.heap.size <= k) wr V -> V.cell? ⟨w.heap.size, 2, none⟩ = some (.string x.s)) := Lib.hid fun V hV => cellT hV (Nat.not_le_of_lt HLT.out) x2
    go_upto_region 25 with fail
    clear x0 x1 x2 x3 x4
    refine wp_region_held_drew (S := fun V => V.cell? ⟨w.heap.size, 2, none⟩ = some (.string x.s)) (by kernel_rfl) (HK25.out _ (Turned.refl _ wr).drew) (fun _ => ?_)
    obtain ⟨wd, hwd⟩ : ∃ wd, wd = wr.drew := ⟨_, rfl⟩
    have T0 : Hid (Turned (fun k => wr.heap.size <= k) wr wd) := Lib.hid (by rw [hwd]; exact (Turned.refl _ wr).drew)
    have S0 := Lib.hid (HK25.out _ T0.out)
    rw [<- hwd]
    clear hwd
    refine wpAnyH_take (i := 1) (oi := _) (v := .pointer (some ⟨w.heap.size, 2, none⟩)) rfl (by kernel_rfl) (by kernel_rfl) (by kernel_rfl) (fun _ _ _ h => h) (Or.inl ⟨by kernel_rfl, fun V hV => ?_⟩) S0.out ?_
    ·clear hV
     go_simp
    try simp only [zz0, zz1, zz2, Act.put, zz3, zz4, zz5]
    refine wpAnyH_take (i := 2) (oi := _) (v := .string x.s) rfl (by kernel_rfl) (by kernel_rfl) (by kernel_rfl) (fun _ _ _ h => h) (Or.inl ⟨by kernel_rfl, fun V hV => ?_⟩) S0.out ?_
    ·skip
     go_simp
    try simp only [zz0, zz1, zz2, Act.put, zz3, zz4, zz5]
    refine wpAnyH_ready (rs := [0, 7]) (by kernel_rfl) (by simp) ?_
    refine AllReadyH.cons (o := _) rfl (fun K hK => ?_) ?_
    go_simp
    refine (calls_map wd).mono ?_
    rintro e w2 ⟨B, vs, rfl, hvl, hcm⟩
    have TA := Lib.hid (T0.out.trans (hcm.tur.mono fun _ h => h.elim))
    have HVL := Lib.hid hvl
    have HCM := Lib.hid hcm
    refine hK.out _ _ (HK25.out _ TA.out) (fun _ => ?_)
    clear hK K hvl hcm
    try simp only [zz0, zz1, zz2, Act.put, zz3, zz4, zz5]
    refine wpAnyH_ready (rs := [3, 7]) (by kernel_rfl) (by simp) ?_
    refine AllReadyH.cons (o := _) rfl (fun K hK => ?_) ?_
    obtain ⟨pp, nn, cc, ty, vc, bo, hlk, hvc, hsg⟩ := HCM.out.sg HVL.out HS.out.1
    have HSG := Lib.hid hsg
    have HVC := Lib.hid hvc
    go_simp
    refine hK.out _ _ (HK25.out _ TA.out) (fun _ => ?_)
    clear hK K hlk hsg hvc HCM
    try simp only [zz0, zz1, zz2, Act.put, zz3, zz4, zz5]
    refine wpAnyH_take (i := 4) (oi := _) (v := .tuple #[.agg #[.slice pp nn cc, .int .i64 ty, vc], .bool bo]) rfl (by kernel_rfl) (by kernel_rfl) (by kernel_rfl) (fun _ _ _ h => h) (Or.inl ⟨by kernel_rfl, fun V hV => ?_⟩) (HK25.out _ TA.out) ?_
    ·clear hV
     go_simp
    try simp only [zz0, zz1, zz2, Act.put, zz3, zz4, zz5]
    refine wpAnyH_take (i := 5) (oi := _) (v := .agg #[.slice pp nn cc, .int .i64 ty, vc]) rfl (by kernel_rfl) (by kernel_rfl) (by kernel_rfl) (fun _ _ _ h => h) (Or.inl ⟨by kernel_rfl, fun V hV => ?_⟩) (HK25.out _ TA.out) ?_
    ·clear hV
     go_simp
    try simp only [zz0, zz1, zz2, Act.put, zz3, zz4, zz5]
    refine wpAnyH_take (i := 6) (oi := _) (v := .bool bo) rfl (by kernel_rfl) (by kernel_rfl) (by kernel_rfl) (fun _ _ _ h => h) (Or.inl ⟨by kernel_rfl, fun V hV => ?_⟩) (HK25.out _ TA.out) ?_
    ·clear hV
     go_simp
    try simp only [zz0, zz1, zz2, Act.put, zz3, zz4, zz5]
    refine wpAnyH_ready (rs := [7]) (by kernel_rfl) (by simp) ?_
    refine AllReadyH.cons (o := _) rfl (fun K hK => ?_) ?_
    obtain ⟨M, hM⟩ : ∃ M, w2.heap.size = M := ⟨_, rfl⟩
    obtain ⟨w3, h3⟩ : ∃ w, w = w2.alloc (.cells #[.slice none 0 0, .int .i64 0, .nilFunc] 133) := ⟨_, rfl⟩
    have b3 : (w2.alloc (.cells #[.slice none 0 0, .int .i64 0, .nilFunc] 133)).heap[w2.heap.size]? = some _ := World.alloc_heap_new _ _
    have TB := Lib.hid (TA.out.alloc (.cells #[.slice none 0 0, .int .i64 0, .nilFunc] 133))
    have HMM : Hid (wr.heap.size <= M) := Lib.hid (by rw [<- hM]; exact TA.out.size)
    replace HSG := Lib.hid (HSG.out.box (.cells #[.slice none 0 0, .int .i64 0, .nilFunc] 133))
    rw [<- h3] at HSG
    rw [<- h3] at TB b3
    rw [hM] at b3
    have HBX := Lib.hid b3
    go_simp
    try rw [hM]
    try rw [<- h3]
    refine hK.out _ _ (HK25.out _ TB.out) (fun _ => ?_)
    clear hK K h3 hM b3
    try simp only [zz0, zz1, zz2, Act.put, zz3, zz4, zz5]
    refine wpAnyH_ready (rs := [8]) (by kernel_rfl) (by simp) ?_
    refine AllReadyH.cons (o := _) rfl (fun K hK => ?_) ?_
    obtain ⟨p0, p1, p2, q0, q1, q2⟩ := box3 HBX.out
    have hst := set3 HBX.out (.slice pp nn cc) (.int .i64 ty) vc
    have hrs := fun (W : World) (a : Addr) => run_store Tryz.prog W a vc .plain HVC.out
    have TZ := Lib.hid (TB.out.trans (hst.2.mono fun i hi => by rw [hi]; exact HMM.out))
    have HBZ := Lib.hid hst.1
    have HSZ := Lib.hid (HSG.out.on hst.2 HBX.out)
    clear hst
    go_simp
    refine hK.out _ _ (HK25.out _ TZ.out) (fun _ => ?_)
    clear hK K p0 p1 p2 q0 q1 q2 hrs HVC
    try simp only [zz0, zz1, zz2, Act.put, zz3, zz4, zz5]
    refine wpAnyH_take (i := 9) (oi := _) (v := .bool bo) rfl (by kernel_rfl) (by kernel_rfl) (by kernel_rfl) (fun _ _ _ h => h) (Or.inl ⟨by kernel_rfl, fun V hV => ?_⟩) (HK25.out _ TZ.out) ?_
    ·clear hV
     go_simp
    try simp only [zz0, zz1, zz2, Act.put, zz3, zz4, zz5]
    refine wpAnyH_done (by kernel_rfl) ?_ _
    obtain ⟨wz, hwz⟩ : ∃ wz, wz = (((w3.setCell ⟨M, 0, none⟩ (.slice pp nn cc)).setCell ⟨M, 1, none⟩ (.int .i64 ty)).setCell ⟨M, 2, none⟩ vc) := ⟨_, rfl⟩
    rw [<- hwz] at HBZ TZ HSZ ⊢
    clear hwz
    rotate_left
    exact AllReadyH.nil
    exact AllReadyH.nil
    refine AllReadyH.cons (o := _) rfl (fun K hK => ?_) ?_
    obtain ⟨M, hM⟩ : ∃ M, w2.heap.size = M := ⟨_, rfl⟩
    obtain ⟨w3, h3⟩ : ∃ w, w = w2.alloc (.cells #[.slice none 0 0, .int .i64 0, .nilFunc] 133) := ⟨_, rfl⟩
    have b3 : (w2.alloc (.cells #[.slice none 0 0, .int .i64 0, .nilFunc] 133)).heap[w2.heap.size]? = some _ := World.alloc_heap_new _ _
    have TB := Lib.hid (TA.out.alloc (.cells #[.slice none 0 0, .int .i64 0, .nilFunc] 133))
    have HMM : Hid (wr.heap.size <= M) := Lib.hid (by rw [<- hM]; exact TA.out.size)
    replace HCM := Lib.hid (HCM.out.box (.cells #[.slice none 0 0, .int .i64 0, .nilFunc] 133))
    rw [<- h3] at HCM
    rw [<- h3] at TB b3
    rw [hM] at b3
    have HBX := Lib.hid b3
    go_simp
    try rw [hM]
    try rw [<- h3]
    refine hK.out _ _ (HK25.out _ TB.out) (fun _ => ?_)
    clear hK K h3 hM b3
    try simp only [zz0, zz1, zz2, Act.put, zz3, zz4, zz5]
    refine wpAnyH_ready (rs := [3]) (by kernel_rfl) (by simp) ?_
    refine AllReadyH.cons (o := _) rfl (fun K hK => ?_) ?_
    obtain ⟨pp, nn, cc, ty, vc, bo, hlk, hvc, hsg⟩ := HCM.out.sg HVL.out HS.out.1
    have HSG := Lib.hid hsg
    have HVC := Lib.hid hvc
    go_simp
    refine hK.out _ _ (HK25.out _ TB.out) (fun _ => ?_)
    clear hK K hlk hsg hvc HCM
    try simp only [zz0, zz1, zz2, Act.put, zz3, zz4, zz5]
    refine wpAnyH_take (i := 4) (oi := _) (v := .tuple #[.agg #[.slice pp nn cc, .int .i64 ty, vc], .bool bo]) rfl (by kernel_rfl) (by kernel_rfl) (by kernel_rfl) (fun _ _ _ h => h) (Or.inl ⟨by kernel_rfl, fun V hV => ?_⟩) (HK25.out _ TB.out) ?_
    ·clear hV
     go_simp
    try simp only [zz0, zz1, zz2, Act.put, zz3, zz4, zz5]
    refine wpAnyH_take (i := 5) (oi := _) (v := .agg #[.slice pp nn cc, .int .i64 ty, vc]) rfl (by kernel_rfl) (by kernel_rfl) (by kernel_rfl) (fun _ _ _ h => h) (Or.inl ⟨by kernel_rfl, fun V hV => ?_⟩) (HK25.out _ TB.out) ?_
    ·clear hV
     go_simp
    try simp only [zz0, zz1, zz2, Act.put, zz3, zz4, zz5]
    refine wpAnyH_take (i := 6) (oi := _) (v := .bool bo) rfl (by kernel_rfl) (by kernel_rfl) (by kernel_rfl) (fun _ _ _ h => h) (Or.inl ⟨by kernel_rfl, fun V hV => ?_⟩) (HK25.out _ TB.out) ?_
    ·clear hV
     go_simp
    try simp only [zz0, zz1, zz2, Act.put, zz3, zz4, zz5]
    refine wpAnyH_ready (rs := [8]) (by kernel_rfl) (by simp) ?_
    refine AllReadyH.cons (o := _) rfl (fun K hK => ?_) ?_
    obtain ⟨p0, p1, p2, q0, q1, q2⟩ := box3 HBX.out
    have hst := set3 HBX.out (.slice pp nn cc) (.int .i64 ty) vc
    have hrs := fun (W : World) (a : Addr) => run_store Tryz.prog W a vc .plain HVC.out
    have TZ := Lib.hid (TB.out.trans (hst.2.mono fun i hi => by rw [hi]; exact HMM.out))
    have HBZ := Lib.hid hst.1
    have HSZ := Lib.hid (HSG.out.on hst.2 HBX.out)
    clear hst
    go_simp
    refine hK.out _ _ (HK25.out _ TZ.out) (fun _ => ?_)
    clear hK K p0 p1 p2 q0 q1 q2 hrs HVC
    try simp only [zz0, zz1, zz2, Act.put, zz3, zz4, zz5]
    refine wpAnyH_take (i := 9) (oi := _) (v := .bool bo) rfl (by kernel_rfl) (by kernel_rfl) (by kernel_rfl) (fun _ _ _ h => h) (Or.inl ⟨by kernel_rfl, fun V hV => ?_⟩) (HK25.out _ TZ.out) ?_
    ·clear hV
     go_simp
    try simp only [zz0, zz1, zz2, Act.put, zz3, zz4, zz5]
    refine wpAnyH_done (by kernel_rfl) ?_ _
    obtain ⟨wz, hwz⟩ : ∃ wz, wz = (((w3.setCell ⟨M, 0, none⟩ (.slice pp nn cc)).setCell ⟨M, 1, none⟩ (.int .i64 ty)).setCell ⟨M, 2, none⟩ vc) := ⟨_, rfl⟩
    rw [<- hwz] at HBZ TZ HSZ ⊢
    clear hwz
    rotate_left
    exact AllReadyH.nil
    exact AllReadyH.nil
    exact AllReadyH.nil
    refine AllReadyH.cons (o := _) rfl (fun K hK => ?_) ?_
    obtain ⟨M, hM⟩ : ∃ M, wd.heap.size = M := ⟨_, rfl⟩
    obtain ⟨w2, h3⟩ : ∃ w, w = wd.alloc (.cells #[.slice none 0 0, .int .i64 0, .nilFunc] 133) := ⟨_, rfl⟩
    have b3 : (wd.alloc (.cells #[.slice none 0 0, .int .i64 0, .nilFunc] 133)).heap[wd.heap.size]? = some _ := World.alloc_heap_new _ _
    have TA := Lib.hid (T0.out.alloc (.cells #[.slice none 0 0, .int .i64 0, .nilFunc] 133))
    have HMM : Hid (wr.heap.size <= M) := Lib.hid (by rw [<- hM]; exact T0.out.size)
    rw [<- h3] at TA b3
    rw [hM] at b3
    have HBX := Lib.hid b3
    go_simp
    try rw [hM]
    try rw [<- h3]
    refine hK.out _ _ (HK25.out _ TA.out) (fun _ => ?_)
    clear hK K h3 hM b3
    try simp only [zz0, zz1, zz2, Act.put, zz3, zz4, zz5]
    refine wpAnyH_ready (rs := [0]) (by kernel_rfl) (by simp) ?_
    refine AllReadyH.cons (o := _) rfl (fun K hK => ?_) ?_
    go_simp
    refine (calls_map w2).mono ?_
    rintro e w3 ⟨B, vs, rfl, hvl, hcm⟩
    have TB := Lib.hid (TA.out.trans (hcm.tur.mono fun _ h => h.elim))
    replace HBX := Lib.hid (keepB hcm.tur HBX.out)
    have HVL := Lib.hid hvl
    have HCM := Lib.hid hcm
    refine hK.out _ _ (HK25.out _ TB.out) (fun _ => ?_)
    clear hK K hvl hcm
    try simp only [zz0, zz1, zz2, Act.put, zz3, zz4, zz5]
    refine wpAnyH_ready (rs := [3]) (by kernel_rfl) (by simp) ?_
    refine AllReadyH.cons (o := _) rfl (fun K hK => ?_) ?_
    obtain ⟨pp, nn, cc, ty, vc, bo, hlk, hvc, hsg⟩ := HCM.out.sg HVL.out HS.out.1
    have HSG := Lib.hid hsg
    have HVC := Lib.hid hvc
    go_simp
    refine hK.out _ _ (HK25.out _ TB.out) (fun _ => ?_)
    clear hK K hlk hsg hvc HCM
    try simp only [zz0, zz1, zz2, Act.put, zz3, zz4, zz5]
    refine wpAnyH_take (i := 4) (oi := _) (v := .tuple #[.agg #[.slice pp nn cc, .int .i64 ty, vc], .bool bo]) rfl (by kernel_rfl) (by kernel_rfl) (by kernel_rfl) (fun _ _ _ h => h) (Or.inl ⟨by kernel_rfl, fun V hV => ?_⟩) (HK25.out _ TB.out) ?_
    ·clear hV
     go_simp
    try simp only [zz0, zz1, zz2, Act.put, zz3, zz4, zz5]
    refine wpAnyH_take (i := 5) (oi := _) (v := .agg #[.slice pp nn cc, .int .i64 ty, vc]) rfl (by kernel_rfl) (by kernel_rfl) (by kernel_rfl) (fun _ _ _ h => h) (Or.inl ⟨by kernel_rfl, fun V hV => ?_⟩) (HK25.out _ TB.out) ?_
    ·clear hV
     go_simp
    try simp only [zz0, zz1, zz2, Act.put, zz3, zz4, zz5]
    refine wpAnyH_take (i := 6) (oi := _) (v := .bool bo) rfl (by kernel_rfl) (by kernel_rfl) (by kernel_rfl) (fun _ _ _ h => h) (Or.inl ⟨by kernel_rfl, fun V hV => ?_⟩) (HK25.out _ TB.out) ?_
    ·clear hV
     go_simp
    try simp only [zz0, zz1, zz2, Act.put, zz3, zz4, zz5]
    refine wpAnyH_ready (rs := [8]) (by kernel_rfl) (by simp) ?_
    refine AllReadyH.cons (o := _) rfl (fun K hK => ?_) ?_
    obtain ⟨p0, p1, p2, q0, q1, q2⟩ := box3 HBX.out
    have hst := set3 HBX.out (.slice pp nn cc) (.int .i64 ty) vc
    have hrs := fun (W : World) (a : Addr) => run_store Tryz.prog W a vc .plain HVC.out
    have TZ := Lib.hid (TB.out.trans (hst.2.mono fun i hi => by rw [hi]; exact HMM.out))
    have HBZ := Lib.hid hst.1
    have HSZ := Lib.hid (HSG.out.on hst.2 HBX.out)
    clear hst
    go_simp
    refine hK.out _ _ (HK25.out _ TZ.out) (fun _ => ?_)
    clear hK K p0 p1 p2 q0 q1 q2 hrs HVC
    try simp only [zz0, zz1, zz2, Act.put, zz3, zz4, zz5]
    refine wpAnyH_take (i := 9) (oi := _) (v := .bool bo) rfl (by kernel_rfl) (by kernel_rfl) (by kernel_rfl) (fun _ _ _ h => h) (Or.inl ⟨by kernel_rfl, fun V hV => ?_⟩) (HK25.out _ TZ.out) ?_
    ·clear hV
     go_simp
    try simp only [zz0, zz1, zz2, Act.put, zz3, zz4, zz5]
    refine wpAnyH_done (by kernel_rfl) ?_ _
    obtain ⟨wz, hwz⟩ : ∃ wz, wz = (((w3.setCell ⟨M, 0, none⟩ (.slice pp nn cc)).setCell ⟨M, 1, none⟩ (.int .i64 ty)).setCell ⟨M, 2, none⟩ vc) := ⟨_, rfl⟩
    rw [<- hwz] at HBZ TZ HSZ ⊢
    clear hwz
    rotate_left
    exact AllReadyH.nil
    exact AllReadyH.nil
    exact AllReadyH.nil
    exact AllReadyH.nil
    all_goals
     have HTZ := Lib.hid (HTR.out.fresh TZ.out fun i hi => Nat.le_trans HTR.out.size hi)
     have x4 := cellT TZ.out (Nat.not_le_of_lt HLT.out) HX4.out
     have HBY := Lib.hid ((TZ.out.block _ HPT.out (Nat.not_le_of_lt HPT.out)).trans HBP.out)
     have HAZ := Lib.hid (HA.out.same (TZ.out.same (Nat.le_refl _) fun k hk => Nat.not_le_of_lt hk))
     obtain ⟨c0, c1, c2, -⟩ := box3 HBZ.out
     clear HBP HA HX4 TZ HK25 S0 T0 HBZ
     have HBP := HBY
     clear HBY
     rcases HSZ.out with ⟨rfl, as_, ty', f, b, cs, cc', hsig, ha1, ha2, -, hb, htk, hl1, hl2⟩ | ⟨rfl, hsig⟩
     ·cases ha1
      cases ha2
      have HAS := Lib.hid (args_list hb htk hl1 hl2)
      clear hb htk hl1 hl2
      by_cases hle : ks.length = as_.length
      ·have HQ := Lib.hid (equal_any ks as_ _ _ _ _ _ _ wz HAZ.out HAS.out)
       have HLE := Lib.hid hle
       have hlb : ((x.kids.length : Int) == (as_.length : Int)) = true := by rw [<- hle, HKL.out]; simp
       rw [HKL.out] at HQ
       by_cases hke : ks = as_
       ·have HTY : Hid (typeOf x.op x.s ks = (ty, 0)) := Lib.hid (by rw [H4.out]; exact typeOf_call_ok hsig hke)
        have HV : Hid (typV x = .tuple #[.int .i64 ty, .agg #[.int .i64 0, .int .i64 0]]) := Lib.hid ((typV_of HN.out HKS.out HTY.out).1 rfl)
        have htz : (ty == 0) = false := by simpa using sig_ne hsig
        rw [show decide (ks = as_) = true by simpa using hke] at HQ
        clear hke hle hsig
        go_wp2_with (go_at_call 68; refine HQ.out.mono ?_; rintro e W9 ⟨rfl, ht⟩; have c1 := cellT ht id c1; have HT9 := Lib.hid (HTZ.out.trans ht); have HB9 := Lib.hid (keepB ht HBP.out); obtain ⟨y0, y1, f0, f1⟩ := two_cells HB9.out; clear ht)
        refine bodyPost_ret (results_tp (fn := Tryz.f45) rfl _ _ (w.heap.size + 1) (.int .i64 ty) (.int .i64 0) (.int .i64 0) rfl rfl (two_set HB9.out)) rfl ?_
        rw [HV.out]
        exact ⟨rfl, HT9.out.freshC (((Turned.refl (fun k => k = w.heap.size + 1) _).setCell rfl _).setCell rfl _) fun i hi => by rw [hi]; exact Nat.le_succ _⟩
       ·have HTY : Hid (typeOf x.op x.s ks = (0, 7)) := Lib.hid (by rw [H4.out]; exact typeOf_call_ne hsig hle hke)
        have HV : Hid (typV x = .tuple #[.int .i64 0, .agg #[.int .i64 x.at_, .int .i64 7]]) := Lib.hid ((typV_of HN.out HKS.out HTY.out).2 (by decide))
        rw [show decide (ks = as_) = false by simpa using hke] at HQ
        clear hke hle hsig
        go_wp2_with (first
         | (go_at_call 68; refine HQ.out.mono ?_; rintro e W8 ⟨rfl, ht⟩; have HT8 := Lib.hid (HTZ.out.trans ht); have HB8 := Lib.hid (keepB ht HBP.out); have x4' := cellT ht id x4; clear ht)
         | (go_at_call 65; refine (typed1_any 7 x.at_ w.heap.size _ x4').mono ?_; rintro e W9 ⟨rfl, ht⟩; have HT9 := Lib.hid (HT8.out.trans ht); have HB9 := Lib.hid (keepB ht HB8.out); obtain ⟨y0, y1, f0, f1⟩ := two_cells HB9.out; clear ht))
        refine bodyPost_ret (results_tp (fn := Tryz.f45) rfl _ _ (w.heap.size + 1) (.int .i64 0) (.int .i64 x.at_) (.int .i64 7) rfl rfl (two_set HB9.out)) rfl ?_
        rw [HV.out]
        exact ⟨rfl, HT9.out.freshC (((Turned.refl (fun k => k = w.heap.size + 1) _).setCell rfl _).setCell rfl _) fun i hi => by rw [hi]; exact Nat.le_succ _⟩
      ·have HTY : Hid (typeOf x.op x.s ks = (0, 1)) := Lib.hid (by rw [H4.out]; exact typeOf_call_len hsig hle)
       have HV : Hid (typV x = .tuple #[.int .i64 0, .agg #[.int .i64 x.at_, .int .i64 1]]) := Lib.hid ((typV_of HN.out HKS.out HTY.out).2 (by decide))
       have hlb : ((x.kids.length : Int) == (as_.length : Int)) = false := by rw [<- HKL.out]; exact beq_eq_false_iff_ne.2 (by omega)
       clear hle hsig
       go_wp2_with (go_at_call 65; refine (typed1_any 1 x.at_ w.heap.size _ x4).mono ?_; rintro e W9 ⟨rfl, ht⟩; have HT9 := Lib.hid (HTZ.out.trans ht); have HB9 := Lib.hid (keepB ht HBP.out); obtain ⟨y0, y1, f0, f1⟩ := two_cells HB9.out; clear ht)
       refine bodyPost_ret (results_tp (fn := Tryz.f45) rfl _ _ (w.heap.size + 1) (.int .i64 0) (.int .i64 x.at_) (.int .i64 1) rfl rfl (two_set HB9.out)) rfl ?_
       rw [HV.out]
       exact ⟨rfl, HT9.out.freshC (((Turned.refl (fun k => k = w.heap.size + 1) _).setCell rfl _).setCell rfl _) fun i hi => by rw [hi]; exact Nat.le_succ _⟩
     ·have HTY : Hid (typeOf x.op x.s ks = (0, 6)) := Lib.hid (by rw [H4.out]; exact typeOf_call_no hsig)
      have HV : Hid (typV x = .tuple #[.int .i64 0, .agg #[.int .i64 x.at_, .int .i64 6]]) := Lib.hid ((typV_of HN.out HKS.out HTY.out).2 (by decide))
      clear hsig
      go_wp2_with (go_at_call 65; refine (typed1_any 6 x.at_ w.heap.size _ x4).mono ?_; rintro e W9 ⟨rfl, ht⟩; have HT9 := Lib.hid (HTZ.out.trans ht); have HB9 := Lib.hid (keepB ht HBP.out); obtain ⟨y0, y1, f0, f1⟩ := two_cells HB9.out; clear ht)
      refine bodyPost_ret (results_tp (fn := Tryz.f45) rfl _ _ (w.heap.size + 1) (.int .i64 0) (.int .i64 x.at_) (.int .i64 6) rfl rfl (two_set HB9.out)) rfl ?_
      rw [HV.out]
      exact ⟨rfl, HT9.out.freshC (((Turned.refl (fun k => k = w.heap.size + 1) _).setCell rfl _).setCell rfl _) fun i hi => by rw [hi]; exact Nat.le_succ _⟩
theorem typed_1 (x : Ex) (hbad : ¬ badX x) (h4 : x.op ≠ 4) (h1 : x.op = 1) (sm : x.s.size <= maxLen /\ x.kids.length <= 100000) (HFK : ∀ y ∈ x.kids, ∀ (a : Value) (w : World), KidsAt w (fun _ => True) y.kids a -> Calls Tryz.prog 45 #[exA y a] w fun e w' => e = .returned (typV y) /\ Turned (fun _ => False) w w') (a : Value) (w : World) (hk : KidsAt w (fun _ => True) x.kids a) : Calls Tryz.prog 45 #[exA x a] w fun e w' => e = .returned (typV x) /\ Turned (fun _ => False) w w' := by
 have HF := Lib.hid HFK
 have HS := Lib.hid sm
 obtain ⟨pa, ca, rfl⟩ := hk.shape
 have hlk := hk.len
 unfold maxLen at hlk
 have HK := Lib.hid hk
 obtain ⟨w1, hw1⟩ : ∃ w1, w1 = (w.alloc (.cells #[.int .i64 x.op, .int .i64 x.n, .string x.s, .slice pa x.kids.length ca, .int .i64 x.at_] 42)).alloc (.cells #[.int .i64 0, .int .i64 0] 26) := ⟨_, rfl⟩
 have hb : w1.heap[w.heap.size]? = some (.cells #[.int .i64 x.op, .int .i64 x.n, .string x.s, .slice pa x.kids.length ca, .int .i64 x.at_] 42 (0, 0)) /\ w1.heap[w.heap.size + 1]? = some (.cells #[.int .i64 0, .int .i64 0] 26 (0, 0)) := by
  have h1 := World.alloc_heap_new w (.cells #[.int .i64 x.op, .int .i64 x.n, .string x.s, .slice pa x.kids.length ca, .int .i64 x.at_] 42)
  refine ⟨?_, ?_⟩
  ·rw [hw1]; exact (((Turned.refl (fun _ => False) _).alloc _).block _ (getElem?_lt h1) id).trans h1
  ·have h2 := World.alloc_heap_new (w.alloc (.cells #[.int .i64 x.op, .int .i64 x.n, .string x.s, .slice pa x.kids.length ca, .int .i64 x.at_] 42)) (.cells #[.int .i64 0, .int .i64 0] 26)
   rw [hw1]; simpa using h2
 have HW := Lib.hid hw1
 have HB := Lib.hid hb.1
 have HBP := Lib.hid hb.2
 have HT : Hid (Turned (fun _ => False) w w1) := Lib.hid (by rw [hw1]; exact ((Turned.refl _ _).alloc _).alloc _)
 have HSZ : Hid (w1.heap.size = w.heap.size + 2) := Lib.hid (by rw [hw1]; simp)
 obtain ⟨o, ho⟩ : ∃ o, o = operandsP x.op := ⟨_, rfl⟩
 have HO := Lib.hid ho
 have HC := fun W => operands_any x.op W
 rw [<- ho] at HC
 have HCO := Lib.hid HC
 clear HC hk hw1 hb sm HFK
 have HN := Lib.hid hbad
 obtain ⟨hn2, hn0, hn1⟩ := badNot hbad
 rw [<- ho] at hn2 hn0
 have b4 : (x.op == 4) = false := by simpa using h4
 have h0 : 0 <= o := by
  have h : operandsP x.op ≠ -2 := by rw [<- ho]; exact hn2
  rw [ho]
  exact operands_nonneg h4 h
 have hlo : o = (x.kids.length : Int) := (hn0 h0).symm
 clear hbad hn0 hn2 ho h0
 subst hlo
 have b2 : ((x.kids.length : Int) == -2) = false := by simp
 clear h4
 have b1 : (x.op == 1) = true := by simpa using h1
 obtain ⟨g1, g2⟩ := hn1 h1
 have g1b : ¬ x.n < 0 := by omega
 have g2b : ¬ 999999999999999 < x.n := by unfold maxI at g2; omega
 have H1 := Lib.hid h1
 clear hn1 g1 g2 h1
 all_goals
  unfold exA
  go_enter Tryz.func45, Tryz.ntmps45
  go_upto_region 7 with (go_at_call 66; refine (HCO.out _).mono ?_; rintro e W9 ⟨rfl, rfl⟩)
  rw [<- HW.out]
  clear HW
  go_loopw [6, 53] (fun v i wr => ∃ (k : Nat) (p : Option Addr) (c : Nat), k <= x.kids.length /\ v = .slice p k c /\ i = (.int .i64 k) /\ Hid (Turned (fun _ => False) w1 wr /\ ∃ ks, ks.length = k /\ typedL (x.kids.take k) = .ok ks /\ Grown wr w1.heap.size 3 1 intCells (.slice p k c) ks)) (fun _ i _ => x.kids.length - (intOf i).toNat)
  case atStart => exact ⟨0, none, 0, by omega, rfl, rfl, Lib.hid ⟨Turned.refl _ _, [], rfl, by rw [List.take_zero, typedL], Grown.nil _ _ _ _ _⟩⟩
  case round =>
   obtain ⟨k, p, c, hk, rfl, rfl, HR⟩ := hrel
   obtain ⟨x0, x1, x2, x3, x4⟩ := cellsFive ((HR.out.1.block _ (getElem?_lt HB.out) id).trans HB.out)
   by_cases hlt : k < x.kids.length
   ·have hix : (k : Int) < (x.kids.length : Int) := by omega
    obtain ⟨y, hy⟩ := some_of_lt hlt
    obtain ⟨yb, ya, yk, rfl, ⟨y0, y1, y2, y3, y4⟩, HKy⟩ := kidsAt_get (HK.out.all (HT.out.trans HR.out.1)) hy
    obtain ⟨py, cy, rfl⟩ := HKy.shape
    have tV : Turned (fun _ => False) wr (wr.alloc (.cells #[.int .i64 y.op, .int .i64 y.n, .string y.s, .slice py y.kids.length cy, .int .i64 y.at_] 42)) := (Turned.refl _ _).alloc _
    have HCY := Lib.hid (HF.out y (List.mem_of_getElem? hy) _ _ (HKy.all tV))
    have HTV := Lib.hid tV
    have HY := Lib.hid hy
    unfold exA at HCY
    clear hy HKy tV
    cases hty : typedE y with
    | error e =>
     have HVY : Hid (typV y = .tuple #[.int .i64 0, .agg #[.int .i64 e.1, .int .i64 e.2]]) := Lib.hid (by unfold typV; rw [hty])
     have HV : Hid (typV x = .tuple #[.int .i64 0, .agg #[.int .i64 e.1, .int .i64 e.2]]) := Lib.hid (by
      obtain ⟨-, ks, -, hks, -⟩ := HR.out
      unfold typV
      rw [typedE_kidErr HN.out (typedL_err hks HY.out hty)])
     have hne : e.2 ≠ 0 := typedE_err hty
     have hnb : (e.2 == 0) = false := by simpa using hne
     clear hty
     go_wp2_with (go_at_call 45; refine HCY.out.mono ?_; rintro e9 W9 ⟨rfl, ht⟩; rw [HVY.out]; have HT9 := Lib.hid (HR.out.1.trans (HTV.out.trans ht)); clear ht)
     have HB9 := Lib.hid (((HT9.out.alloc (.cells #[.int .i64 e.1, .int .i64 e.2] 26)).block _ (getElem?_lt HBP.out) id).trans HBP.out)
     obtain ⟨z0, z1, f0, f1⟩ := two_cells HB9.out
     go_region
     go_wp2_with fail
     refine bodyPost_ret (results_tp (fn := Tryz.f45) rfl _ _ (w.heap.size + 1) (.int .i64 0) (.int .i64 e.1) (.int .i64 e.2) rfl rfl (two_set HB9.out)) rfl ?_
     rw [HV.out]
     exact ⟨rfl, (((HT.out.trans (HT9.out.alloc _)).freshC (((Turned.refl (fun k => k = w.heap.size + 1) _).setCell rfl _).setCell rfl _) fun i hi => by rw [hi]; exact Nat.le_succ _)).drew⟩
    | ok t =>
     have HVY : Hid (typV y = .tuple #[.int .i64 t, .agg #[.int .i64 0, .int .i64 0]]) := Lib.hid (by unfold typV; rw [hty])
     have HTY := Lib.hid hty
     clear hty
     go_upto_region 12 with (go_at_call 45; refine HCY.out.mono ?_; rintro e9 W9 ⟨rfl, ht⟩; rw [HVY.out]; have HT9 := Lib.hid (HR.out.1.trans (HTV.out.trans ht)); have HTW := Lib.hid (HTV.out.trans ht); clear ht)
     obtain ⟨-, ks, hkl, hks, hgr⟩ := HR.out
     have HKS := Lib.hid hks
     have HKL := Lib.hid hkl
     have HG := Lib.hid ((hgr.turned HTW.out fun _ h => h.elim).turned ((Turned.refl (fun _ => False) W9).alloc (.cells #[.int .i64 0, .int .i64 0] 26)) fun _ h => h.elim)
     have hklen : k <= 100000 := Nat.le_trans hk HS.out.2
     subst hkl
     clear hks hgr
     obtain ⟨V2, hV2⟩ : ∃ V2, V2 = W9.alloc (.cells #[.int .i64 0, .int .i64 0] 26) := ⟨_, rfl⟩
     have HT2 : Hid (Turned (fun _ => False) w1 V2) := Lib.hid (by rw [hV2]; exact HT9.out.alloc _)
     rw [<- hV2] at HG ⊢
     clear hV2
     go_wp2_with (at_builtin; (refine app_int V2 rfl _ _ rfl w1.heap.size (.slice p ks.length c) t ks rfl rfl HG.out HT2.out.size hklen ?_); intro p2 c2 W3 hg3 ht3; have HG3 := Lib.hid hg3; have HT3 := Lib.hid ht3; clear hg3 ht3)
     go_roundw
     case rel => exact ⟨ks.length + 1, p2, c2, by omega, by simp, by go_num, Lib.hid ⟨HT2.out.fresh HT3.out (fun i hi => hi), ks ++ [t], by simp, typedL_snoc HKS.out HY.out HTY.out, by have h := HG3.out; simpa using h⟩⟩
     case measure => simp [intOf]; omega
   ·have hix : ¬ (k : Int) < (x.kids.length : Int) := by omega
    obtain rfl : k = x.kids.length := by omega
    obtain ⟨ks, HKL, HKS, HG⟩ : ∃ ks : List Int, Hid (ks.length = x.kids.length) /\ Hid (typedL x.kids = .ok ks) /\ Hid (Grown wr w1.heap.size 3 1 intCells (.slice p x.kids.length c) ks) := by
     obtain ⟨-, ks, h1, h2, h3⟩ := HR.out
     rw [List.take_length] at h2
     exact ⟨ks, Lib.hid h1, Lib.hid h2, Lib.hid h3⟩
    have HTR := Lib.hid (HT.out.trans HR.out.1)
    replace HBP := Lib.hid ((HR.out.1.block _ (getElem?_lt HBP.out) id).trans HBP.out)
    clear hlt
    have HV : Hid (typV x = .tuple #[.int .i64 1, .agg #[.int .i64 0, .int .i64 0]]) := Lib.hid ((typV_of HN.out HKS.out (t := 1) (c := 0) (by rw [H1.out]; rfl)).1 rfl)
    obtain ⟨y0, y1, f0, f1⟩ := two_cells HBP.out
    go_wp2_with fail
    refine bodyPost_ret (results_tp (fn := Tryz.f45) rfl _ _ (w.heap.size + 1) (.int .i64 1) (.int .i64 0) (.int .i64 0) rfl rfl (two_set HBP.out)) rfl ?_
    rw [HV.out]
    exact ⟨rfl, HTR.out.freshC (((Turned.refl (fun k => k = w.heap.size + 1) wr).setCell rfl _).setCell rfl _) fun i hi => by rw [hi]; exact Nat.le_succ _⟩
theorem typed_N (x : Ex) (hbad : ¬ badX x) (h4 : x.op ≠ 4) (h1 : x.op ≠ 1) (sm : x.s.size <= maxLen /\ x.kids.length <= 100000) (HFK : ∀ y ∈ x.kids, ∀ (a : Value) (w : World), KidsAt w (fun _ => True) y.kids a -> Calls Tryz.prog 45 #[exA y a] w fun e w' => e = .returned (typV y) /\ Turned (fun _ => False) w w') (a : Value) (w : World) (hk : KidsAt w (fun _ => True) x.kids a) : Calls Tryz.prog 45 #[exA x a] w fun e w' => e = .returned (typV x) /\ Turned (fun _ => False) w w' := by
 have HF := Lib.hid HFK
 have HS := Lib.hid sm
 obtain ⟨pa, ca, rfl⟩ := hk.shape
 have hlk := hk.len
 unfold maxLen at hlk
 have HK := Lib.hid hk
 obtain ⟨w1, hw1⟩ : ∃ w1, w1 = (w.alloc (.cells #[.int .i64 x.op, .int .i64 x.n, .string x.s, .slice pa x.kids.length ca, .int .i64 x.at_] 42)).alloc (.cells #[.int .i64 0, .int .i64 0] 26) := ⟨_, rfl⟩
 have hb : w1.heap[w.heap.size]? = some (.cells #[.int .i64 x.op, .int .i64 x.n, .string x.s, .slice pa x.kids.length ca, .int .i64 x.at_] 42 (0, 0)) /\ w1.heap[w.heap.size + 1]? = some (.cells #[.int .i64 0, .int .i64 0] 26 (0, 0)) := by
  have h1 := World.alloc_heap_new w (.cells #[.int .i64 x.op, .int .i64 x.n, .string x.s, .slice pa x.kids.length ca, .int .i64 x.at_] 42)
  refine ⟨?_, ?_⟩
  ·rw [hw1]; exact (((Turned.refl (fun _ => False) _).alloc _).block _ (getElem?_lt h1) id).trans h1
  ·have h2 := World.alloc_heap_new (w.alloc (.cells #[.int .i64 x.op, .int .i64 x.n, .string x.s, .slice pa x.kids.length ca, .int .i64 x.at_] 42)) (.cells #[.int .i64 0, .int .i64 0] 26)
   rw [hw1]; simpa using h2
 have HW := Lib.hid hw1
 have HB := Lib.hid hb.1
 have HBP := Lib.hid hb.2
 have HT : Hid (Turned (fun _ => False) w w1) := Lib.hid (by rw [hw1]; exact ((Turned.refl _ _).alloc _).alloc _)
 have HSZ : Hid (w1.heap.size = w.heap.size + 2) := Lib.hid (by rw [hw1]; simp)
 obtain ⟨o, ho⟩ : ∃ o, o = operandsP x.op := ⟨_, rfl⟩
 have HO := Lib.hid ho
 have HC := fun W => operands_any x.op W
 rw [<- ho] at HC
 have HCO := Lib.hid HC
 clear HC hk hw1 hb sm HFK
 have HN := Lib.hid hbad
 obtain ⟨hn2, hn0, hn1⟩ := badNot hbad
 rw [<- ho] at hn2 hn0
 have b4 : (x.op == 4) = false := by simpa using h4
 have h0 : 0 <= o := by
  have h : operandsP x.op ≠ -2 := by rw [<- ho]; exact hn2
  rw [ho]
  exact operands_nonneg h4 h
 have hlo : o = (x.kids.length : Int) := (hn0 h0).symm
 clear hbad hn0 hn2 ho h0
 subst hlo
 have b2 : ((x.kids.length : Int) == -2) = false := by simp
 clear h4
 have b1 : (x.op == 1) = false := by simpa using h1
 clear hn1 h1
 all_goals
  unfold exA
  go_enter Tryz.func45, Tryz.ntmps45
  go_upto_region 7 with (go_at_call 66; refine (HCO.out _).mono ?_; rintro e W9 ⟨rfl, rfl⟩)
  rw [<- HW.out]
  clear HW
  go_loopw [6, 53] (fun v i wr => ∃ (k : Nat) (p : Option Addr) (c : Nat), k <= x.kids.length /\ v = .slice p k c /\ i = (.int .i64 k) /\ Hid (Turned (fun _ => False) w1 wr /\ ∃ ks, ks.length = k /\ typedL (x.kids.take k) = .ok ks /\ Grown wr w1.heap.size 3 1 intCells (.slice p k c) ks)) (fun _ i _ => x.kids.length - (intOf i).toNat)
  case atStart => exact ⟨0, none, 0, by omega, rfl, rfl, Lib.hid ⟨Turned.refl _ _, [], rfl, by rw [List.take_zero, typedL], Grown.nil _ _ _ _ _⟩⟩
  case round =>
   obtain ⟨k, p, c, hk, rfl, rfl, HR⟩ := hrel
   obtain ⟨x0, x1, x2, x3, x4⟩ := cellsFive ((HR.out.1.block _ (getElem?_lt HB.out) id).trans HB.out)
   by_cases hlt : k < x.kids.length
   ·have hix : (k : Int) < (x.kids.length : Int) := by omega
    obtain ⟨y, hy⟩ := some_of_lt hlt
    obtain ⟨yb, ya, yk, rfl, ⟨y0, y1, y2, y3, y4⟩, HKy⟩ := kidsAt_get (HK.out.all (HT.out.trans HR.out.1)) hy
    obtain ⟨py, cy, rfl⟩ := HKy.shape
    have tV : Turned (fun _ => False) wr (wr.alloc (.cells #[.int .i64 y.op, .int .i64 y.n, .string y.s, .slice py y.kids.length cy, .int .i64 y.at_] 42)) := (Turned.refl _ _).alloc _
    have HCY := Lib.hid (HF.out y (List.mem_of_getElem? hy) _ _ (HKy.all tV))
    have HTV := Lib.hid tV
    have HY := Lib.hid hy
    unfold exA at HCY
    clear hy HKy tV
    cases hty : typedE y with
    | error e =>
     have HVY : Hid (typV y = .tuple #[.int .i64 0, .agg #[.int .i64 e.1, .int .i64 e.2]]) := Lib.hid (by unfold typV; rw [hty])
     have HV : Hid (typV x = .tuple #[.int .i64 0, .agg #[.int .i64 e.1, .int .i64 e.2]]) := Lib.hid (by
      obtain ⟨-, ks, -, hks, -⟩ := HR.out
      unfold typV
      rw [typedE_kidErr HN.out (typedL_err hks HY.out hty)])
     have hne : e.2 ≠ 0 := typedE_err hty
     have hnb : (e.2 == 0) = false := by simpa using hne
     clear hty
     go_wp2_with (go_at_call 45; refine HCY.out.mono ?_; rintro e9 W9 ⟨rfl, ht⟩; rw [HVY.out]; have HT9 := Lib.hid (HR.out.1.trans (HTV.out.trans ht)); clear ht)
     have HB9 := Lib.hid (((HT9.out.alloc (.cells #[.int .i64 e.1, .int .i64 e.2] 26)).block _ (getElem?_lt HBP.out) id).trans HBP.out)
     obtain ⟨z0, z1, f0, f1⟩ := two_cells HB9.out
     go_region
     go_wp2_with fail
     refine bodyPost_ret (results_tp (fn := Tryz.f45) rfl _ _ (w.heap.size + 1) (.int .i64 0) (.int .i64 e.1) (.int .i64 e.2) rfl rfl (two_set HB9.out)) rfl ?_
     rw [HV.out]
     exact ⟨rfl, (((HT.out.trans (HT9.out.alloc _)).freshC (((Turned.refl (fun k => k = w.heap.size + 1) _).setCell rfl _).setCell rfl _) fun i hi => by rw [hi]; exact Nat.le_succ _)).drew⟩
    | ok t =>
     have HVY : Hid (typV y = .tuple #[.int .i64 t, .agg #[.int .i64 0, .int .i64 0]]) := Lib.hid (by unfold typV; rw [hty])
     have HTY := Lib.hid hty
     clear hty
     go_upto_region 12 with (go_at_call 45; refine HCY.out.mono ?_; rintro e9 W9 ⟨rfl, ht⟩; rw [HVY.out]; have HT9 := Lib.hid (HR.out.1.trans (HTV.out.trans ht)); have HTW := Lib.hid (HTV.out.trans ht); clear ht)
     obtain ⟨-, ks, hkl, hks, hgr⟩ := HR.out
     have HKS := Lib.hid hks
     have HKL := Lib.hid hkl
     have HG := Lib.hid ((hgr.turned HTW.out fun _ h => h.elim).turned ((Turned.refl (fun _ => False) W9).alloc (.cells #[.int .i64 0, .int .i64 0] 26)) fun _ h => h.elim)
     have hklen : k <= 100000 := Nat.le_trans hk HS.out.2
     subst hkl
     clear hks hgr
     obtain ⟨V2, hV2⟩ : ∃ V2, V2 = W9.alloc (.cells #[.int .i64 0, .int .i64 0] 26) := ⟨_, rfl⟩
     have HT2 : Hid (Turned (fun _ => False) w1 V2) := Lib.hid (by rw [hV2]; exact HT9.out.alloc _)
     rw [<- hV2] at HG ⊢
     clear hV2
     go_wp2_with (at_builtin; (refine app_int V2 rfl _ _ rfl w1.heap.size (.slice p ks.length c) t ks rfl rfl HG.out HT2.out.size hklen ?_); intro p2 c2 W3 hg3 ht3; have HG3 := Lib.hid hg3; have HT3 := Lib.hid ht3; clear hg3 ht3)
     go_roundw
     case rel => exact ⟨ks.length + 1, p2, c2, by omega, by simp, by go_num, Lib.hid ⟨HT2.out.fresh HT3.out (fun i hi => hi), ks ++ [t], by simp, typedL_snoc HKS.out HY.out HTY.out, by have h := HG3.out; simpa using h⟩⟩
     case measure => simp [intOf]; omega
   ·have hix : ¬ (k : Int) < (x.kids.length : Int) := by omega
    obtain rfl : k = x.kids.length := by omega
    obtain ⟨ks, HKL, HKS, HG⟩ : ∃ ks : List Int, Hid (ks.length = x.kids.length) /\ Hid (typedL x.kids = .ok ks) /\ Hid (Grown wr w1.heap.size 3 1 intCells (.slice p x.kids.length c) ks) := by
     obtain ⟨-, ks, h1, h2, h3⟩ := HR.out
     rw [List.take_length] at h2
     exact ⟨ks, Lib.hid h1, Lib.hid h2, Lib.hid h3⟩
    have HTR := Lib.hid (HT.out.trans HR.out.1)
    replace HBP := Lib.hid ((HR.out.1.block _ (getElem?_lt HBP.out) id).trans HBP.out)
    clear hlt
    have hcase : x.op = 2 \/ x.op = 3 \/ x.op = 6 \/ (x.op ≠ 2 /\ x.op ≠ 3 /\ x.op ≠ 6) := by omega
    have HO1 : Hid (x.op ≠ 1 /\ x.op ≠ 4) := Lib.hid ⟨by simpa using b1, by simpa using b4⟩
    rcases hcase with h | h | h | ⟨h2, h3, h6⟩
    ·have c2 : (x.op == 2) = true := by simpa using h
     have HV : Hid (typV x = .tuple #[.int .i64 0, .agg #[.int .i64 x.at_, .int .i64 7]]) := Lib.hid ((typV_of HN.out HKS.out (t := 0) (c := 7) (by rw [h]; rfl)).2 (by decide))
     clear h
     go_wp2_with (go_at_call 65; refine (typed1_any 7 x.at_ w.heap.size wr x4).mono ?_; rintro e W9 ⟨rfl, ht⟩; have HT9 := Lib.hid ht; have HB9 := Lib.hid ((ht.block _ (getElem?_lt HBP.out) id).trans HBP.out); obtain ⟨y0, y1, f0, f1⟩ := two_cells HB9.out; clear ht)
     refine bodyPost_ret (results_tp (fn := Tryz.f45) rfl _ _ (w.heap.size + 1) (.int .i64 0) (.int .i64 x.at_) (.int .i64 7) rfl rfl (two_set HB9.out)) rfl ?_
     rw [HV.out]
     exact ⟨rfl, (HTR.out.trans HT9.out).freshC (((Turned.refl (fun k => k = w.heap.size + 1) W9).setCell rfl _).setCell rfl _) fun i hi => by rw [hi]; exact Nat.le_succ _⟩
    ·have c2 : (x.op == 2) = false := by rw [h]; rfl
     have c3 : (x.op == 3) = true := by simpa using h
     have HV : Hid (typV x = .tuple #[.int .i64 0, .agg #[.int .i64 x.at_, .int .i64 6]]) := Lib.hid ((typV_of HN.out HKS.out (t := 0) (c := 6) (by rw [h]; rfl)).2 (by decide))
     clear h
     go_wp2_with (go_at_call 65; refine (typed1_any 6 x.at_ w.heap.size wr x4).mono ?_; rintro e W9 ⟨rfl, ht⟩; have HT9 := Lib.hid ht; have HB9 := Lib.hid ((ht.block _ (getElem?_lt HBP.out) id).trans HBP.out); obtain ⟨y0, y1, f0, f1⟩ := two_cells HB9.out; clear ht)
     refine bodyPost_ret (results_tp (fn := Tryz.f45) rfl _ _ (w.heap.size + 1) (.int .i64 0) (.int .i64 x.at_) (.int .i64 6) rfl rfl (two_set HB9.out)) rfl ?_
     rw [HV.out]
     exact ⟨rfl, (HTR.out.trans HT9.out).freshC (((Turned.refl (fun k => k = w.heap.size + 1) W9).setCell rfl _).setCell rfl _) fun i hi => by rw [hi]; exact Nat.le_succ _⟩
    ·have hl1 : x.kids.length = 1 := by have h8 := HO.out; rw [h] at h8; exact Int.ofNat.inj h8
     obtain ⟨t, rfl⟩ : ∃ t, ks = [t] := List.length_eq_one_iff.1 (by rw [HKL.out, hl1])
     have HA : Hid (Lst wr.heap.size wr 1 intCells [t] p c) := Lib.hid ((show Grown wr w1.heap.size 3 1 intCells (.slice p [t].length c) [t] by rw [HKL.out]; exact HG.out).at_ (fun _ => rfl) (Nat.le_refl _))
     obtain ⟨g, r, rfl, -, i1⟩ := HA.out.ints (i := 0) rfl
     replace i1 : wr.cell? ⟨g, r, none⟩ = some (.int .i64 t) := i1
     have hl2 : (0 : Int) < (x.kids.length : Int) := by omega
     have HT6 : Hid (typeOf x.op x.s [t] = if t = 1 \/ t = 3 then (t, 0) else (0, 7)) := Lib.hid (by rw [h]; rfl)
     have c2 : (x.op == 2) = false := by rw [h]; rfl
     have c3 : (x.op == 3) = false := by rw [h]; rfl
     have c6 : (x.op == 6) = true := by rw [h]; rfl
     clear h hl1
     obtain ⟨y0, y1, f0, f1⟩ := two_cells HBP.out
     by_cases ht1 : t = 1
     ·subst ht1
      have HV : Hid (typV x = .tuple #[.int .i64 1, .agg #[.int .i64 0, .int .i64 0]]) := Lib.hid ((typV_of HN.out HKS.out (t := 1) (c := 0) (by rw [HT6.out]; rfl)).1 rfl)
      go_wp2_with fail
      refine bodyPost_ret (results_tp (fn := Tryz.f45) rfl _ _ (w.heap.size + 1) (.int .i64 1) (.int .i64 0) (.int .i64 0) rfl rfl (two_set HBP.out)) rfl ?_
      rw [HV.out]
      exact ⟨rfl, HTR.out.freshC (((Turned.refl (fun k => k = w.heap.size + 1) _).setCell rfl _).setCell rfl _) fun i hi => by rw [hi]; exact Nat.le_succ _⟩
     by_cases ht3 : t = 3
     ·subst ht3
      have HV : Hid (typV x = .tuple #[.int .i64 3, .agg #[.int .i64 0, .int .i64 0]]) := Lib.hid ((typV_of HN.out HKS.out (t := 3) (c := 0) (by rw [HT6.out]; rfl)).1 rfl)
      go_wp2_with fail
      refine bodyPost_ret (results_tp (fn := Tryz.f45) rfl _ _ (w.heap.size + 1) (.int .i64 3) (.int .i64 0) (.int .i64 0) rfl rfl (two_set HBP.out)) rfl ?_
      rw [HV.out]
      exact ⟨rfl, HTR.out.freshC (((Turned.refl (fun k => k = w.heap.size + 1) _).setCell rfl _).setCell rfl _) fun i hi => by rw [hi]; exact Nat.le_succ _⟩
     have HV : Hid (typV x = .tuple #[.int .i64 0, .agg #[.int .i64 x.at_, .int .i64 7]]) := Lib.hid ((typV_of HN.out HKS.out (t := 0) (c := 7) (by rw [HT6.out, if_neg (by omega)])).2 (by decide))
     have t1b : (t == 1) = false := by simpa using ht1
     have t3b : (t == 3) = false := by simpa using ht3
     clear ht1 ht3 y0 y1 f0 f1
     go_wp2_with (go_at_call 65; refine (typed1_any 7 x.at_ w.heap.size wr x4).mono ?_; rintro e W9 ⟨rfl, ht⟩; have HT9 := Lib.hid ht; have HB9 := Lib.hid ((ht.block _ (getElem?_lt HBP.out) id).trans HBP.out); obtain ⟨y0, y1, f0, f1⟩ := two_cells HB9.out; clear ht)
     refine bodyPost_ret (results_tp (fn := Tryz.f45) rfl _ _ (w.heap.size + 1) (.int .i64 0) (.int .i64 x.at_) (.int .i64 7) rfl rfl (two_set HB9.out)) rfl ?_
     rw [HV.out]
     exact ⟨rfl, (HTR.out.trans HT9.out).freshC (((Turned.refl (fun k => k = w.heap.size + 1) W9).setCell rfl _).setCell rfl _) fun i hi => by rw [hi]; exact Nat.le_succ _⟩
    ·have c2 : (x.op == 2) = false := by simpa using h2
     have c3 : (x.op == 3) = false := by simpa using h3
     have c6 : (x.op == 6) = false := by simpa using h6
     have HT6 : Hid (typeOf x.op x.s ks = binT x.op ks) := Lib.hid (typeOf_bin HO1.out.1 h2 h3 HO1.out.2 h6)
     clear h2 h3 h6
     by_cases hl2 : x.kids.length = 2
     ·have hlb : ((x.kids.length : Int) == 2) = true := by rw [hl2]; rfl
      obtain ⟨t1, t2, rfl⟩ : ∃ t1 t2, ks = [t1, t2] := by
       have h := HKL.out
       rw [hl2] at h
       match ks, h with
       | [a, b], _ => exact ⟨a, b, rfl⟩
      obtain ⟨ea, eb, hke, hta, htb⟩ := typedL_two HKS.out
      have HA : Hid (Lst wr.heap.size wr 1 intCells [t1, t2] p c) := Lib.hid ((show Grown wr w1.heap.size 3 1 intCells (.slice p [t1, t2].length c) [t1, t2] by rw [HKL.out]; exact HG.out).at_ (fun _ => rfl) (Nat.le_refl _))
      obtain ⟨g, r, rfl, -, i1⟩ := HA.out.ints (i := 0) rfl
      replace i1 : wr.cell? ⟨g, r, none⟩ = some (.int .i64 t1) := i1
      obtain ⟨g', r', h8, -, i2⟩ := HA.out.ints (i := 1) rfl
      cases h8
      have hn0 : (0 : Int) < (x.kids.length : Int) := by omega
      have hn0n : 0 < x.kids.length := by omega
      have hn1 : (1 : Int) < (x.kids.length : Int) := by omega
      have HBN := Lib.hid fun W : World => binary_any x.op t1 t2 W (typedE_rng hta) (typedE_rng htb)
      obtain ⟨z, hz⟩ : ∃ z, z = binaryP x.op t1 t2 := ⟨_, rfl⟩
      have HTY : Hid (typeOf x.op x.s [t1, t2] = if z = 0 then (0, 7) else (z, 0)) := Lib.hid (by rw [HT6.out, hz]; rfl)
      rw [<- hz] at HBN
      have HZ0 := Lib.hid hz
      clear hz hke hta htb hl2
      have C1 := Lib.hid (And.intro x0 (And.intro i1 i2))
      have HBX := Lib.hid HBP.out
      clear HBP
      go_upto_region 17 with fail
      go_region_held3 (fun V => V.cell? ⟨w.heap.size, 0, none⟩ = some (.int .i64 x.op) /\ V.cell? ⟨g, r, none⟩ = some (.int .i64 t1) /\ V.cell? ⟨g, r + 1, none⟩ = some (.int .i64 t2))
       (first | exact C2.out | exact C1.out | go_keep)
       (first
        | (go_at_call 69; (refine (HBN.out _).mono ?_; rintro e w9 ⟨rfl, ht⟩; have C2 := Lib.hid (And.intro (cellT ht id C1.out.1) (And.intro (cellT ht id C1.out.2.1) (cellT ht id C1.out.2.2))); have HBP := Lib.hid ((ht.block _ (getElem?_lt HBX.out) id).trans HBX.out); have HTZ := Lib.hid (HTR.out.drew.trans ht); have x4 := cellT ht id x4; clear ht)))
      clear x0 x1 x2 x3 i1 i2
      by_cases hz0 : z = 0
      ·subst hz0
       have HV : Hid (typV x = .tuple #[.int .i64 0, .agg #[.int .i64 x.at_, .int .i64 7]]) := Lib.hid ((typV_of HN.out HKS.out (t := 0) (c := 7) (by rw [HTY.out]; rfl)).2 (by decide))
       go_wp2_with (go_at_call 65; refine (typed1_any 7 x.at_ w.heap.size _ x4).mono ?_; rintro e W9 ⟨rfl, ht⟩; have HT9 := Lib.hid ht; have HB9 := Lib.hid ((ht.block _ (getElem?_lt HBP.out) id).trans HBP.out); obtain ⟨y0, y1, f0, f1⟩ := two_cells HB9.out; clear ht)
       refine bodyPost_ret (results_tp (fn := Tryz.f45) rfl _ _ (w.heap.size + 1) (.int .i64 0) (.int .i64 x.at_) (.int .i64 7) rfl rfl (two_set HB9.out)) rfl ?_
       rw [HV.out]
       exact ⟨rfl, (HTZ.out.trans HT9.out).freshC (((Turned.refl (fun k => k = w.heap.size + 1) W9).setCell rfl _).setCell rfl _) fun i hi => by rw [hi]; exact Nat.le_succ _⟩
      ·have HV : Hid (typV x = .tuple #[.int .i64 z, .agg #[.int .i64 0, .int .i64 0]]) := Lib.hid ((typV_of HN.out HKS.out (t := z) (c := 0) (by rw [HTY.out, if_neg hz0])).1 rfl)
       have hzb : (z == 0) = false := by simpa using hz0
       obtain ⟨y0, y1, f0, f1⟩ := two_cells HBP.out
       go_wp2_with fail
       refine bodyPost_ret (results_tp (fn := Tryz.f45) rfl _ _ (w.heap.size + 1) (.int .i64 z) (.int .i64 0) (.int .i64 0) rfl rfl (two_set HBP.out)) rfl ?_
       rw [HV.out]
       exact ⟨rfl, HTZ.out.freshC (((Turned.refl (fun k => k = w.heap.size + 1) _).setCell rfl _).setCell rfl _) fun i hi => by rw [hi]; exact Nat.le_succ _⟩
     ·have hlb : ((x.kids.length : Int) == 2) = false := by simp; omega
      have HV : Hid (typV x = .tuple #[.int .i64 0, .agg #[.int .i64 x.at_, .int .i64 7]]) := Lib.hid ((typV_of HN.out HKS.out (t := 0) (c := 7) (by
       rw [HT6.out]
       have h := HKL.out
       match ks, h with
       | [], _ => rfl
       | [_], _ => rfl
       | [_, _], h => exact absurd h.symm hl2
       | _ :: _ :: _ :: _, _ => rfl)).2 (by decide))
      clear hl2
      go_wp2_with (go_at_call 65; refine (typed1_any 7 x.at_ w.heap.size wr x4).mono ?_; rintro e W9 ⟨rfl, ht⟩; have HT9 := Lib.hid ht; have HB9 := Lib.hid ((ht.block _ (getElem?_lt HBP.out) id).trans HBP.out); obtain ⟨y0, y1, f0, f1⟩ := two_cells HB9.out; clear ht)
      refine bodyPost_ret (results_tp (fn := Tryz.f45) rfl _ _ (w.heap.size + 1) (.int .i64 0) (.int .i64 x.at_) (.int .i64 7) rfl rfl (two_set HB9.out)) rfl ?_
      rw [HV.out]
      exact ⟨rfl, (HTR.out.trans HT9.out).freshC (((Turned.refl (fun k => k = w.heap.size + 1) W9).setCell rfl _).setCell rfl _) fun i hi => by rw [hi]; exact Nat.le_succ _⟩
mutual
def SmX : Ex -> Prop
 | .mk _ _ s ks _ => s.size <= maxLen /\ ks.length <= 100000 /\ SmXs ks
def SmXs : List Ex -> Prop
 | [] => True
 | x :: r => SmX x /\ SmXs r
end
theorem SmXs.get : ∀ {l : List Ex}, SmXs l -> ∀ y ∈ l, SmX y
 | [], _, y, hy => by simp at hy
 | x :: r, h, y, hy => by
  rw [SmXs] at h
  rcases List.mem_cons.1 hy with rfl | h2
  ·exact h.1
  ·exact h.2.get y h2
theorem SmX.parts {x : Ex} (h : SmX x) : x.s.size <= maxLen /\ x.kids.length <= 100000 /\ ∀ y ∈ x.kids, SmX y := by
 obtain ⟨op, n, s, ks, at_⟩ := x
 rw [SmX] at h
 exact ⟨h.1, h.2.1, h.2.2.get⟩
theorem typed_any : ∀ (m : Nat) (x : Ex), SizeOf.sizeOf x <= m -> SmX x -> ∀ (a : Value) (w : World), KidsAt w (fun _ => True) x.kids a -> Calls Tryz.prog 45 #[exA x a] w fun e w' => e = .returned (typV x) /\ Turned (fun _ => False) w w'
 | 0, x, hm => by cases x; simp at hm
 | m + 1, x, hm => by
  intro sm a w hk
  obtain ⟨s1, s2, s3⟩ := sm.parts
  have HF : ∀ y ∈ x.kids, ∀ (a : Value) (w : World), KidsAt w (fun _ => True) y.kids a -> Calls Tryz.prog 45 #[exA y a] w fun e w' => e = .returned (typV y) /\ Turned (fun _ => False) w w' := fun y hy a w hk => typed_any m y (by
   have h1 := List.sizeOf_lt_of_mem hy
   obtain ⟨p, n, s, ks, at_⟩ := x
   simp only [Ex.mk.sizeOf_spec] at hm
   simp only [Ex.kids] at h1
   omega) (s3 y hy) a w hk
  by_cases h4 : x.op = 4
  ·exact typed_4 x h4 ⟨s1, s2⟩ HF a w hk
  by_cases hb : badX x
  ·exact typed_bad x hb ⟨s1, s2⟩ HF a w hk
  by_cases h1 : x.op = 1
  ·exact typed_1 x hb h4 h1 ⟨s1, s2⟩ HF a w hk
  ·exact typed_N x hb h4 h1 ⟨s1, s2⟩ HF a w hk
end Go.Proofs.YthejfklieedjmaaGreatDoor
