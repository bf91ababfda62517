/- Part 17 of the proof of lawSum.card: QryWalkM. Conditions: those of each theorem. -/
import Derived.Test.YthejfklieedjmaaGreatDoorQs01
import Derived.Test.YthejfklieedjmaaGreatDoorQs15
import Derived.Test.YthejfklieedjmaaGreatDoorQs16
set_option linter.unusedSimpArgs false
set_option maxRecDepth 20000
set_option maxHeartbeats 4000000
namespace Go.Proofs.YthejfklieedjmaaGreatDoor
open Go Go.Proofs Go.RowKit Go.Maps
attribute [local go_sem] Oper.semAt_some
attribute [local go_sem ↓] is_rat is_tick yes_rat yes_tick yes_parts no_tick_rat no_tick_parts no_parts_rat no_parts_tick
theorem Lst.apart {α : Type} {N s c : Nat} {W W' : World} {enc : α -> List Value} {l : List α} {p : Option Addr} {C : Nat -> Prop} (h : Lst N W s enc l p c) (t : Turned C W W') (hp : ∀ g, p = some g -> ¬ C g.block) : Lst N W' s enc l p c :=
 ⟨h.cap, h.mx, fun i x hx => by
  obtain ⟨b, a, h1, h2, h3⟩ := h.cel i x hx
  exact ⟨b, a, h1, h2, fun j v hv => cellT t (hp _ h1) (h3 j v hv)⟩⟩
def AnyBlocks (W : World) (C : Nat -> Prop) : Prop := ∀ g, C g -> ∃ cs, W.heap[g]? = some (.cells cs 20 (0, 0))
theorem PtsAt.apart {W W' : World} {l : List Pt} {v : Value} {C : Nat -> Prop} (h : PtsAt W l v) (t : Turned C W W') (hC : AnyBlocks W C) : PtsAt W' l v := by
 obtain ⟨p, c, rfl, h, hg⟩ := h
 have hn : ∀ g, p = some g -> ¬ C g.block := fun g he h1 => by
  obtain ⟨cs, h2⟩ := hg g he
  obtain ⟨ds, h3⟩ := hC _ h1
  rw [h2] at h3
  simp at h3
 refine ⟨p, c, rfl, (h.apart t hn).mono t.size, fun g he => ?_⟩
 obtain ⟨cs, h2⟩ := hg g he
 exact ⟨cs, (t.block _ (getElem?_lt h2) (hn g he)).trans h2⟩
theorem AnyAt.apart {W W' : World} {q : Qv} {v : Value} {C : Nat -> Prop} (h : AnyAt W q v) (t : Turned C W W') (hC : AnyBlocks W C) : AnyAt W' q v := by
 cases q with
 | num u => exact h
 | tick n => exact h
 | sum l => obtain ⟨s, h1, h2⟩ := h; exact ⟨s, h1, h2.apart t hC⟩
 | wish w => obtain ⟨s, h1, h2⟩ := h; exact ⟨s, h1, h2.apart t hC⟩
theorem AnyAt.shape {W : World} {q : Qv} {v : Value} (h : AnyAt W q v) : ∃ T u, v = .iface T u := by
 cases q with
 | num u => exact ⟨_, _, h⟩
 | tick n => exact ⟨_, _, h⟩
 | sum l => obtain ⟨s, h1, -⟩ := h; exact ⟨_, _, h1⟩
 | wish w => obtain ⟨s, h1, -⟩ := h; exact ⟨_, _, h1⟩
def AnysAt (W : World) (qs : List Qv) (L : List (TypeId × Value)) : Prop := qs.length = L.length /\ ∀ (i : Nat) (q : Qv), qs[i]? = some q -> ∃ z, L[i]? = some z /\ AnyAt W q (.iface z.1 z.2)
theorem AnysAt.turned {W W' : World} {qs : List Qv} {L : List (TypeId × Value)} (h : AnysAt W qs L) (t : Turned (fun _ => False) W W') : AnysAt W' qs L :=
 ⟨h.1, fun i q hq => by
  obtain ⟨z, h1, h2⟩ := h.2 i q hq
  exact ⟨z, h1, h2.turned t⟩⟩
theorem AnysAt.apart {W W' : World} {qs : List Qv} {L : List (TypeId × Value)} {C : Nat -> Prop} (h : AnysAt W qs L) (t : Turned C W W') (hC : AnyBlocks W C) : AnysAt W' qs L :=
 ⟨h.1, fun i q hq => by
  obtain ⟨z, h1, h2⟩ := h.2 i q hq
  exact ⟨z, h1, h2.apart t hC⟩⟩
theorem AnysAt.snoc {W : World} {qs : List Qv} {L : List (TypeId × Value)} {q : Qv} {z : TypeId × Value} (h : AnysAt W qs L) (hq : AnyAt W q (.iface z.1 z.2)) : AnysAt W (qs ++ [q]) (L ++ [z]) := by
 refine ⟨by simp [h.1], fun i r hr => ?_⟩
 rcases Nat.lt_trichotomy i qs.length with hl | hl | hl
 ·rw [List.getElem?_append_left hl] at hr
  obtain ⟨y, h1, h2⟩ := h.2 i r hr
  exact ⟨y, by rw [List.getElem?_append_left (by rw [<- h.1]; exact hl)]; exact h1, h2⟩
 ·subst hl
  rw [List.getElem?_append_right (Nat.le_refl _), Nat.sub_self] at hr
  cases hr
  exact ⟨z, by rw [List.getElem?_append_right (by rw [h.1]; exact Nat.le_refl _), h.1, Nat.sub_self]; rfl, hq⟩
 ·rw [List.getElem?_eq_none (by simp; omega)] at hr
  cases hr
theorem app_anyO (W : World) {ops : Array Oper} {rest : List Oper} {o : Oper} {a : Act} {Q : Exit -> Act -> World -> Prop} (hg : o.guard = none) (so xo : Operand) (hop : o.op = Op.call { callee := Callee.builtin Builtin.append, args := #[so, xo], argTypes := #[147, 147] })
  (base : Nat) (v : Value) (x : TypeId × Value) (L : List (TypeId × Value)) (hs : a.eval so = v) (hx : a.eval xo = .slice (some ⟨W.heap.size, 0, none⟩) 1 1) (hown : Grown W base 20 1 anyCells v L) (hb : base <= W.heap.size) (hl : L.length <= 100000)
  (hK : ∀ p c w', Grown w' base 20 1 anyCells (.slice p (L ++ [x]).length c) (L ++ [x]) -> (∃ C, Turned C W w' /\ AnyBlocks W C /\ ∀ g, C g -> base <= g) -> wpList Tryz.prog ops Q rest (a.put o.dst (.slice p (L ++ [x]).length c)) w') :
  wpList Tryz.prog ops Q (o :: rest) a (W.alloc (.cells #[.iface x.1 x.2] 20)) := by
 obtain ⟨i0, hif, hz0, hz1, hz2⟩ := info_parts infoAny
 have ta : Turned (fun g => v.ownBlock = some g) W (W.alloc (.cells #[.iface x.1 x.2] 20)) := (Turned.refl _ _).alloc _
 have hlf : (L.flatMap anyCells).length = L.length * 1 := flatLen anyCells 1 (fun _ => rfl) L
 refine wpList_append_exact _ hg so xo 147 hop base 20 i0 _ 1 16 Tryz.underlying147 hif hz0 hz1 hz2 (by decide) (by decide) v L.length (L.flatMap anyCells) hs (ownsRow_turned ((Turned.refl (fun _ => False) W).alloc _) (fun k hk => hk.elim) hown) ⟨W.heap.size, 0, none⟩ 1 1 (anyCells x) hx rfl (fun j u hj => ?_) (fun u hu => by simp at hu; subst hu; rfl) (by unfold maxLen; omega) (by omega) (by simp; omega) ?_
 ·have h0 := World.alloc_heap_new W (.cells #[.iface x.1 x.2] 20)
  rw [Addr.add_lit]
  simp only [World.cell?, h0]
  simpa using hj
 ·intro v' w' hown' hgrow hex
  have hg2 : Grown w' base 20 1 anyCells v' (L ++ [x]) := by
   unfold Grown
   rw [List.length_append, List.flatMap_append, show [x].flatMap anyCells = anyCells x by simp]
   exact hown'
  obtain ⟨p, c, rfl⟩ := hg2.shape
  refine hK p c w' hg2 ⟨fun g => v.ownBlock = some g, ta.trans (Turned.of_grown hgrow fun k hk => hk), fun g hg => ?_, fun g hg => (ownsRow_block hown g hg).1⟩
  obtain ⟨-, h2⟩ := hown
  rcases h2 with ⟨rfl, -⟩ | ⟨g', cap, cur, rfl, hb, hh, -⟩
  ·simp [Value.ownBlock] at hg
  ·simp [Value.ownBlock] at hg
   subst hg
   exact ⟨cur, hh⟩
theorem valueE_eq (x : Ex) : valueE x = match valueL x.kids with
  | .error e => .error e
  | .ok xs =>
   if x.op = 1 then .ok (.num (intR x.n))
   else if x.op = 4 then calledN (callNo x.s) xs
   else if x.op = 6 then match xs with
    | [a] => bothP 7 a (.num (intR (-1)))
    | _ => .error 7
   else match xs with
    | [a, b] => bothP x.op a b
    | _ => .error 7 := by cases x; rw [valueE]; rfl
theorem valueE_kidErr {x : Ex} {c : Int} (hk : valueL x.kids = .error c) : valueE x = .error c := by
 rw [valueE_eq, hk]
theorem valueL_fail {l : List Ex} {k : Nat} {y : Ex} {qs : List Qv} {c : Int} (h : valueL (l.take k) = .ok qs) (hy : l[k]? = some y) (he : valueE y = .error c) : valueL l = .error c := by
 induction l generalizing k qs with
 | nil => simp at hy
 | cons x r ih =>
  cases k with
  | zero =>
   simp at hy
   subst hy
   rw [valueL, he]
  | succ k =>
   rw [List.take_succ_cons, valueL] at h
   rw [valueL]
   split at h
   ·cases h
   ·rename_i t ht
    try rw [ht]
    split at h
    ·cases h
    ·rename_i ts hts
     rw [ih hts (by simpa using hy)]
theorem valueL_snoc {l : List Ex} {k : Nat} {y : Ex} {qs : List Qv} {q : Qv} (h : valueL (l.take k) = .ok qs) (hy : l[k]? = some y) (he : valueE y = .ok q) : valueL (l.take (k + 1)) = .ok (qs ++ [q]) := by
 induction l generalizing k qs with
 | nil => simp at hy
 | cons x r ih =>
  cases k with
  | zero =>
   simp at hy
   subst hy
   rw [List.take_zero, valueL] at h
   cases h
   rw [List.take_succ_cons, List.take_zero, valueL, he, valueL]
   rfl
  | succ k =>
   rw [List.take_succ_cons, valueL] at h
   rw [List.take_succ_cons, valueL]
   split at h
   ·cases h
   ·rename_i t1 ht
    try rw [ht]
    split at h
    ·cases h
    ·rename_i ts hts
     cases h
     rw [ih hts (by simpa using hy)]
     rfl
theorem AnysAt.nums {W : World} : ∀ {l : List Rv} {L : List (TypeId × Value)}, AnysAt W (l.map Qv.num) L -> L = l.map numA
 | [], L, h => by
  have h1 := h.1
  simp at h1
  exact List.eq_nil_of_length_eq_zero h1.symm
 | u :: r, [], h => by simpa using h.1
 | u :: r, z :: L, h => by
  obtain ⟨y, h1, h2⟩ := h.2 0 (.num u) rfl
  simp at h1
  subst h1
  have h3 : z = numA u := by
   obtain ⟨T, v⟩ := z
   have h4 : (Value.iface T v) = .iface 31 (ratV u) := h2
   cases h4
   rfl
  rw [List.map_cons, h3, nums (l := r) (L := L) ⟨by simpa using h.1, fun i q hq => by
   obtain ⟨y, h5, h6⟩ := h.2 (i + 1) q (by simpa using hq)
   exact ⟨y, by simpa using h5, h6⟩⟩]
theorem AnysAt.two {W : World} {a b : Qv} {L : List (TypeId × Value)} (h : AnysAt W [a, b] L) : ∃ y z, L = [y, z] /\ AnyAt W a (.iface y.1 y.2) /\ AnyAt W b (.iface z.1 z.2) := by
 obtain ⟨y, h1, h2⟩ := h.2 0 a rfl
 obtain ⟨z, h3, h4⟩ := h.2 1 b rfl
 have h5 := h.1
 match L, h5, h1, h3 with
 | [p, q], _, h1, h3 =>
  cases h1
  cases h3
  exact ⟨_, _, rfl, h2, h4⟩
theorem whole_in (v : Rv) : ∀ n, wholeR v = some n -> -999999999999999 <= n /\ n <= 999999999999999 := by
 intro n h
 unfold wholeR at h
 split at h
 ·rename_i h1
  cases h
  have h2 := h1.1
  unfold maxI at h2
  unfold sgn
  split <;> omega
 ·cases h
theorem AnysAt.one {W : World} {a : Qv} {L : List (TypeId × Value)} (h : AnysAt W [a] L) : ∃ y, L = [y] /\ AnyAt W a (.iface y.1 y.2) := by
 obtain ⟨y, h1, h2⟩ := h.2 0 a rfl
 have h5 := h.1
 match L, h5, h1 with
 | [p], _, h1 =>
  cases h1
  exact ⟨_, rfl, h2⟩
theorem Grown.pts {W : World} {base : Nat} {v : Value} {l : List Pt} (h : Grown W base 51 8 partCells v l) : PtsAt W l v := by
 obtain ⟨p, c, rfl⟩ := h.shape
 refine ⟨p, c, rfl, h.at_ (fun _ => rfl) (Nat.le_refl _), fun g hg => ?_⟩
 obtain ⟨-, h2⟩ := h
 rcases h2 with ⟨h2, -⟩ | ⟨g', cap, cur, hv, -, hh, -⟩
 ·simp only [Value.slice.injEq] at h2
  obtain ⟨rfl, -⟩ := h2
  cases hg
 ·cases hv
  cases hg
  exact ⟨cur, hh⟩
theorem app_parts (W : World) {ops : Array Oper} {rest : List Oper} {o : Oper} {a : Act} {Q : Exit -> Act -> World -> Prop} (hg : o.guard = none) (so xo : Operand) (hop : o.op = Op.call { callee := Callee.builtin Builtin.append, args := #[so, xo], argTypes := #[29, 29] })
  (base N : Nat) (v : Value) (l m : List Pt) (p : Option Addr) (cc : Nat) (hs : a.eval so = v) (hx : a.eval xo = .slice p m.length cc) (hn : m ≠ []) (hown : Grown W base 51 8 partCells v l) (hm : Lst N W 8 partCells m p cc) (hb : base <= W.heap.size) (hl : l.length + m.length <= 40)
  (hK : ∀ v' w', Grown w' base 51 8 partCells v' (l ++ m) -> Turned (fun g => base <= g) W w' -> wpList Tryz.prog ops Q rest (a.put o.dst v') w') :
  wpList Tryz.prog ops Q (o :: rest) a W := by
 obtain ⟨i0, hif, hz0, hz1, hz2⟩ := info_parts infoPart
 obtain ⟨b, r, rfl⟩ := hm.some_of hn
 have h1 : ∀ u ∈ m.flatMap partCells, u.oneCell' = true := fun u hu => by
  obtain ⟨x, -, hx⟩ := List.mem_flatMap.1 hu
  simp at hx
  rcases hx with rfl | rfl | rfl | rfl | rfl | rfl | rfl | rfl <;> rfl
 have hlf := flatLen partCells 8 (fun _ => rfl) l
 refine wpList_append_exact _ hg so xo 29 hop base 51 i0 (partV ⟨zeroR, 0, 0, 0, 0, 0⟩) 8 80 Tryz.underlying29 hif hz0 hz1 hz2 rfl (by decide) v l.length (l.flatMap partCells) hs hown ⟨b, r, none⟩ m.length cc (m.flatMap partCells) hx (flatLen partCells 8 (fun _ => rfl) m) (fun j u hj => ?_) h1 (by unfold maxLen; omega) (by omega) hb ?_
 ·rw [Addr.add_lit]
  exact at_flat (enc := partCells) (fun _ => rfl) hm hj (by decide)
 ·intro v' w' hown' hgrow hex
  refine hK v' w' ?_ (Turned.of_grown hgrow fun k hk => (ownsRow_block hown k hk).1)
  unfold Grown
  rw [List.length_append, List.flatMap_append]
  exact hown'
def Back0 (r : Except Int Qv) (ec : Int) (q : Qv) : Prop := (ec = 0 /\ r = .ok q) \/ r = .error ec
theorem Back0.back {r : Except Int Qv} {ec : Int} {q : Qv} (h : Back0 r ec q) {W : World} {v : Value} (hv : AnyAt W q v) : Back W r (.returned (.tuple #[v, .int .i64 ec])) := by
 rcases h with ⟨rfl, rfl⟩ | rfl
 ·exact Back.ok hv
 ·exact Back.err _ _ _
theorem div_one {v : Rv} (h1 : SzR (intR 1) 2000000) (hv : SzR v 2000000) (hi : SzR (repR (1 / qR v)) 2000000) :
  ∃ (s : Rv) (ec : Int), SzR s 2000000 /\ (∀ V, Calls Tryz.prog 18 #[ratV (intR 1), ratV v] V fun e w' => e = .returned (.tuple #[ratV s, .int .i64 ec]) /\ Turned (fun _ => False) V w') /\ ∀ l, Back0 (bothP 8 (.sum l) (.num v)) ec (.sum (scaledP l s)) := by
 by_cases hz : qR v = 0
 ·exact ⟨zeroR, 1, ⟨by decide, by decide⟩, fun V => qDiv0_any (intR 1) v 2000000 V (by decide) hv hz, fun l => .inr (by simp only [bothP]; rw [if_pos trivial, if_pos hz])⟩
 ·refine ⟨_, 0, hi, fun V => ?_, fun l => .inl ⟨rfl, by simp only [bothP]; rw [if_pos trivial, if_neg hz]⟩⟩
  have h := qDiv_any (intR 1) v 2000000 V (by decide) (by decide) h1 hv hz
  rwa [show qR (intR 1) = 1 from qR_repR 1] at h
theorem AnysAt.nil {W : World} {L : List (TypeId × Value)} (h : AnysAt W [] L) : L = [] := List.eq_nil_of_length_eq_zero h.1.symm
theorem AnysAt.tail {W : World} {q : Qv} {t : List Qv} {L : List (TypeId × Value)} (h : AnysAt W (q :: t) L) : ∃ z M, L = z :: M /\ AnyAt W q (.iface z.1 z.2) /\ AnysAt W t M := by
 obtain ⟨z, h1, h2⟩ := h.2 0 q rfl
 cases L with
 | nil => simp at h1
 | cons y M =>
  simp at h1
  subst h1
  exact ⟨y, M, rfl, h2, by simpa using h.1, fun i r hr => by
   obtain ⟨x, h5, h6⟩ := h.2 (i + 1) r (by simpa using hr)
   exact ⟨x, by simpa using h5, h6⟩⟩
theorem AnysAt.num {W : World} {u : Rv} {t : List Qv} {L : List (TypeId × Value)} (h : AnysAt W (.num u :: t) L) : ∃ M, L = numA u :: M /\ AnysAt W t M := by
 obtain ⟨⟨T, v⟩, M, rfl, h1, h2⟩ := h.tail
 have h3 : Value.iface T v = .iface 31 (ratV u) := h1
 cases h3
 exact ⟨M, rfl, h2⟩
theorem AnysAt.tick {W : World} {n : Int} {t : List Qv} {L : List (TypeId × Value)} (h : AnysAt W (.tick n :: t) L) : ∃ M, L = tickA n :: M /\ AnysAt W t M := by
 obtain ⟨⟨T, v⟩, M, rfl, h1, h2⟩ := h.tail
 have h3 : Value.iface T v = .iface 79 (.int .i64 n) := h1
 cases h3
 exact ⟨M, rfl, h2⟩
theorem map_num {qs : List Qv} {r : List Int} (h : qs.map tyOf = 1 :: r) : ∃ u t, qs = .num u :: t /\ t.map tyOf = r := by
 cases qs with
 | nil => simp at h
 | cons q t =>
  simp only [List.map_cons, List.cons.injEq] at h
  cases q with
  | num u => exact ⟨u, t, rfl, h.2⟩
  | tick n => exact absurd h.1 (by simp [tyOf])
  | sum l => exact absurd h.1 (by simp [tyOf])
  | wish w => exact absurd h.1 (by simp [tyOf])
theorem map_tick {qs : List Qv} {r : List Int} (h : qs.map tyOf = 2 :: r) : ∃ n t, qs = .tick n :: t /\ t.map tyOf = r := by
 cases qs with
 | nil => simp at h
 | cons q t =>
  simp only [List.map_cons, List.cons.injEq] at h
  cases q with
  | num u => exact absurd h.1 (by simp [tyOf])
  | tick n => exact ⟨n, t, rfl, h.2⟩
  | sum l => exact absurd h.1 (by simp [tyOf])
  | wish w => exact absurd h.1 (by simp [tyOf])
theorem map_nil {qs : List Qv} (h : qs.map tyOf = []) : qs = [] := by simpa using h
def ClB (W : World) (f v : Value) (r : Except Int Qv) : Prop :=
 (f = .func (.func 101) #[] #[] /\ Calls Tryz.prog 101 #[v] W fun e w' => BackT W w' r e) \/ (f = .func (.func 104) #[] #[] /\ Calls Tryz.prog 104 #[v] W fun e w' => BackT W w' r e) \/
 (f = .func (.func 107) #[] #[] /\ Calls Tryz.prog 107 #[v] W fun e w' => BackT W w' r e) \/ (f = .func (.func 108) #[] #[] /\ Calls Tryz.prog 108 #[v] W fun e w' => BackT W w' r e) \/
 ∃ kb, (f = .func (.func 140) #[] #[.pointer (some ⟨kb, 0, none⟩)] /\ Calls Tryz.prog 140 #[v, .pointer (some ⟨kb, 0, none⟩)] W fun e w' => BackT W w' r e) \/ (f = .func (.func 141) #[] #[.pointer (some ⟨kb, 0, none⟩)] /\ Calls Tryz.prog 141 #[v, .pointer (some ⟨kb, 0, none⟩)] W fun e w' => BackT W w' r e)
theorem call_value {W : World} {B k : Nat} {f : Value} {qs : List Qv} {L : List (TypeId × Value)} {as_ : List Int} {ty : Int} {p : Option Addr} {c : Nat} (hf : FnB B W k f) (hk : sigN k = some (as_, ty)) (hq : qs.map tyOf = as_) (hA : AnysAt W qs L) (hL : Lst W.heap.size W 1 anyCells L p c) (hT : TabOK W)
  (hs : ∀ u, Qv.num u ∈ qs -> SzR u 100000000) : ClB W f (.slice p L.length c) (calledN k qs) := by
 rcases hf with ⟨rfl, rfl⟩ | ⟨rfl, rfl⟩ | ⟨rfl, rfl⟩ | ⟨rfl, rfl⟩ | ⟨kb, -, ⟨h2, h4, rfl, hb⟩ | ⟨h5, h6, rfl, hb⟩⟩
 ·cases hk
  obtain ⟨y, q1, rfl, h1q⟩ := map_num hq
  obtain ⟨m, q2, rfl, h2q⟩ := map_num h1q
  obtain ⟨d, q3, rfl, h3q⟩ := map_num h2q
  cases map_nil h3q
  obtain ⟨L4, rfl, a4⟩ := hA.num
  obtain ⟨L5, rfl, a5⟩ := a4.num
  obtain ⟨L6, rfl, a6⟩ := a5.num
  cases a6.nil
  exact .inl ⟨rfl, call_day y m d p c W hT hL ⟨hs _ (by simp), hs _ (by simp), hs _ (by simp)⟩⟩
 ·cases hk
  obtain ⟨y, q1, rfl, h1q⟩ := map_num hq
  cases map_nil h1q
  obtain ⟨L2, rfl, a2⟩ := hA.num
  cases a2.nil
  exact .inr (.inl ⟨rfl, call_tick y p c W hL (hs _ (by simp))⟩)
 ·cases hk
  obtain ⟨y, q1, rfl, h1q⟩ := map_num hq
  obtain ⟨m, q2, rfl, h2q⟩ := map_num h1q
  obtain ⟨t, q3, rfl, h3q⟩ := map_tick h2q
  obtain ⟨u, q4, rfl, h4q⟩ := map_tick h3q
  cases map_nil h4q
  obtain ⟨L5, rfl, a5⟩ := hA.num
  obtain ⟨L6, rfl, a6⟩ := a5.num
  obtain ⟨L7, rfl, a7⟩ := a6.tick
  obtain ⟨L8, rfl, a8⟩ := a7.tick
  cases a8.nil
  exact .inr (.inr (.inl ⟨rfl, call_above y m t u p c W hL (hs _ (by simp))⟩))
 ·cases hk
  obtain ⟨y, q1, rfl, h1q⟩ := map_num hq
  obtain ⟨m, q2, rfl, h2q⟩ := map_num h1q
  obtain ⟨d, q3, rfl, h3q⟩ := map_num h2q
  obtain ⟨z, q4, rfl, h4q⟩ := map_num h3q
  obtain ⟨k, q5, rfl, h5q⟩ := map_num h4q
  obtain ⟨t, q6, rfl, h6q⟩ := map_tick h5q
  obtain ⟨u, q7, rfl, h7q⟩ := map_tick h6q
  cases map_nil h7q
  obtain ⟨L8, rfl, a8⟩ := hA.num
  obtain ⟨L9, rfl, a9⟩ := a8.num
  obtain ⟨L10, rfl, a10⟩ := a9.num
  obtain ⟨L11, rfl, a11⟩ := a10.num
  obtain ⟨L12, rfl, a12⟩ := a11.num
  obtain ⟨L13, rfl, a13⟩ := a12.tick
  obtain ⟨L14, rfl, a14⟩ := a13.tick
  cases a14.nil
  exact .inr (.inr (.inr (.inl ⟨rfl, call_both y m d z k t u p c W hL ⟨hs _ (by simp), hs _ (by simp), hs _ (by simp)⟩⟩)))
 ·have hc : W.cell? ⟨kb, 0, none⟩ = some (.int .i64 ((k : Int) - 1)) := by simp [World.cell?, hb]
  rcases (show k = 2 \/ k = 3 \/ k = 4 by omega) with rfl | rfl | rfl
  ·cases hk
   obtain ⟨y, q0, rfl, hq0⟩ := map_num hq
   obtain ⟨t, q8, rfl, hq8⟩ := map_tick hq0
   obtain ⟨u, q9, rfl, hq9⟩ := map_tick hq8
   cases map_nil hq9
   obtain ⟨L0, rfl, a0⟩ := hA.num
   obtain ⟨L8, rfl, a8⟩ := a0.tick
   obtain ⟨L9, rfl, a9⟩ := a8.tick
   cases a9.nil
   exact .inr (.inr (.inr (.inr ⟨kb, .inl ⟨rfl, call_part 1 [y] t u p c kb W hc hL (by simp) (by simp) fun u hu => hs u (by simp at hu ⊢; exact hu)⟩⟩)))
  ·cases hk
   obtain ⟨y, q0, rfl, hq0⟩ := map_num hq
   obtain ⟨m, q1, rfl, hq1⟩ := map_num hq0
   obtain ⟨t, q8, rfl, hq8⟩ := map_tick hq1
   obtain ⟨u, q9, rfl, hq9⟩ := map_tick hq8
   cases map_nil hq9
   obtain ⟨L0, rfl, a0⟩ := hA.num
   obtain ⟨L1, rfl, a1⟩ := a0.num
   obtain ⟨L8, rfl, a8⟩ := a1.tick
   obtain ⟨L9, rfl, a9⟩ := a8.tick
   cases a9.nil
   exact .inr (.inr (.inr (.inr ⟨kb, .inl ⟨rfl, call_part 2 [y, m] t u p c kb W hc hL (by simp) (by simp) fun u hu => hs u (by simp at hu ⊢; exact hu)⟩⟩)))
  ·cases hk
   obtain ⟨y, q0, rfl, hq0⟩ := map_num hq
   obtain ⟨t, q8, rfl, hq8⟩ := map_tick hq0
   obtain ⟨u, q9, rfl, hq9⟩ := map_tick hq8
   cases map_nil hq9
   obtain ⟨L0, rfl, a0⟩ := hA.num
   obtain ⟨L8, rfl, a8⟩ := a0.tick
   obtain ⟨L9, rfl, a9⟩ := a8.tick
   cases a9.nil
   exact .inr (.inr (.inr (.inr ⟨kb, .inl ⟨rfl, call_part 3 [y] t u p c kb W hc hL (by simp) (by simp) fun u hu => hs u (by simp at hu ⊢; exact hu)⟩⟩)))
 ·have hc : W.cell? ⟨kb, 0, none⟩ = some (.int .i64 ((k : Int) - 3)) := by simp [World.cell?, hb]
  rcases (show k = 5 \/ k = 6 by omega) with rfl | rfl
  all_goals
   cases hk
   obtain ⟨y, q1, rfl, h1q⟩ := map_num hq
   obtain ⟨t, q2, rfl, h2q⟩ := map_tick h1q
   obtain ⟨u, q3, rfl, h3q⟩ := map_tick h2q
   cases map_nil h3q
   obtain ⟨L4, rfl, a4⟩ := hA.num
   obtain ⟨L5, rfl, a5⟩ := a4.tick
   obtain ⟨L6, rfl, a6⟩ := a5.tick
   cases a6.nil
   refine .inr (.inr (.inr (.inr ⟨kb, .inr ⟨rfl, ?_⟩⟩)))
  ·exact call_extreme 2 y t u p c kb W hc hL (hs _ (by simp))
  ·exact call_extreme 3 y t u p c kb W hc hL (hs _ (by simp))
theorem CM.fn {W w : World} {B : Nat} {vs : List Value} (h : CM W w B vs) (hl : vs.length = 9) {s : ByteArray} (hs : s.size <= maxLen) {as_ : List Int} {ty : Int} (hg : sigP s = some (as_, ty)) :
  ∃ va vb f, (Instr.lookup 135 (.map (some B)) (.string s) false).run Tryz.prog w = .ok (.agg #[va, vb, f]) w /\ FnB B w (callNo s) f := by
 rcases h.look hl hs with ⟨v, ⟨b, cs, c, as2, ty2, f, h1, rfl, h3, h4, h5, h6, -, h9⟩, -, -, h7⟩ | ⟨h1, -⟩
 ·exact ⟨_, _, _, h7, h9⟩
 ·unfold sigP at hg
  rw [h1] at hg
  cases hg
theorem TabOK.newer {W V : World} (h : TabOK W) (t : Turned (fun k => W.heap.size <= k) W V) : TabOK V := fun i hi => cellT t (Nat.not_le_of_lt (cellLt (h i hi))) (h i hi)
theorem PtsAt.newer {W V : World} {l : List Pt} {v : Value} (h : PtsAt W l v) (t : Turned (fun k => W.heap.size <= k) W V) : PtsAt V l v := by
 obtain ⟨p, c, rfl, h, hg⟩ := h
 refine ⟨p, c, rfl, (h.same (t.same (Nat.le_refl _) fun k hk => Nat.not_le_of_lt hk)).mono t.size, fun g he => ?_⟩
 obtain ⟨cs, h1⟩ := hg g he
 exact ⟨cs, (t.block _ (getElem?_lt h1) (Nat.not_le_of_lt (getElem?_lt h1))).trans h1⟩
theorem AnyAt.newer {W V : World} {q : Qv} {v : Value} (h : AnyAt W q v) (t : Turned (fun k => W.heap.size <= k) W V) : AnyAt V q v := by
 cases q with
 | num u => exact h
 | tick n => exact h
 | sum l => obtain ⟨s, h1, h2⟩ := h; exact ⟨s, h1, h2.newer t⟩
 | wish w => obtain ⟨s, h1, h2⟩ := h; exact ⟨s, h1, h2.newer t⟩
theorem AnysAt.newer {W V : World} {qs : List Qv} {L : List (TypeId × Value)} (h : AnysAt W qs L) (t : Turned (fun k => W.heap.size <= k) W V) : AnysAt V qs L :=
 ⟨h.1, fun i q hq => by
  obtain ⟨z, h1, h2⟩ := h.2 i q hq
  exact ⟨z, h1, h2.newer t⟩⟩
theorem run_field_call (a b c : Value) (W : World) : (Instr.field 133 (.agg #[a, b, c]) 2).run Tryz.prog W = .ok c W := by kernel_rfl
inductive VC (x : Ex) : Prop where
 | bad (c : Int) (h : valueL x.kids = .error c)
 | one (h1 : x.op = 1) (hn : 0 <= x.n /\ x.n <= maxI)
 | nn10 (u v : Rv) (hop : x.op = 10) (hqs : valueL x.kids = .ok [.num u, .num v]) (hu : SzR u 2000000) (hv : SzR v 2000000)
 | nn11 (u v : Rv) (hop : x.op = 11) (hqs : valueL x.kids = .ok [.num u, .num v]) (hu : SzR u 2000000) (hv : SzR v 2000000)
 | nn7 (u v : Rv) (hop : x.op = 7) (hqs : valueL x.kids = .ok [.num u, .num v]) (hu : SzR u 2000000) (hv : SzR v 2000000)
 | nn8 (u v : Rv) (hop : x.op = 8) (hqs : valueL x.kids = .ok [.num u, .num v]) (hu : SzR u 2000000) (hv : SzR v 2000000) (hz : qR v ≠ 0)
 | nn8z (u v : Rv) (hop : x.op = 8) (hqs : valueL x.kids = .ok [.num u, .num v]) (hu : SzR u 2000000) (hv : SzR v 2000000) (hz : qR v = 0)
 | tt (s t : Int) (hop : x.op = 11) (hqs : valueL x.kids = .ok [.tick s, .tick t]) (hs : 0 <= s /\ s <= maxT) (ht : 0 <= t /\ t <= maxT)
 | tn10 (s : Int) (v : Rv) (hop : x.op = 10) (hqs : valueL x.kids = .ok [.tick s, .num v]) (hs : 0 <= s /\ s <= maxT) (hv : SzR v 2000000)
 | tn11 (s : Int) (v : Rv) (hop : x.op = 11) (hqs : valueL x.kids = .ok [.tick s, .num v]) (hs : 0 <= s /\ s <= maxT) (hv : SzR v 2000000)
 | ns7 (l : List Pt) (v : Rv) (hop : x.op = 7) (hqs : valueL x.kids = .ok [.num v, .sum l]) (hl : l ≠ [] /\ l.length <= 40 /\ ∀ p ∈ l, SzR p.coef 2000000) (hv : SzR v 2000000)
 | sn7 (l : List Pt) (v : Rv) (hop : x.op = 7) (hqs : valueL x.kids = .ok [.sum l, .num v]) (hl : l ≠ [] /\ l.length <= 40 /\ ∀ p ∈ l, SzR p.coef 2000000) (hv : SzR v 2000000)
 | ngn (u : Rv) (hop : x.op = 6) (hqs : valueL x.kids = .ok [.num u]) (hu : SzR u 2000000) (hsm : SzR (intR (-1)) 2000000)
 | ngs (l : List Pt) (hop : x.op = 6) (hqs : valueL x.kids = .ok [.sum l]) (hl : l ≠ [] /\ l.length <= 40 /\ ∀ p ∈ l, SzR p.coef 2000000) (hsm : SzR (intR (-1)) 2000000)
 | ss10 (l m : List Pt) (hop : x.op = 10) (hqs : valueL x.kids = .ok [.sum l, .sum m]) (hl : l ≠ [] /\ l.length <= 40 /\ ∀ p ∈ l, SzR p.coef 2000000) (hm : m ≠ [] /\ m.length <= 40 /\ ∀ p ∈ m, SzR p.coef 2000000)
 | ss11 (l m : List Pt) (hop : x.op = 11) (hqs : valueL x.kids = .ok [.sum l, .sum m]) (hl : l ≠ [] /\ l.length <= 40 /\ ∀ p ∈ l, SzR p.coef 2000000) (hm : m ≠ [] /\ m.length <= 40 /\ ∀ p ∈ m, SzR p.coef 2000000) (hsm : SzR (intR (-1)) 2000000)
 | sn8 (l : List Pt) (v : Rv) (hop : x.op = 8) (hqs : valueL x.kids = .ok [.sum l, .num v]) (hl : l ≠ [] /\ l.length <= 40 /\ ∀ p ∈ l, SzR p.coef 2000000) (hv : SzR v 2000000) (h1 : SzR (intR 1) 2000000) (hi : SzR (repR (1 / qR v)) 2000000)
 | call (qs0 : List Qv) (as_ : List Int) (ty : Int) (hop : x.op = 4) (hqs : valueL x.kids = .ok qs0) (hsig : sigP x.s = some (as_, ty)) (hty : qs0.map tyOf = as_) (hs : ∀ u, Qv.num u ∈ qs0 -> SzR u 100000000)
theorem value_step (x : Ex) (hc : VC x) (sm : x.s.size <= maxLen /\ x.kids.length <= 100000) (HFK : ∀ y ∈ x.kids, ∀ (a : Value) (w : World), TabOK w -> KidsAt w (fun _ => True) y.kids a -> Calls Tryz.prog 51 #[exA y a] w fun e w' => Back w' (valueE y) e /\ Turned (fun _ => False) w w') (a : Value) (w : World) (hT : TabOK w) (hk : KidsAt w (fun _ => True) x.kids a) : Calls Tryz.prog 51 #[exA x a] w fun e w' => Back w' (valueE x) e /\ Turned (fun _ => False) w w' := by
 have HF := Lib.hid HFK
 have HS := Lib.hid sm
 have HTB := Lib.hid hT
 clear hT
 obtain ⟨pa, ca, rfl⟩ := hk.shape
 have hlk := hk.len
 unfold maxLen at hlk
 have HK := Lib.hid hk
 obtain ⟨w1, hw1⟩ : ∃ w1, w1 = w.alloc (.cells #[.int .i64 x.op, .int .i64 x.n, .string x.s, .slice pa x.kids.length ca, .int .i64 x.at_] 42) := ⟨_, rfl⟩
 have HW := Lib.hid hw1
 have HB : Hid (w1.heap[w.heap.size]? = some (.cells #[.int .i64 x.op, .int .i64 x.n, .string x.s, .slice pa x.kids.length ca, .int .i64 x.at_] 42 (0, 0))) := Lib.hid (by rw [hw1]; exact World.alloc_heap_new _ _)
 have HT : Hid (Turned (fun _ => False) w w1) := Lib.hid (by rw [hw1]; exact (Turned.refl _ _).alloc _)
 have HSZ : Hid (w1.heap.size = w.heap.size + 1) := Lib.hid (by rw [hw1]; simp)
 clear hk hw1 sm HFK
 have HCASE := Lib.hid hc
 clear hc
 unfold exA
 go_enter Tryz.func51, Tryz.ntmps51
 go_upto_region 3 with fail
 rw [<- HW.out]
 clear HW
 go_loopw [4, 29] (fun v i wr => ∃ (k : Nat) (p : Option Addr) (c : Nat), k <= x.kids.length /\ v = .slice p k c /\ i = (.int .i64 k) /\ Hid (Turned (fun _ => False) w1 wr /\ ∃ L qs, L.length = k /\ valueL (x.kids.take k) = .ok qs /\ Grown wr w1.heap.size 20 1 anyCells (.slice p k c) L /\ AnysAt wr qs L)) (fun _ i _ => x.kids.length - (intOf i).toNat)
 case atStart => exact ⟨0, none, 0, by omega, rfl, rfl, Lib.hid ⟨Turned.refl _ _, [], [], rfl, by rw [List.take_zero, valueL], Grown.nil _ _ _ _ _, rfl, fun i q h => by simp at h⟩⟩
 case round =>
  obtain ⟨k, p, c, hk, rfl, rfl, HR⟩ := hrel
  obtain ⟨x0, x1, x2, x3, x4⟩ := cellsFive ((HR.out.1.block _ (getElem?_lt HB.out) id).trans HB.out)
  by_cases hlt : k < x.kids.length
  ·have hix : (k : Int) < (x.kids.length : Int) := by omega
   obtain ⟨y, hy⟩ := some_of_lt hlt
   obtain ⟨yb, ya, yk, rfl, ⟨y0, y1, y2, y3, y4⟩, HKy⟩ := kidsAt_get (HK.out.all (HT.out.trans HR.out.1)) hy
   obtain ⟨py, cy, rfl⟩ := HKy.shape
   have tV : Turned (fun _ => False) wr (wr.alloc (.cells #[.int .i64 y.op, .int .i64 y.n, .string y.s, .slice py y.kids.length cy, .int .i64 y.at_] 42)) := (Turned.refl _ _).alloc _
   have HCY := Lib.hid (HF.out y (List.mem_of_getElem? hy) _ _ (HTB.out.turned ((HT.out.trans HR.out.1).trans tV)) (HKy.all tV))
   have HTV := Lib.hid tV
   have HY := Lib.hid hy
   unfold exA at HCY
   clear hy HKy tV
   cases hty : valueE y with
   | error e =>
    rw [hty] at HCY
    have HV : Hid (valueE x = .error e) := Lib.hid (by
     obtain ⟨-, L, qs, -, hks, -⟩ := HR.out
     exact valueE_kidErr (valueL_fail hks HY.out hty))
    have hnb : (e == 0) = false := by have := value_err hty; simp; omega
    have hE1 : errOf (.error e) = e := rfl
    clear hty
    go_wp2_with (go_at_call 51; refine HCY.out.mono ?_; rintro e9 W9 ⟨⟨v9, rfl, -⟩, ht⟩; have HT9 := Lib.hid (HR.out.1.trans (HTV.out.trans ht)); clear ht)
    go_ret2
    rw [HV.out]
    exact ⟨Back.err _ _ _, HT.out.trans HT9.out⟩
   | ok q =>
    rw [hty] at HCY
    have HTY := Lib.hid hty
    have hE1 : errOf (.ok q) = 0 := rfl
    clear hty
    go_upto_region 8 with (go_at_call 51; refine HCY.out.mono ?_; rintro e9 W9 ⟨⟨v9, rfl, hq9⟩, ht⟩; obtain ⟨T9, u9, rfl⟩ := (hq9 q rfl).shape; have HQ9 := Lib.hid (hq9 q rfl); have HT9 := Lib.hid (HR.out.1.trans (HTV.out.trans ht)); have HTW := Lib.hid (HTV.out.trans ht); clear ht hq9)
    obtain ⟨-, L, qs, hkl, hks, hgr, han⟩ := HR.out
    have HKS := Lib.hid hks
    have HG := Lib.hid (hgr.turned HTW.out fun _ h => h.elim)
    have HAN := Lib.hid (han.turned HTW.out)
    have hklen : k <= 100000 := Nat.le_trans hk HS.out.2
    subst hkl
    clear hks hgr han
    go_wp2_with (at_builtin; (refine app_anyO W9 rfl _ _ rfl w1.heap.size (.slice p L.length c) (T9, u9) L rfl rfl HG.out HT9.out.size hklen ?_); intro p2 c2 W3 hg3 ht3; have HG3 := Lib.hid hg3; have HT3 := Lib.hid ht3; clear hg3 ht3)
    go_roundw
    case rel =>
     refine ⟨L.length + 1, p2, c2, by omega, by simp, by go_num, Lib.hid ?_⟩
     obtain ⟨C, t3, hC, hCb⟩ := HT3.out
     exact ⟨HT9.out.fresh t3 hCb, L ++ [(T9, u9)], qs ++ [q], by simp, valueL_snoc HKS.out HY.out HTY.out, by have h := HG3.out; simpa using h, (HAN.out.apart t3 hC).snoc (HQ9.out.apart t3 hC)⟩
    case measure => simp [intOf]; omega
  ·have hix : ¬ (k : Int) < (x.kids.length : Int) := by omega
   obtain rfl : k = x.kids.length := by omega
   obtain ⟨L, qs, HKL, HKS, HG, HAN⟩ : ∃ (L : List (TypeId × Value)) (qs : List Qv), Hid (L.length = x.kids.length) /\ Hid (valueL x.kids = .ok qs) /\ Hid (Grown wr w1.heap.size 20 1 anyCells (.slice p x.kids.length c) L) /\ Hid (AnysAt wr qs L) := by
    obtain ⟨-, L, qs, h1, h2, h3, h4⟩ := HR.out
    rw [List.take_length] at h2
    exact ⟨L, qs, Lib.hid h1, Lib.hid h2, Lib.hid h3, Lib.hid h4⟩
   have HTR := Lib.hid (HT.out.trans HR.out.1)
   clear hlt
   cases HCASE.out with
   | bad c h =>
    have h2 := HKS.out
    rw [h] at h2
    cases h2
   | one h1 hn =>
    clear HCASE
    have HN := Lib.hid hn
    clear hn
    have b1 : (x.op == 1) = true := by simpa using h1
    have H1 := Lib.hid h1
    clear h1
    have HV : Hid (valueE x = .ok (.num (intR x.n))) := Lib.hid (by rw [valueE_eq, HKS.out, H1.out]; rfl)
    have HQ := Lib.hid (fun V : World => qIntZ_any x.n V (by have h := HN.out.1; omega) (by have h := HN.out.2; unfold maxI at h; omega))
    go_wp2_with (go_at_call 17; refine (HQ.out _).mono ?_; rintro e W9 ⟨rfl, ht⟩; have HT9 := Lib.hid (HTR.out.trans ht); clear ht)
    go_ret2
    rw [HV.out]
    exact ⟨Back.ok rfl, HT9.out⟩
   | nn10 u v hop hqs hu hv =>
    clear HCASE
    have HU := Lib.hid (And.intro hu hv)
    have HQS := Lib.hid hqs
    have HX := Lib.hid hop
    clear hu hv hqs
    have b1 : (x.op == 1) = false := by rw [hop]; rfl
    have b4 : (x.op == 4) = false := by rw [hop]; rfl
    have b6 : (x.op == 6) = false := by rw [hop]; rfl
    have b10 : (x.op == 10) = true := by rw [hop]; rfl
    have b11 : (x.op == 11) = false := by rw [hop]; rfl
    have b7 : (x.op == 7) = false := by rw [hop]; rfl
    have b8 : (x.op == 8) = false := by rw [hop]; rfl
    clear hop
    obtain rfl : qs = [.num u, .num v] := by
     have h := HKS.out
     rw [HQS.out] at h
     cases h
     rfl
    have HL : Hid (L = [numA u, numA v]) := Lib.hid (HAN.out.nums (l := [u, v]))
    have hl2 : L.length = 2 := by rw [HL.out]; rfl
    have HV : Hid (valueE x = .ok (.num (repR (qR u + qR v)))) := Lib.hid (by rw [valueE_eq, HQS.out, HX.out]; rfl)
    have HA : Hid (Lst wr.heap.size wr 1 anyCells [numA u, numA v] p c) := Lib.hid (by
     rw [<- HL.out]
     exact (show Grown wr w1.heap.size 20 1 anyCells (.slice p L.length c) L by rw [HKL.out]; exact HG.out).at_ (fun _ => rfl) (Nat.le_refl _))
    obtain ⟨g, r, rfl, -, i0⟩ := HA.out.anys (i := 0) rfl
    obtain ⟨g', r', h8, -, i1⟩ := HA.out.anys (i := 1) rfl
    cases h8
    simp only [numA, Nat.add_zero] at i0 i1
    have hn0n : 0 < x.kids.length := by rw [<- HKL.out, hl2]; decide
    have hn0 : (0 : Int) < (x.kids.length : Int) := by omega
    have hn1 : (1 : Int) < (x.kids.length : Int) := by rw [<- HKL.out, hl2]; decide
    clear hl2
    have HQ := Lib.hid (fun V : World => qAdd_any u v 2000000 V (by decide) (by decide) HU.out.1 HU.out.2)
    obtain ⟨un, ux, ud⟩ := u
    obtain ⟨vn, vx, vd⟩ := v
    have i1a := cellT ((Turned.refl (fun _ => False) wr).alloc (.cells #[.bool un, .string ux, .string ud] 31)) id i1
    have x0a := cellT (((Turned.refl (fun _ => False) wr).alloc (.cells #[.bool un, .string ux, .string ud] 31)).alloc (.cells #[.bool vn, .string vx, .string vd] 31)) id x0
    go_wp2_with (go_at_call 82; refine (HQ.out _).mono ?_; rintro e W9 ⟨rfl, ht⟩; have HT9 := Lib.hid (((HTR.out.alloc _).alloc _).trans ht); clear ht)
    go_ret2
    rw [HV.out]
    exact ⟨Back.ok rfl, HT9.out⟩
   | nn11 u v hop hqs hu hv =>
    clear HCASE
    have HU := Lib.hid (And.intro hu hv)
    have HQS := Lib.hid hqs
    have HX := Lib.hid hop
    clear hu hv hqs
    have b1 : (x.op == 1) = false := by rw [hop]; rfl
    have b4 : (x.op == 4) = false := by rw [hop]; rfl
    have b6 : (x.op == 6) = false := by rw [hop]; rfl
    have b10 : (x.op == 10) = false := by rw [hop]; rfl
    have b11 : (x.op == 11) = true := by rw [hop]; rfl
    have b7 : (x.op == 7) = false := by rw [hop]; rfl
    have b8 : (x.op == 8) = false := by rw [hop]; rfl
    clear hop
    obtain rfl : qs = [.num u, .num v] := by
     have h := HKS.out
     rw [HQS.out] at h
     cases h
     rfl
    have HL : Hid (L = [numA u, numA v]) := Lib.hid (HAN.out.nums (l := [u, v]))
    have hl2 : L.length = 2 := by rw [HL.out]; rfl
    have HV : Hid (valueE x = .ok (.num (repR (qR u - qR v)))) := Lib.hid (by rw [valueE_eq, HQS.out, HX.out]; rfl)
    have HA : Hid (Lst wr.heap.size wr 1 anyCells [numA u, numA v] p c) := Lib.hid (by
     rw [<- HL.out]
     exact (show Grown wr w1.heap.size 20 1 anyCells (.slice p L.length c) L by rw [HKL.out]; exact HG.out).at_ (fun _ => rfl) (Nat.le_refl _))
    obtain ⟨g, r, rfl, -, i0⟩ := HA.out.anys (i := 0) rfl
    obtain ⟨g', r', h8, -, i1⟩ := HA.out.anys (i := 1) rfl
    cases h8
    simp only [numA, Nat.add_zero] at i0 i1
    have hn0n : 0 < x.kids.length := by rw [<- HKL.out, hl2]; decide
    have hn0 : (0 : Int) < (x.kids.length : Int) := by omega
    have hn1 : (1 : Int) < (x.kids.length : Int) := by rw [<- HKL.out, hl2]; decide
    clear hl2
    have HQ := Lib.hid (fun V : World => qSub_any u v 2000000 V (by decide) (by decide) HU.out.1 HU.out.2)
    obtain ⟨un, ux, ud⟩ := u
    obtain ⟨vn, vx, vd⟩ := v
    have i1a := cellT ((Turned.refl (fun _ => False) wr).alloc (.cells #[.bool un, .string ux, .string ud] 31)) id i1
    have x0a := cellT (((Turned.refl (fun _ => False) wr).alloc (.cells #[.bool un, .string ux, .string ud] 31)).alloc (.cells #[.bool vn, .string vx, .string vd] 31)) id x0
    go_wp2_with (go_at_call 83; refine (HQ.out _).mono ?_; rintro e W9 ⟨rfl, ht⟩; have HT9 := Lib.hid (((HTR.out.alloc _).alloc _).trans ht); clear ht)
    go_ret2
    rw [HV.out]
    exact ⟨Back.ok rfl, HT9.out⟩
   | nn7 u v hop hqs hu hv =>
    clear HCASE
    have HU := Lib.hid (And.intro hu hv)
    have HQS := Lib.hid hqs
    have HX := Lib.hid hop
    clear hu hv hqs
    have b1 : (x.op == 1) = false := by rw [hop]; rfl
    have b4 : (x.op == 4) = false := by rw [hop]; rfl
    have b6 : (x.op == 6) = false := by rw [hop]; rfl
    have b10 : (x.op == 10) = false := by rw [hop]; rfl
    have b11 : (x.op == 11) = false := by rw [hop]; rfl
    have b7 : (x.op == 7) = true := by rw [hop]; rfl
    have b8 : (x.op == 8) = false := by rw [hop]; rfl
    clear hop
    obtain rfl : qs = [.num u, .num v] := by
     have h := HKS.out
     rw [HQS.out] at h
     cases h
     rfl
    have HL : Hid (L = [numA u, numA v]) := Lib.hid (HAN.out.nums (l := [u, v]))
    have hl2 : L.length = 2 := by rw [HL.out]; rfl
    have HV : Hid (valueE x = .ok (.num (mulR u v))) := Lib.hid (by rw [valueE_eq, HQS.out, HX.out]; rfl)
    have HA : Hid (Lst wr.heap.size wr 1 anyCells [numA u, numA v] p c) := Lib.hid (by
     rw [<- HL.out]
     exact (show Grown wr w1.heap.size 20 1 anyCells (.slice p L.length c) L by rw [HKL.out]; exact HG.out).at_ (fun _ => rfl) (Nat.le_refl _))
    obtain ⟨g, r, rfl, -, i0⟩ := HA.out.anys (i := 0) rfl
    obtain ⟨g', r', h8, -, i1⟩ := HA.out.anys (i := 1) rfl
    cases h8
    simp only [numA, Nat.add_zero] at i0 i1
    have hn0n : 0 < x.kids.length := by rw [<- HKL.out, hl2]; decide
    have hn0 : (0 : Int) < (x.kids.length : Int) := by omega
    have hn1 : (1 : Int) < (x.kids.length : Int) := by rw [<- HKL.out, hl2]; decide
    clear hl2
    have HQ := Lib.hid (fun V : World => qMul_any u v 2000000 V (by decide) (by decide) HU.out.1 HU.out.2)
    obtain ⟨un, ux, ud⟩ := u
    obtain ⟨vn, vx, vd⟩ := v
    have i1a := cellT ((Turned.refl (fun _ => False) wr).alloc (.cells #[.bool un, .string ux, .string ud] 31)) id i1
    have x0a := cellT (((Turned.refl (fun _ => False) wr).alloc (.cells #[.bool un, .string ux, .string ud] 31)).alloc (.cells #[.bool vn, .string vx, .string vd] 31)) id x0
    go_wp2_with (go_at_call 14; refine (HQ.out _).mono ?_; rintro e W9 ⟨rfl, ht⟩; have HT9 := Lib.hid (((HTR.out.alloc _).alloc _).trans ht); clear ht)
    go_ret2
    rw [HV.out]
    exact ⟨Back.ok rfl, HT9.out⟩
   | nn8 u v hop hqs hu hv hz =>
    clear HCASE
    have HU := Lib.hid (And.intro hu hv)
    have HQS := Lib.hid hqs
    have HX := Lib.hid hop
    have HNZ := Lib.hid hz
    clear hu hv hqs hz
    have b1 : (x.op == 1) = false := by rw [hop]; rfl
    have b4 : (x.op == 4) = false := by rw [hop]; rfl
    have b6 : (x.op == 6) = false := by rw [hop]; rfl
    have b10 : (x.op == 10) = false := by rw [hop]; rfl
    have b11 : (x.op == 11) = false := by rw [hop]; rfl
    have b7 : (x.op == 7) = false := by rw [hop]; rfl
    have b8 : (x.op == 8) = true := by rw [hop]; rfl
    clear hop
    obtain rfl : qs = [.num u, .num v] := by
     have h := HKS.out
     rw [HQS.out] at h
     cases h
     rfl
    have HL : Hid (L = [numA u, numA v]) := Lib.hid (HAN.out.nums (l := [u, v]))
    have hl2 : L.length = 2 := by rw [HL.out]; rfl
    have HV : Hid (valueE x = .ok (.num (repR (qR u / qR v)))) := Lib.hid (by rw [valueE_eq, HQS.out, HX.out]; exact if_neg HNZ.out)
    have HA : Hid (Lst wr.heap.size wr 1 anyCells [numA u, numA v] p c) := Lib.hid (by
     rw [<- HL.out]
     exact (show Grown wr w1.heap.size 20 1 anyCells (.slice p L.length c) L by rw [HKL.out]; exact HG.out).at_ (fun _ => rfl) (Nat.le_refl _))
    obtain ⟨g, r, rfl, -, i0⟩ := HA.out.anys (i := 0) rfl
    obtain ⟨g', r', h8, -, i1⟩ := HA.out.anys (i := 1) rfl
    cases h8
    simp only [numA, Nat.add_zero] at i0 i1
    have hn0n : 0 < x.kids.length := by rw [<- HKL.out, hl2]; decide
    have hn0 : (0 : Int) < (x.kids.length : Int) := by omega
    have hn1 : (1 : Int) < (x.kids.length : Int) := by rw [<- HKL.out, hl2]; decide
    clear hl2
    have HQ := Lib.hid (fun V : World => qDiv_any u v 2000000 V (by decide) (by decide) HU.out.1 HU.out.2 HNZ.out)
    obtain ⟨un, ux, ud⟩ := u
    obtain ⟨vn, vx, vd⟩ := v
    have i1a := cellT ((Turned.refl (fun _ => False) wr).alloc (.cells #[.bool un, .string ux, .string ud] 31)) id i1
    have x0a := cellT (((Turned.refl (fun _ => False) wr).alloc (.cells #[.bool un, .string ux, .string ud] 31)).alloc (.cells #[.bool vn, .string vx, .string vd] 31)) id x0
    go_wp2_with (go_at_call 18; refine (HQ.out _).mono ?_; rintro e W9 ⟨rfl, ht⟩; have HT9 := Lib.hid (((HTR.out.alloc _).alloc _).trans ht); clear ht)
    go_ret2
    rw [HV.out]
    exact ⟨Back.ok rfl, HT9.out⟩
   | nn8z u v hop hqs hu hv hz =>
    clear HCASE
    have HU := Lib.hid (And.intro hu hv)
    have HQS := Lib.hid hqs
    have HX := Lib.hid hop
    have HNZ := Lib.hid hz
    clear hu hv hqs hz
    have b1 : (x.op == 1) = false := by rw [hop]; rfl
    have b4 : (x.op == 4) = false := by rw [hop]; rfl
    have b6 : (x.op == 6) = false := by rw [hop]; rfl
    have b10 : (x.op == 10) = false := by rw [hop]; rfl
    have b11 : (x.op == 11) = false := by rw [hop]; rfl
    have b7 : (x.op == 7) = false := by rw [hop]; rfl
    have b8 : (x.op == 8) = true := by rw [hop]; rfl
    clear hop
    obtain rfl : qs = [.num u, .num v] := by
     have h := HKS.out
     rw [HQS.out] at h
     cases h
     rfl
    have HL : Hid (L = [numA u, numA v]) := Lib.hid (HAN.out.nums (l := [u, v]))
    have hl2 : L.length = 2 := by rw [HL.out]; rfl
    have HV : Hid (valueE x = .error 1) := Lib.hid (by rw [valueE_eq, HQS.out, HX.out]; exact if_pos HNZ.out)
    have HA : Hid (Lst wr.heap.size wr 1 anyCells [numA u, numA v] p c) := Lib.hid (by
     rw [<- HL.out]
     exact (show Grown wr w1.heap.size 20 1 anyCells (.slice p L.length c) L by rw [HKL.out]; exact HG.out).at_ (fun _ => rfl) (Nat.le_refl _))
    obtain ⟨g, r, rfl, -, i0⟩ := HA.out.anys (i := 0) rfl
    obtain ⟨g', r', h8, -, i1⟩ := HA.out.anys (i := 1) rfl
    cases h8
    simp only [numA, Nat.add_zero] at i0 i1
    have hn0n : 0 < x.kids.length := by rw [<- HKL.out, hl2]; decide
    have hn0 : (0 : Int) < (x.kids.length : Int) := by omega
    have hn1 : (1 : Int) < (x.kids.length : Int) := by rw [<- HKL.out, hl2]; decide
    clear hl2
    have HQ := Lib.hid (fun V : World => qDiv0_any u v 2000000 V (by decide) HU.out.2 HNZ.out)
    obtain ⟨un, ux, ud⟩ := u
    obtain ⟨vn, vx, vd⟩ := v
    have i1a := cellT ((Turned.refl (fun _ => False) wr).alloc (.cells #[.bool un, .string ux, .string ud] 31)) id i1
    have x0a := cellT (((Turned.refl (fun _ => False) wr).alloc (.cells #[.bool un, .string ux, .string ud] 31)).alloc (.cells #[.bool vn, .string vx, .string vd] 31)) id x0
    go_wp2_with (go_at_call 18; refine (HQ.out _).mono ?_; rintro e W9 ⟨rfl, ht⟩; have HT9 := Lib.hid (((HTR.out.alloc _).alloc _).trans ht); clear ht)
    go_ret2
    rw [HV.out]
    exact ⟨Back.err _ _ _, HT9.out⟩
   | tt s t hop hqs hs ht =>
    clear HCASE
    have HST := Lib.hid (And.intro hs ht)
    clear hs ht
    have HQS := Lib.hid hqs
    have HX := Lib.hid hop
    clear hqs
    have b1 : (x.op == 1) = false := by rw [hop]; rfl
    have b4 : (x.op == 4) = false := by rw [hop]; rfl
    have b6 : (x.op == 6) = false := by rw [hop]; rfl
    have b10 : (x.op == 10) = false := by rw [hop]; rfl
    have b11 : (x.op == 11) = true := by rw [hop]; rfl
    have b7 : (x.op == 7) = false := by rw [hop]; rfl
    have b8 : (x.op == 8) = false := by rw [hop]; rfl
    clear hop
    obtain rfl : qs = [.tick s, .tick t] := by
     have h := HKS.out
     rw [HQS.out] at h
     cases h
     rfl
    obtain ⟨ya, za, hL, hya, hza⟩ := HAN.out.two
    have hl2 : L.length = 2 := by rw [hL]; rfl
    have HA : Hid (Lst wr.heap.size wr 1 anyCells [ya, za] p c) := Lib.hid (by
     rw [<- hL]
     exact (show Grown wr w1.heap.size 20 1 anyCells (.slice p L.length c) L by rw [HKL.out]; exact HG.out).at_ (fun _ => rfl) (Nat.le_refl _))
    obtain ⟨g, r, rfl, -, i0⟩ := HA.out.anys (i := 0) rfl
    obtain ⟨g', r', h8, -, i1⟩ := HA.out.anys (i := 1) rfl
    cases h8
    replace i0 : wr.cell? ⟨g, r, none⟩ = some (.iface 79 (.int .i64 s)) := i0.trans (congrArg some hya)
    replace i1 : wr.cell? ⟨g, r + 1, none⟩ = some (.iface 79 (.int .i64 t)) := i1.trans (congrArg some hza)
    have hn0n : 0 < x.kids.length := by rw [<- HKL.out, hl2]; decide
    have hn0 : (0 : Int) < (x.kids.length : Int) := by omega
    have hn1 : (1 : Int) < (x.kids.length : Int) := by rw [<- HKL.out, hl2]; decide
    clear hl2 hya hza hL
    have HV : Hid (valueE x = .ok (.num (intR (s - t)))) := Lib.hid (by rw [valueE_eq, HQS.out, HX.out]; rfl)
    have hst : -1402560 <= s - t /\ s - t <= 1402560 := by have h := HST.out; unfold maxT at h; omega
    have hwr : IntKind.i64.wrap (s - t) = s - t := IntWalk.i64_in _ (by omega)
    have HQ := Lib.hid (fun V : World => qIntZ_any (s - t) V (by omega) (by omega))
    clear hst
    go_wp2_with (go_at_call 17; refine (HQ.out _).mono ?_; rintro e W9 ⟨rfl, ht⟩; have HT9 := Lib.hid (HTR.out.trans ht); clear ht)
    go_ret2
    rw [HV.out]
    exact ⟨Back.ok rfl, HT9.out⟩
   | tn10 s v hop hqs hs hv =>
    clear HCASE
    have HST := Lib.hid (And.intro hs hv)
    clear hs hv
    have HQS := Lib.hid hqs
    have HX := Lib.hid hop
    clear hqs
    have b1 : (x.op == 1) = false := by rw [hop]; rfl
    have b4 : (x.op == 4) = false := by rw [hop]; rfl
    have b6 : (x.op == 6) = false := by rw [hop]; rfl
    have b10 : (x.op == 10) = true := by rw [hop]; rfl
    have b11 : (x.op == 11) = false := by rw [hop]; rfl
    have b7 : (x.op == 7) = false := by rw [hop]; rfl
    have b8 : (x.op == 8) = false := by rw [hop]; rfl
    clear hop
    obtain rfl : qs = [.tick s, .num v] := by
     have h := HKS.out
     rw [HQS.out] at h
     cases h
     rfl
    obtain ⟨ya, za, hL, hya, hza⟩ := HAN.out.two
    have hl2 : L.length = 2 := by rw [hL]; rfl
    have HA : Hid (Lst wr.heap.size wr 1 anyCells [ya, za] p c) := Lib.hid (by
     rw [<- hL]
     exact (show Grown wr w1.heap.size 20 1 anyCells (.slice p L.length c) L by rw [HKL.out]; exact HG.out).at_ (fun _ => rfl) (Nat.le_refl _))
    obtain ⟨g, r, rfl, -, i0⟩ := HA.out.anys (i := 0) rfl
    obtain ⟨g', r', h8, -, i1⟩ := HA.out.anys (i := 1) rfl
    cases h8
    replace i0 : wr.cell? ⟨g, r, none⟩ = some (.iface 79 (.int .i64 s)) := i0.trans (congrArg some hya)
    replace i1 : wr.cell? ⟨g, r + 1, none⟩ = some (.iface 31 (ratV v)) := i1.trans (congrArg some hza)
    have hn0n : 0 < x.kids.length := by rw [<- HKL.out, hl2]; decide
    have hn0 : (0 : Int) < (x.kids.length : Int) := by omega
    have hn1 : (1 : Int) < (x.kids.length : Int) := by rw [<- HKL.out, hl2]; decide
    clear hl2 hya hza hL
    have HC := fun V : World => integer_any v V (SzR.mono HST.out.2 (by decide))
    have HV0 : valueE x = (match wholeR v with | none => .error 3 | some n => atP (s + n)) := by rw [valueE_eq, HQS.out, HX.out]; rfl
    have hbd := whole_in v
    unfold wholeI wholeE at HC
    cases hw : wholeR v with
    | none =>
     rw [hw] at HC HV0
     simp only [Option.getD_none, Option.isSome_none] at HC
     have HV := Lib.hid HV0
     have HCC := Lib.hid HC
     clear hw HC HV0 hbd
     go_wp2_with (go_at_call 78; refine (HCC.out _).mono ?_; rintro e W9 ⟨rfl, ht⟩; have HT9 := Lib.hid (HTR.out.trans ht); clear ht)
     go_ret2
     rw [HV.out]
     exact ⟨Back.err _ _ _, HT9.out⟩
    | some n =>
     rw [hw] at HC HV0
     simp only [Option.getD_some, Option.isSome_some] at HC
     have HV := Lib.hid HV0
     have HCC := Lib.hid HC
     have hnn := hbd n hw
     have hst : 0 <= s /\ s <= 1402560 := HST.out.1
     have hng : IntKind.i64.wrap (-n) = -n := IntWalk.i64_in _ (by omega)
     have hwr : IntKind.i64.wrap (s + n) = s + n := by rw [IntWalk.i64_in _ (by omega)]
     clear hw HC HV0 hbd hnn hst
     go_wp2_with (first
      | (go_at_call 78; refine (HCC.out _).mono ?_; rintro e W9 ⟨rfl, ht⟩; have HT9 := Lib.hid (HTR.out.trans ht); have x0' := cellT ht id x0; clear ht)
      | (go_at_call 79; refine (at_back (s + n) _).mono ?_; rintro e W10 ⟨⟨v, rfl, hv⟩, rfl⟩; have HB10 := Lib.hid hv; clear hv))
     go_ret2
     rw [HV.out]
     exact ⟨⟨_, rfl, HB10.out⟩, HT9.out⟩
   | tn11 s v hop hqs hs hv =>
    clear HCASE
    have HST := Lib.hid (And.intro hs hv)
    clear hs hv
    have HQS := Lib.hid hqs
    have HX := Lib.hid hop
    clear hqs
    have b1 : (x.op == 1) = false := by rw [hop]; rfl
    have b4 : (x.op == 4) = false := by rw [hop]; rfl
    have b6 : (x.op == 6) = false := by rw [hop]; rfl
    have b10 : (x.op == 10) = false := by rw [hop]; rfl
    have b11 : (x.op == 11) = true := by rw [hop]; rfl
    have b7 : (x.op == 7) = false := by rw [hop]; rfl
    have b8 : (x.op == 8) = false := by rw [hop]; rfl
    clear hop
    obtain rfl : qs = [.tick s, .num v] := by
     have h := HKS.out
     rw [HQS.out] at h
     cases h
     rfl
    obtain ⟨ya, za, hL, hya, hza⟩ := HAN.out.two
    have hl2 : L.length = 2 := by rw [hL]; rfl
    have HA : Hid (Lst wr.heap.size wr 1 anyCells [ya, za] p c) := Lib.hid (by
     rw [<- hL]
     exact (show Grown wr w1.heap.size 20 1 anyCells (.slice p L.length c) L by rw [HKL.out]; exact HG.out).at_ (fun _ => rfl) (Nat.le_refl _))
    obtain ⟨g, r, rfl, -, i0⟩ := HA.out.anys (i := 0) rfl
    obtain ⟨g', r', h8, -, i1⟩ := HA.out.anys (i := 1) rfl
    cases h8
    replace i0 : wr.cell? ⟨g, r, none⟩ = some (.iface 79 (.int .i64 s)) := i0.trans (congrArg some hya)
    replace i1 : wr.cell? ⟨g, r + 1, none⟩ = some (.iface 31 (ratV v)) := i1.trans (congrArg some hza)
    have hn0n : 0 < x.kids.length := by rw [<- HKL.out, hl2]; decide
    have hn0 : (0 : Int) < (x.kids.length : Int) := by omega
    have hn1 : (1 : Int) < (x.kids.length : Int) := by rw [<- HKL.out, hl2]; decide
    clear hl2 hya hza hL
    have HC := fun V : World => integer_any v V (SzR.mono HST.out.2 (by decide))
    have HV0 : valueE x = (match wholeR v with | none => .error 3 | some n => atP (s - n)) := by rw [valueE_eq, HQS.out, HX.out]; rfl
    have hbd := whole_in v
    unfold wholeI wholeE at HC
    cases hw : wholeR v with
    | none =>
     rw [hw] at HC HV0
     simp only [Option.getD_none, Option.isSome_none] at HC
     have HV := Lib.hid HV0
     have HCC := Lib.hid HC
     clear hw HC HV0 hbd
     go_wp2_with (go_at_call 78; refine (HCC.out _).mono ?_; rintro e W9 ⟨rfl, ht⟩; have HT9 := Lib.hid (HTR.out.trans ht); clear ht)
     go_ret2
     rw [HV.out]
     exact ⟨Back.err _ _ _, HT9.out⟩
    | some n =>
     rw [hw] at HC HV0
     simp only [Option.getD_some, Option.isSome_some] at HC
     have HV := Lib.hid HV0
     have HCC := Lib.hid HC
     have hnn := hbd n hw
     have hst : 0 <= s /\ s <= 1402560 := HST.out.1
     have hng : IntKind.i64.wrap (-n) = -n := IntWalk.i64_in _ (by omega)
     have hwr : IntKind.i64.wrap (s + -n) = s - n := by rw [IntWalk.i64_in _ (by omega)]; omega
     clear hw HC HV0 hbd hnn hst
     go_wp2_with (first
      | (go_at_call 78; refine (HCC.out _).mono ?_; rintro e W9 ⟨rfl, ht⟩; have HT9 := Lib.hid (HTR.out.trans ht); have x0' := cellT ht id x0; clear ht)
      | (go_at_call 79; refine (at_back (s - n) _).mono ?_; rintro e W10 ⟨⟨v, rfl, hv⟩, rfl⟩; have HB10 := Lib.hid hv; clear hv))
     go_ret2
     rw [HV.out]
     exact ⟨⟨_, rfl, HB10.out⟩, HT9.out⟩
   | ns7 l v hop hqs hl hv =>
    clear HCASE
    have HST := Lib.hid (And.intro hl hv)
    clear hl hv
    have HQS := Lib.hid hqs
    have HX := Lib.hid hop
    clear hqs
    have b1 : (x.op == 1) = false := by rw [hop]; rfl
    have b4 : (x.op == 4) = false := by rw [hop]; rfl
    have b6 : (x.op == 6) = false := by rw [hop]; rfl
    have b10 : (x.op == 10) = false := by rw [hop]; rfl
    have b11 : (x.op == 11) = false := by rw [hop]; rfl
    have b7 : (x.op == 7) = true := by rw [hop]; rfl
    have b8 : (x.op == 8) = false := by rw [hop]; rfl
    clear hop
    obtain rfl : qs = [.num v, .sum l] := by
     have h := HKS.out
     rw [HQS.out] at h
     cases h
     rfl
    obtain ⟨ya, za, hL, hya, hza⟩ := HAN.out.two
    obtain ⟨_, hza, pp, cc, rfl, hpl, -⟩ := hza
    have HPL := Lib.hid hpl
    have hl2 : L.length = 2 := by rw [hL]; rfl
    have HA : Hid (Lst wr.heap.size wr 1 anyCells [ya, za] p c) := Lib.hid (by
     rw [<- hL]
     exact (show Grown wr w1.heap.size 20 1 anyCells (.slice p L.length c) L by rw [HKL.out]; exact HG.out).at_ (fun _ => rfl) (Nat.le_refl _))
    obtain ⟨g, r, rfl, -, i0⟩ := HA.out.anys (i := 0) rfl
    obtain ⟨g', r', h8, -, i1⟩ := HA.out.anys (i := 1) rfl
    cases h8
    replace i0 : wr.cell? ⟨g, r, none⟩ = some (.iface 31 (ratV v)) := i0.trans (congrArg some hya)
    replace i1 : wr.cell? ⟨g, r + 1, none⟩ = some (.iface 29 (.slice pp l.length cc)) := i1.trans (congrArg some hza)
    have hn0n : 0 < x.kids.length := by rw [<- HKL.out, hl2]; decide
    have hn0 : (0 : Int) < (x.kids.length : Int) := by omega
    have hn1 : (1 : Int) < (x.kids.length : Int) := by rw [<- HKL.out, hl2]; decide
    clear hl2 hya hza hL
    clear hpl
    have HQ := Lib.hid (fun (V : World) (t : Turned (fun _ => False) wr V) => scaled_any l v 2000000 pp cc V ((HPL.out.turned t).mono t.size) HST.out.1.1 (Nat.le_trans HST.out.1.2.1 (by decide)) (by decide) (by decide) HST.out.2 HST.out.1.2.2)
    have HV : Hid (valueE x = .ok (.sum (scaledP l v))) := Lib.hid (by rw [valueE_eq, HQS.out, HX.out]; rfl)
    obtain ⟨vn, vx, vd⟩ := v
    have i1a := cellT ((Turned.refl (fun _ => False) wr).alloc (.cells #[.bool vn, .string vx, .string vd] 31)) id i1
    have x0a := cellT ((Turned.refl (fun _ => False) wr).alloc (.cells #[.bool vn, .string vx, .string vd] 31)) id x0
    go_wp2_with (go_at_call 80; refine (HQ.out _ ((Turned.refl _ wr).alloc _)).mono ?_; rintro e W9 ⟨⟨v9, rfl, hp9⟩, ht⟩; have HP9 := Lib.hid hp9; have HT9 := Lib.hid ((HTR.out.alloc _).trans ht); clear ht hp9)
    go_ret2
    rw [HV.out]
    exact ⟨Back.ok ⟨_, rfl, HP9.out⟩, HT9.out⟩
   | sn7 l v hop hqs hl hv =>
    clear HCASE
    have HST := Lib.hid (And.intro hl hv)
    clear hl hv
    have HQS := Lib.hid hqs
    have HX := Lib.hid hop
    clear hqs
    have b1 : (x.op == 1) = false := by rw [hop]; rfl
    have b4 : (x.op == 4) = false := by rw [hop]; rfl
    have b6 : (x.op == 6) = false := by rw [hop]; rfl
    have b10 : (x.op == 10) = false := by rw [hop]; rfl
    have b11 : (x.op == 11) = false := by rw [hop]; rfl
    have b7 : (x.op == 7) = true := by rw [hop]; rfl
    have b8 : (x.op == 8) = false := by rw [hop]; rfl
    clear hop
    obtain rfl : qs = [.sum l, .num v] := by
     have h := HKS.out
     rw [HQS.out] at h
     cases h
     rfl
    obtain ⟨ya, za, hL, hya, hza⟩ := HAN.out.two
    obtain ⟨_, hya, pp, cc, rfl, hpl, -⟩ := hya
    have HPL := Lib.hid hpl
    have hl2 : L.length = 2 := by rw [hL]; rfl
    have HA : Hid (Lst wr.heap.size wr 1 anyCells [ya, za] p c) := Lib.hid (by
     rw [<- hL]
     exact (show Grown wr w1.heap.size 20 1 anyCells (.slice p L.length c) L by rw [HKL.out]; exact HG.out).at_ (fun _ => rfl) (Nat.le_refl _))
    obtain ⟨g, r, rfl, -, i0⟩ := HA.out.anys (i := 0) rfl
    obtain ⟨g', r', h8, -, i1⟩ := HA.out.anys (i := 1) rfl
    cases h8
    replace i0 : wr.cell? ⟨g, r, none⟩ = some (.iface 29 (.slice pp l.length cc)) := i0.trans (congrArg some hya)
    replace i1 : wr.cell? ⟨g, r + 1, none⟩ = some (.iface 31 (ratV v)) := i1.trans (congrArg some hza)
    have hn0n : 0 < x.kids.length := by rw [<- HKL.out, hl2]; decide
    have hn0 : (0 : Int) < (x.kids.length : Int) := by omega
    have hn1 : (1 : Int) < (x.kids.length : Int) := by rw [<- HKL.out, hl2]; decide
    clear hl2 hya hza hL
    clear hpl
    have HQ := Lib.hid (fun (V : World) (t : Turned (fun _ => False) wr V) => scaled_any l v 2000000 pp cc V ((HPL.out.turned t).mono t.size) HST.out.1.1 (Nat.le_trans HST.out.1.2.1 (by decide)) (by decide) (by decide) HST.out.2 HST.out.1.2.2)
    have HV : Hid (valueE x = .ok (.sum (scaledP l v))) := Lib.hid (by rw [valueE_eq, HQS.out, HX.out]; rfl)
    obtain ⟨vn, vx, vd⟩ := v
    have i1a := cellT ((Turned.refl (fun _ => False) wr).alloc (.cells #[.bool vn, .string vx, .string vd] 31)) id i1
    have x0a := cellT ((Turned.refl (fun _ => False) wr).alloc (.cells #[.bool vn, .string vx, .string vd] 31)) id x0
    go_wp2_with (go_at_call 80; refine (HQ.out _ ((Turned.refl _ wr).alloc _)).mono ?_; rintro e W9 ⟨⟨v9, rfl, hp9⟩, ht⟩; have HP9 := Lib.hid hp9; have HT9 := Lib.hid ((HTR.out.alloc _).trans ht); clear ht hp9)
    go_ret2
    rw [HV.out]
    exact ⟨Back.ok ⟨_, rfl, HP9.out⟩, HT9.out⟩
   | ngn u hop hqs hu hsm =>
    clear HCASE
    have HU := Lib.hid hu
    clear hu
    have HQS := Lib.hid hqs
    have HX := Lib.hid hop
    clear hqs
    have b1 : (x.op == 1) = false := by rw [hop]; rfl
    have b4 : (x.op == 4) = false := by rw [hop]; rfl
    have b6 : (x.op == 6) = true := by rw [hop]; rfl
    clear hop
    obtain rfl : qs = [.num u] := by
     have h := HKS.out
     rw [HQS.out] at h
     cases h
     rfl
    obtain ⟨ya, hL, hya⟩ := HAN.out.one
    subst hL
    have HYA := Lib.hid hya
    have HKL1 : Hid (x.kids.length = 1) := Lib.hid HKL.out.symm
    obtain ⟨⟨mn, mx, md⟩, hm⟩ : ∃ s, intR (-1) = s := ⟨_, rfl⟩
    have HQ1 := Lib.hid (fun V : World => qIntZ_any (-1) V (by decide) (by decide))
    have HM := Lib.hid hm
    have HSM := Lib.hid hsm
    rw [hm] at HQ1 HSM
    clear hm hya hsm
    have HBR := Lib.hid ((HR.out.1.block _ (getElem?_lt HB.out) id).trans HB.out)
    go_upto_region 20 with (first
     | (go_at_call 17; refine (HQ1.out _).mono ?_; rintro e W9 ⟨rfl, ht⟩; have HT9 := Lib.hid ht; clear ht)
     | (at_builtin; go_loud (refine app_anyO W9 rfl _ _ rfl w1.heap.size (.slice p x.kids.length c) (31, ratV ⟨mn, mx, md⟩) [ya] rfl rfl (HG.out.turned HT9.out fun _ h => h.elim) (Nat.le_trans HR.out.1.size HT9.out.size) (by simp) ?_); intro p2 c2 W3 hg3 ht3; have HG3 := Lib.hid hg3; have HT3 := Lib.hid ht3; clear hg3 ht3))
    obtain ⟨C, t3, hC, hCb⟩ := HT3.out
    have HT13 : Hid (Turned (fun k => w1.heap.size <= k) wr W3) := Lib.hid ((HT9.out.mono fun _ h => h.elim).trans (t3.mono hCb))
    have HAN3 := Lib.hid (((HAN.out.turned HT9.out).apart t3 hC).snoc (q := .num ⟨mn, mx, md⟩) (z := (31, ratV ⟨mn, mx, md⟩)) rfl)
    have HBX3 := Lib.hid ((HT13.out.block _ (getElem?_lt HBR.out) (by rw [HSZ.out]; exact Nat.not_succ_le_self _)).trans HBR.out)
    clear t3 hC hCb HT3
    obtain ⟨x0, x1, x2, x3, x4⟩ := cellsFive HBX3.out
    have bf := free_of_box HBX3.out 0
    go_upto_region 21 with fail
    obtain ⟨W4, hW4⟩ : ∃ W4, W4 = W3.setCell ⟨w.heap.size, 0, none⟩ (.int .i64 7) := ⟨_, rfl⟩
    have HT4 : Hid (Turned (fun k => k = w.heap.size) W3 W4) := Lib.hid (by rw [hW4]; exact (Turned.refl (fun k => k = w.heap.size) W3).setCell rfl _)
    have HX04 : Hid (W4.cell? ⟨w.heap.size, 0, none⟩ = some (.int .i64 7)) := Lib.hid (by rw [hW4]; exact (cellsFive (box_set HBX3.out)).1)
    rw [<- hW4]
    clear hW4 x0 x1 x2 x3 x4 bf
    have HL3 := Lib.hid (HG3.out.at_ (fun _ => rfl) (Nat.le_refl _))
    obtain ⟨g, r, hp2, hgl, i0⟩ := HL3.out.anys (i := 0) rfl
    obtain ⟨g', r', h8, -, i1⟩ := HL3.out.anys (i := 1) rfl
    rw [hp2] at h8 HG3 ⊢
    cases h8
    have hgb : g ≠ w.heap.size := by
     have h := (ownsRow_block HG3.out g rfl).1
     rw [HSZ.out] at h
     omega
    have i0 : W4.cell? ⟨g, r, none⟩ = some (.iface 31 (ratV u)) := cellT HT4.out hgb (i0.trans (congrArg some HYA.out))
    have i1 : W4.cell? ⟨g, r + 1, none⟩ = some (.iface 31 (.agg #[.bool mn, .string mx, .string md])) := cellT HT4.out hgb i1
    have HTW : Hid (Turned (fun _ => False) w W4) := Lib.hid ((HTR.out.freshC HT13.out fun k hk => by rw [HSZ.out] at hk; omega).freshC HT4.out fun k hk => by rw [hk]; exact Nat.le_refl _)
    clear hp2 hgl hgb
    have HV : Hid (valueE x = .ok (.num (mulR u ⟨mn, mx, md⟩))) := Lib.hid (by rw [valueE_eq, HQS.out, HX.out, <- HM.out]; rfl)
    have HQ := Lib.hid (fun V : World => qMul_any u ⟨mn, mx, md⟩ 2000000 V (by decide) (by decide) HU.out HSM.out)
    obtain ⟨un, ux, ud⟩ := u
    have i1a := cellT ((Turned.refl (fun _ => False) W4).alloc (.cells #[.bool un, .string ux, .string ud] 31)) id i1
    have x0a := cellT (((Turned.refl (fun _ => False) W4).alloc (.cells #[.bool un, .string ux, .string ud] 31)).alloc (.cells #[.bool mn, .string mx, .string md] 31)) id HX04.out
    go_wp2_with (go_at_call 14; refine (HQ.out _).mono ?_; rintro e W10 ⟨rfl, ht⟩; have HT10 := Lib.hid (((HTW.out.alloc _).alloc _).trans ht); clear ht)
    go_ret2
    rw [HV.out]
    exact ⟨Back.ok rfl, HT10.out⟩
   | ngs l hop hqs hl hsm =>
    clear HCASE
    have HU := Lib.hid hl
    clear hl
    have HQS := Lib.hid hqs
    have HX := Lib.hid hop
    clear hqs
    have b1 : (x.op == 1) = false := by rw [hop]; rfl
    have b4 : (x.op == 4) = false := by rw [hop]; rfl
    have b6 : (x.op == 6) = true := by rw [hop]; rfl
    clear hop
    obtain rfl : qs = [.sum l] := by
     have h := HKS.out
     rw [HQS.out] at h
     cases h
     rfl
    obtain ⟨ya, hL, hya⟩ := HAN.out.one
    subst hL
    obtain ⟨_, hya, pp, cc, rfl, hpl, hpt⟩ := hya
    have HPA : Hid (PtsAt wr l (.slice pp l.length cc)) := Lib.hid ⟨pp, cc, rfl, hpl, hpt⟩
    clear hpl hpt
    have HYA := Lib.hid hya
    have HKL1 : Hid (x.kids.length = 1) := Lib.hid HKL.out.symm
    obtain ⟨⟨mn, mx, md⟩, hm⟩ : ∃ s, intR (-1) = s := ⟨_, rfl⟩
    have HQ1 := Lib.hid (fun V : World => qIntZ_any (-1) V (by decide) (by decide))
    have HM := Lib.hid hm
    have HSM := Lib.hid hsm
    rw [hm] at HQ1 HSM
    clear hm hya hsm
    have HBR := Lib.hid ((HR.out.1.block _ (getElem?_lt HB.out) id).trans HB.out)
    go_upto_region 20 with (first
     | (go_at_call 17; refine (HQ1.out _).mono ?_; rintro e W9 ⟨rfl, ht⟩; have HT9 := Lib.hid ht; clear ht)
     | (at_builtin; go_loud (refine app_anyO W9 rfl _ _ rfl w1.heap.size (.slice p x.kids.length c) (31, ratV ⟨mn, mx, md⟩) [ya] rfl rfl (HG.out.turned HT9.out fun _ h => h.elim) (Nat.le_trans HR.out.1.size HT9.out.size) (by simp) ?_); intro p2 c2 W3 hg3 ht3; have HG3 := Lib.hid hg3; have HT3 := Lib.hid ht3; clear hg3 ht3))
    obtain ⟨C, t3, hC, hCb⟩ := HT3.out
    have HT13 : Hid (Turned (fun k => w1.heap.size <= k) wr W3) := Lib.hid ((HT9.out.mono fun _ h => h.elim).trans (t3.mono hCb))
    have HAN3 := Lib.hid (((HAN.out.turned HT9.out).apart t3 hC).snoc (q := .num ⟨mn, mx, md⟩) (z := (31, ratV ⟨mn, mx, md⟩)) rfl)
    have HBX3 := Lib.hid ((HT13.out.block _ (getElem?_lt HBR.out) (by rw [HSZ.out]; exact Nat.not_succ_le_self _)).trans HBR.out)
    have HP3 := Lib.hid ((HPA.out.turned HT9.out).apart t3 hC)
    clear t3 hC hCb HT3
    obtain ⟨x0, x1, x2, x3, x4⟩ := cellsFive HBX3.out
    have bf := free_of_box HBX3.out 0
    go_upto_region 21 with fail
    obtain ⟨W4, hW4⟩ : ∃ W4, W4 = W3.setCell ⟨w.heap.size, 0, none⟩ (.int .i64 7) := ⟨_, rfl⟩
    have HT4 : Hid (Turned (fun k => k = w.heap.size) W3 W4) := Lib.hid (by rw [hW4]; exact (Turned.refl (fun k => k = w.heap.size) W3).setCell rfl _)
    have HX04 : Hid (W4.cell? ⟨w.heap.size, 0, none⟩ = some (.int .i64 7)) := Lib.hid (by rw [hW4]; exact (cellsFive (box_set HBX3.out)).1)
    rw [<- hW4]
    clear hW4 x0 x1 x2 x3 x4 bf
    have HL3 := Lib.hid (HG3.out.at_ (fun _ => rfl) (Nat.le_refl _))
    obtain ⟨g, r, hp2, hgl, i0⟩ := HL3.out.anys (i := 0) rfl
    obtain ⟨g', r', h8, -, i1⟩ := HL3.out.anys (i := 1) rfl
    rw [hp2] at h8 HG3 ⊢
    cases h8
    have hgb : g ≠ w.heap.size := by
     have h := (ownsRow_block HG3.out g rfl).1
     rw [HSZ.out] at h
     omega
    have i0 : W4.cell? ⟨g, r, none⟩ = some (.iface 29 (.slice pp l.length cc)) := cellT HT4.out hgb (i0.trans (congrArg some HYA.out))
    have i1 : W4.cell? ⟨g, r + 1, none⟩ = some (.iface 31 (.agg #[.bool mn, .string mx, .string md])) := cellT HT4.out hgb i1
    have HTW : Hid (Turned (fun _ => False) w W4) := Lib.hid ((HTR.out.freshC HT13.out fun k hk => by rw [HSZ.out] at hk; omega).freshC HT4.out fun k hk => by rw [hk]; exact Nat.le_refl _)
    clear hp2 hgl hgb
    have HV : Hid (valueE x = .ok (.sum (scaledP l ⟨mn, mx, md⟩))) := Lib.hid (by rw [valueE_eq, HQS.out, HX.out, <- HM.out]; rfl)
    have HPL : Hid (Lst W4.heap.size W4 8 partCells l pp cc) := Lib.hid (by
     obtain ⟨p', c', he, hl3, hg3⟩ := HP3.out
     cases he
     refine (hl3.apart HT4.out fun g hg hC => ?_).mono HT4.out.size
     obtain ⟨cs, h1⟩ := hg3 g hg
     rw [hC, HBX3.out] at h1
     simp at h1)
    have HQ := Lib.hid (fun (V : World) (t : Turned (fun _ => False) W4 V) => scaled_any l ⟨mn, mx, md⟩ 2000000 pp cc V ((HPL.out.turned t).mono t.size) HU.out.1 (Nat.le_trans HU.out.2.1 (by decide)) (by decide) (by decide) HSM.out HU.out.2.2)
    have x0a := cellT ((Turned.refl (fun _ => False) W4).alloc (.cells #[.bool mn, .string mx, .string md] 31)) id HX04.out
    go_wp2_with (go_at_call 80; refine (HQ.out _ ((Turned.refl _ W4).alloc _)).mono ?_; rintro e W10 ⟨⟨v9, rfl, hp9⟩, ht⟩; have HP9 := Lib.hid hp9; have HT10 := Lib.hid ((HTW.out.alloc _).trans ht); clear ht hp9)
    go_ret2
    rw [HV.out]
    exact ⟨Back.ok ⟨_, rfl, HP9.out⟩, HT10.out⟩
   | ss10 l m hop hqs hl hm =>
    clear HCASE
    have HST := Lib.hid (And.intro hl hm)
    clear hl hm
    have HQS := Lib.hid hqs
    have HX := Lib.hid hop
    clear hqs
    have b1 : (x.op == 1) = false := by rw [hop]; rfl
    have b4 : (x.op == 4) = false := by rw [hop]; rfl
    have b6 : (x.op == 6) = false := by rw [hop]; rfl
    have b10 : (x.op == 10) = true := by rw [hop]; rfl
    have b11 : (x.op == 11) = false := by rw [hop]; rfl
    have b7 : (x.op == 7) = false := by rw [hop]; rfl
    have b8 : (x.op == 8) = false := by rw [hop]; rfl
    clear hop
    obtain rfl : qs = [.sum l, .sum m] := by
     have h := HKS.out
     rw [HQS.out] at h
     cases h
     rfl
    obtain ⟨ya, za, hL, hya, hza⟩ := HAN.out.two
    obtain ⟨_, hya, pp, cc, rfl, hpl, -⟩ := hya
    obtain ⟨_, hza, pq, cd, rfl, hql, -⟩ := hza
    have HPL := Lib.hid hpl
    have HQL := Lib.hid hql
    have hl2 : L.length = 2 := by rw [hL]; rfl
    have HA : Hid (Lst wr.heap.size wr 1 anyCells [ya, za] p c) := Lib.hid (by
     rw [<- hL]
     exact (show Grown wr w1.heap.size 20 1 anyCells (.slice p L.length c) L by rw [HKL.out]; exact HG.out).at_ (fun _ => rfl) (Nat.le_refl _))
    obtain ⟨g, r, rfl, -, i0⟩ := HA.out.anys (i := 0) rfl
    obtain ⟨g', r', h8, -, i1⟩ := HA.out.anys (i := 1) rfl
    cases h8
    replace i0 : wr.cell? ⟨g, r, none⟩ = some (.iface 29 (.slice pp l.length cc)) := i0.trans (congrArg some hya)
    replace i1 : wr.cell? ⟨g, r + 1, none⟩ = some (.iface 29 (.slice pq m.length cd)) := i1.trans (congrArg some hza)
    have hn0n : 0 < x.kids.length := by rw [<- HKL.out, hl2]; decide
    have hn0 : (0 : Int) < (x.kids.length : Int) := by omega
    have hn1 : (1 : Int) < (x.kids.length : Int) := by rw [<- HKL.out, hl2]; decide
    clear hl2 hya hza hL
    clear hpl hql
    have HV0 : valueE x = (if 40 < l.length + m.length then .error 2 else .ok (.sum (l ++ m))) := by rw [valueE_eq, HQS.out, HX.out]; rfl
    have hll := HST.out.1.2.1
    have hml := HST.out.2.2.1
    have hwr : IntKind.i64.wrap ((l.length : Int) + (m.length : Int)) = (l.length : Int) + (m.length : Int) := IntWalk.i64_in _ (by omega)
    by_cases h40 : 40 < l.length + m.length
    ·rw [if_pos h40] at HV0
     have HV := Lib.hid HV0
     have h41 : (40 : Int) < (l.length : Int) + (m.length : Int) := by omega
     clear HV0 hll hml h40
     go_wp2_with fail
     go_ret2
     rw [HV.out]
     exact ⟨Back.err _ _ _, HTR.out⟩
    ·rw [if_neg h40] at HV0
     have HV := Lib.hid HV0
     have h41 : ¬ (40 : Int) < (l.length : Int) + (m.length : Int) := by omega
     have H40 : Hid (l.length + m.length <= 40) := Lib.hid (by omega)
     have HCL := Lib.hid (cloneP_any l pp cc wr HPL.out HST.out.1.1 (by omega))
     clear HV0 hll hml h40
     go_wp2_with (first
      | (go_at_call 81; refine HCL.out.mono ?_; rintro e W9 ⟨q, d, rfl, hgr, ht⟩; have HG9 := Lib.hid hgr; have HT9 := Lib.hid ht; clear hgr ht)
      | (at_builtin; (refine app_parts W9 rfl _ _ rfl wr.heap.size _ (.slice q l.length d) l m pq cd rfl rfl HST.out.2.1 HG9.out ((HQL.out.turned HT9.out).mono HT9.out.size) HT9.out.size H40.out ?_); intro v9 W10 hg10 ht10; have HP9 := Lib.hid hg10.pts; have HT10 := Lib.hid (HTR.out.freshC (HT9.out.freshC ht10 fun k hk => hk) fun k hk => hk.elim); clear hg10 ht10))
     go_ret2
     rw [HV.out]
     exact ⟨Back.ok ⟨_, rfl, HP9.out⟩, HT10.out⟩
   | ss11 l m hop hqs hl hm hsm =>
    clear HCASE
    have HST := Lib.hid (And.intro hl hm)
    have HSM := Lib.hid hsm
    clear hl hm hsm
    have HQS := Lib.hid hqs
    have HX := Lib.hid hop
    clear hqs
    have b1 : (x.op == 1) = false := by rw [hop]; rfl
    have b4 : (x.op == 4) = false := by rw [hop]; rfl
    have b6 : (x.op == 6) = false := by rw [hop]; rfl
    have b10 : (x.op == 10) = false := by rw [hop]; rfl
    have b11 : (x.op == 11) = true := by rw [hop]; rfl
    have b7 : (x.op == 7) = false := by rw [hop]; rfl
    have b8 : (x.op == 8) = false := by rw [hop]; rfl
    clear hop
    obtain rfl : qs = [.sum l, .sum m] := by
     have h := HKS.out
     rw [HQS.out] at h
     cases h
     rfl
    obtain ⟨ya, za, hL, hya, hza⟩ := HAN.out.two
    obtain ⟨_, hya, pp, cc, rfl, hpl, -⟩ := hya
    obtain ⟨_, hza, pq, cd, rfl, hql, -⟩ := hza
    have HPL := Lib.hid hpl
    have HQL := Lib.hid hql
    have hl2 : L.length = 2 := by rw [hL]; rfl
    have HA : Hid (Lst wr.heap.size wr 1 anyCells [ya, za] p c) := Lib.hid (by
     rw [<- hL]
     exact (show Grown wr w1.heap.size 20 1 anyCells (.slice p L.length c) L by rw [HKL.out]; exact HG.out).at_ (fun _ => rfl) (Nat.le_refl _))
    obtain ⟨g, r, rfl, -, i0⟩ := HA.out.anys (i := 0) rfl
    obtain ⟨g', r', h8, -, i1⟩ := HA.out.anys (i := 1) rfl
    cases h8
    replace i0 : wr.cell? ⟨g, r, none⟩ = some (.iface 29 (.slice pp l.length cc)) := i0.trans (congrArg some hya)
    replace i1 : wr.cell? ⟨g, r + 1, none⟩ = some (.iface 29 (.slice pq m.length cd)) := i1.trans (congrArg some hza)
    have hn0n : 0 < x.kids.length := by rw [<- HKL.out, hl2]; decide
    have hn0 : (0 : Int) < (x.kids.length : Int) := by omega
    have hn1 : (1 : Int) < (x.kids.length : Int) := by rw [<- HKL.out, hl2]; decide
    clear hl2 hya hza hL
    clear hpl hql
    have HV0 : valueE x = (if 40 < l.length + m.length then .error 2 else .ok (.sum (l ++ scaledP m (intR (-1))))) := by rw [valueE_eq, HQS.out, HX.out]; rfl
    obtain ⟨mo, hmo⟩ : ∃ s, intR (-1) = s := ⟨_, rfl⟩
    have HQ1 := Lib.hid (fun V : World => qIntZ_any (-1) V (by decide) (by decide))
    rw [hmo] at HV0 HQ1 HSM
    have hll := HST.out.1.2.1
    have hml := HST.out.2.2.1
    have hsl := scaled_len m mo
    have HSN : Hid (scaledP m mo ≠ []) := Lib.hid (fun h => HST.out.2.1 (by rw [h] at hsl; exact List.eq_nil_of_length_eq_zero hsl.symm))
    have HSL := Lib.hid hsl
    have hwr : IntKind.i64.wrap ((l.length : Int) + (m.length : Int)) = (l.length : Int) + (m.length : Int) := IntWalk.i64_in _ (by omega)
    have HSC := Lib.hid (fun (V : World) (t : Turned (fun _ => False) wr V) => scaled_any m mo 2000000 pq cd V ((HQL.out.turned t).mono t.size) HST.out.2.1 (Nat.le_trans HST.out.2.2.1 (by decide)) (by decide) (by decide) HSM.out HST.out.2.2.2)
    by_cases h40 : 40 < l.length + m.length
    ·rw [if_pos h40] at HV0
     have HV := Lib.hid HV0
     have h41 : (40 : Int) < (l.length : Int) + (m.length : Int) := by omega
     clear HV0 hll hml h40 hsl hmo
     go_wp2_with (first
      | (go_at_call 17; refine (HQ1.out _).mono ?_; rintro e W9 ⟨rfl, ht⟩; have HT9 := Lib.hid ht; clear ht)
      | (go_at_call 80; refine (HSC.out _ HT9.out).mono ?_; rintro e W10 ⟨⟨v9, rfl, hp9⟩, ht⟩; obtain ⟨q1, d1, rfl, hl1, -⟩ := hp9; rw [HSL.out]; have HT10 := Lib.hid (HTR.out.trans (HT9.out.trans ht)); clear ht hl1))
     go_ret2
     rw [HV.out]
     exact ⟨Back.err _ _ _, HT10.out⟩
    ·rw [if_neg h40] at HV0
     have HV := Lib.hid HV0
     have h41 : ¬ (40 : Int) < (l.length : Int) + (m.length : Int) := by omega
     have H40 : Hid (l.length + (scaledP m mo).length <= 40) := Lib.hid (by rw [hsl]; omega)
     have HCL := Lib.hid (fun (V : World) (t : Turned (fun _ => False) wr V) => cloneP_any l pp cc V ((HPL.out.turned t).mono t.size) HST.out.1.1 (by omega))
     clear HV0 hll hml h40 hsl hmo
     go_wp2_with (first
      | (go_at_call 17; refine (HQ1.out _).mono ?_; rintro e W9 ⟨rfl, ht⟩; have HT9 := Lib.hid ht; clear ht)
      | (go_at_call 80; refine (HSC.out _ HT9.out).mono ?_; rintro e W10 ⟨⟨v9, rfl, hp9⟩, ht⟩; obtain ⟨q1, d1, rfl, hl1, -⟩ := hp9; rw [HSL.out]; have HT10 := Lib.hid (HT9.out.trans ht); have HL1 := Lib.hid hl1; clear ht hl1)
      | (go_at_call 81; refine (HCL.out _ HT10.out).mono ?_; rintro e W11 ⟨q, d, rfl, hgr, ht⟩; have HG9 := Lib.hid hgr; have HT11 := Lib.hid ht; clear hgr ht)
      | (at_builtin; (refine app_parts W11 rfl _ _ rfl W10.heap.size _ (.slice q l.length d) l (scaledP m mo) q1 d1 rfl (by rw [HSL.out]; rfl) HSN.out HG9.out ((HL1.out.turned HT11.out).mono HT11.out.size) HT11.out.size H40.out ?_); intro v9 W12 hg10 ht10; have HP9 := Lib.hid hg10.pts; have HT12 := Lib.hid ((HTR.out.trans HT10.out).freshC (HT11.out.freshC ht10 fun k hk => hk) fun k hk => hk.elim); clear hg10 ht10))
     go_ret2
     rw [HV.out]
     exact ⟨Back.ok ⟨_, rfl, HP9.out⟩, HT12.out⟩
   | sn8 l v hop hqs hl hv h1 hi =>
    clear HCASE
    have HST := Lib.hid (And.intro hl hv)
    have HDV := Lib.hid (div_one h1 hv hi)
    clear hl hv h1 hi
    have HQS := Lib.hid hqs
    have HX := Lib.hid hop
    clear hqs
    have b1 : (x.op == 1) = false := by rw [hop]; rfl
    have b4 : (x.op == 4) = false := by rw [hop]; rfl
    have b6 : (x.op == 6) = false := by rw [hop]; rfl
    have b10 : (x.op == 10) = false := by rw [hop]; rfl
    have b11 : (x.op == 11) = false := by rw [hop]; rfl
    have b7 : (x.op == 7) = false := by rw [hop]; rfl
    have b8 : (x.op == 8) = true := by rw [hop]; rfl
    clear hop
    obtain rfl : qs = [.sum l, .num v] := by
     have h := HKS.out
     rw [HQS.out] at h
     cases h
     rfl
    obtain ⟨ya, za, hL, hya, hza⟩ := HAN.out.two
    obtain ⟨_, hya, pp, cc, rfl, hpl, -⟩ := hya
    have HPL := Lib.hid hpl
    have hl2 : L.length = 2 := by rw [hL]; rfl
    have HA : Hid (Lst wr.heap.size wr 1 anyCells [ya, za] p c) := Lib.hid (by
     rw [<- hL]
     exact (show Grown wr w1.heap.size 20 1 anyCells (.slice p L.length c) L by rw [HKL.out]; exact HG.out).at_ (fun _ => rfl) (Nat.le_refl _))
    obtain ⟨g, r, rfl, -, i0⟩ := HA.out.anys (i := 0) rfl
    obtain ⟨g', r', h8, -, i1⟩ := HA.out.anys (i := 1) rfl
    cases h8
    replace i0 : wr.cell? ⟨g, r, none⟩ = some (.iface 29 (.slice pp l.length cc)) := i0.trans (congrArg some hya)
    replace i1 : wr.cell? ⟨g, r + 1, none⟩ = some (.iface 31 (ratV v)) := i1.trans (congrArg some hza)
    have hn0n : 0 < x.kids.length := by rw [<- HKL.out, hl2]; decide
    have hn0 : (0 : Int) < (x.kids.length : Int) := by omega
    have hn1 : (1 : Int) < (x.kids.length : Int) := by rw [<- HKL.out, hl2]; decide
    clear hl2 hya hza hL
    clear hpl
    obtain ⟨⟨sn, sx, sd⟩, ec, hss, hqd, hre⟩ := HDV.out
    have HV0 : valueE x = bothP 8 (.sum l) (.num v) := by rw [valueE_eq, HQS.out, HX.out]; rfl
    have HV : Hid (Back0 (valueE x) ec (.sum (scaledP l ⟨sn, sx, sd⟩))) := Lib.hid (by rw [HV0]; exact hre l)
    have HQ1 := Lib.hid (fun V : World => qIntZ_any 1 V (by decide) (by decide))
    have HQD := Lib.hid hqd
    have HSS := Lib.hid hss
    clear HV0 hss hqd hre HDV
    obtain ⟨⟨on, ox, od⟩, ho⟩ : ∃ s, intR 1 = s := ⟨_, rfl⟩
    rw [ho] at HQ1 HQD
    clear ho
    obtain ⟨vn, vx, vd⟩ := v
    have HSC := Lib.hid (fun (V : World) (t : Turned (fun k => wr.heap.size <= k) wr V) => scaled_any l ⟨sn, sx, sd⟩ 2000000 pp cc V ((HPL.out.same (t.same (Nat.le_refl _) fun k hk => Nat.not_le_of_lt hk)).mono t.size) HST.out.1.1 (Nat.le_trans HST.out.1.2.1 (by decide)) (by decide) (by decide) HSS.out HST.out.1.2.2)
    have x0a := cellT ((Turned.refl (fun _ => False) wr).alloc (.cells #[.bool vn, .string vx, .string vd] 31)) id x0
    go_upto_region 44 with fail
    obtain ⟨W5, hW5⟩ : ∃ W5, W5 = wr.alloc (.cells #[.bool vn, .string vx, .string vd] 31) := ⟨_, rfl⟩
    have HB5 : Hid (W5.heap[wr.heap.size]? = some (.cells #[.bool vn, .string vx, .string vd] 31 (0, 0))) := Lib.hid (by rw [hW5]; exact World.alloc_heap_new _ _)
    have HT5 : Hid (Turned (fun _ => False) wr W5) := Lib.hid (by rw [hW5]; exact (Turned.refl _ _).alloc _)
    have HK44 : Hid (∀ V, Turned (fun k => W5.heap.size <= k) W5 V -> V.cell? ⟨wr.heap.size, 0, none⟩ = some (.bool vn) /\ V.cell? ⟨wr.heap.size, 1, none⟩ = some (.string vx) /\ V.cell? ⟨wr.heap.size, 2, none⟩ = some (.string vd)) := Lib.hid fun V hV => three_cells ((hV.block _ (getElem?_lt HB5.out) (Nat.not_le_of_lt (getElem?_lt HB5.out))).trans HB5.out)
    rw [<- hW5]
    clear hW5 x0a x0 x1 x2 x3 x4 i0 i1
    refine wp_region_held_drew (S := fun V => V.cell? ⟨wr.heap.size, 0, none⟩ = some (.bool vn) /\ V.cell? ⟨wr.heap.size, 1, none⟩ = some (.string vx) /\ V.cell? ⟨wr.heap.size, 2, none⟩ = some (.string vd)) (by kernel_rfl) (HK44.out _ (Turned.refl _ W5).drew) (fun _ => ?_)
    obtain ⟨wd, hwd⟩ : ∃ wd, wd = W5.drew := ⟨_, rfl⟩
    have T0 : Hid (Turned (fun k => W5.heap.size <= k) W5 wd) := Lib.hid (by rw [hwd]; exact (Turned.refl _ W5).drew)
    have S0 := Lib.hid (HK44.out _ T0.out)
    rw [<- hwd]
    clear hwd
    refine wpAnyH_take (i := 1) (oi := _) (v := .agg #[.bool vn, .string vx, .string vd]) rfl (by kernel_rfl) (by kernel_rfl) (by kernel_rfl) (fun _ _ _ h => h) (Or.inl ⟨by kernel_rfl, fun V hV => ?_⟩) S0.out ?_
    ·obtain ⟨s0, s1, s2⟩ := hV
     go_simp
    try simp only [zz0, zz1, zz2, Act.put, zz3, zz4, zz5]
    refine wpAnyH_ready (rs := [0, 6]) (by kernel_rfl) (by simp) ?_
    refine AllReadyH.cons (o := _) rfl (fun K hK => ?_) ?_
    go_simp
    refine (HQ1.out wd).mono ?_
    rintro e w2 ⟨rfl, t9⟩
    have TA := Lib.hid (T0.out.trans (t9.mono fun _ h => h.elim))
    refine hK.out _ _ (HK44.out _ TA.out) (fun _ => ?_)
    clear hK K t9
    try simp only [zz0, zz1, zz2, Act.put, zz3, zz4, zz5]
    refine wpAnyH_ready (rs := [2, 6]) (by kernel_rfl) (by simp) ?_
    refine AllReadyH.cons (o := _) rfl (fun K hK => ?_) ?_
    go_simp
    refine (HQD.out w2).mono ?_
    rintro e w3 ⟨rfl, t9⟩
    have TB := Lib.hid (TA.out.trans (t9.mono fun _ h => h.elim))
    refine hK.out _ _ (HK44.out _ TB.out) (fun _ => ?_)
    clear hK K t9
    try simp only [zz0, zz1, zz2, Act.put, zz3, zz4, zz5]
    refine wpAnyH_take (i := 3) (oi := _) (v := .tuple #[.agg #[.bool sn, .string sx, .string sd], .int .i64 ec]) rfl (by kernel_rfl) (by kernel_rfl) (by kernel_rfl) (fun _ _ _ h => h) (Or.inl ⟨by kernel_rfl, fun V hV => ?_⟩) (HK44.out _ TB.out) ?_
    ·clear hV
     go_simp
    try simp only [zz0, zz1, zz2, Act.put, zz3, zz4, zz5]
    refine wpAnyH_take (i := 4) (oi := _) (v := .agg #[.bool sn, .string sx, .string sd]) rfl (by kernel_rfl) (by kernel_rfl) (by kernel_rfl) (fun _ _ _ h => h) (Or.inl ⟨by kernel_rfl, fun V hV => ?_⟩) (HK44.out _ TB.out) ?_
    ·clear hV
     go_simp
    try simp only [zz0, zz1, zz2, Act.put, zz3, zz4, zz5]
    refine wpAnyH_take (i := 5) (oi := _) (v := (.int .i64 ec)) rfl (by kernel_rfl) (by kernel_rfl) (by kernel_rfl) (fun _ _ _ h => h) (Or.inl ⟨by kernel_rfl, fun V hV => ?_⟩) (HK44.out _ TB.out) ?_
    ·clear hV
     go_simp
    try simp only [zz0, zz1, zz2, Act.put, zz3, zz4, zz5]
    refine wpAnyH_ready (rs := [6]) (by kernel_rfl) (by simp) ?_
    refine AllReadyH.cons (o := _) rfl (fun K hK => ?_) ?_
    obtain ⟨M, hM⟩ : ∃ M, w3.heap.size = M := ⟨_, rfl⟩
    obtain ⟨w4, h3⟩ : ∃ w, w = w3.alloc (.cells #[.bool false, .string ⟨#[]⟩, .string ⟨#[]⟩] 31) := ⟨_, rfl⟩
    have b3 : (w3.alloc (.cells #[.bool false, .string ⟨#[]⟩, .string ⟨#[]⟩] 31)).heap[w3.heap.size]? = some _ := World.alloc_heap_new _ _
    have TC := Lib.hid (TB.out.alloc (.cells #[.bool false, .string ⟨#[]⟩, .string ⟨#[]⟩] 31))
    have HMM : Hid (W5.heap.size <= M) := Lib.hid (by rw [<- hM]; exact TB.out.size)
    rw [<- h3] at TC b3
    rw [hM] at b3
    have HBX := Lib.hid b3
    go_simp
    try rw [hM]
    try rw [<- h3]
    refine hK.out _ _ (HK44.out _ TC.out) (fun _ => ?_)
    clear hK K h3 hM b3
    try simp only [zz0, zz1, zz2, Act.put, zz3, zz4, zz5]
    refine wpAnyH_ready (rs := [7]) (by kernel_rfl) (by simp) ?_
    refine AllReadyH.cons (o := _) rfl (fun K hK => ?_) ?_
    obtain ⟨p0, p1, p2, q0, q1, q2⟩ := box3 HBX.out
    have hst := set3 HBX.out (.bool sn) (.string sx) (.string sd)
    have TZ := Lib.hid (TC.out.trans (hst.2.mono fun i hi => by rw [hi]; exact HMM.out))
    have HBZ := Lib.hid hst.1
    clear hst
    go_simp
    refine hK.out _ _ (HK44.out _ TZ.out) (fun _ => ?_)
    clear hK K p0 p1 p2 q0 q1 q2
    try simp only [zz0, zz1, zz2, Act.put, zz3, zz4, zz5]
    refine wpAnyH_take (i := 8) (oi := _) (v := (.int .i64 ec)) rfl (by kernel_rfl) (by kernel_rfl) (by kernel_rfl) (fun _ _ _ h => h) (Or.inl ⟨by kernel_rfl, fun V hV => ?_⟩) (HK44.out _ TZ.out) ?_
    ·clear hV
     go_simp
    try simp only [zz0, zz1, zz2, Act.put, zz3, zz4, zz5]
    refine wpAnyH_done (by kernel_rfl) ?_ _
    obtain ⟨wz, hwz⟩ : ∃ wz, wz = (((w4.setCell ⟨M, 0, none⟩ (.bool sn)).setCell ⟨M, 1, none⟩ (.string sx)).setCell ⟨M, 2, none⟩ (.string sd)) := ⟨_, rfl⟩
    rw [<- hwz] at HBZ TZ ⊢
    clear hwz
    rotate_left
    exact AllReadyH.nil
    exact AllReadyH.nil
    refine AllReadyH.cons (o := _) rfl (fun K hK => ?_) ?_
    obtain ⟨M, hM⟩ : ∃ M, w2.heap.size = M := ⟨_, rfl⟩
    obtain ⟨w3, h3⟩ : ∃ w, w = w2.alloc (.cells #[.bool false, .string ⟨#[]⟩, .string ⟨#[]⟩] 31) := ⟨_, rfl⟩
    have b3 : (w2.alloc (.cells #[.bool false, .string ⟨#[]⟩, .string ⟨#[]⟩] 31)).heap[w2.heap.size]? = some _ := World.alloc_heap_new _ _
    have TB := Lib.hid (TA.out.alloc (.cells #[.bool false, .string ⟨#[]⟩, .string ⟨#[]⟩] 31))
    have HMM : Hid (W5.heap.size <= M) := Lib.hid (by rw [<- hM]; exact TA.out.size)
    rw [<- h3] at TB b3
    rw [hM] at b3
    have HBX := Lib.hid b3
    go_simp
    try rw [hM]
    try rw [<- h3]
    refine hK.out _ _ (HK44.out _ TB.out) (fun _ => ?_)
    clear hK K h3 hM b3
    try simp only [zz0, zz1, zz2, Act.put, zz3, zz4, zz5]
    refine wpAnyH_ready (rs := [2]) (by kernel_rfl) (by simp) ?_
    refine AllReadyH.cons (o := _) rfl (fun K hK => ?_) ?_
    go_simp
    refine (HQD.out w3).mono ?_
    rintro e w4 ⟨rfl, t9⟩
    have TC := Lib.hid (TB.out.trans (t9.mono fun _ h => h.elim))
    replace HBX := Lib.hid (keepB t9 HBX.out)
    refine hK.out _ _ (HK44.out _ TC.out) (fun _ => ?_)
    clear hK K t9
    try simp only [zz0, zz1, zz2, Act.put, zz3, zz4, zz5]
    refine wpAnyH_take (i := 3) (oi := _) (v := .tuple #[.agg #[.bool sn, .string sx, .string sd], .int .i64 ec]) rfl (by kernel_rfl) (by kernel_rfl) (by kernel_rfl) (fun _ _ _ h => h) (Or.inl ⟨by kernel_rfl, fun V hV => ?_⟩) (HK44.out _ TC.out) ?_
    ·clear hV
     go_simp
    try simp only [zz0, zz1, zz2, Act.put, zz3, zz4, zz5]
    refine wpAnyH_take (i := 4) (oi := _) (v := .agg #[.bool sn, .string sx, .string sd]) rfl (by kernel_rfl) (by kernel_rfl) (by kernel_rfl) (fun _ _ _ h => h) (Or.inl ⟨by kernel_rfl, fun V hV => ?_⟩) (HK44.out _ TC.out) ?_
    ·clear hV
     go_simp
    try simp only [zz0, zz1, zz2, Act.put, zz3, zz4, zz5]
    refine wpAnyH_take (i := 5) (oi := _) (v := (.int .i64 ec)) rfl (by kernel_rfl) (by kernel_rfl) (by kernel_rfl) (fun _ _ _ h => h) (Or.inl ⟨by kernel_rfl, fun V hV => ?_⟩) (HK44.out _ TC.out) ?_
    ·clear hV
     go_simp
    try simp only [zz0, zz1, zz2, Act.put, zz3, zz4, zz5]
    refine wpAnyH_ready (rs := [7]) (by kernel_rfl) (by simp) ?_
    refine AllReadyH.cons (o := _) rfl (fun K hK => ?_) ?_
    obtain ⟨p0, p1, p2, q0, q1, q2⟩ := box3 HBX.out
    have hst := set3 HBX.out (.bool sn) (.string sx) (.string sd)
    have TZ := Lib.hid (TC.out.trans (hst.2.mono fun i hi => by rw [hi]; exact HMM.out))
    have HBZ := Lib.hid hst.1
    clear hst
    go_simp
    refine hK.out _ _ (HK44.out _ TZ.out) (fun _ => ?_)
    clear hK K p0 p1 p2 q0 q1 q2
    try simp only [zz0, zz1, zz2, Act.put, zz3, zz4, zz5]
    refine wpAnyH_take (i := 8) (oi := _) (v := (.int .i64 ec)) rfl (by kernel_rfl) (by kernel_rfl) (by kernel_rfl) (fun _ _ _ h => h) (Or.inl ⟨by kernel_rfl, fun V hV => ?_⟩) (HK44.out _ TZ.out) ?_
    ·clear hV
     go_simp
    try simp only [zz0, zz1, zz2, Act.put, zz3, zz4, zz5]
    refine wpAnyH_done (by kernel_rfl) ?_ _
    obtain ⟨wz, hwz⟩ : ∃ wz, wz = (((w4.setCell ⟨M, 0, none⟩ (.bool sn)).setCell ⟨M, 1, none⟩ (.string sx)).setCell ⟨M, 2, none⟩ (.string sd)) := ⟨_, rfl⟩
    rw [<- hwz] at HBZ TZ ⊢
    clear hwz
    rotate_left
    exact AllReadyH.nil
    exact AllReadyH.nil
    exact AllReadyH.nil
    refine AllReadyH.cons (o := _) rfl (fun K hK => ?_) ?_
    obtain ⟨M, hM⟩ : ∃ M, wd.heap.size = M := ⟨_, rfl⟩
    obtain ⟨w2, h3⟩ : ∃ w, w = wd.alloc (.cells #[.bool false, .string ⟨#[]⟩, .string ⟨#[]⟩] 31) := ⟨_, rfl⟩
    have b3 : (wd.alloc (.cells #[.bool false, .string ⟨#[]⟩, .string ⟨#[]⟩] 31)).heap[wd.heap.size]? = some _ := World.alloc_heap_new _ _
    have TA := Lib.hid (T0.out.alloc (.cells #[.bool false, .string ⟨#[]⟩, .string ⟨#[]⟩] 31))
    have HMM : Hid (W5.heap.size <= M) := Lib.hid (by rw [<- hM]; exact T0.out.size)
    rw [<- h3] at TA b3
    rw [hM] at b3
    have HBX := Lib.hid b3
    go_simp
    try rw [hM]
    try rw [<- h3]
    refine hK.out _ _ (HK44.out _ TA.out) (fun _ => ?_)
    clear hK K h3 hM b3
    try simp only [zz0, zz1, zz2, Act.put, zz3, zz4, zz5]
    refine wpAnyH_ready (rs := [0]) (by kernel_rfl) (by simp) ?_
    refine AllReadyH.cons (o := _) rfl (fun K hK => ?_) ?_
    go_simp
    refine (HQ1.out w2).mono ?_
    rintro e w3 ⟨rfl, t9⟩
    have TB := Lib.hid (TA.out.trans (t9.mono fun _ h => h.elim))
    replace HBX := Lib.hid (keepB t9 HBX.out)
    refine hK.out _ _ (HK44.out _ TB.out) (fun _ => ?_)
    clear hK K t9
    try simp only [zz0, zz1, zz2, Act.put, zz3, zz4, zz5]
    refine wpAnyH_ready (rs := [2]) (by kernel_rfl) (by simp) ?_
    refine AllReadyH.cons (o := _) rfl (fun K hK => ?_) ?_
    go_simp
    refine (HQD.out w3).mono ?_
    rintro e w4 ⟨rfl, t9⟩
    have TC := Lib.hid (TB.out.trans (t9.mono fun _ h => h.elim))
    replace HBX := Lib.hid (keepB t9 HBX.out)
    refine hK.out _ _ (HK44.out _ TC.out) (fun _ => ?_)
    clear hK K t9
    try simp only [zz0, zz1, zz2, Act.put, zz3, zz4, zz5]
    refine wpAnyH_take (i := 3) (oi := _) (v := .tuple #[.agg #[.bool sn, .string sx, .string sd], .int .i64 ec]) rfl (by kernel_rfl) (by kernel_rfl) (by kernel_rfl) (fun _ _ _ h => h) (Or.inl ⟨by kernel_rfl, fun V hV => ?_⟩) (HK44.out _ TC.out) ?_
    ·clear hV
     go_simp
    try simp only [zz0, zz1, zz2, Act.put, zz3, zz4, zz5]
    refine wpAnyH_take (i := 4) (oi := _) (v := .agg #[.bool sn, .string sx, .string sd]) rfl (by kernel_rfl) (by kernel_rfl) (by kernel_rfl) (fun _ _ _ h => h) (Or.inl ⟨by kernel_rfl, fun V hV => ?_⟩) (HK44.out _ TC.out) ?_
    ·clear hV
     go_simp
    try simp only [zz0, zz1, zz2, Act.put, zz3, zz4, zz5]
    refine wpAnyH_take (i := 5) (oi := _) (v := (.int .i64 ec)) rfl (by kernel_rfl) (by kernel_rfl) (by kernel_rfl) (fun _ _ _ h => h) (Or.inl ⟨by kernel_rfl, fun V hV => ?_⟩) (HK44.out _ TC.out) ?_
    ·clear hV
     go_simp
    try simp only [zz0, zz1, zz2, Act.put, zz3, zz4, zz5]
    refine wpAnyH_ready (rs := [7]) (by kernel_rfl) (by simp) ?_
    refine AllReadyH.cons (o := _) rfl (fun K hK => ?_) ?_
    obtain ⟨p0, p1, p2, q0, q1, q2⟩ := box3 HBX.out
    have hst := set3 HBX.out (.bool sn) (.string sx) (.string sd)
    have TZ := Lib.hid (TC.out.trans (hst.2.mono fun i hi => by rw [hi]; exact HMM.out))
    have HBZ := Lib.hid hst.1
    clear hst
    go_simp
    refine hK.out _ _ (HK44.out _ TZ.out) (fun _ => ?_)
    clear hK K p0 p1 p2 q0 q1 q2
    try simp only [zz0, zz1, zz2, Act.put, zz3, zz4, zz5]
    refine wpAnyH_take (i := 8) (oi := _) (v := (.int .i64 ec)) rfl (by kernel_rfl) (by kernel_rfl) (by kernel_rfl) (fun _ _ _ h => h) (Or.inl ⟨by kernel_rfl, fun V hV => ?_⟩) (HK44.out _ TZ.out) ?_
    ·clear hV
     go_simp
    try simp only [zz0, zz1, zz2, Act.put, zz3, zz4, zz5]
    refine wpAnyH_done (by kernel_rfl) ?_ _
    obtain ⟨wz, hwz⟩ : ∃ wz, wz = (((w4.setCell ⟨M, 0, none⟩ (.bool sn)).setCell ⟨M, 1, none⟩ (.string sx)).setCell ⟨M, 2, none⟩ (.string sd)) := ⟨_, rfl⟩
    rw [<- hwz] at HBZ TZ ⊢
    clear hwz
    rotate_left
    exact AllReadyH.nil
    exact AllReadyH.nil
    exact AllReadyH.nil
    exact AllReadyH.nil
    all_goals
     have HTZ : Hid (Turned (fun k => wr.heap.size <= k) wr wz) := Lib.hid ((HT5.out.mono fun _ h => h.elim).trans (TZ.out.mono fun k hk => Nat.le_trans HT5.out.size hk))
     have HTQ := Lib.hid (HTR.out.freshC HTZ.out fun k hk => Nat.le_trans HTR.out.size hk)
     obtain ⟨c0, c1, c2, -⟩ := box3 HBZ.out
     go_wp2_with (go_at_call 80; refine (HSC.out _ HTZ.out).mono ?_; rintro e W9 ⟨⟨v9, rfl, hp9⟩, ht⟩; have HP9 := Lib.hid hp9; have HT9 := Lib.hid (HTQ.out.trans ht); clear ht hp9)
     go_ret2
     exact ⟨HV.out.back ⟨_, rfl, HP9.out⟩, HT9.out⟩
   | call qs0 as_ ty hop hqs hsig hty hs =>
    clear HCASE
    have HQS := Lib.hid hqs
    have HX := Lib.hid hop
    have HSIG := Lib.hid hsig
    have HTY := Lib.hid hty
    have HSU := Lib.hid hs
    have b1 : (x.op == 1) = false := by rw [hop]; rfl
    have b4 : (x.op == 4) = true := by rw [hop]; rfl
    clear hqs hop hsig hty hs
    obtain rfl : qs = qs0 := by
     have h := HKS.out
     rw [HQS.out] at h
     cases h
     rfl
    have HA : Hid (Lst wr.heap.size wr 1 anyCells L p c) := Lib.hid ((show Grown wr w1.heap.size 20 1 anyCells (.slice p L.length c) L by rw [HKL.out]; exact HG.out).at_ (fun _ => rfl) (Nat.le_refl _))
    have HLT : Hid (w.heap.size < wr.heap.size) := Lib.hid (cellLt x2)
    have HK14 : Hid (∀ V, Turned (fun k => wr.heap.size <= k) wr V -> V.cell? ⟨w.heap.size, 2, none⟩ = some (.string x.s)) := Lib.hid fun V hV => cellT hV (Nat.not_le_of_lt HLT.out) x2
    obtain ⟨r0, hr0⟩ : ∃ r, r = calledN (callNo x.s) qs := ⟨_, rfl⟩
    have HV : Hid (valueE x = r0) := Lib.hid (by rw [valueE_eq, HQS.out, HX.out, hr0]; rfl)
    have HCV : Hid (∀ (B : Nat) (f : Value) (V : World), Turned (fun k => wr.heap.size <= k) wr V -> FnB B V (callNo x.s) f -> ClB V f (.slice p x.kids.length c) r0) := Lib.hid (by
     intro B f V t hf
     rw [hr0, <- HKL.out]
     exact call_value hf HSIG.out HTY.out (HAN.out.newer t) ((HA.out.same (t.same (Nat.le_refl _) fun k hk => Nat.not_le_of_lt hk)).mono t.size) ((HTB.out.turned HTR.out).newer t) HSU.out)
    clear hr0
    go_upto_region 14 with fail
    clear x0 x1 x2 x3 x4
    refine wp_region_held_drew (S := fun V => V.cell? ⟨w.heap.size, 2, none⟩ = some (.string x.s)) (by kernel_rfl) (HK14.out _ (Turned.refl _ wr).drew) (fun _ => ?_)
    obtain ⟨wd, hwd⟩ : ∃ wd, wd = wr.drew := ⟨_, rfl⟩
    have T0 : Hid (Turned (fun k => wr.heap.size <= k) wr wd) := Lib.hid (by rw [hwd]; exact (Turned.refl _ wr).drew)
    have S0 := Lib.hid (HK14.out _ T0.out)
    rw [<- hwd]
    clear hwd
    refine wpAnyH_take (i := 1) (oi := _) (v := .pointer (some ⟨w.heap.size, 2, none⟩)) rfl (by kernel_rfl) (by kernel_rfl) (by kernel_rfl) (fun _ _ _ h => h) (Or.inl ⟨by kernel_rfl, fun V hV => ?_⟩) S0.out ?_
    ·clear hV
     go_simp
    try simp only [zz0, zz1, zz2, Act.put, zz3, zz4, zz5]
    refine wpAnyH_take (i := 2) (oi := _) (v := .string x.s) rfl (by kernel_rfl) (by kernel_rfl) (by kernel_rfl) (fun _ _ _ h => h) (Or.inl ⟨by kernel_rfl, fun V hV => ?_⟩) S0.out ?_
    ·skip
     go_simp
    try simp only [zz0, zz1, zz2, Act.put, zz3, zz4, zz5]
    refine wpAnyH_take (i := 5) (oi := _) (v := .slice p x.kids.length c) rfl (by kernel_rfl) (by kernel_rfl) (by kernel_rfl) (fun _ _ _ h => h) (Or.inl ⟨by kernel_rfl, fun V hV => ?_⟩) S0.out ?_
    ·clear hV
     go_simp
    try simp only [zz0, zz1, zz2, Act.put, zz3, zz4, zz5]
    refine wpAnyH_ready (rs := [0]) (by kernel_rfl) (by simp) ?_
    refine AllReadyH.cons (o := _) rfl (fun K hK => ?_) ?_
    go_simp
    refine (calls_map wd).mono ?_
    rintro e w2 ⟨B, vs, rfl, hvl, hcm⟩
    have TA := Lib.hid (T0.out.trans (hcm.tur.mono fun _ h => h.elim))
    obtain ⟨va, vb, f, hlk, hfn⟩ := hcm.fn hvl HS.out.1 HSIG.out
    have HCL := Lib.hid (HCV.out B f w2 TA.out hfn)
    refine hK.out _ _ (HK14.out _ TA.out) (fun _ => ?_)
    clear hK K hfn hvl hcm
    try simp only [zz0, zz1, zz2, Act.put, zz3, zz4, zz5]
    refine wpAnyH_ready (rs := [3]) (by kernel_rfl) (by simp) ?_
    refine AllReadyH.cons (o := _) rfl (fun K hK => ?_) ?_
    go_simp
    refine hK.out _ _ (HK14.out _ TA.out) (fun _ => ?_)
    clear hK K hlk
    try simp only [zz0, zz1, zz2, Act.put, zz3, zz4, zz5]
    have hfl := fun V : World => run_field_call va vb f V
    refine wpAnyH_take (i := 4) (oi := _) (v := f) rfl (by kernel_rfl) (by kernel_rfl) (by kernel_rfl) (fun _ _ _ h => h) (Or.inl ⟨by kernel_rfl, fun V hV => ?_⟩) (HK14.out _ TA.out) ?_
    ·clear hV
     go_simp
    try simp only [zz0, zz1, zz2, Act.put, zz3, zz4, zz5]
    clear hfl
    refine wpAnyH_ready (rs := [6]) (by kernel_rfl) (by simp) ?_
    refine AllReadyH.cons (o := _) rfl (fun K hK => ?_) ?_
    rcases HCL.out with ⟨rfl, hc⟩ | ⟨rfl, hc⟩ | ⟨rfl, hc⟩ | ⟨rfl, hc⟩ | ⟨kb, ⟨rfl, hc⟩ | ⟨rfl, hc⟩⟩
    all_goals try exact AllReadyH.nil
    all_goals
     have HC := Lib.hid hc
     clear hc
     go_simp
     refine HC.out.mono ?_
     rintro e w3 ⟨⟨v9, rfl, hv9⟩, t9⟩
     have HV9 := Lib.hid hv9
     have TB := Lib.hid (TA.out.trans (t9.mono fun _ h => h.elim))
     refine hK.out _ _ (HK14.out _ TB.out) (fun _ => ?_)
     clear hK K t9 hv9 HCL
     try simp only [zz0, zz1, zz2, Act.put, zz3, zz4, zz5]
     refine wpAnyH_take (i := 7) (oi := _) (v := .tuple #[v9, (.int .i64 (errOf r0))]) rfl (by kernel_rfl) (by kernel_rfl) (by kernel_rfl) (fun _ _ _ h => h) (Or.inl ⟨by kernel_rfl, fun V hV => ?_⟩) (HK14.out _ TB.out) ?_
     ·clear hV
      go_simp
     try simp only [zz0, zz1, zz2, Act.put, zz3, zz4, zz5]
     refine wpAnyH_take (i := 8) (oi := _) (v := v9) rfl (by kernel_rfl) (by kernel_rfl) (by kernel_rfl) (fun _ _ _ h => h) (Or.inl ⟨by kernel_rfl, fun V hV => ?_⟩) (HK14.out _ TB.out) ?_
     ·clear hV
      go_simp
     try simp only [zz0, zz1, zz2, Act.put, zz3, zz4, zz5]
     refine wpAnyH_take (i := 9) (oi := _) (v := (.int .i64 (errOf r0))) rfl (by kernel_rfl) (by kernel_rfl) (by kernel_rfl) (fun _ _ _ h => h) (Or.inl ⟨by kernel_rfl, fun V hV => ?_⟩) (HK14.out _ TB.out) ?_
     ·clear hV
      go_simp
     try simp only [zz0, zz1, zz2, Act.put, zz3, zz4, zz5]
     refine wpAnyH_take (i := 10) (oi := _) (v := v9) rfl (by kernel_rfl) (by kernel_rfl) (by kernel_rfl) (fun _ _ _ h => h) (Or.inl ⟨by kernel_rfl, fun V hV => ?_⟩) (HK14.out _ TB.out) ?_
     ·clear hV
      go_simp
     try simp only [zz0, zz1, zz2, Act.put, zz3, zz4, zz5]
     refine wpAnyH_take (i := 11) (oi := _) (v := (.int .i64 (errOf r0))) rfl (by kernel_rfl) (by kernel_rfl) (by kernel_rfl) (fun _ _ _ h => h) (Or.inl ⟨by kernel_rfl, fun V hV => ?_⟩) (HK14.out _ TB.out) ?_
     ·clear hV
      go_simp
     try simp only [zz0, zz1, zz2, Act.put, zz3, zz4, zz5]
     refine wpAnyH_done (by kernel_rfl) ?_ _
     have HTQ := Lib.hid (HTR.out.freshC TB.out fun k hk => Nat.le_trans HTR.out.size hk)
     cases hr : r0 with
     | error ce =>
      have hE1 : errOf (.error ce) = ce := rfl
      have hnb : (ce == 0) = false := by have := value_err (HV.out.trans hr); simp; omega
      have HV2 := Lib.hid (HV.out.trans hr)
      subst hr
      go_wp2_with fail
      go_ret2
      rw [HV2.out]
      exact ⟨Back.err _ _ _, HTQ.out⟩
     | ok q =>
      have hE1 : errOf (.ok q) = 0 := rfl
      have HV2 := Lib.hid (HV.out.trans hr)
      have HQ9 := Lib.hid (HV9.out q hr)
      subst hr
      go_wp2_with fail
      go_ret2
      rw [HV2.out]
      exact ⟨Back.ok HQ9.out, HTQ.out⟩
end Go.Proofs.YthejfklieedjmaaGreatDoor
