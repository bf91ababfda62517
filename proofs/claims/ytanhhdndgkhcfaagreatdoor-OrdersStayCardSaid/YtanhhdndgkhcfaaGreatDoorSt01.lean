/- OrdLawQ, OrdLawR, OrdLawS, HeldTo. Conditions: those of each theorem. -/
import Derived.Test.YtanhhdndgkhcfaaGreatDoorDt21
import Derived.OrdersHeld
import Derived.Deep.RegionHeld
namespace Go.Proofs.YtanhhdndgkhcfaaGreatDoor
open Go Go.Proofs Go.RowKit

theorem fold_or (x : Int) : ∀ (os : List Or) (a : Option Rv), os.foldl (fun a o => if x = o.claim then some o.limit else a) a = (givenF os x).or a
  | [], a => rfl
  | o :: os, a => by
    show os.foldl _ (if x = o.claim then some o.limit else a) = (os.foldl _ (if x = o.claim then some o.limit else none)).or a
    rw [fold_or x os, fold_or x os (if x = o.claim then some o.limit else none)]
    cases givenF os x
    · by_cases h : x = o.claim
      · rw [if_pos h, if_pos h]; rfl
      · rw [if_neg h, if_neg h]; rfl
    · rfl
theorem givenF_append (a b : List Or) (x : Int) : givenF (a ++ b) x = (givenF b x).or (givenF a x) := by
  show (a ++ b).foldl _ none = _
  rw [List.foldl_append]
  exact fold_or x b _
theorem givenF_cons (o : Or) (os : List Or) (x : Int) : givenF (o :: os) x = (givenF os x).or (if x = o.claim then some o.limit else none) := by
  have := givenF_append [o] os x
  rw [List.singleton_append] at this
  rw [this]
  rfl
theorem givenF_none {x : Int} : ∀ {os : List Or}, (∀ o ∈ os, o.claim ≠ x) → givenF os x = none
  | [], _ => rfl
  | o :: os, h => by
    rw [givenF_cons, givenF_none fun p hp => h p (List.mem_cons_of_mem _ hp), if_neg fun e => h o (List.mem_cons_self ..) e.symm]
    rfl
theorem givenF_of : ∀ {os : List Or}, Rise os → ∀ {o : Or}, o ∈ os → givenF os o.claim = some o.limit
  | [], _, _, h => by cases h
  | p :: os, hr, o, h => by
    have h1 := List.pairwise_cons.1 hr
    rw [givenF_cons]
    rcases List.mem_cons.1 h with rfl | h
    · rw [givenF_none fun q hq => by have := h1.1 q hq; omega, if_pos rfl]
      rfl
    · rw [givenF_of h1.2 h]
      rfl
theorem givenF_is {x : Int} : ∀ {os : List Or}, (givenF os x).isSome = true ↔ ∃ o ∈ os, o.claim = x
  | [] => by simp [givenF]
  | o :: os => by
    rw [givenF_cons]
    have ih := givenF_is (x := x) (os := os)
    by_cases h : x = o.claim
    · rw [if_pos h]
      constructor
      · intro _
        exact ⟨o, List.mem_cons_self .., h.symm⟩
      · intro _
        cases givenF os x <;> rfl
    · rw [if_neg h, Option.or_none, ih]
      constructor
      · rintro ⟨p, hp, e⟩
        exact ⟨p, List.mem_cons_of_mem _ hp, e⟩
      · rintro ⟨p, hp, e⟩
        rcases List.mem_cons.1 hp with rfl | hp
        · exact absurd e.symm h
        · exact ⟨p, hp, e⟩
section
variable {rs : List Rc} {us vs : List Rv} {cs : List Cl}
/-- an order for no greater gains has an order for these, with no lesser limit; or it is new -/
theorem given_after (h : SupOK rs us cs) (h2 : SupOK rs vs cs) (hle : ∀ p, p < rs.length → gainQ us p ≤ gainQ vs p) {o : Or} (ho : o ∈ ordersL cs (takesR rs cs us)) :
    givenF (ordersL cs (takesR rs cs vs) ++ renewL (ordersL cs (takesR rs cs vs)) (ordersL cs (takesR rs cs us))) o.claim = some o.limit := by
  have hr : Rise (ordersL cs (takesR rs cs us)) := ordersTo_rise _ _ _
  rw [givenF_append]
  by_cases hn : newB (ordersL cs (takesR rs cs vs)) o = true
  · rw [givenF_of (os := renewL (ordersL cs (takesR rs cs vs)) (ordersL cs (takesR rs cs us))) (hr.filter _) (List.mem_filter.2 ⟨ho, hn⟩)]
    rfl
  · have h0 : givenF (renewL (ordersL cs (takesR rs cs vs)) (ordersL cs (takesR rs cs us))) o.claim = none := by
      refine givenF_none fun p hp e => ?_
      obtain ⟨hp1, hp2⟩ := List.mem_filter.1 hp
      have h4 := givenF_of hr hp1
      rw [e, givenF_of hr ho] at h4
      have h5 : p = o := by
        cases p; cases o
        simp only [Or.mk.injEq]
        exact ⟨e, (Option.some.inj h4).symm⟩
      rw [h5] at hp2
      exact hn hp2
    rw [h0, Option.none_or]
    have hn2 : newB (ordersL cs (takesR rs cs vs)) o = false := by simpa using hn
    unfold newB at hn2
    cases hg : givenF (ordersL cs (takesR rs cs vs)) o.claim with
    | none => rw [hg] at hn2; cases hn2
    | some l =>
      rw [hg] at hn2
      have hn3 : ¬ qR o.limit < qR l := of_decide_eq_false hn2
      obtain ⟨p, hp, e⟩ := givenF_is.1 (by rw [hg]; rfl : (givenF (ordersL cs (takesR rs cs vs)) o.claim).isSome = true)
      have hg2 := givenF_of (ordersTo_rise cs (takesR rs cs vs) cs.length) hp
      rw [e] at hg2
      have h6 : p.limit = l := Option.some.inj (hg2.symm.trans hg)
      obtain ⟨k, hk, -, rfl⟩ := orders_mem.1 ho
      obtain ⟨j, hj, -, rfl⟩ := orders_mem.1 hp
      have hjk : j = k := by
        have : (j : Int) = k := e
        omega
      subst hjk
      have h7 := take_mono h h2 hle hk
      have h8 : (takesR rs cs vs).getD j zeroR = l := h6
      have h9 : ¬ qR ((takesR rs cs us).getD j zeroR) < qR l := hn3
      rw [takes_getD rs cs vs hk] at h8
      rw [takes_getD rs cs us hk, qR_repR, ← h8, qR_repR] at h9
      show some l = some ((takesR rs cs us).getD j zeroR)
      rw [takes_getD rs cs us hk, ← h8]
      refine congrArg (fun z => some (repR z)) ?_
      grind
/-- the claims with orders, before or new, are those with orders -/
theorem given_claims (h : SupOK rs us cs) (h2 : SupOK rs vs cs) (hle : ∀ p, p < rs.length → gainQ us p ≤ gainQ vs p) {x : Int} :
    (givenF (ordersL cs (takesR rs cs vs) ++ renewL (ordersL cs (takesR rs cs vs)) (ordersL cs (takesR rs cs us))) x).isSome = true ↔ x ∈ (ordersL cs (takesR rs cs us)).map (·.claim) := by
  rw [givenF_is, List.mem_map]
  constructor
  · rintro ⟨o, ho, rfl⟩
    rcases List.mem_append.1 ho with ho | ho
    · obtain ⟨k, hk, hs, rfl⟩ := orders_mem.1 ho
      refine ⟨⟨k, (takesR rs cs us).getD k zeroR⟩, orders_mem.2 ⟨k, hk, ?_, rfl⟩, rfl⟩
      cases hv : sameR ((takesR rs cs us).getD k zeroR) (cs.getD k noCl).amt
      · rfl
      · have h3 := all_stays h h2 hle hk hv
        rw [sameR_iff.2 h3] at hs
        cases hs
    · exact ⟨o, (List.mem_filter.1 ho).1, rfl⟩
  · rintro ⟨o, ho, rfl⟩
    have h3 := given_after h h2 hle ho
    exact givenF_is.1 (by rw [h3]; rfl)
theorem given_len (h : SupOK rs us cs) (h2 : SupOK rs vs cs) (hle : ∀ p, p < rs.length → gainQ us p ≤ gainQ vs p) {ks : List Int} (hd : ks.Nodup)
    (hk : ∀ x, x ∈ ks ↔ (givenF (ordersL cs (takesR rs cs vs) ++ renewL (ordersL cs (takesR rs cs vs)) (ordersL cs (takesR rs cs us))) x).isSome = true) : ks.length = (ordersL cs (takesR rs cs us)).length := by
  have hr : Rise (ordersL cs (takesR rs cs us)) := ordersTo_rise _ _ _
  have hn : ((ordersL cs (takesR rs cs us)).map (·.claim)).Nodup := by
    rw [List.nodup_iff_pairwise_ne, List.pairwise_map]
    exact hr.imp fun {a b} hab => by omega
  have hp : ks.Perm ((ordersL cs (takesR rs cs us)).map (·.claim)) := (List.perm_ext_iff_of_nodup hd hn).2 fun x => (hk x).trans (given_claims h h2 hle)
  rw [hp.length_eq, List.length_map]
end
end Go.Proofs.YtanhhdndgkhcfaaGreatDoor
namespace Go.Proofs.YtanhhdndgkhcfaaGreatDoor
open Go Go.Proofs Go.RowKit Go.Maps

/-- two lists of numbers, number by number, the first k -/
def mixTo (f : Rat → Rat → Rat) (a b : List Rv) (k : Nat) : List Rv := (List.range k).map fun i => repR (f (qR (a.getD i zeroR)) (qR (b.getD i zeroR)))
theorem mixTo_len (f : Rat → Rat → Rat) (a b : List Rv) (k : Nat) : (mixTo f a b k).length = k := by unfold mixTo; simp
theorem mixTo_at (f : Rat → Rat → Rat) (a b : List Rv) {k i : Nat} (h : i < k) : (mixTo f a b k)[i]? = some (repR (f (qR (a.getD i zeroR)) (qR (b.getD i zeroR)))) := by unfold mixTo; simp [h]
theorem mixTo_succ (f : Rat → Rat → Rat) (a b : List Rv) (k : Nat) : mixTo f a b (k + 1) = mixTo f a b k ++ [repR (f (qR (a.getD k zeroR)) (qR (b.getD k zeroR)))] := by unfold mixTo; simp [List.range_succ]
theorem mix_in {rs : List Rc} {lo hi a b : List Rv} (g1 : GainsIn rs lo hi a) (g2 : GainsIn rs lo hi b) {f : Rat → Rat → Rat} (hf : ∀ x y, f x y = x ∨ f x y = y) : GainsIn rs lo hi (mixTo f a b rs.length) := by
  have hm : ∀ u ∈ mixTo f a b rs.length, ∃ k, k < rs.length ∧ repR (f (qR (a.getD k zeroR)) (qR (b.getD k zeroR))) = u := fun u hu => by
    unfold mixTo at hu
    obtain ⟨k, hk, rfl⟩ := List.mem_map.1 hu
    exact ⟨k, List.mem_range.1 hk, rfl⟩
  have hq : ∀ k, k < rs.length → gainQ (mixTo f a b rs.length) k = f (gainQ a k) (gainQ b k) := fun k hk => by
    show qR ((mixTo f a b rs.length).getD k zeroR) = _
    rw [getD_of (mixTo_at f a b hk), qR_repR]
    rfl
  refine ⟨mixTo_len _ _ _ _, fun u hu => ?_, fun u hu => ?_, fun p hp => ?_, fun p hp => ?_⟩
  · obtain ⟨k, hk, rfl⟩ := hm u hu
    refine repR_nat ?_
    have ha := qR_nonneg (natR_valid (natR_getD g1.nat (by rw [g1.len]; exact hk))).2
    have hb := qR_nonneg (natR_valid (natR_getD g2.nat (by rw [g2.len]; exact hk))).2
    rcases hf (qR (a.getD k zeroR)) (qR (b.getD k zeroR)) with h | h <;> rw [h] <;> assumption
  · obtain ⟨k, hk, rfl⟩ := hm u hu
    rcases hf (qR (a.getD k zeroR)) (qR (b.getD k zeroR)) with h | h
    · exact repR_szq (szr_getD g1.sz (by rw [g1.len]; exact hk)) h
    · exact repR_szq (szr_getD g2.sz (by rw [g2.len]; exact hk)) h
  · rw [hq p hp]
    rcases hf (gainQ a p) (gainQ b p) with h | h <;> rw [h]
    · exact g1.ge p hp
    · exact g2.ge p hp
  · rw [hq p hp]
    rcases hf (gainQ a p) (gainQ b p) with h | h <;> rw [h]
    · exact g1.le p hp
    · exact g2.le p hp
theorem mix_le {n : Nat} {a b : List Rv} {p : Nat} (hp : p < n) : gainQ (mixTo minR a b n) p ≤ gainQ (mixTo maxR a b n) p := by
  unfold gainQ
  rw [getD_of (mixTo_at minR a b hp), getD_of (mixTo_at maxR a b hp), qR_repR, qR_repR]
  have h1 := minR_le (qR (a.getD p zeroR)) (qR (b.getD p zeroR))
  have h2 := le_maxR (qR (a.getD p zeroR)) (qR (b.getD p zeroR))
  exact Rat.le_trans h1.1 h2.1
theorem ordE_gains {rs : List Rc} {lo hi a b : List Rv} {cs : List Cl} (h : OrdOK rs lo hi cs) (ha : a.length = rs.length) (hb : b.length = rs.length) (na : ∀ u ∈ a, natR u = true) (nb : ∀ u ∈ b, natR u = true) (hab : ∀ p, p < rs.length → gainQ a p ≤ gainQ b p) : ordE rs a b cs = 0 := by
  unfold ordE
  rw [supE_of h.e1 ha na, supE_of h.e1 hb nb, if_neg (by simp), if_neg (by simp), if_neg]
  unfold crossB
  rw [Bool.not_eq_true, List.any_eq_false]
  intro p hp
  rw [decide_eq_true_eq]
  exact Rat.not_lt.2 (hab p (by have := List.mem_range.1 hp; omega))
/-- what the law says of a better forecast: tl, th the takes of the forecast, sl, sh those of the better one -/
structure StayP (cs : List Cl) (tl th sl sh : List Rv) : Prop where
  len : tl.length = cs.length ∧ th.length = cs.length ∧ sl.length = cs.length ∧ sh.length = cs.length
  due : dueE cs.length sh (ordersL cs th) = 0
  le1 : ∀ k, k < cs.length → qR (tl.getD k zeroR) ≤ qR (sl.getD k zeroR)
  le2 : ∀ k, k < cs.length → qR (sl.getD k zeroR) ≤ qR (sh.getD k zeroR)
  le3 : ∀ k, k < cs.length → qR (sh.getD k zeroR) ≤ qR (th.getD k zeroR)
  sure : ∀ x ∈ sureL cs tl, x ∈ sureL cs sl
  given : ∀ o ∈ ordersL cs sh, givenF (ordersL cs th ++ renewL (ordersL cs th) (ordersL cs sh)) o.claim = some o.limit
  many : ∀ ks : List Int, ks.Nodup → (∀ x, x ∈ ks ↔ (givenF (ordersL cs th ++ renewL (ordersL cs th) (ordersL cs sh)) x).isSome = true) → ks.length = (ordersL cs sh).length
theorem stay_p {rs : List Rc} {lo hi a b : List Rv} {cs : List Cl} (h : OrdOK rs lo hi cs) (g1 : GainsIn rs lo hi a) (g2 : GainsIn rs lo hi b) (hab : ∀ p, p < rs.length → gainQ a p ≤ gainQ b p) : StayP cs (takesR rs cs lo) (takesR rs cs hi) (takesR rs cs a) (takesR rs cs b) := by
  have ha := supE_zero (g1.sup h)
  have hb := supE_zero (g2.sup h)
  have hm : ∀ {us vs : List Rv}, SupOK rs us cs → SupOK rs vs cs → (∀ p, p < rs.length → gainQ us p ≤ gainQ vs p) → ∀ k, k < cs.length → qR ((takesR rs cs us).getD k zeroR) ≤ qR ((takesR rs cs vs).getD k zeroR) := fun {us vs} h1 h2 hle k hk => by
    rw [takes_getD rs cs us hk, takes_getD rs cs vs hk, qR_repR, qR_repR]
    exact take_mono h1 h2 hle hk
  exact ⟨⟨takes_len _ _ _, takes_len _ _ _, takes_len _ _ _, takes_len _ _ _⟩, orders_due hb h.high g2.le, hm h.low ha g1.ge, hm ha hb hab, hm hb h.high g2.le, fun x hx => by
      obtain ⟨k, hk, hs, rfl⟩ := sure_mem.1 hx
      exact sure_mem.2 ⟨k, hk, by rw [sameR_iff]; exact all_stays h.low ha g1.ge hk hs, rfl⟩,
    fun o ho => given_after hb h.high g2.le ho, fun ks hd hk => given_len hb h.high g2.le hd hk⟩
theorem at_getR {l : List Rv} {k : Nat} (h : k < l.length) : l[k]? = some (l.getD k zeroR) := by
  rw [List.getD_eq_getElem?_getD, List.getElem?_eq_getElem h]
  rfl
/-- found so far -/
def foundTo (l : List Int) (x : Int) (k : Nat) : Bool := (l.take k).any fun y => y == x
theorem foundTo_succ {l : List Int} {x y : Int} {k : Nat} (h : l[k]? = some y) : foundTo l x (k + 1) = (foundTo l x k || (y == x)) := by
  obtain ⟨hlt, rfl⟩ := List.getElem?_eq_some_iff.1 h
  unfold foundTo
  rw [List.take_succ_eq_append_getElem hlt, List.any_append]
  simp
theorem foundTo_all {l : List Int} {x : Int} (h : x ∈ l) {k : Nat} (hk : l.length = k) : foundTo l x k = true := by
  unfold foundTo
  rw [List.take_of_length_le (by omega), List.any_eq_true]
  exact ⟨x, h, by simp⟩
theorem MapR.len {w : World} {b n : Nat} {ks : List Int} {f : Int → Option Rv} (h : MapR w b n ks f) (ty : TypeId) : (Builtin.len_ #[79] ty #[.map (some b)]).run Tryz.prog w = .ok (.int .i64 (ks.length)) w := by
  obtain ⟨D, h1, h2, -⟩ := h
  have := h1.len Tryz.underlying79 ty
  rw [h2] at this
  exact this
theorem MapR.keys {w : World} {b n : Nat} {ks : List Int} {f : Int → Option Rv} (h : MapR w b n ks f) : ks.Nodup ∧ ∀ x, x ∈ ks ↔ (f x).isSome = true := by
  obtain ⟨D, -, -, h3, h4, -⟩ := h
  exact ⟨h3, h4⟩
/-- an own list stays where its block does -/
theorem Grown.apart {α : Type} {W W' : World} {base e s : Nat} {enc : α → List Value} {v : Value} {l : List α} (h : Grown W base e s enc v l) {C : Nat → Prop} (ht : Turned C W W') (hC : ∀ g, v.ownBlock = Option.some g → ¬ C g) : Grown W' base e s enc v l := by
  obtain ⟨h1, h2⟩ := h
  refine ⟨h1, ?_⟩
  rcases h2 with h2 | ⟨g, cap, cur, h3, h4, h5, h6⟩
  · exact .inl h2
  · exact .inr ⟨g, cap, cur, h3, h4, (ht.block g (getElem?_lt h5) (hC g (by rw [h3]; rfl))).trans h5, h6⟩
theorem Grown.own_lt {α : Type} {W : World} {base e s : Nat} {enc : α → List Value} {v : Value} {l : List α} (h : Grown W base e s enc v l) {g : Nat} (hg : v.ownBlock = Option.some g) : base ≤ g ∧ g < W.heap.size := by
  obtain ⟨-, h2⟩ := h
  rcases h2 with ⟨h2, -⟩ | ⟨g', cap, cur, h3, h4, h5, -⟩
  · rw [h2] at hg
    cases hg
  · rw [h3] at hg
    cases hg
    exact ⟨h4, getElem?_lt h5⟩
/-- the append of a number, as a step of a drawn region -/
theorem step_rat (W : World) (base n : Nat) (v : Value) (x : Rv) (L : List Rv) (hn : L.length = n) (hown : Grown W base 68 3 ratCells v L) (hb : base ≤ W.heap.size) (hl : n ≤ 1000) {ops : Array Oper} {o : Oper} {a : Act} {Q : Exit → Act → World → Prop} {K : Act → World → Prop} {E : Prop}
    (hg : o.guard = none) (so xo : Operand) (hop : o.op = Op.call { callee := Callee.builtin Builtin.append, args := #[so, xo], argTypes := #[23, 23] }) (hs : a.eval so = v) (hx : a.eval xo = .slice (some ⟨W.heap.size, 0, none⟩) 1 1)
    (hK : ∀ g c W4, Grown W4 base 68 3 ratCells (.slice (some ⟨g, 0, none⟩) (n + 1) c) (L ++ [x]) → Turned (fun k => v.ownBlock = some k) (W.alloc (.cells #[.bool x.neg, .string x.num, .string x.den] 68)) W4 → (v.ownBlock = some g ∨ W.heap.size + 1 ≤ g) → K (a.put o.dst (.slice (some ⟨g, 0, none⟩) (n + 1) c)) W4) :
    if Region.wanted o (yielded ops a.tmps) = true then Oper.wp Tryz.prog o a (W.alloc (.cells #[.bool x.neg, .string x.num, .string x.den] 68)) K Q else E := by
  rw [if_pos (by simp [Region.wanted, hg])]
  obtain ⟨i0, hif, hz0, hz1, hz2⟩ := info_parts infoRat
  subst hn
  have ta : Turned (fun _ => False) W (W.alloc (.cells #[.bool x.neg, .string x.num, .string x.den] 68)) := (Turned.refl _ _).alloc _
  have hmul : (L.length + 1) * 40 ≤ 1001 * 40 := Nat.mul_le_mul (by omega) (Nat.le_refl _)
  obtain ⟨v', w4, hrun, hown', hgrow, hex⟩ := run_append_exact (P := Tryz.prog) (W.alloc (.cells #[.bool x.neg, .string x.num, .string x.den] 68)) base 23 o.type 68 i0 (ratV zeroR) 3 40 Tryz.underlying23 hif hz0 hz1 hz2 rfl (by decide) v L.length (L.flatMap ratCells) (ownsRow_turned ta (fun k hk => hk.elim) hown) ⟨W.heap.size, 0, none⟩ 1 1 (ratCells x) rfl
    (fun j u hj => by
      have h0 := World.alloc_heap_new W (.cells #[.bool x.neg, .string x.num, .string x.den] 68)
      have h2 : (⟨W.heap.size, 0, none⟩ : Addr).add j = ⟨W.heap.size, j, none⟩ := by rw [Addr.add_lit, Nat.zero_add]
      rw [h2]
      simp only [World.cell?, h0]
      simpa using hj) (fun u hu => by simp at hu; rcases hu with rfl | rfl | rfl <;> rfl) (by unfold maxLen; omega) (by omega) (by simp; omega)
  unfold Oper.wp
  simp [execOp, hop, resolve, invoke, builtin, hs, hx, hrun, Result.andThen]
  have hg2 : Grown w4 base 68 3 ratCells v' (L ++ [x]) := by
    unfold Grown
    rw [List.length_append, List.flatMap_append, show [x].flatMap ratCells = ratCells x by simp]
    exact hown'
  obtain ⟨p, c, rfl⟩ := hg2.shape
  obtain ⟨g, rfl, -, -⟩ := Grown.tip hg2 (by rw [List.length_append]; simp)
  have hz : (W.alloc (.cells #[.bool x.neg, .string x.num, .string x.den] 68)).heap.size = W.heap.size + 1 := by simp
  have := hK g c w4 (by rw [List.length_append] at hg2; exact hg2) (Turned.of_grown hgrow fun k hk => hk) (by rw [← hz]; exact hex g rfl)
  rw [List.length_append]
  exact this
end Go.Proofs.YtanhhdndgkhcfaaGreatDoor
namespace Go.Proofs.YtanhhdndgkhcfaaGreatDoor
open Go Go.Proofs Go.RowKit

/-- the better forecast after k numbers: its box D, its two lists -/
def BT (D nr k : Nat) (rp : Option Addr) (rc : Nat) (la lb : List Rv) (w5 wr : World) : Prop :=
  ∃ (q1 : Option Addr) (d1 : Nat) (q2 : Option Addr) (d2 : Nat), wr.heap[D]? = some (.cells #[.slice rp nr rc, .slice q1 k d1, .slice q2 k d2] 25 (0, 0)) ∧ Grown wr (D + 1) 68 3 ratCells (.slice q1 k d1) (mixTo minR la lb k) ∧
    Grown wr (D + 1) 68 3 ratCells (.slice q2 k d2) (mixTo maxR la lb k) ∧ (∀ g, (Value.slice q1 k d1).ownBlock = some g → (Value.slice q2 k d2).ownBlock = some g → False) ∧ Turned (fun _ => False) w5 wr
theorem bt_start {D nr rc : Nat} {rp : Option Addr} (la lb : List Rv) {w5 w6 : World} (h : w6.heap[D]? = some (.cells #[.slice rp nr rc, .slice none 0 0, .slice none 0 0] 25 (0, 0))) (ht : Turned (fun _ => False) w5 w6) : BT D nr 0 rp rc la lb w5 w6 :=
  ⟨none, 0, none, 0, h, Grown.nil _ _ _ _ _, Grown.nil _ _ _ _ _, (fun g h => by cases h), ht⟩
theorem own_some {g n c : Nat} : (Value.slice (some ⟨g, 0, none⟩) n c).ownBlock = some g := rfl
theorem bt_step {D nr k rc d1 d2 a1 a2 c1 c2 : Nat} {rp q1 q2 : Option Addr} {la lb : List Rv} {w5 wr w7 w8 w9 w10 : World} {x y : Rv} {o1 o2 : Obj}
    (hbox : wr.heap[D]? = some (.cells #[.slice rp nr rc, .slice q1 k d1, .slice q2 k d2] 25 (0, 0))) (G1 : Grown wr (D + 1) 68 3 ratCells (.slice q1 k d1) (mixTo minR la lb k)) (G2 : Grown wr (D + 1) 68 3 ratCells (.slice q2 k d2) (mixTo maxR la lb k))
    (hsep : ∀ g, (Value.slice q1 k d1).ownBlock = some g → (Value.slice q2 k d2).ownBlock = some g → False) (hT : Turned (fun _ => False) w5 wr) (hD : w5.heap.size ≤ D) (t7 : Turned (fun _ => False) wr w7)
    (G1' : Grown w8 (D + 1) 68 3 ratCells (.slice (some ⟨a1, 0, none⟩) (k + 1) c1) (mixTo minR la lb k ++ [x])) (T8 : Turned (fun i => (Value.slice q1 k d1).ownBlock = some i) (w7.alloc o1) w8) (or1 : (Value.slice q1 k d1).ownBlock = some a1 ∨ w7.heap.size + 1 ≤ a1)
    (t9 : Turned (fun _ => False) w8 w9) (G2' : Grown w10 (D + 1) 68 3 ratCells (.slice (some ⟨a2, 0, none⟩) (k + 1) c2) (mixTo maxR la lb k ++ [y])) (T10 : Turned (fun i => (Value.slice q2 k d2).ownBlock = some i) (w9.alloc o2) w10) (or2 : (Value.slice q2 k d2).ownBlock = some a2 ∨ w9.heap.size + 1 ≤ a2)
    (hx : mixTo minR la lb (k + 1) = mixTo minR la lb k ++ [x]) (hy : mixTo maxR la lb (k + 1) = mixTo maxR la lb k ++ [y]) :
    BT D nr (k + 1) rp rc la lb w5 ((w10.setCell ⟨D, 1, none⟩ (.slice (some ⟨a1, 0, none⟩) (k + 1) c1)).setCell ⟨D, 2, none⟩ (.slice (some ⟨a2, 0, none⟩) (k + 1) c2)) := by
  have b1 : ∀ i, (Value.slice q1 k d1).ownBlock = some i → D + 1 ≤ i ∧ i < wr.heap.size := fun i h => G1.own_lt h
  have b2 : ∀ i, (Value.slice q2 k d2).ownBlock = some i → D + 1 ≤ i ∧ i < wr.heap.size := fun i h => G2.own_lt h
  have s7 := t7.size
  have s8 := T8.size
  have s9 := t9.size
  have s10 := T10.size
  rw [World.size_alloc] at s8 s10
  have f1 := G1'.own_lt own_some
  have f2 := G2'.own_lt own_some
  have TA : Turned (fun i => D + 1 ≤ i) wr w8 := ((t7.alloc o1).mono fun _ h => h.elim).trans (T8.mono fun i h => (b1 i h).1)
  have TB : Turned (fun i => (Value.slice q2 k d2).ownBlock = some i) w8 w10 := ((t9.alloc o2).mono fun _ h => h.elim).trans T10
  have TC : Turned (fun i => D + 1 ≤ i) wr w10 := TA.trans (TB.mono fun i h => (b2 i h).1)
  have hlt := getElem?_lt hbox
  have hb10 : w10.heap[D]? = some (.cells #[.slice rp nr rc, .slice q1 k d1, .slice q2 k d2] 25 (0, 0)) := (TC.block D hlt (by omega)).trans hbox
  have TS : Turned (fun i => i = D) w10 ((w10.setCell ⟨D, 1, none⟩ (.slice (some ⟨a1, 0, none⟩) (k + 1) c1)).setCell ⟨D, 2, none⟩ (.slice (some ⟨a2, 0, none⟩) (k + 1) c2)) :=
    ((Turned.refl (fun i => i = D) w10).setCell (p := ⟨D, 1, none⟩) rfl _).setCell (p := ⟨D, 2, none⟩) rfl _
  have hne : ∀ i, (Value.slice q2 k d2).ownBlock = some i → i ≠ a1 := fun i h e => by
    subst e
    rcases or1 with h1 | h1
    · exact hsep _ h1 h
    · have := b2 _ h; omega
  refine ⟨some ⟨a1, 0, none⟩, c1, some ⟨a2, 0, none⟩, c2, ?_, ?_, ?_, fun g h1 h2 => ?_, ?_⟩
  · rw [set_block (set_block hb10 1 (.slice (some ⟨a1, 0, none⟩) (k + 1) c1)) 2 (.slice (some ⟨a2, 0, none⟩) (k + 1) c2)]
    rfl
  · rw [hx]
    refine (G1'.apart TB fun g hg h => ?_).apart TS fun g hg => ?_
    · cases hg
      exact hne _ h rfl
    · cases hg
      show ¬ (a1 = D)
      omega
  · rw [hy]
    refine G2'.apart TS fun g hg => ?_
    cases hg
    show ¬ (a2 = D)
    omega
  · cases h1
    cases h2
    rcases or2 with h3 | h3
    · exact hne _ h3 rfl
    · omega
  · exact hT.fresh ((TC.mono fun i h => Nat.le_of_succ_le h).trans (TS.mono fun i h => Nat.le_of_eq h.symm)) fun g hg => by omega
end Go.Proofs.YtanhhdndgkhcfaaGreatDoor
namespace Go.Proofs.YtanhhdndgkhcfaaGreatDoor
open Go Go.Proofs

section
variable {P : Program} {ops : Array Oper} {Q : Exit → Act → World → Prop} {md : Region.Mode} {R S : World → Prop} {G : Nat}
/-- whatever order is picked from here on; R holds behind each operation, S till G has come up -/
def wpAnyL (P : Program) (md : Region.Mode) (ops : Array Oper) (Q : Exit → Act → World → Prop) (R S : World → Prop) (G : Nat) : Nat → Array Bool → Act → World → Prop
  | 0, listed, a, w => Region.ready md ops listed = [] ∧ Q .normal a w
  | fuel + 1, listed, a, w =>
    (Region.ready md ops listed = [] → Q .normal a w) ∧
    ∀ i ∈ Region.ready md ops listed, wpOp P ops Q i (fun a' w' => R w' ∧ ((listed.setIfInBounds i true).getD G true = false → S w') ∧ wpAnyL P md ops Q R S G fuel (listed.setIfInBounds i true) a' w') a w
theorem wpAny_of_heldL : ∀ (fuel : Nat) (listed : Array Bool) (a : Act) (w : World), wpAnyL P md ops Q R S G fuel listed a w → wpAny P md ops Q fuel listed a w
  | 0, _, _, _, h => h
  | fuel + 1, _, _, _, h => ⟨h.1, fun i hi => wpOp_mono (fun a' w' h' => wpAny_of_heldL fuel _ a' w' h'.2.2) (h.2 i hi)⟩
/-- G waits for i -/
def waitsG (md : Region.Mode) (ops : Array Oper) (G i : Nat) : Bool := match ops[G]? with
  | some o => o.after.any fun e => Region.binds md e && (e.on == i)
  | none => false
theorem wpAnyL_first {i : Nat} {oi : Oper} {v : Value} (hi : ops[i]? = some oi) (hsel : ∀ (j : Nat) (o : Oper) cs b, ops[j]? = some o → o.op ≠ .select cs b)
    (hQ : ∀ c a w, Q (.panic c) (a.put oi.dst v) w → Q (.panic c) a w) (hG : waitsG md ops G i = true) (hGi : G ≠ i) :
    ∀ (fuel : Nat) (listed : Array Bool) (a : Act) (w : World),
      (∀ j oj, ops[j]? = some oj → j ≠ i → listed.getD j true = false → (∀ e ∈ oj.after, Region.binds md e = true → e.on ≠ i) → oi.apart ops oj = true) →
      listed.getD G true = false → i ∈ Region.ready md ops listed → YieldsIf P ops (fun w => R w ∧ S w) oi v a → R w → S w → 
      wpAnyL P md ops Q R S G fuel (listed.setIfInBounds i true) (a.put oi.dst v) w → wpAnyL P md ops Q R S G (fuel + 1) listed a w := by
  intro fuel
  induction fuel with
  | zero =>
    intro listed a w _ hl hr hy hR hS H
    refine ⟨fun h => (by rw [h] at hr; cases hr), fun j hj => ?_⟩
    by_cases hji : j = i
    · subst hji; exact hy.wpOp hi ⟨hR, hS⟩ ⟨hR, fun _ => hS, H⟩
    · have := ready_mono hj hji
      rw [H.1] at this
      cases this
  | succ fuel ih =>
    intro listed a w hfree hl hr hy hR hS H
    refine ⟨fun h => (by rw [h] at hr; cases hr), fun j hj => ?_⟩
    by_cases hji : j = i
    · subst hji; exact hy.wpOp hi ⟨hR, hS⟩ ⟨hR, fun _ => hS, H⟩
    · have h1 := H.2 j (ready_mono hj hji)
      obtain ⟨hjun, oj, hoj, hall⟩ := mem_ready.1 hj
      have hnot : ∀ e ∈ oj.after, Region.binds md e = true → e.on ≠ i := fun e he hb heq => by
        have h1 := hall e he hb
        have h0 := (mem_ready.1 hr).1
        rw [heq] at h1
        rcases Nat.lt_or_ge i listed.size with h' | h'
        · simp [h'] at h0 h1; rw [h0] at h1; cases h1
        · simp [Array.getElem?_eq_none h'] at h1
      have hjG : j ≠ G := fun e => by
        subst e
        unfold waitsG at hG
        rw [hoj] at hG
        obtain ⟨e, he, hb⟩ := Array.any_eq_true'.1 hG
        rw [Bool.and_eq_true, beq_iff_eq] at hb
        exact hnot e he hb.1 hb.2
      have hl' : (listed.setIfInBounds j true).getD G true = false := by rw [getD_set_ne true hjG]; exact hl
      have h2 := wpOp_putIf hoj (hfree j oj hoj hji hjun hnot) (fun cs b => hsel i oi cs b hi) (fun cs b => hsel j oj cs b hoj) hQ hy h1
      have hfree' : ∀ k ok, ops[k]? = some ok → k ≠ i → (listed.setIfInBounds j true).getD k true = false →
          (∀ e ∈ ok.after, Region.binds md e = true → e.on ≠ i) → oi.apart ops ok = true := fun k ok hk hki hun hno => by
        refine hfree k ok hk hki ?_ hno
        by_cases hjk : j = k
        · subst hjk; exact hjun
        · rw [getD_set_ne true hjk] at hun; exact hun
      refine wpOp_mono (fun a' w' h3 => ?_) h2
      have hS' : S w' := h3.2.2.1 (by rw [Array.setIfInBounds_comm _ _ (Ne.symm hji), getD_set_ne true hGi.symm]; exact hl')
      refine ⟨h3.2.1, fun _ => hS', ih (listed.setIfInBounds j true) a' w' hfree' hl' (ready_mono hr (Ne.symm hji)) h3.1 h3.2.1 hS' ?_⟩
      rw [Array.setIfInBounds_comm _ _ hji]
      exact h3.2.2.2
theorem wpAnyL_firstR {i : Nat} {oi : Oper} {v : Value} (hi : ops[i]? = some oi) (hsel : ∀ (j : Nat) (o : Oper) cs b, ops[j]? = some o → o.op ≠ .select cs b)
    (hQ : ∀ c a w, Q (.panic c) (a.put oi.dst v) w → Q (.panic c) a w) (hGi : G ≠ i) :
    ∀ (fuel : Nat) (listed : Array Bool) (a : Act) (w : World),
      (∀ j oj, ops[j]? = some oj → j ≠ i → listed.getD j true = false → (∀ e ∈ oj.after, Region.binds md e = true → e.on ≠ i) → oi.apart ops oj = true) →
      i ∈ Region.ready md ops listed → YieldsIf P ops R oi v a → R w → (listed.getD G true = false → S w) → 
      wpAnyL P md ops Q R S G fuel (listed.setIfInBounds i true) (a.put oi.dst v) w → wpAnyL P md ops Q R S G (fuel + 1) listed a w := by
  intro fuel
  induction fuel with
  | zero =>
    intro listed a w _ hr hy hR hS H
    refine ⟨fun h => (by rw [h] at hr; cases hr), fun j hj => ?_⟩
    by_cases hji : j = i
    · subst hji; exact hy.wpOp hi hR ⟨hR, fun h => hS (by rwa [getD_set_ne true hGi.symm] at h), H⟩
    · have := ready_mono hj hji
      rw [H.1] at this
      cases this
  | succ fuel ih =>
    intro listed a w hfree hr hy hR hS H
    refine ⟨fun h => (by rw [h] at hr; cases hr), fun j hj => ?_⟩
    by_cases hji : j = i
    · subst hji; exact hy.wpOp hi hR ⟨hR, fun h => hS (by rwa [getD_set_ne true hGi.symm] at h), H⟩
    · have h1 := H.2 j (ready_mono hj hji)
      obtain ⟨hjun, oj, hoj, hall⟩ := mem_ready.1 hj
      have hnot : ∀ e ∈ oj.after, Region.binds md e = true → e.on ≠ i := fun e he hb heq => by
        have h1 := hall e he hb
        have h0 := (mem_ready.1 hr).1
        rw [heq] at h1
        rcases Nat.lt_or_ge i listed.size with h' | h'
        · simp [h'] at h0 h1; rw [h0] at h1; cases h1
        · simp [Array.getElem?_eq_none h'] at h1
      have h2 := wpOp_putIf hoj (hfree j oj hoj hji hjun hnot) (fun cs b => hsel i oi cs b hi) (fun cs b => hsel j oj cs b hoj) hQ hy h1
      have hfree' : ∀ k ok, ops[k]? = some ok → k ≠ i → (listed.setIfInBounds j true).getD k true = false →
          (∀ e ∈ ok.after, Region.binds md e = true → e.on ≠ i) → oi.apart ops ok = true := fun k ok hk hki hun hno => by
        refine hfree k ok hk hki ?_ hno
        by_cases hjk : j = k
        · subst hjk; exact hjun
        · rw [getD_set_ne true hjk] at hun; exact hun
      refine wpOp_mono (fun a' w' h3 => ?_) h2
      have hS2 : (listed.setIfInBounds j true).getD G true = false → S w' := fun h => h3.2.2.1 (by
        rw [Array.setIfInBounds_comm _ _ (Ne.symm hji)]
        rw [getD_set_ne true hGi.symm]
        exact h)
      refine ⟨h3.2.1, hS2, ih (listed.setIfInBounds j true) a' w' hfree' (ready_mono hr (Ne.symm hji)) h3.1 h3.2.1 hS2 ?_⟩
      rw [Array.setIfInBounds_comm _ _ hji]
      exact h3.2.2.2
/-- take number i first: it reads what S says -/
theorem wpAnyL_take {i : Nat} {oi : Oper} {v : Value} {fuel : Nat} {listed : Array Bool} {a : Act} {w : World} (hi : ops[i]? = some oi)
    (hs : Region.noSelect ops = true) (hf : (Region.free md ops listed i && (Region.ready md ops listed).contains i && waitsG md ops G i && !(G == i) && !listed.getD G true) = true)
    (hQ : ∀ c a w, Q (.panic c) (a.put oi.dst v) w → Q (.panic c) a w) (hy : YieldsIf P ops (fun w => R w ∧ S w) oi v a) (hR : R w) (hS : S w)
    (h : wpAnyL P md ops Q R S G fuel (listed.setIfInBounds i true) (a.put oi.dst v) w) : wpAnyL P md ops Q R S G (fuel + 1) listed a w := by
  simp only [Bool.and_eq_true, Bool.not_eq_true', beq_eq_false_iff_ne, ne_eq] at hf
  exact wpAnyL_first hi (Region.noSelect_spec hs) hQ hf.1.1.2 hf.1.2 fuel listed a w (Region.free_spec hi hf.1.1.1.1) hf.2 (by simpa using hf.1.1.1.2) hy hR hS h
/-- take number i first: it reads what R says -/
theorem wpAnyL_takeR {i : Nat} {oi : Oper} {v : Value} {fuel : Nat} {listed : Array Bool} {a : Act} {w : World} (hi : ops[i]? = some oi)
    (hs : Region.noSelect ops = true) (hf : (Region.free md ops listed i && (Region.ready md ops listed).contains i && !(G == i)) = true)
    (hQ : ∀ c a w, Q (.panic c) (a.put oi.dst v) w → Q (.panic c) a w) (hy : YieldsIf P ops R oi v a) (hR : R w) (hS : listed.getD G true = false → S w)
    (h : wpAnyL P md ops Q R S G fuel (listed.setIfInBounds i true) (a.put oi.dst v) w) : wpAnyL P md ops Q R S G (fuel + 1) listed a w := by
  simp only [Bool.and_eq_true, Bool.not_eq_true', beq_eq_false_iff_ne, ne_eq] at hf
  exact wpAnyL_firstR hi (Region.noSelect_spec hs) hQ hf.2 fuel listed a w (Region.free_spec hi hf.1.1) (by simpa using hf.1.2) hy hR hS h
/-- one operation alone comes up next -/
theorem wpAnyL_one {i : Nat} {o : Oper} {fuel : Nat} {listed : Array Bool} {a : Act} {w : World} (ho : ops[i]? = some o) (hr : Region.ready md ops listed = [i])
    (h : ∀ K' : Act → World → Prop, Shut (∀ a w, R w → ((listed.setIfInBounds i true).getD G true = false → S w) → wpAnyL P md ops Q R S G fuel (listed.setIfInBounds i true) a w → K' a w) → if Region.wanted o (yielded ops a.tmps) = true then Oper.wp P o a w K' Q else K' (a.put o.dst undef) w) :
    wpAnyL P md ops Q R S G (fuel + 1) listed a w := by
  refine ⟨fun h0 => (by rw [hr] at h0; cases h0), fun j hj => ?_⟩
  rw [hr, List.mem_singleton] at hj
  subst hj
  exact wpOp_step ho (fun K' hK => h K' (fun a w hR hS hW => hK a w ⟨hR, hS, hW⟩))
theorem wpAnyL_done {listed : Array Bool} {a : Act} {w : World} (hr : Region.ready md ops listed = []) (h : Q .normal a w) : ∀ fuel, wpAnyL P md ops Q R S G fuel listed a w
  | 0 => ⟨hr, h⟩
  | _ + 1 => ⟨fun _ => h, by rw [hr]; simp⟩
theorem wp_region_heldL (R S : World → Prop) (G : Nat) {id : Nat} {a : Act} {w : World} (hm : P.follows .mixedOrders = true)
    (h : wpAnyL P .any ops Q R S G ops.size (Array.replicate ops.size false) a w.drew) : (Code.region id ops true).wp P Q a w :=
  wp_region_any hm (wpAny_of_heldL _ _ _ _ h)
end
end Go.Proofs.YtanhhdndgkhcfaaGreatDoor
