/- Part 21 of the proof of lawDue.card: OrdLawP, OrdClamp, OrdAppend, OrdSameL, OrdSameO, OrdFairB, OrdEx. Conditions: those of each theorem. -/
import Derived.Test.YtanhhdndgkhcfaaGreatDoorDt01
import Derived.Test.YtanhhdndgkhcfaaGreatDoorDt18
import Derived.Test.YtanhhdndgkhcfaaGreatDoorDt19
import Derived.Test.YtanhhdndgkhcfaaGreatDoorDt20
namespace Go.Proofs.YtanhhdndgkhcfaaGreatDoor
open Go Go.Proofs Go.RowKit
def clampR (x y : Rv) : Option Rv → Rv
  | some u => if validR u then repR (maxR (qR x) (minR (qR y) (qR u))) else x
  | none => x
def clampTo (l lo hi : List Rv) (k : Nat) : List Rv := (List.range k).map fun k => clampR (lo.getD k zeroR) (hi.getD k zeroR) l[k]?
def clampL (l lo hi : List Rv) : List Rv := clampTo l lo hi lo.length
theorem clampTo_len (l lo hi : List Rv) (k : Nat) : (clampTo l lo hi k).length = k := by unfold clampTo; simp
theorem clampTo_at (l lo hi : List Rv) {k i : Nat} (h : i < k) : (clampTo l lo hi k)[i]? = some (clampR (lo.getD i zeroR) (hi.getD i zeroR) l[i]?) := by unfold clampTo; simp [h]
theorem clampTo_succ (l lo hi : List Rv) (k : Nat) : clampTo l lo hi (k + 1) = clampTo l lo hi k ++ [clampR (lo.getD k zeroR) (hi.getD k zeroR) l[k]?] := by unfold clampTo; simp [List.range_succ]
theorem repR_nat {q : Rat} (h : 0 ≤ q) : natR (repR q) = true := by
  unfold natR
  rw [Bool.and_eq_true, decide_eq_true_eq]
  refine ⟨repR_valid q, ?_⟩
  unfold repR lowR
  split
  · rfl
  · have : ¬ q.num < 0 := Int.not_lt.2 (Rat.num_nonneg.2 h)
    simp [this]
theorem repR_szr {u : Rv} (h : validR u) {k : Nat} (hs : SzR u k) {q : Rat} (hq : q = qR u) : SzR (repR q) k := by rw [hq, repR_qR h]; exact hs
theorem repR_szq {u : Rv} {k : Nat} (hs : SzR u k) {q : Rat} (hq : q = qR u) : SzR (repR q) k := by
  by_cases h : goodR u
  · exact repR_szr (Or.inr h) hs hq
  · rw [hq, qR_invalid h, repR_zero]
    exact ⟨Nat.zero_le _, Nat.zero_le _⟩
theorem minR_or (a b : Rat) : minR a b = a ∨ minR a b = b := by unfold minR; split <;> simp
theorem maxR_or (a b : Rat) : maxR a b = a ∨ maxR a b = b := by unfold maxR; split <;> simp
theorem minR_le (a b : Rat) : minR a b ≤ a ∧ minR a b ≤ b := by unfold minR; split <;> grind
theorem le_maxR (a b : Rat) : a ≤ maxR a b ∧ b ≤ maxR a b := by unfold maxR; split <;> grind
theorem clampR_nat {x y : Rv} (hx : natR x = true) (o : Option Rv) : natR (clampR x y o) = true := by
  cases o with
  | none => exact hx
  | some u =>
    show natR (if validR u then _ else _) = true
    split
    · exact repR_nat (Rat.le_trans (qR_nonneg (natR_valid hx).2) (le_maxR _ _).1)
    · exact hx
theorem clampR_box {x y : Rv} (hle : qR x ≤ qR y) (o : Option Rv) : qR x ≤ qR (clampR x y o) ∧ qR (clampR x y o) ≤ qR y := by
  cases o with
  | none => exact ⟨Rat.le_refl, hle⟩
  | some u =>
    show qR x ≤ qR (if validR u then _ else _) ∧ qR (if validR u then _ else _) ≤ qR y
    split
    · rw [qR_repR]
      have h1 := le_maxR (qR x) (minR (qR y) (qR u))
      have h2 := minR_le (qR y) (qR u)
      rcases maxR_or (qR x) (minR (qR y) (qR u)) with h | h <;> grind
    · exact ⟨Rat.le_refl, hle⟩
theorem clampR_size {x y : Rv} {k : Nat} (hx : natR x = true) (hy : natR y = true) (sx : SzR x k) (sy : SzR y k) {o : Option Rv} (so : ∀ u, o = some u → SzR u k) : SzR (clampR x y o) k := by
  cases o with
  | none => exact sx
  | some u =>
    show SzR (if validR u then _ else _) k
    split
    · rename_i hv
      rcases maxR_or (qR x) (minR (qR y) (qR u)) with h | h
      · exact repR_szr (natR_valid hx).1 sx h
      · rcases minR_or (qR y) (qR u) with h2 | h2
        · exact repR_szr (natR_valid hy).1 sy (h.trans h2)
        · exact repR_szr hv (so u rfl) (h.trans h2)
    · exact sx
theorem gainQ_clamp (l lo hi : List Rv) {k : Nat} (h : k < lo.length) : gainQ (clampL l lo hi) k = qR (clampR (lo.getD k zeroR) (hi.getD k zeroR) l[k]?) := by
  unfold gainQ clampL
  rw [getD_of (clampTo_at l lo hi h)]
structure GainsIn (rs : List Rc) (lo hi us : List Rv) : Prop where
  len : us.length = rs.length
  nat : ∀ u ∈ us, natR u = true
  sz : ∀ u ∈ us, SzR u 20
  ge : ∀ p, p < rs.length → gainQ lo p ≤ gainQ us p
  le : ∀ p, p < rs.length → gainQ us p ≤ gainQ hi p
theorem natR_getD {us : List Rv} (h : ∀ u ∈ us, natR u = true) {p : Nat} (hp : p < us.length) : natR (us.getD p zeroR) = true := by
  have hk : us[p]? = some us[p] := List.getElem?_eq_getElem hp
  rw [getD_of hk]
  exact h _ (List.getElem_mem hp)
theorem szr_getD {us : List Rv} {k : Nat} (h : ∀ u ∈ us, SzR u k) {p : Nat} (hp : p < us.length) : SzR (us.getD p zeroR) k := by
  have hk : us[p]? = some us[p] := List.getElem?_eq_getElem hp
  rw [getD_of hk]
  exact h _ (List.getElem_mem hp)
theorem clamp_in {rs : List Rc} {lo hi l : List Rv} {cs : List Cl} (h : OrdOK rs lo hi cs) (sl : ∀ u ∈ lo, SzR u 20) (sh : ∀ u ∈ hi, SzR u 20) (sg : ∀ u ∈ l, SzR u 20) : GainsIn rs lo hi (clampL l lo hi) := by
  have e1 := h.low.len
  have e2 := h.high.len
  have hm : ∀ u ∈ clampL l lo hi, ∃ k, k < lo.length ∧ clampR (lo.getD k zeroR) (hi.getD k zeroR) l[k]? = u := fun u hu => by
    unfold clampL clampTo at hu
    obtain ⟨k, hk, rfl⟩ := List.mem_map.1 hu
    exact ⟨k, List.mem_range.1 hk, rfl⟩
  refine ⟨?_, fun u hu => ?_, fun u hu => ?_, fun p hp => ?_, fun p hp => ?_⟩
  · unfold clampL
    rw [clampTo_len, e1]
  · obtain ⟨k, hk, rfl⟩ := hm u hu
    exact clampR_nat (natR_getD h.low.nat hk) _
  · obtain ⟨k, hk, rfl⟩ := hm u hu
    exact clampR_size (natR_getD h.low.nat hk) (natR_getD h.high.nat (by omega)) (szr_getD sl hk) (szr_getD sh (by omega)) fun v hv => sg v (List.mem_of_getElem? hv)
  · rw [gainQ_clamp l lo hi (by omega)]
    exact (clampR_box (h.le p hp) _).1
  · rw [gainQ_clamp l lo hi (by omega)]
    exact (clampR_box (h.le p hp) _).2
theorem supE_of {rs : List Rc} {lo us : List Rv} {cs : List Cl} (h : supE rs lo cs = 0) (h1 : us.length = rs.length) (h2 : ∀ u ∈ us, natR u = true) : supE rs us cs = 0 := by
  unfold supE at h ⊢
  split at h
  · rename_i e; exact absurd h e
  rename_i e
  rw [if_neg e]
  split at h
  · cases h
  have h3 : ¬ (us.length ≠ rs.length ∨ (us.any fun u => !natR u) = true) := by
    rintro (h3 | h3)
    · exact h3 h1
    · rw [List.any_eq_true] at h3
      obtain ⟨u, hu, h3⟩ := h3
      rw [h2 u hu] at h3
      cases h3
  rw [if_neg h3]
  exact h
theorem takes_at (rs : List Rc) (cs : List Cl) (us : List Rv) {k : Nat} (hk : k < cs.length) : (takesR rs cs us)[k]? = some (repR (takeQ rs cs us k)) := repL_get _ hk
theorem takes_getD (rs : List Rc) (cs : List Cl) (us : List Rv) {k : Nat} (hk : k < cs.length) : (takesR rs cs us).getD k zeroR = repR (takeQ rs cs us k) := getD_of (takes_at rs cs us hk)
theorem takes_len (rs : List Rc) (cs : List Cl) (us : List Rv) : (takesR rs cs us).length = cs.length := repL_len _ _
def Rise (os : List Or) : Prop := os.Pairwise fun a b => a.claim < b.claim
theorem ordersTo_rise (cs : List Cl) (ts : List Rv) (k : Nat) : Rise (ordersTo cs ts k) := by
  unfold Rise ordersTo
  rw [List.pairwise_map]
  refine List.Pairwise.imp ?_ ((List.pairwise_lt_range).filter _)
  intro a b h
  show (a : Int) < b
  omega
theorem orders_mem {cs : List Cl} {ts : List Rv} {o : Or} : o ∈ ordersL cs ts ↔ ∃ k : Nat, k < cs.length ∧ sameR (ts.getD k zeroR) (cs.getD k noCl).amt = false ∧ o = ⟨k, ts.getD k zeroR⟩ := by
  unfold ordersL ordersTo
  rw [List.mem_map]
  constructor
  · rintro ⟨k, h, rfl⟩
    rw [List.mem_filter, List.mem_range, Bool.not_eq_true'] at h
    exact ⟨k, h.1, h.2, rfl⟩
  · rintro ⟨k, h1, h2, rfl⟩
    exact ⟨k, List.mem_filter.2 ⟨List.mem_range.2 h1, by rw [h2]; rfl⟩, rfl⟩
theorem fine_rise {n : Nat} {os : List Or} (h : Rise os) (hb : ∀ o ∈ os, 0 ≤ o.claim ∧ o.claim < n ∧ natR o.limit = true) : fineO n os = true := by
  rw [fineO_of]
  intro i hi
  rw [badO_false]
  have e : os[i]? = some os[i] := List.getElem?_eq_getElem hi
  rw [getD_of e]
  have h1 := hb _ (List.getElem_mem hi)
  refine ⟨?_, h1.2⟩
  cases i with
  | zero => show -1 < _; omega
  | succ i =>
    have e2 : os[i]? = some os[i] := List.getElem?_eq_getElem (by omega)
    show (os.getD i noOr).claim < _
    rw [getD_of e2]
    exact List.pairwise_iff_getElem.1 h i (i + 1) (by omega) hi (by omega)
theorem due_of {n : Nat} {ts : List Rv} {os : List Or} (h1 : fineO n os = true) (h2 : ∀ o ∈ os, qR (ts.getD o.claim.toNat zeroR) ≤ qR o.limit) : dueE n ts os = 0 := by
  unfold dueE
  have h3 : dueB ts os = true := by
    unfold dueB
    rw [List.all_eq_true]
    intro o ho
    exact decide_eq_true (h2 o ho)
  rw [if_pos h1, if_pos h3]
theorem due_not {n : Nat} {ts : List Rv} {os : List Or} (h1 : fineO n os = true) {o : Or} (ho : o ∈ os) (h2 : qR o.limit < qR (ts.getD o.claim.toNat zeroR)) : dueE n ts os = 22 := by
  unfold dueE
  have h3 : ¬ dueB ts os = true := by
    unfold dueB
    rw [List.all_eq_true]
    intro h
    exact absurd (of_decide_eq_true (h o ho)) (Rat.not_le.2 h2)
  rw [if_pos h1, if_neg h3]
section
variable {rs : List Rc} {us vs : List Rv} {cs : List Cl}
theorem orders_nat (h : SupOK rs us cs) : ∀ o ∈ ordersL cs (takesR rs cs us), 0 ≤ o.claim ∧ o.claim < cs.length ∧ natR o.limit = true := fun o ho => by
  obtain ⟨k, hk, -, rfl⟩ := orders_mem.1 ho
  refine ⟨by show (0 : Int) ≤ k; omega, by show (k : Int) < cs.length; omega, ?_⟩
  show natR ((takesR rs cs us).getD k zeroR) = true
  rw [takes_getD rs cs us hk]
  exact repR_nat (take_box h hk).1
theorem orders_fine (h : SupOK rs us cs) : fineO cs.length (ordersL cs (takesR rs cs us)) = true := fine_rise (ordersTo_rise _ _ _) (orders_nat h)
theorem orders_due (h : SupOK rs us cs) (h2 : SupOK rs vs cs) (hle : ∀ p, p < rs.length → gainQ us p ≤ gainQ vs p) : dueE cs.length (takesR rs cs us) (ordersL cs (takesR rs cs vs)) = 0 := by
  refine due_of (orders_fine h2) fun o ho => ?_
  obtain ⟨k, hk, -, rfl⟩ := orders_mem.1 ho
  show qR ((takesR rs cs us).getD (k : Int).toNat zeroR) ≤ qR ((takesR rs cs vs).getD k zeroR)
  rw [Int.toNat_natCast, takes_getD rs cs us hk, takes_getD rs cs vs hk, qR_repR, qR_repR]
  exact take_mono h h2 hle hk
theorem half_due (h : SupOK rs us cs) {i : Nat} {o : Or} (hi : (ordersL cs (takesR rs cs us))[i]? = some o) (h0 : o.limit ≠ zeroR) : dueE cs.length (takesR rs cs us) ((ordersL cs (takesR rs cs us)).set i ⟨o.claim, repR (qR o.limit / 2)⟩) = 22 := by
  obtain ⟨hlt, he⟩ := List.getElem?_eq_some_iff.1 hi
  have hm := List.mem_of_getElem? hi
  obtain ⟨k, hk, -, hok⟩ := orders_mem.1 hm
  have hq := orders_nat h o hm
  have h1 : 0 ≤ qR o.limit := qR_nonneg (natR_valid hq.2.2).2
  have h2 : qR o.limit ≠ 0 := fun e => h0 (by rw [← repR_qR (natR_valid hq.2.2).1, e, repR_zero])
  have hr : Rise ((ordersL cs (takesR rs cs us)).set i ⟨o.claim, repR (qR o.limit / 2)⟩) := by
    have hr0 : Rise (ordersL cs (takesR rs cs us)) := ordersTo_rise _ _ _
    unfold Rise at hr0 ⊢
    rw [List.pairwise_iff_getElem] at hr0 ⊢
    intro a b ha hb hab
    rw [List.length_set] at ha hb
    have h3 := hr0 a b ha hb hab
    by_cases h4 : i = a
    · subst h4
      rw [List.getElem_set_self, List.getElem_set_ne (by omega)]
      rw [he] at h3
      exact h3
    · by_cases h5 : i = b
      · subst h5
        rw [List.getElem_set_self, List.getElem_set_ne (by omega)]
        rw [he] at h3
        exact h3
      · rw [List.getElem_set_ne h4, List.getElem_set_ne h5]
        exact h3
  refine due_not (fine_rise hr fun x hx => ?_) (o := ⟨o.claim, repR (qR o.limit / 2)⟩) (List.mem_iff_getElem.2 ⟨i, by rw [List.length_set]; exact hlt, by simp⟩) ?_
  · rcases List.mem_or_eq_of_mem_set hx with hx | rfl
    · exact orders_nat h x hx
    · exact ⟨hq.1, hq.2.1, repR_nat (by grind)⟩
  · show qR (repR (qR o.limit / 2)) < qR ((takesR rs cs us).getD o.claim.toNat zeroR)
    rw [qR_repR]
    have e : (takesR rs cs us).getD o.claim.toNat zeroR = o.limit := by rw [hok]; rfl
    rw [e]
    grind
theorem sure_mem {ts : List Rv} {x : Int} : x ∈ sureL cs ts ↔ ∃ k : Nat, k < cs.length ∧ sameR (ts.getD k zeroR) (cs.getD k noCl).amt = true ∧ x = k := by
  unfold sureL sureTo
  rw [List.mem_map]
  constructor
  · rintro ⟨k, h, rfl⟩
    rw [List.mem_filter, List.mem_range] at h
    exact ⟨k, h.1, h.2, rfl⟩
  · rintro ⟨k, h1, h2, rfl⟩
    exact ⟨k, List.mem_filter.2 ⟨List.mem_range.2 h1, h2⟩, rfl⟩
theorem sameR_iff {u v : Rv} : sameR u v = true ↔ u = v := by unfold sameR; simp
theorem all_stays (h : SupOK rs us cs) (h2 : SupOK rs vs cs) (hle : ∀ p, p < rs.length → gainQ us p ≤ gainQ vs p) {k : Nat} (hk : k < cs.length) (hs : sameR ((takesR rs cs us).getD k zeroR) (cs.getD k noCl).amt = true) : (takesR rs cs vs).getD k zeroR = (cs.getD k noCl).amt := by
  rw [sameR_iff, takes_getD rs cs us hk] at hs
  rw [takes_getD rs cs vs hk, ← hs]
  refine congrArg repR ?_
  have h1 := take_mono h h2 hle hk
  have h3 := (take_box h2 hk).2
  have h4 : amtK cs k = takeQ rs cs us k := by unfold amtK; rw [← hs, qR_repR]
  grind
end
structure DueP (cs : List Cl) (tl th tt : List Rv) : Prop where
  len : tl.length = cs.length ∧ th.length = cs.length ∧ tt.length = cs.length
  due : dueE cs.length th (ordersL cs th) = 0
  low : ∀ k, k < cs.length → qR (tl.getD k zeroR) ≤ qR (tt.getD k zeroR)
  high : ∀ k, k < cs.length → qR (tt.getD k zeroR) ≤ qR (th.getD k zeroR)
  order : ∀ o ∈ ordersL cs th, ∃ k : Nat, o.claim = k ∧ k < cs.length ∧ qR (tt.getD k zeroR) ≤ qR o.limit
  half : ∀ i o, (ordersL cs th)[i]? = some o → o.limit ≠ zeroR → dueE cs.length th ((ordersL cs th).set i ⟨o.claim, repR (qR o.limit / 2)⟩) = 22
  sure : ∀ x ∈ sureL cs tl, ∃ k : Nat, x = k ∧ k < cs.length ∧ tt.getD k zeroR = (cs.getD k noCl).amt
theorem GainsIn.sup {rs : List Rc} {lo hi us : List Rv} {cs : List Cl} (h : OrdOK rs lo hi cs) (g : GainsIn rs lo hi us) : supE rs us cs = 0 := supE_of h.e1 g.len g.nat
theorem due_p {rs : List Rc} {lo hi us : List Rv} {cs : List Cl} (h : OrdOK rs lo hi cs) (g : GainsIn rs lo hi us) : DueP cs (takesR rs cs lo) (takesR rs cs hi) (takesR rs cs us) := by
  have hu := supE_zero (g.sup h)
  refine ⟨⟨takes_len _ _ _, takes_len _ _ _, takes_len _ _ _⟩, orders_due h.high h.high fun p _ => Rat.le_refl, fun k hk => ?_, fun k hk => ?_, fun o ho => ?_, fun i o hi h0 => half_due h.high hi h0, fun x hx => ?_⟩
  · rw [takes_getD rs cs lo hk, takes_getD rs cs us hk, qR_repR, qR_repR]
    exact take_mono h.low hu g.ge hk
  · rw [takes_getD rs cs hi hk, takes_getD rs cs us hk, qR_repR, qR_repR]
    exact take_mono hu h.high g.le hk
  · obtain ⟨k, hk, -, rfl⟩ := orders_mem.1 ho
    refine ⟨k, rfl, hk, ?_⟩
    show qR ((takesR rs cs us).getD k zeroR) ≤ qR ((takesR rs cs hi).getD k zeroR)
    rw [takes_getD rs cs hi hk, takes_getD rs cs us hk, qR_repR, qR_repR]
    exact take_mono hu h.high g.le hk
  · obtain ⟨k, hk, hs, rfl⟩ := sure_mem.1 hx
    exact ⟨k, rfl, hk, all_stays h.low hu g.ge hk hs⟩
end Go.Proofs.YtanhhdndgkhcfaaGreatDoor
namespace Go.Proofs.YtanhhdndgkhcfaaGreatDoor
open Go Go.Proofs Go.RowKit
attribute [local go_sem] Oper.semAt_some
attribute [local go_sem ↓] run_eql_rat' run_neq_rat'
set_option maxRecDepth 20000 in
set_option maxHeartbeats 8000000 in
theorem lawClamp_any (gs lo hi : List Rv) (gp lp hp : Option Addr) (gc lc hc : Nat) (W : World) (hg : At W.heap.size W 3 ratCells gs gp gc) (hl : At W.heap.size W 3 ratCells lo lp lc) (hh : At W.heap.size W 3 ratCells hi hp hc)
    (hlen : hi.length = lo.length) (h8 : lo.length ≤ 8) (sg : ∀ u ∈ gs, SzR u 20) (sl : ∀ u ∈ lo, SzR u 20) (sh : ∀ u ∈ hi, SzR u 20) :
    Calls Tryz.prog 29 #[.slice gp gs.length gc, .slice lp lo.length lc, .slice hp hi.length hc] W fun e w' => ∃ p c, e = .returned (.slice p (clampL gs lo hi).length c) ∧
      Grown w' W.heap.size 68 3 ratCells (.slice p (clampL gs lo hi).length c) (clampL gs lo hi) ∧ Turned (fun _ => False) W w' := by
  have mg : (gs.length : Int) ≤ 9223372036854775807 := by have := hg.len; unfold maxLen at this; omega
  obtain ⟨n, hn⟩ : ∃ n, lo.length = n := ⟨_, rfl⟩
  obtain ⟨ng, hng⟩ : ∃ n, gs.length = n := ⟨_, rfl⟩
  have HOL : Hid (clampL gs lo hi = clampTo gs lo hi n) := Lib.hid (by unfold clampL; rw [hn])
  have HSZ := Lib.hid (And.intro sg (And.intro sl sh))
  have HAT := Lib.hid (And.intro hg (And.intro hl hh))
  rw [hn] at hlen h8
  have HN := Lib.hid (And.intro hn (And.intro hng hlen))
  rw [hng] at mg
  rw [hn, hng, hlen]
  have h8' : (n : Int) ≤ 8 := by omega
  clear hg hl hh hlen h8 sg sl sh hn hng
  go_enter Tryz.func29, Tryz.ntmps29
  go_wp2_with fail
  go_loopw [7, 12] (fun v i wr => ∃ (k : Nat) (p : Option Addr) (c : Nat), k ≤ n ∧ i = (.int .i64 k) ∧ v = .slice p (clampTo gs lo hi k).length c ∧ Hid (Grown wr W.heap.size 68 3 ratCells (.slice p (clampTo gs lo hi k).length c) (clampTo gs lo hi k) ∧ Turned (fun _ => False) W wr)) (fun _ i _ => n - (intOf i).toNat)
  case atStart => exact ⟨0, none, 0, Nat.zero_le _, rfl, rfl, Lib.hid ⟨Grown.nil _ _ _ _ _, Turned.refl _ _⟩⟩
  case round =>
    obtain ⟨k, p, c, hk, rfl, rfl, HI⟩ := hrel
    by_cases hlt : k < n
    · have hx : lo[k]? = some (lo[k]'(by rw [HN.out.1]; exact hlt)) := List.getElem?_eq_getElem _
      obtain ⟨⟨xn, xx, xd⟩, hxe⟩ : ∃ u, lo[k]'(by rw [HN.out.1]; exact hlt) = u := ⟨_, rfl⟩
      rw [hxe] at hx
      have hy : hi[k]? = some (hi[k]'(by rw [HN.out.2.2]; exact hlt)) := List.getElem?_eq_getElem _
      obtain ⟨⟨yn, yx, yd⟩, hye⟩ : ∃ u, hi[k]'(by rw [HN.out.2.2]; exact hlt) = u := ⟨_, rfl⟩
      rw [hye] at hy
      have hst := clampTo_succ gs lo hi k
      rw [getD_of hx, getD_of hy] at hst
      obtain ⟨b, a, rfl, hb, e0, e1, e2⟩ := (HAT.out.2.1.turned HI.out.2).rats hx
      obtain ⟨b', a', rfl, hb', i0, i1, i2⟩ := (HAT.out.2.2.turned HI.out.2).rats hy
      have HSX := Lib.hid (HSZ.out.2.1 _ (List.mem_of_getElem? hx))
      have HSY := Lib.hid (HSZ.out.2.2 _ (List.mem_of_getElem? hy))
      have hk0 : (0 : Int) ≤ k := by omega
      have hk1 : (k : Int) < n := by omega
      have TA := (Turned.refl (fun _ => False) wr).alloc (.cells #[.bool xn, .string xx, .string xd] 68)
      have z0 := World.alloc_heap_new wr (.cells #[.bool xn, .string xx, .string xd] 68)
      obtain ⟨f0, f1, f2, -, -, -⟩ := box3 z0
      have HTA := Lib.hid TA
      have HZ0 := Lib.hid z0
      clear hx hxe hy hye TA z0 hb hb'
      by_cases hkg : k < ng
      · have hz : gs[k]? = some (gs[k]'(by rw [HN.out.2.1]; exact hkg)) := List.getElem?_eq_getElem _
        obtain ⟨⟨zn, zx, zd⟩, hze⟩ : ∃ u, gs[k]'(by rw [HN.out.2.1]; exact hkg) = u := ⟨_, rfl⟩
        rw [hze] at hz
        rw [hz] at hst
        obtain ⟨bg, ag, rfl, -, j0, j1, j2⟩ := (HAT.out.1.turned HI.out.2).rats hz
        have HSG := Lib.hid (HSZ.out.1 _ (List.mem_of_getElem? hz))
        have HC0 := Lib.hid (And.intro (And.intro e0 (And.intro e1 e2)) (And.intro (And.intro i0 (And.intro i1 i2)) (And.intro j0 (And.intro j1 j2))))
        have hkg1 : (k : Int) < ng := by omega
        have j0 := cellT HTA.out id j0
        have j1 := cellT HTA.out id j1
        have j2 := cellT HTA.out id j2
        clear hz hze i0 i1 i2
        obtain ⟨v, hv⟩ : ∃ v, decide (validR ⟨zn, zx, zd⟩) = v := ⟨_, rfl⟩
        have HVC := Lib.hid (fun W => qValid_any ⟨zn, zx, zd⟩ W (Nat.le_trans HSG.out.1 (by decide)) (Nat.le_trans HSG.out.2 (by decide)))
        rw [hv] at HVC
        have HST1 := Lib.hid hst
        have HVD := Lib.hid hv
        clear hst hv
        go_wp2_with fail
        refine (HVC.out _).mono ?_
        rintro e w2 ⟨rfl, t2⟩
        have HT2 := Lib.hid (HTA.out.trans t2)
        have HB2 := Lib.hid (keepB t2 HZ0.out)
        obtain ⟨f0, f1, f2, -, -, -⟩ := box3 HB2.out
        clear t2 e0 e1 e2 j0 j1 j2 HVC
        cases v with
        | false =>
          have HST : Hid (clampTo gs lo hi (k + 1) = clampTo gs lo hi k ++ [⟨xn, xx, xd⟩]) := Lib.hid (by
            rw [HST1.out]
            show _ ++ [if validR ⟨zn, zx, zd⟩ then _ else _] = _
            rw [if_neg (of_decide_eq_false HVD.out)])
          clear HST1 HVD
          have HG := Lib.hid (HI.out.1.turned HT2.out fun _ h => h.elim)
          have HZ := Lib.hid (Nat.le_trans HI.out.2.size (HT2.out).size)
          go_wp2_with (at_builtin; (refine app_rat w2 rfl _ _ rfl W.heap.size (.slice p (clampTo gs lo hi k).length c) ⟨xn, xx, xd⟩ (clampTo gs lo hi k) rfl rfl HG.out HZ.out (by rw [clampTo_len]; omega) ?_); intro p' c' w9 ho4 ht4; have HS := Lib.hid (And.intro ho4 ht4); clear ho4 ht4)
          go_roundw
          case rel => exact ⟨k + 1, p', c', by omega, by go_num, by rw [HST.out]; simp, Lib.hid ⟨by rw [HST.out]; exact HS.out.1, (HI.out.2.trans HT2.out).fresh HS.out.2 fun _ => id⟩⟩
          case measure => simp [intOf]; omega
        | true =>
          have HST : Hid (clampTo gs lo hi (k + 1) = clampTo gs lo hi k ++ [repR (maxR (qR ⟨xn, xx, xd⟩) (minR (qR ⟨yn, yx, yd⟩) (qR ⟨zn, zx, zd⟩)))]) := Lib.hid (by
            rw [HST1.out]
            show _ ++ [if validR ⟨zn, zx, zd⟩ then _ else _] = _
            rw [if_pos (of_decide_eq_true HVD.out)])
          have HMIN := Lib.hid (fun W => qMin_any ⟨yn, yx, yd⟩ ⟨zn, zx, zd⟩ 20 W (by decide) (by decide) HSY.out HSG.out)
          obtain ⟨⟨mn, mx, md⟩, hm⟩ : ∃ u, repR (minR (qR ⟨yn, yx, yd⟩) (qR ⟨zn, zx, zd⟩)) = u := ⟨_, rfl⟩
          have hms : SzR ⟨mn, mx, md⟩ 20 := by
            rw [← hm]
            rcases minR_or (qR ⟨yn, yx, yd⟩) (qR ⟨zn, zx, zd⟩) with h | h
            · exact repR_szq HSY.out h
            · exact repR_szq HSG.out h
          have hmq : qR ⟨mn, mx, md⟩ = minR (qR ⟨yn, yx, yd⟩) (qR ⟨zn, zx, zd⟩) := by rw [← hm, qR_repR]
          have HMAX := Lib.hid (fun W => qMax_any ⟨xn, xx, xd⟩ ⟨mn, mx, md⟩ 20 W (by decide) (by decide) HSX.out hms)
          rw [hmq] at HMAX
          obtain ⟨⟨rn, rx, rd⟩, hr⟩ : ∃ u, repR (maxR (qR ⟨xn, xx, xd⟩) (minR (qR ⟨yn, yx, yd⟩) (qR ⟨zn, zx, zd⟩))) = u := ⟨_, rfl⟩
          rw [hr] at HMAX HST
          rw [hm] at HMIN
          have HCA : Hid (∀ A, Turned (fun _ => False) wr A → (A.cell? ⟨b, a + k * 3, none⟩ = some (.bool xn) ∧ A.cell? ⟨b, a + k * 3 + 1, none⟩ = some (.string xx) ∧ A.cell? ⟨b, a + k * 3 + 2, none⟩ = some (.string xd)) ∧ (A.cell? ⟨b', a' + k * 3, none⟩ = some (.bool yn) ∧ A.cell? ⟨b', a' + k * 3 + 1, none⟩ = some (.string yx) ∧ A.cell? ⟨b', a' + k * 3 + 2, none⟩ = some (.string yd)) ∧ (A.cell? ⟨bg, ag + k * 3, none⟩ = some (.bool zn) ∧ A.cell? ⟨bg, ag + k * 3 + 1, none⟩ = some (.string zx) ∧ A.cell? ⟨bg, ag + k * 3 + 2, none⟩ = some (.string zd))) := Lib.hid fun A hA =>
            have q := HC0.out
            ⟨⟨cellT hA id q.1.1, cellT hA id q.1.2.1, cellT hA id q.1.2.2⟩, ⟨cellT hA id q.2.1.1, cellT hA id q.2.1.2.1, cellT hA id q.2.1.2.2⟩, cellT hA id q.2.2.1, cellT hA id q.2.2.2.1, cellT hA id q.2.2.2.2⟩
          clear hm hms hmq hr HST1 HVD HC0 f0 f1 f2
          have HD2 := Lib.hid (HT2.out.drew)
          have HK0 := Lib.hid (HCA.out _ HD2.out)
          have HBD := Lib.hid (keepB (Turned.refl (fun _ => False) w2).drew HB2.out)
          obtain ⟨B, hB⟩ : ∃ B, wr.heap.size = B := ⟨_, rfl⟩
          have HSS : Hid (∀ A x y z u v r, Turned (fun _ => False) wr A → A.heap[B]? = some (.cells #[x, y, z] 68 (0, 0)) → Turned (fun _ => False) wr (((A.setCell ⟨B, 0, none⟩ u).setCell ⟨B, 1, none⟩ v).setCell ⟨B, 2, none⟩ r)) :=
            Lib.hid fun A x y z u v r hA h => hA.fresh (set3 h u v r).2 fun k hk => by rw [hk, hB]; exact Nat.le_refl _
          rw [hB] at HBD ⊢
          clear hB
          go_wp2_with fail
          go_region_held3 (fun A => (A.cell? ⟨b, a + k * 3, none⟩ = some (.bool xn) ∧ A.cell? ⟨b, a + k * 3 + 1, none⟩ = some (.string xx) ∧ A.cell? ⟨b, a + k * 3 + 2, none⟩ = some (.string xd)) ∧ (A.cell? ⟨b', a' + k * 3, none⟩ = some (.bool yn) ∧ A.cell? ⟨b', a' + k * 3 + 1, none⟩ = some (.string yx) ∧ A.cell? ⟨b', a' + k * 3 + 2, none⟩ = some (.string yd)) ∧ (A.cell? ⟨bg, ag + k * 3, none⟩ = some (.bool zn) ∧ A.cell? ⟨bg, ag + k * 3 + 1, none⟩ = some (.string zx) ∧ A.cell? ⟨bg, ag + k * 3 + 2, none⟩ = some (.string zd)))
            (first | exact HK3.out | exact HK2.out | exact HK1.out | exact HK0.out | go_keep)
            (first
              | (have hq := HK1; clear hq; go_at_call 34; refine (HMAX.out _).mono ?_; rintro e w4 ⟨rfl, t4⟩; have HT4 := Lib.hid (HT3.out.trans t4); have HK2 : Hid _ := Lib.hid (HCA.out _ HT4.out); have HB4 := Lib.hid (keepB t4 HB3.out); obtain ⟨f0, f1, f2, f3, f4, f5⟩ := box3 HB4.out; have HT5 := Lib.hid (HSS.out w4 _ _ _ (.bool rn) (.string rx) (.string rd) HT4.out HB4.out); have HK3 : Hid _ := Lib.hid (HCA.out _ HT5.out); clear t4)
              | (have hq := HK0; clear hq; go_at_call 33; refine (HMIN.out _).mono ?_; rintro e w3 ⟨rfl, t3⟩; have HT3 := Lib.hid (HD2.out.trans t3); have HK1 : Hid _ := Lib.hid (HCA.out _ HT3.out); have HB3 := Lib.hid (keepB t3 HBD.out); clear t3))
          have HB5 := Lib.hid (set3 HB4.out (.bool rn) (.string rx) (.string rd)).1
          obtain ⟨w5, hw5⟩ : ∃ w, w = ((w4.setCell ⟨B, 0, none⟩ (.bool rn)).setCell ⟨B, 1, none⟩ (.string rx)).setCell ⟨B, 2, none⟩ (.string rd) := ⟨_, rfl⟩
          rw [← hw5] at HB5 HT5 ⊢
          clear f0 f1 f2 f3 f4 f5 hw5 HK3
          obtain ⟨f0, f1, f2, -, -, -⟩ := box3 HB5.out
          have HG := Lib.hid (HI.out.1.turned HT5.out fun _ h => h.elim)
          have HZ := Lib.hid (Nat.le_trans HI.out.2.size (HT5.out).size)
          go_wp2_with (at_builtin; (refine app_rat w5 rfl _ _ rfl W.heap.size (.slice p (clampTo gs lo hi k).length c) ⟨rn, rx, rd⟩ (clampTo gs lo hi k) rfl rfl HG.out HZ.out (by rw [clampTo_len]; omega) ?_); intro p' c' w9 ho4 ht4; have HS := Lib.hid (And.intro ho4 ht4); clear ho4 ht4)
          go_roundw
          case rel => exact ⟨k + 1, p', c', by omega, by go_num, by rw [HST.out]; simp, Lib.hid ⟨by rw [HST.out]; exact HS.out.1, (HI.out.2.trans HT5.out).fresh HS.out.2 fun _ => id⟩⟩
          case measure => simp [intOf]; omega
      · have hkg1 : ¬ (k : Int) < ng := by omega
        have HST : Hid (clampTo gs lo hi (k + 1) = clampTo gs lo hi k ++ [⟨xn, xx, xd⟩]) := Lib.hid (by
          rw [hst, List.getElem?_eq_none (by rw [HN.out.2.1]; omega)]
          rfl)
        clear hst i0 i1 i2
        go_upto_region 8 with fail
        obtain ⟨w2, hw2⟩ : ∃ w, w = wr.alloc (.cells #[.bool xn, .string xx, .string xd] 68) := ⟨_, rfl⟩
        have HT2 : Hid (Turned (fun _ => False) wr w2) := by rw [hw2]; exact HTA
        rw [← hw2] at f0 f1 f2 ⊢
        clear hw2 HTA HZ0 e0 e1 e2
        have HG := Lib.hid (HI.out.1.turned HT2.out fun _ h => h.elim)
        have HZ := Lib.hid (Nat.le_trans HI.out.2.size (HT2.out).size)
        go_wp2_with (at_builtin; (refine app_rat w2 rfl _ _ rfl W.heap.size (.slice p (clampTo gs lo hi k).length c) ⟨xn, xx, xd⟩ (clampTo gs lo hi k) rfl rfl HG.out HZ.out (by rw [clampTo_len]; omega) ?_); intro p' c' w9 ho4 ht4; have HS := Lib.hid (And.intro ho4 ht4); clear ho4 ht4)
        go_roundw
        case rel => exact ⟨k + 1, p', c', by omega, by go_num, by rw [HST.out]; simp, Lib.hid ⟨by rw [HST.out]; exact HS.out.1, (HI.out.2.trans HT2.out).fresh HS.out.2 fun _ => id⟩⟩
        case measure => simp [intOf]; omega
    · obtain rfl : k = n := by omega
      go_wp2_with fail
      go_ret
      rw [HOL.out]
      exact ⟨p, c, rfl, HI.out.1, HI.out.2⟩
end Go.Proofs.YtanhhdndgkhcfaaGreatDoor
namespace Go.Proofs.YtanhhdndgkhcfaaGreatDoor
open Go Go.Proofs Go.RowKit
theorem Grown.at' {α : Type} {W : World} {base e s : Nat} {enc : α → List Value} {p : Option Addr} {n c : Nat} {l : List α} (h : Grown W base e s enc (.slice p n c) l) (henc : ∀ x, (enc x).length = s) {N : Nat} (hN : W.heap.size ≤ N) : At N W s enc l p c := by
  obtain ⟨p', c', e⟩ := h.shape
  cases e
  exact h.at_ henc hN
theorem Grown.hollow {α : Type} {W : World} {base q e s : Nat} {enc : α → List Value} (h : W.heap[q]? = some (.cells #[] e (0, 0))) (hb : base ≤ q) : Grown W base e s enc (.slice (some ⟨q, 0, none⟩) 0 0) [] :=
  ⟨by simp, .inr ⟨q, 0, #[], rfl, hb, h, Nat.le_refl _, Nat.zero_le _, by simp, by simp⟩⟩
theorem run_append_zero {P : Program} (w : World) (t ty e : TypeId) (i : TypeInfo) (ht : P.underlying t = some (.slice e)) (hi : P.info? e = some i) (b : Option Addr) (n cap : Nat) (h : n ≤ cap) (p : Option Addr) (c : Nat) :
    (Builtin.append_ #[t, t] ty #[.slice b n cap, .slice p 0 c]).run P w = .ok (.slice b n cap) w := by
  have hf : (Builtin.firstCells i.size 0 (.slice p 0 c)).run P w = .ok #[] w := by
    cases p with
    | none => rfl
    | some a => exact run_firstCells_some (P := P) w i.size 0 a 0 c [] (by simp) (by simp)
  cases b with
  | none => simp [Builtin.append_, run_underlying ht, sizeOf, typeInfo, hi, Builtin.lenOf, h, hf]
  | some a => simp [Builtin.append_, run_underlying ht, sizeOf, typeInfo, hi, Builtin.lenOf, h, hf, storeCells]
theorem Grown.capped {α : Type} {W : World} {base e s : Nat} {enc : α → List Value} {v : Value} {l : List α} (h : Grown W base e s enc v l) : ∃ p c, v = .slice p l.length c ∧ l.length ≤ c := by
  obtain ⟨-, h2⟩ := h
  rcases h2 with ⟨h2, h3⟩ | ⟨g, cap, cur, hv, -, -, h4, -⟩
  · exact ⟨none, 0, by rw [h2, h3], by omega⟩
  · exact ⟨_, cap, hv, h4⟩
theorem Grown.tip {α : Type} {W : World} {base e s n c : Nat} {enc : α → List Value} {p : Option Addr} {l : List α} (h : Grown W base e s enc (.slice p n c) l) (hn : 0 < n) : ∃ g, p = Option.some ⟨g, 0, none⟩ ∧ base ≤ g ∧ ∀ o, W.frozen? ⟨g, o, none⟩ = false := by
  obtain ⟨-, h2⟩ := h
  rcases h2 with ⟨h2, h3⟩ | ⟨g, cap, cur, hv, hb, hg, -⟩
  · cases h2
    omega
  · cases hv
    exact ⟨g, rfl, hb, fun o => by simp [World.frozen?, hg]⟩
theorem app_orders (W : World) {ops : Array Oper} {rest : List Oper} {o : Oper} {a : Act} {Q : Exit → Act → World → Prop} (hg : o.guard = none) (so xo : Operand) (hop : o.op = Op.call { callee := Callee.builtin Builtin.append, args := #[so, xo], argTypes := #[27, 27] })
    (base N n m : Nat) (v : Value) (L M : List Or) (q : Option Addr) (d : Nat) (hn : M.length = n) (hnm : (L ++ M).length = m) (hs : a.eval so = v) (hx : a.eval xo = .slice q n d) (hown : Grown W base 70 4 orderCells v L) (hm : At N W 4 orderCells M q d) (hb : base ≤ W.heap.size) (hl : m ≤ 100000)
    (hK : ∀ p c w', Grown w' base 70 4 orderCells (.slice p m c) (L ++ M) → Turned (fun g => base ≤ g) W w' → wpList Tryz.prog ops Q rest (a.put o.dst (.slice p m c)) w') :
    wpList Tryz.prog ops Q (o :: rest) a W := by
  subst hn
  subst hnm
  rw [List.length_append] at hl
  obtain ⟨i0, hif, hz0, hz1, hz2⟩ := info_parts infoOrder
  cases hM : M with
  | nil =>
    rw [hM] at hx hK
    obtain ⟨p, c, hv, hc⟩ := hown.capped
    have hrun := run_append_zero (P := Tryz.prog) W 27 o.type 70 i0 Tryz.underlying27 hif p L.length c hc q d
    have hk := hK p c W (by rw [List.append_nil, ← hv]; exact hown) (Turned.refl _ _)
    rw [List.append_nil] at hk
    rw [hv] at hs
    refine wpList_plain hg fun K hK' => ?_
    unfold Oper.wp
    simp [execOp, hop, resolve, invoke, builtin, hs, hx, hrun, Result.andThen]
    exact hK' _ _ hk
  | cons x M' =>
    obtain ⟨b, f, rfl, -, -⟩ := hm.cel 0 x (by rw [hM]; rfl)
    have hlM : (M.flatMap orderCells).length = M.length * 4 := flat_len orderCells 4 (fun _ => rfl) M
    have hmul : (L.length + M.length) * 48 ≤ 100000 * 48 := Nat.mul_le_mul_right 48 hl
    refine wpList_append_exact W hg so xo 27 hop base 70 i0 (.agg #[(.int .i64 0), .bool false, .string ⟨#[]⟩, .string ⟨#[]⟩]) 4 48 Tryz.underlying27 hif hz0 hz1 hz2 rfl (by decide) v L.length (L.flatMap orderCells) hs hown ⟨b, f, none⟩ M.length d (M.flatMap orderCells) hx hlM (fun j u hj => ?_) (fun u hu => ?_) (by unfold maxLen; omega) (by omega) hb fun v' w' hown' hgrow hex => ?_
    · have hlt : j < M.length * 4 := by rw [← hlM]; exact (List.getElem?_eq_some_iff.1 hj).1
      have hi : j / 4 < M.length := by omega
      have h2 := flatMap_at orderCells 4 (fun _ => rfl) M (j / 4) (j % 4) hi (by omega)
      rw [show j / 4 * 4 + j % 4 = j by omega, hj] at h2
      obtain ⟨b', f', e, -, h3⟩ := hm.cel (j / 4) _ (List.getElem?_eq_getElem hi)
      cases e
      have h4 := h3 (j % 4) u h2.symm
      rw [show j / 4 * 4 + j % 4 = j by omega] at h4
      rwa [Addr.add_lit]
    · obtain ⟨y, -, hy⟩ := List.mem_flatMap.1 hu
      simp at hy
      rcases hy with rfl | rfl | rfl | rfl <;> rfl
    · have hg2 : Grown w' base 70 4 orderCells v' (L ++ M) := by
        unfold Grown
        rw [List.length_append, List.flatMap_append]
        exact hown'
      obtain ⟨p, c, rfl⟩ := hg2.shape
      exact hK p c w' hg2 (Turned.of_grown hgrow fun k hk => (ownsRow_block hown k hk).1)
theorem cell_off (W : World) {g x y : Nat} (v : Value) (h : x ≠ y) : (W.setCell ⟨g, x, none⟩ v).cell? ⟨g, y, none⟩ = W.cell? ⟨g, y, none⟩ := by
  apply World.cell?_setCell_other
  intro e
  exact h (congrArg Addr.off e)
theorem cell_same (W : World) {g x : Nat} {u : Value} (v : Value) (h : W.cell? ⟨g, x, none⟩ = some u) : (W.setCell ⟨g, x, none⟩ v).cell? ⟨g, x, none⟩ = some v := World.cell?_setCell_same _ _ _ h
theorem At.limit {W : World} {N g c k : Nat} {l : List Or} {o : Or} (h : At N W 4 orderCells l (some ⟨g, 0, none⟩) c) (hk : l[k]? = some o) (u : Rv) :
    At N (((W.setCell ⟨g, k * 4 + 1, none⟩ (.bool u.neg)).setCell ⟨g, k * 4 + 2, none⟩ (.string u.num)).setCell ⟨g, k * 4 + 3, none⟩ (.string u.den)) 4 orderCells (l.set k ⟨o.claim, u⟩) (some ⟨g, 0, none⟩) c := by
  obtain ⟨hlt, rfl⟩ := List.getElem?_eq_some_iff.1 hk
  refine ⟨by rw [List.length_set]; exact h.cap, h.mx, fun i x hi => ?_⟩
  have hil : i < l.length := by
    have := (List.getElem?_eq_some_iff.1 hi).1
    rwa [List.length_set] at this
  obtain ⟨b, a, e, hb, hc⟩ := h.cel i _ (List.getElem?_eq_getElem hil)
  cases e
  refine ⟨g, 0, rfl, hb, fun j v hj => ?_⟩
  have hj4 : j < 4 := by have := (List.getElem?_eq_some_iff.1 hj).1; simpa using this
  have hold : ∀ m v, (orderCells l[i])[m]? = some v → W.cell? ⟨g, 0 + (i * 4 + m), none⟩ = some v := fun m v => hc m v
  by_cases hik : i = k
  · subst hik
    rw [List.getElem?_set_self hlt] at hi
    cases hi
    have h0 := hold 0 _ rfl
    have h1 := hold 1 _ rfl
    have h2 := hold 2 _ rfl
    have h3 := hold 3 _ rfl
    rw [Nat.zero_add] at h0 h1 h2 h3 ⊢
    match j, hj4, hj with
    | 0, _, hj =>
      cases hj
      rw [cell_off _ _ (by omega), cell_off _ _ (by omega), cell_off _ _ (by omega)]
      exact h0
    | 1, _, hj =>
      cases hj
      rw [cell_off _ _ (by omega), cell_off _ _ (by omega)]
      exact cell_same _ _ h1
    | 2, _, hj =>
      cases hj
      rw [cell_off _ _ (by omega)]
      exact cell_same _ _ (by rw [cell_off _ _ (by omega)]; exact h2)
    | 3, _, hj =>
      cases hj
      exact cell_same _ _ (by rw [cell_off _ _ (by omega), cell_off _ _ (by omega)]; exact h3)
  · rw [List.getElem?_set_ne (Ne.symm hik), List.getElem?_eq_getElem hil] at hi
    cases hi
    rw [cell_off _ _ (by omega), cell_off _ _ (by omega), cell_off _ _ (by omega)]
    exact hold j v hj
end Go.Proofs.YtanhhdndgkhcfaaGreatDoor
namespace Go.Proofs.YtanhhdndgkhcfaaGreatDoor
open Go Go.Proofs Go.RowKit
attribute [local go_sem] Oper.semAt_some
attribute [local go_sem ↓] run_eql_rat' run_neq_rat'
theorem sameR_self (u : Rv) : sameR u u = true := by unfold sameR; simp
set_option maxRecDepth 20000 in
set_option maxHeartbeats 2000000 in
theorem ySame_any (us : List Rv) (p q : Option Addr) (c d N M : Nat) (W : World) (h1 : At N W 3 ratCells us p c) (h2 : At M W 3 ratCells us q d) :
    Calls Tryz.prog 21 #[.slice p us.length c, .slice q us.length d] W fun e w' => e = .returned (.bool true) ∧ Turned (fun _ => False) W w' := by
  have mx : (us.length : Int) ≤ 9223372036854775807 := by have := h1.len; unfold maxLen at this; omega
  obtain ⟨n, hn⟩ : ∃ n, us.length = n := ⟨_, rfl⟩
  have HN := Lib.hid hn
  have H1 := Lib.hid h1
  have H2 := Lib.hid h2
  rw [hn] at mx ⊢
  clear hn h1 h2
  go_enter Tryz.func21, Tryz.ntmps21
  go_wp2_with fail
  go_loopw [5] (fun i wr => ∃ k : Nat, k ≤ n ∧ i = (.int .i64 k) ∧ Hid (Turned (fun _ => False) W wr)) (fun i _ => n - (intOf i).toNat)
  case atStart => exact ⟨0, Nat.zero_le _, rfl, Lib.hid (Turned.refl _ _)⟩
  case round =>
    obtain ⟨k, hk, rfl, HI⟩ := hrel
    by_cases hlt : k < n
    · have hx : us[k]? = some (us[k]'(by rw [HN.out]; exact hlt)) := List.getElem?_eq_getElem _
      obtain ⟨⟨un, ux, ud⟩, hxe⟩ : ∃ u, us[k]'(by rw [HN.out]; exact hlt) = u := ⟨_, rfl⟩
      rw [hxe] at hx
      obtain ⟨b, a, rfl, -, e0, e1, e2⟩ := (H1.out.turned HI.out).rats hx
      obtain ⟨b', a', rfl, -, g0, g1, g2⟩ := (H2.out.turned HI.out).rats hx
      have hss := sameR_self ⟨un, ux, ud⟩
      have hk0 : (0 : Int) ≤ k := by omega
      have hk1 : (k : Int) < n := by omega
      clear hx hxe
      go_wp2_with fail
      go_quiet (fail)
      go_wp2_with fail
      go_roundw
      case rel => exact ⟨k + 1, by omega, by go_num, Lib.hid (HI.out.trans (drewN_turned _ _ nq))⟩
      case measure => simp [intOf]; omega
    · obtain rfl : k = n := by omega
      go_wp2_with fail
      go_ret
      exact ⟨rfl, HI.out⟩
set_option maxRecDepth 20000 in
set_option maxHeartbeats 2000000 in
theorem xSameInts_any (us : List Int) (p q : Option Addr) (c d N M : Nat) (W : World) (h1 : At N W 1 intCells us p c) (h2 : At M W 1 intCells us q d) :
    Calls Tryz.prog 23 #[.slice p us.length c, .slice q us.length d] W fun e w' => e = .returned (.bool true) ∧ Turned (fun _ => False) W w' := by
  have mx : (us.length : Int) ≤ 9223372036854775807 := by have := h1.len; unfold maxLen at this; omega
  obtain ⟨n, hn⟩ : ∃ n, us.length = n := ⟨_, rfl⟩
  have HN := Lib.hid hn
  have H1 := Lib.hid h1
  have H2 := Lib.hid h2
  rw [hn] at mx ⊢
  clear hn h1 h2
  go_enter Tryz.func23, Tryz.ntmps23
  go_wp2_with fail
  go_loopw [5] (fun i wr => ∃ k : Nat, k ≤ n ∧ i = (.int .i64 k) ∧ Hid (Turned (fun _ => False) W wr)) (fun i _ => n - (intOf i).toNat)
  case atStart => exact ⟨0, Nat.zero_le _, rfl, Lib.hid (Turned.refl _ _)⟩
  case round =>
    obtain ⟨k, hk, rfl, HI⟩ := hrel
    by_cases hlt : k < n
    · have hx : us[k]? = some (us[k]'(by rw [HN.out]; exact hlt)) := List.getElem?_eq_getElem _
      obtain ⟨u, hxe⟩ : ∃ u, us[k]'(by rw [HN.out]; exact hlt) = u := ⟨_, rfl⟩
      rw [hxe] at hx
      obtain ⟨b, a, rfl, -, e0⟩ := (H1.out.turned HI.out).ints hx
      obtain ⟨b', a', rfl, -, g0⟩ := (H2.out.turned HI.out).ints hx
      have hk0 : (0 : Int) ≤ k := by omega
      have hk1 : (k : Int) < n := by omega
      clear hx hxe
      go_wp2_with fail
      go_quiet (fail)
      go_wp2_with fail
      go_roundw
      case rel => exact ⟨k + 1, by omega, by go_num, Lib.hid (HI.out.trans (drewN_turned _ _ nq))⟩
      case measure => simp [intOf]; omega
    · obtain rfl : k = n := by omega
      go_wp2_with fail
      go_ret
      exact ⟨rfl, HI.out⟩
end Go.Proofs.YtanhhdndgkhcfaaGreatDoor
namespace Go.Proofs.YtanhhdndgkhcfaaGreatDoor
open Go Go.Proofs Go.RowKit
attribute [local go_sem] Oper.semAt_some
theorem run_equal_order (k : Int) (u : Rv) (W : World) : (Op.equalIn 10000 70 (.agg #[(.int .i64 k), .bool u.neg, .string u.num, .string u.den]) (.agg #[(.int .i64 k), .bool u.neg, .string u.num, .string u.den])).run Tryz.prog W = .ok true W := by
  have hS : Tryz.prog.underlying 70 = some (.struct (Tryz.prog.fieldsOf 70)) := by kernel_rfl
  have hp : Tryz.prog.stoodInHeld 70 = false := by kernel_rfl
  have a1 := Tryz.isAgg9
  have z1 := Tryz.sizeOf9
  have u1 := Tryz.underlying9
  rw [show (10000 : Nat) = 9999 + 1 from rfl, run_equalIn_agg W 9999 70 _ _ hS hp]
  simp only [Program.fieldsOf, Tryz.underlying70]
  go_simp
theorem run_neq_order (k : Int) (n : Bool) (x d : ByteArray) (W : World) : (binOp .neq 70 (.agg #[(.int .i64 k), .bool n, .string x, .string d]) (.agg #[(.int .i64 k), .bool n, .string x, .string d])).run Tryz.prog W = .ok (.bool false) W := by
  rw [run_neq_struct, run_equal_order k ⟨n, x, d⟩]
  rfl
attribute [local go_sem ↓] run_neq_order
set_option maxRecDepth 20000 in
set_option maxHeartbeats 2000000 in
theorem lSame_any (us : List Or) (p q : Option Addr) (c d N M : Nat) (W : World) (h1 : At N W 4 orderCells us p c) (h2 : At M W 4 orderCells us q d) :
    Calls Tryz.prog 22 #[.slice p us.length c, .slice q us.length d] W fun e w' => e = .returned (.bool true) ∧ Turned (fun _ => False) W w' := by
  have mx : (us.length : Int) ≤ 9223372036854775807 := by have := h1.len; unfold maxLen at this; omega
  obtain ⟨n, hn⟩ : ∃ n, us.length = n := ⟨_, rfl⟩
  have HN := Lib.hid hn
  have H1 := Lib.hid h1
  have H2 := Lib.hid h2
  rw [hn] at mx ⊢
  clear hn h1 h2
  go_enter Tryz.func22, Tryz.ntmps22
  go_wp2_with fail
  go_loopw [5] (fun i wr => ∃ k : Nat, k ≤ n ∧ i = (.int .i64 k) ∧ Hid (Turned (fun _ => False) W wr)) (fun i _ => n - (intOf i).toNat)
  case atStart => exact ⟨0, Nat.zero_le _, rfl, Lib.hid (Turned.refl _ _)⟩
  case round =>
    obtain ⟨k, hk, rfl, HI⟩ := hrel
    by_cases hlt : k < n
    · have hx : us[k]? = some (us[k]'(by rw [HN.out]; exact hlt)) := List.getElem?_eq_getElem _
      obtain ⟨⟨ok, ⟨un, ux, ud⟩⟩, hxe⟩ : ∃ u, us[k]'(by rw [HN.out]; exact hlt) = u := ⟨_, rfl⟩
      rw [hxe] at hx
      obtain ⟨b, a, rfl, -, e0, e1, e2, e3⟩ := (H1.out.turned HI.out).orders hx
      obtain ⟨b', a', rfl, -, g0, g1, g2, g3⟩ := (H2.out.turned HI.out).orders hx
      have hk0 : (0 : Int) ≤ k := by omega
      have hk1 : (k : Int) < n := by omega
      clear hx hxe
      go_wp2_with fail
      go_quiet (fail)
      go_wp2_with fail
      go_roundw
      case rel => exact ⟨k + 1, by omega, by go_num, Lib.hid (HI.out.trans (drewN_turned _ _ nq))⟩
      case measure => simp [intOf]; omega
    · obtain rfl : k = n := by omega
      go_wp2_with fail
      go_ret
      exact ⟨rfl, HI.out⟩
end Go.Proofs.YtanhhdndgkhcfaaGreatDoor
namespace Go.Proofs.YtanhhdndgkhcfaaGreatDoor
section
variable (on : Nat → Nat → Bool) (n m : Nat) (place : Nat → Nat) (rank : Nat → Int) (a x t : Nat → Rat)
def boundB (k g : Nat) : Bool := (on g (place k) && decide (useQ on m place t g = passQ on n x g)) && (List.range m).all fun i => !on g (place i) || ((decide (rank i ≤ rank k) || decide (t i = 0)) && (!decide (rank i = rank k) || decide (t i * a k ≤ t k * a i)))
def fairB : Bool := ((List.range m).all fun k => decide (0 ≤ t k) && decide (t k ≤ a k)) && ((List.range n).all fun g => decide (useQ on m place t g ≤ passQ on n x g)) && (List.range m).all fun k => decide (t k = a k) || (List.range n).any (boundB on n m place rank a x t k)
end
theorem fair_of {on : Nat → Nat → Bool} {n m : Nat} {place : Nat → Nat} {rank : Nat → Int} {a x t : Nat → Rat} (h : fairB on n m place rank a x t = true) : FairQ on n m place rank a x t := by
  unfold fairB at h
  rw [Bool.and_eq_true, Bool.and_eq_true, List.all_eq_true, List.all_eq_true, List.all_eq_true] at h
  obtain ⟨⟨h1, h2⟩, h3⟩ := h
  refine ⟨fun k hk => ?_, fun g hg => of_decide_eq_true (h2 g (List.mem_range.2 hg)), fun k hk hlt => ?_⟩
  · have := h1 k (List.mem_range.2 hk)
    rw [Bool.and_eq_true, decide_eq_true_eq, decide_eq_true_eq] at this
    exact this
  · have h4 := h3 k (List.mem_range.2 hk)
    rw [Bool.or_eq_true, decide_eq_true_eq, List.any_eq_true] at h4
    rcases h4 with h4 | ⟨g, hg, h5⟩
    · rw [h4] at hlt
      exact absurd hlt Rat.lt_irrefl
    · unfold boundB at h5
      rw [Bool.and_eq_true, Bool.and_eq_true, decide_eq_true_eq, List.all_eq_true] at h5
      obtain ⟨⟨h6, h7⟩, h8⟩ := h5
      refine ⟨g, List.mem_range.1 hg, h6, h7, fun i hi hon hr => ?_, fun i hi hon hr => ?_⟩
      · have h9 := h8 i (List.mem_range.2 hi)
        rw [hon] at h9
        simp only [Bool.not_true, Bool.false_or, Bool.and_eq_true, Bool.or_eq_true, decide_eq_true_eq] at h9
        rcases h9.1 with h10 | h10
        · omega
        · exact h10
      · have h9 := h8 i (List.mem_range.2 hi)
        rw [hon] at h9
        simp only [Bool.not_true, Bool.false_or, Bool.and_eq_true, Bool.or_eq_true, decide_eq_true_eq, Bool.not_eq_true', decide_eq_false_iff_not] at h9
        rcases h9.2 with h10 | h10
        · exact absurd hr h10
        · exact h10
def qL (l : List Rat) (k : Nat) : Rat := l.getD k 0
def exN (n : Nat) : Rv := repR (n : Rat)
def exR (w1 w2 w3 : Option Addr) (c1 c2 c3 : Nat) : List Rc := [⟨2, [1], w1, c1⟩, ⟨2, [1], w2, c2⟩, ⟨-1, [], w3, c3⟩]
def exC : List Cl := [⟨2, 1, exN 5⟩, ⟨0, 2, exN 4⟩, ⟨1, 2, exN 4⟩, ⟨0, 3, exN 3⟩]
def exU (n : Nat) : List Rv := [exN n, exN 2, exN 1]
section
variable {w1 w2 w3 : Option Addr} {c1 c2 c3 : Nat}
theorem ex_sup (n : Nat) (hn : n = 6 ∨ n = 7 ∨ n = 10) : supE (exR w1 w2 w3 c1 c2 c3) (exU n) exC = 0 := by
  rcases hn with rfl | rfl | rfl <;> kernel_rfl
theorem ex_take (n : Nat) (l : List Rat) (hn : n = 6 ∨ n = 7 ∨ n = 10) (hl : fairB (onN [2, 2, -1]) 3 4 (placeK exC) (rankK exC) (amtK exC) (gainQ (exU n)) (qL l) = true) : takesR (exR w1 w2 w3 c1 c2 c3) exC (exU n) = repL 4 (qL l) :=
  (take_one (supE_zero (ex_sup n hn)) (fair_of hl)).symm
theorem ex6 : takesR (exR w1 w2 w3 c1 c2 c3) exC (exU 6) = [exN 5, exN 2, exN 2, exN 0] := (ex_take 6 [5, 2, 2, 0] (by decide) (by kernel_rfl)).trans (by kernel_rfl)
theorem ex10 : takesR (exR w1 w2 w3 c1 c2 c3) exC (exU 10) = [exN 5, exN 4, exN 2, exN 2] := (ex_take 10 [5, 4, 2, 2] (by decide) (by kernel_rfl)).trans (by kernel_rfl)
theorem ex7 : takesR (exR w1 w2 w3 c1 c2 c3) exC (exU 7) = [exN 5, exN 3, exN 2, exN 0] := (ex_take 7 [5, 3, 2, 0] (by decide) (by kernel_rfl)).trans (by kernel_rfl)
end
end Go.Proofs.YtanhhdndgkhcfaaGreatDoor
namespace Go.Proofs.YtanhhdndgkhcfaaGreatDoor
open Go Go.Proofs Go.RowKit
attribute [local go_sem] Oper.semAt_some
attribute [local go_sem ↓] run_eql_rat' run_neq_rat'
def exT (l : List Nat) (k : Nat) : List Rv := (l.take k).map exN
set_option maxRecDepth 20000 in
set_option maxHeartbeats 2000000 in
theorem lawInts_any (l : List Nat) (p : Option Addr) (c N : Nat) (W : World) (h : At N W 1 intCells (l.map fun n : Nat => (n : Int)) p c) (hb : ∀ n ∈ l, n ≤ 1000) (hl : l.length ≤ 1000) :
    Calls Tryz.prog 38 #[.slice p l.length c] W fun e w' => ∃ q d, e = .returned (.slice q (l.map exN).length d) ∧ Grown w' W.heap.size 68 3 ratCells (.slice q (l.map exN).length d) (l.map exN) ∧ Turned (fun _ => False) W w' := by
  obtain ⟨n, hn⟩ : ∃ n, l.length = n := ⟨_, rfl⟩
  have HN := Lib.hid hn
  have H1 := Lib.hid h
  have HB := Lib.hid hb
  have HL := Lib.hid hl
  rw [hn] at hl ⊢
  have mx : (n : Int) ≤ 1000 := by omega
  have HEN : Hid (l.map exN = exT l n) := Lib.hid (by unfold exT; rw [List.take_of_length_le (Nat.le_of_eq hn)])
  obtain ⟨R, hR⟩ : ∃ R, l.map exN = R := ⟨_, rfl⟩
  rw [hR] at HEN ⊢
  clear hn h hb hR
  go_enter Tryz.func38, Tryz.ntmps38
  go_wp2_with fail
  go_loopw [3, 8] (fun v i wr => ∃ (k : Nat) (q : Option Addr) (d : Nat), k ≤ n ∧ i = (.int .i64 k) ∧ v = .slice q (exT l k).length d ∧ Hid (Grown wr W.heap.size 68 3 ratCells (.slice q (exT l k).length d) (exT l k) ∧ Turned (fun _ => False) W wr)) (fun _ i _ => n - (intOf i).toNat)
  case atStart => exact ⟨0, none, 0, Nat.zero_le _, rfl, rfl, Lib.hid ⟨Grown.nil _ _ _ _ _, Turned.refl _ _⟩⟩
  case round =>
    obtain ⟨k, q, d, hk, rfl, rfl, HI⟩ := hrel
    by_cases hlt : k < n
    · have hx : l[k]? = some (l[k]'(by rw [HN.out]; exact hlt)) := List.getElem?_eq_getElem _
      obtain ⟨u, hxe⟩ : ∃ u, l[k]'(by rw [HN.out]; exact hlt) = u := ⟨_, rfl⟩
      rw [hxe] at hx
      have hx2 : (l.map fun n : Nat => (n : Int))[k]? = some (u : Int) := by rw [List.getElem?_map, hx]; rfl
      obtain ⟨b, a, rfl, -, e0⟩ := (H1.out.turned HI.out.2).ints hx2
      have HU := HB.out u (List.mem_of_getElem? hx)
      have HIN := Lib.hid (fun W => qInt_any u W (by omega))
      obtain ⟨⟨un, ux, ud⟩, hu⟩ : ∃ v, exN u = v := ⟨_, rfl⟩
      rw [show repR (u : Rat) = ⟨un, ux, ud⟩ from hu] at HIN
      have HST : Hid (exT l (k + 1) = exT l k ++ [⟨un, ux, ud⟩]) := Lib.hid (by
        obtain ⟨h1, h2⟩ := List.getElem?_eq_some_iff.1 hx
        unfold exT
        rw [List.take_succ_eq_append_getElem h1, List.map_append, h2]
        simp [hu])
      have hlen : (exT l k).length ≤ 1000 := by unfold exT; rw [List.length_map, List.length_take]; omega
      have hk0 : (0 : Int) ≤ k := by omega
      have hk1 : (k : Int) < n := by omega
      clear hx hxe hx2 hu
      go_wp2_with fail
      refine (HIN.out wr).mono ?_
      rintro e w2 ⟨rfl, t2⟩
      have HT2 := Lib.hid t2
      have HG := Lib.hid (HI.out.1.turned t2 fun _ h => h.elim)
      have HZ := Lib.hid (Nat.le_trans HI.out.2.size t2.size)
      clear t2 e0
      go_wp2_with (at_builtin; (refine app_rat w2 rfl _ _ rfl W.heap.size (.slice q (exT l k).length d) ⟨un, ux, ud⟩ (exT l k) rfl rfl HG.out HZ.out (by omega) ?_); intro p' c' w4 ho4 ht4; have HS := Lib.hid (And.intro ho4 ht4); clear ho4 ht4)
      go_roundw
      case rel => exact ⟨k + 1, p', c', by omega, by go_num, by rw [HST.out]; simp, Lib.hid ⟨by rw [HST.out]; exact HS.out.1, (HI.out.2.trans HT2.out).fresh HS.out.2 fun _ => id⟩⟩
      case measure => simp [intOf]; omega
    · obtain rfl : k = n := by omega
      have HG := HI.out.1
      rw [← HEN.out] at HG ⊢
      have HG2 := Lib.hid HG
      clear HG
      go_wp2_with fail
      go_ret
      exact ⟨q, d, rfl, HG2.out, HI.out.2⟩
theorem lawAt_any (k : Int) (a b : Nat) (W : World) (ha : a ≤ 1000) (hb : b ≤ 1000) (h0 : b ≠ 0) : Calls Tryz.prog 39 #[(.int .i64 k), (.int .i64 a), (.int .i64 b)] W fun e w' => ∃ u : Rv, u = repR ((a : Rat) / (b : Rat)) ∧ e = .returned (.agg #[(.int .i64 k), .bool u.neg, .string u.num, .string u.den]) ∧ Turned (fun _ => False) W w' := by
  have HM := Lib.hid (fun W => qMake_any a b W (by omega) (by omega) h0)
  obtain ⟨⟨un, ux, ud⟩, hu⟩ : ∃ v, repR ((a : Rat) / (b : Rat)) = v := ⟨_, rfl⟩
  rw [hu] at HM ⊢
  clear hu
  have n0 := World.alloc_heap_new W (.cells #[(.int .i64 0), .bool false, .string ⟨#[]⟩, .string ⟨#[]⟩] 70)
  have HN0 := Lib.hid n0
  clear n0
  obtain ⟨w0, hw0⟩ : ∃ w, w = W.alloc (.cells #[(.int .i64 0), .bool false, .string ⟨#[]⟩, .string ⟨#[]⟩] 70) := ⟨_, rfl⟩
  have HT0 : Hid (Turned (fun _ => False) W w0) := Lib.hid (by rw [hw0]; exact (Turned.refl _ _).alloc _)
  rw [← hw0] at HN0
  go_enter Tryz.func39, Tryz.ntmps39
  go_wp2_with fail
  rw [← hw0]
  refine (HM.out w0).mono ?_
  rintro e w1 ⟨rfl, t1⟩
  have HT1 := Lib.hid t1
  have z1 := keepB (Turned.alloc t1 (.cells #[.bool un, .string ux, .string ud] 68)) HN0.out
  have a0 : (w1.alloc (.cells #[.bool un, .string ux, .string ud] 68)).cell? ⟨W.heap.size, 0, none⟩ = some (.int .i64 0) := by simp [World.cell?, z1]
  have a1 : (w1.alloc (.cells #[.bool un, .string ux, .string ud] 68)).cell? ⟨W.heap.size, 1, none⟩ = some (.bool false) := by simp [World.cell?, z1]
  have a2 : (w1.alloc (.cells #[.bool un, .string ux, .string ud] 68)).cell? ⟨W.heap.size, 2, none⟩ = some (.string ⟨#[]⟩) := by simp [World.cell?, z1]
  have a3 : (w1.alloc (.cells #[.bool un, .string ux, .string ud] 68)).cell? ⟨W.heap.size, 3, none⟩ = some (.string ⟨#[]⟩) := by simp [World.cell?, z1]
  have b0 := free_of_box z1 0
  have b1 := free_of_box z1 1
  have b2 := free_of_box z1 2
  have b3 := free_of_box z1 3
  have z2 : ((((w1.alloc (.cells #[.bool un, .string ux, .string ud] 68)).setCell ⟨W.heap.size, 0, none⟩ (.int .i64 k)).setCell ⟨W.heap.size, 1, none⟩ (.bool un)).setCell ⟨W.heap.size, 2, none⟩ (.string ux)).setCell ⟨W.heap.size, 3, none⟩ (.string ud) |>.heap[W.heap.size]? = some (.cells #[(.int .i64 k), .bool un, .string ux, .string ud] 70 (0, 0)) := by
    rw [set_block (set_block (set_block (set_block z1 0 (.int .i64 k)) 1 (.bool un)) 2 (.string ux)) 3 (.string ud)]
    simp
  have t2 : Turned (fun i => i = W.heap.size) (w1.alloc (.cells #[.bool un, .string ux, .string ud] 68)) (((((w1.alloc (.cells #[.bool un, .string ux, .string ud] 68)).setCell ⟨W.heap.size, 0, none⟩ (.int .i64 k)).setCell ⟨W.heap.size, 1, none⟩ (.bool un)).setCell ⟨W.heap.size, 2, none⟩ (.string ux)).setCell ⟨W.heap.size, 3, none⟩ (.string ud)) :=
    ((((Turned.refl (fun i => i = W.heap.size) _).setCell (p := ⟨W.heap.size, 0, none⟩) rfl _).setCell (p := ⟨W.heap.size, 1, none⟩) rfl _).setCell (p := ⟨W.heap.size, 2, none⟩) rfl _).setCell (p := ⟨W.heap.size, 3, none⟩) rfl _
  have HZ := Lib.hid (And.intro z2 t2)
  clear t1 z1 z2 t2 hw0
  go_wp2_with fail
  refine bodyPost_ret (results_cell_row (fn := Tryz.f39) rfl _ _ W.heap.size 70 #[(.int .i64 k), .bool un, .string ux, .string ud] (0, 0) _ rfl HZ.out.1 Tryz.underlying70 rfl (by kernel_rfl)) rfl ?_
  exact ⟨_, rfl, rfl, (HT0.out.trans (HT1.out.alloc _)).fresh HZ.out.2 fun g hg => by omega⟩
end Go.Proofs.YtanhhdndgkhcfaaGreatDoor
