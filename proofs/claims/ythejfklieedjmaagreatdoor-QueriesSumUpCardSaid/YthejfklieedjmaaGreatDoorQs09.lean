/- Part 9 of the proof of lawSum.card: HeldTo, QryWalkF, QryWalkG. Conditions: those of each theorem. -/
import Derived.OrdersHeld
import Derived.Deep.RegionHeld
import Derived.Deep.Cut
import Derived.Deep.RegionHeld3
import Derived.Test.YthejfklieedjmaaGreatDoorQs01
import Derived.Test.YthejfklieedjmaaGreatDoorQs04
import Derived.Test.YthejfklieedjmaaGreatDoorQs07
import Derived.Test.YthejfklieedjmaaGreatDoorQs08
set_option linter.unusedSimpArgs false
set_option maxRecDepth 20000
set_option maxHeartbeats 4000000
namespace Go.Proofs.YthejfklieedjmaaGreatDoor
open Go Go.Proofs
section
variable {P : Program} {ops : Array Oper} {Q : Exit -> Act -> World -> Prop} {md : Region.Mode} {R S : World -> Prop} {G : Nat}
def wpAnyL (P : Program) (md : Region.Mode) (ops : Array Oper) (Q : Exit -> Act -> World -> Prop) (R S : World -> Prop) (G : Nat) : Nat -> Array Bool -> Act -> World -> Prop
 | 0, listed, a, w => Region.ready md ops listed = [] /\ Q .normal a w
 | fuel + 1, listed, a, w =>
  (Region.ready md ops listed = [] -> Q .normal a w) /\
  ∀ i ∈ Region.ready md ops listed, wpOp P ops Q i (fun a' w' => R w' /\ ((listed.setIfInBounds i true).getD G true = false -> S w') /\ wpAnyL P md ops Q R S G fuel (listed.setIfInBounds i true) a' w') a w
theorem wpAny_of_heldL : ∀ (fuel : Nat) (listed : Array Bool) (a : Act) (w : World), wpAnyL P md ops Q R S G fuel listed a w -> wpAny P md ops Q fuel listed a w
 | 0, _, _, _, h => h
 | fuel + 1, _, _, _, h => ⟨h.1, fun i hi => wpOp_mono (fun a' w' h' => wpAny_of_heldL fuel _ a' w' h'.2.2) (h.2 i hi)⟩
def waitsG (md : Region.Mode) (ops : Array Oper) (G i : Nat) : Bool := match ops[G]? with
 | some o => o.after.any fun e => Region.binds md e && (e.on == i)
 | none => false
theorem wpAnyL_first {i : Nat} {oi : Oper} {v : Value} (hi : ops[i]? = some oi) (hsel : ∀ (j : Nat) (o : Oper) cs b, ops[j]? = some o -> o.op ≠ .select cs b)
  (hQ : ∀ c a w, Q (.panic c) (a.put oi.dst v) w -> Q (.panic c) a w) (hG : waitsG md ops G i = true) (hGi : G ≠ i) :
  ∀ (fuel : Nat) (listed : Array Bool) (a : Act) (w : World),
   (∀ j oj, ops[j]? = some oj -> j ≠ i -> listed.getD j true = false -> (∀ e ∈ oj.after, Region.binds md e = true -> e.on ≠ i) -> oi.apart ops oj = true) ->
   listed.getD G true = false -> i ∈ Region.ready md ops listed -> YieldsIf P ops (fun w => R w /\ S w) oi v a -> R w -> S w -> 
   wpAnyL P md ops Q R S G fuel (listed.setIfInBounds i true) (a.put oi.dst v) w -> wpAnyL P md ops Q R S G (fuel + 1) listed a w := by
 intro fuel
 induction fuel with
 | zero =>
  intro listed a w _ hl hr hy hR hS H
  refine ⟨fun h => (by rw [h] at hr; cases hr), fun j hj => ?_⟩
  by_cases hji : j = i
  ·subst hji; exact hy.wpOp hi ⟨hR, hS⟩ ⟨hR, fun _ => hS, H⟩
  ·have := ready_mono hj hji
   rw [H.1] at this
   cases this
 | succ fuel ih =>
  intro listed a w hfree hl hr hy hR hS H
  refine ⟨fun h => (by rw [h] at hr; cases hr), fun j hj => ?_⟩
  by_cases hji : j = i
  ·subst hji; exact hy.wpOp hi ⟨hR, hS⟩ ⟨hR, fun _ => hS, H⟩
  ·have h1 := H.2 j (ready_mono hj hji)
   obtain ⟨hjun, oj, hoj, hall⟩ := mem_ready.1 hj
   have hnot : ∀ e ∈ oj.after, Region.binds md e = true -> e.on ≠ i := fun e he hb heq => by
    have h1 := hall e he hb
    have h0 := (mem_ready.1 hr).1
    rw [heq] at h1
    rcases Nat.lt_or_ge i listed.size with h' | h'
    ·simp [h'] at h0 h1; rw [h0] at h1; cases h1
    ·simp [Array.getElem?_eq_none h'] at h1
   have hjG : j ≠ G := fun e => by
    subst e
    unfold waitsG at hG
    rw [hoj] at hG
    obtain ⟨e, he, hb⟩ := Array.any_eq_true'.1 hG
    rw [Bool.and_eq_true, beq_iff_eq] at hb
    exact hnot e he hb.1 hb.2
   have hl' : (listed.setIfInBounds j true).getD G true = false := by rw [getD_set_ne true hjG]; exact hl
   have h2 := wpOp_putIf hoj (hfree j oj hoj hji hjun hnot) (fun cs b => hsel i oi cs b hi) (fun cs b => hsel j oj cs b hoj) hQ hy h1
   have hfree' : ∀ k ok, ops[k]? = some ok -> k ≠ i -> (listed.setIfInBounds j true).getD k true = false ->
     (∀ e ∈ ok.after, Region.binds md e = true -> e.on ≠ i) -> oi.apart ops ok = true := fun k ok hk hki hun hno => by
    refine hfree k ok hk hki ?_ hno
    by_cases hjk : j = k
    ·subst hjk; exact hjun
    ·rw [getD_set_ne true hjk] at hun; exact hun
   refine wpOp_mono (fun a' w' h3 => ?_) h2
   have hS' : S w' := h3.2.2.1 (by rw [Array.setIfInBounds_comm _ _ (Ne.symm hji), getD_set_ne true hGi.symm]; exact hl')
   refine ⟨h3.2.1, fun _ => hS', ih (listed.setIfInBounds j true) a' w' hfree' hl' (ready_mono hr (Ne.symm hji)) h3.1 h3.2.1 hS' ?_⟩
   rw [Array.setIfInBounds_comm _ _ hji]
   exact h3.2.2.2
theorem wpAnyL_firstR {i : Nat} {oi : Oper} {v : Value} (hi : ops[i]? = some oi) (hsel : ∀ (j : Nat) (o : Oper) cs b, ops[j]? = some o -> o.op ≠ .select cs b)
  (hQ : ∀ c a w, Q (.panic c) (a.put oi.dst v) w -> Q (.panic c) a w) (hGi : G ≠ i) :
  ∀ (fuel : Nat) (listed : Array Bool) (a : Act) (w : World),
   (∀ j oj, ops[j]? = some oj -> j ≠ i -> listed.getD j true = false -> (∀ e ∈ oj.after, Region.binds md e = true -> e.on ≠ i) -> oi.apart ops oj = true) ->
   i ∈ Region.ready md ops listed -> YieldsIf P ops R oi v a -> R w -> (listed.getD G true = false -> S w) -> 
   wpAnyL P md ops Q R S G fuel (listed.setIfInBounds i true) (a.put oi.dst v) w -> wpAnyL P md ops Q R S G (fuel + 1) listed a w := by
 intro fuel
 induction fuel with
 | zero =>
  intro listed a w _ hr hy hR hS H
  refine ⟨fun h => (by rw [h] at hr; cases hr), fun j hj => ?_⟩
  by_cases hji : j = i
  ·subst hji; exact hy.wpOp hi hR ⟨hR, fun h => hS (by rwa [getD_set_ne true hGi.symm] at h), H⟩
  ·have := ready_mono hj hji
   rw [H.1] at this
   cases this
 | succ fuel ih =>
  intro listed a w hfree hr hy hR hS H
  refine ⟨fun h => (by rw [h] at hr; cases hr), fun j hj => ?_⟩
  by_cases hji : j = i
  ·subst hji; exact hy.wpOp hi hR ⟨hR, fun h => hS (by rwa [getD_set_ne true hGi.symm] at h), H⟩
  ·have h1 := H.2 j (ready_mono hj hji)
   obtain ⟨hjun, oj, hoj, hall⟩ := mem_ready.1 hj
   have hnot : ∀ e ∈ oj.after, Region.binds md e = true -> e.on ≠ i := fun e he hb heq => by
    have h1 := hall e he hb
    have h0 := (mem_ready.1 hr).1
    rw [heq] at h1
    rcases Nat.lt_or_ge i listed.size with h' | h'
    ·simp [h'] at h0 h1; rw [h0] at h1; cases h1
    ·simp [Array.getElem?_eq_none h'] at h1
   have h2 := wpOp_putIf hoj (hfree j oj hoj hji hjun hnot) (fun cs b => hsel i oi cs b hi) (fun cs b => hsel j oj cs b hoj) hQ hy h1
   have hfree' : ∀ k ok, ops[k]? = some ok -> k ≠ i -> (listed.setIfInBounds j true).getD k true = false ->
     (∀ e ∈ ok.after, Region.binds md e = true -> e.on ≠ i) -> oi.apart ops ok = true := fun k ok hk hki hun hno => by
    refine hfree k ok hk hki ?_ hno
    by_cases hjk : j = k
    ·subst hjk; exact hjun
    ·rw [getD_set_ne true hjk] at hun; exact hun
   refine wpOp_mono (fun a' w' h3 => ?_) h2
   have hS2 : (listed.setIfInBounds j true).getD G true = false -> S w' := fun h => h3.2.2.1 (by
    rw [Array.setIfInBounds_comm _ _ (Ne.symm hji)]
    rw [getD_set_ne true hGi.symm]
    exact h)
   refine ⟨h3.2.1, hS2, ih (listed.setIfInBounds j true) a' w' hfree' (ready_mono hr (Ne.symm hji)) h3.1 h3.2.1 hS2 ?_⟩
   rw [Array.setIfInBounds_comm _ _ hji]
   exact h3.2.2.2
theorem wpAnyL_take {i : Nat} {oi : Oper} {v : Value} {fuel : Nat} {listed : Array Bool} {a : Act} {w : World} (hi : ops[i]? = some oi)
  (hs : Region.noSelect ops = true) (hf : (Region.free md ops listed i && (Region.ready md ops listed).contains i && waitsG md ops G i && !(G == i) && !listed.getD G true) = true)
  (hQ : ∀ c a w, Q (.panic c) (a.put oi.dst v) w -> Q (.panic c) a w) (hy : YieldsIf P ops (fun w => R w /\ S w) oi v a) (hR : R w) (hS : S w)
  (h : wpAnyL P md ops Q R S G fuel (listed.setIfInBounds i true) (a.put oi.dst v) w) : wpAnyL P md ops Q R S G (fuel + 1) listed a w := by
 simp only [Bool.and_eq_true, Bool.not_eq_true', beq_eq_false_iff_ne, ne_eq] at hf
 exact wpAnyL_first hi (Region.noSelect_spec hs) hQ hf.1.1.2 hf.1.2 fuel listed a w (Region.free_spec hi hf.1.1.1.1) hf.2 (by simpa using hf.1.1.1.2) hy hR hS h
theorem wpAnyL_takeR {i : Nat} {oi : Oper} {v : Value} {fuel : Nat} {listed : Array Bool} {a : Act} {w : World} (hi : ops[i]? = some oi)
  (hs : Region.noSelect ops = true) (hf : (Region.free md ops listed i && (Region.ready md ops listed).contains i && !(G == i)) = true)
  (hQ : ∀ c a w, Q (.panic c) (a.put oi.dst v) w -> Q (.panic c) a w) (hy : YieldsIf P ops R oi v a) (hR : R w) (hS : listed.getD G true = false -> S w)
  (h : wpAnyL P md ops Q R S G fuel (listed.setIfInBounds i true) (a.put oi.dst v) w) : wpAnyL P md ops Q R S G (fuel + 1) listed a w := by
 simp only [Bool.and_eq_true, Bool.not_eq_true', beq_eq_false_iff_ne, ne_eq] at hf
 exact wpAnyL_firstR hi (Region.noSelect_spec hs) hQ hf.2 fuel listed a w (Region.free_spec hi hf.1.1) (by simpa using hf.1.2) hy hR hS h
theorem wpAnyL_one {i : Nat} {o : Oper} {fuel : Nat} {listed : Array Bool} {a : Act} {w : World} (ho : ops[i]? = some o) (hr : Region.ready md ops listed = [i])
  (h : ∀ K' : Act -> World -> Prop, Shut (∀ a w, R w -> ((listed.setIfInBounds i true).getD G true = false -> S w) -> wpAnyL P md ops Q R S G fuel (listed.setIfInBounds i true) a w -> K' a w) -> if Region.wanted o (yielded ops a.tmps) = true then Oper.wp P o a w K' Q else K' (a.put o.dst undef) w) :
  wpAnyL P md ops Q R S G (fuel + 1) listed a w := by
 refine ⟨fun h0 => (by rw [hr] at h0; cases h0), fun j hj => ?_⟩
 rw [hr, List.mem_singleton] at hj
 subst hj
 exact wpOp_step ho (fun K' hK => h K' (fun a w hR hS hW => hK a w ⟨hR, hS, hW⟩))
theorem wpAnyL_done {listed : Array Bool} {a : Act} {w : World} (hr : Region.ready md ops listed = []) (h : Q .normal a w) : ∀ fuel, wpAnyL P md ops Q R S G fuel listed a w
 | 0 => ⟨hr, h⟩
 | _ + 1 => ⟨fun _ => h, by rw [hr]; simp⟩
theorem wp_region_heldL (R S : World -> Prop) (G : Nat) {id : Nat} {a : Act} {w : World} (hm : P.follows .mixedOrders = true)
  (h : wpAnyL P .any ops Q R S G ops.size (Array.replicate ops.size false) a w.drew) : (Code.region id ops true).wp P Q a w :=
 wp_region_any hm (wpAny_of_heldL _ _ _ _ h)
end
open Go.RowKit
attribute [local go_sem] Oper.semAt_some
theorem infoPart : (Tryz.prog.info? 51).map (fun i => (i.zero, i.size, i.bytes)) = some (some (partV ⟨zeroR, 0, 0, 0, 0, 0⟩), 8, 80) := by kernel_rfl
theorem Lst.some_of {α : Type} {N s c : Nat} {W : World} {enc : α -> List Value} {l : List α} {p : Option Addr} (h : Lst N W s enc l p c) (hn : l ≠ []) : ∃ b a, p = some ⟨b, a, none⟩ := by
 cases l with
 | nil => exact absurd rfl hn
 | cons x r =>
  obtain ⟨b, a, h1, -⟩ := h.cel 0 x rfl
  exact ⟨b, a, h1⟩
theorem cloneP_any (l : List Pt) (p : Option Addr) (c : Nat) (W : World) (h : Lst W.heap.size W 8 partCells l p c) (hn : l ≠ []) (hl : l.length <= 100000) :
  Calls Tryz.prog 81 #[.slice p l.length c] W fun e w' => ∃ q d, e = .returned (.slice q l.length d) /\ Grown w' W.heap.size 51 8 partCells (.slice q l.length d) l /\ Turned (fun _ => False) W w' := by
 obtain ⟨i0, hif, hz0, hz1, hz2⟩ := info_parts infoPart
 have heq := fun W a n c => Go.Lib.run_eql_slice_nil (P := Tryz.prog) W 29 51 a n c 0 0 Tryz.underlying29
 obtain ⟨b, a, rfl⟩ := h.some_of hn
 have hc : ∀ (j : Nat) (u : Value), (l.flatMap partCells)[j]? = some u -> (W.alloc (.cells #[] 51)).cell? ((⟨b, a, none⟩ : Addr).add j) = some u := by
  intro j u hu
  have h1 := at_flat (enc := partCells) (fun _ => rfl) h hu (by decide)
  rw [Addr.add_lit]
  exact cellT ((Turned.refl (fun _ => False) W).alloc _) id h1
 have HC := Lib.hid hc
 have hf := flatLen partCells 8 (fun _ => rfl) l
 have HF := Lib.hid hf
 have hm : l.length <= maxLen := by unfold maxLen; omega
 have h1 : ∀ u ∈ l.flatMap partCells, u.oneCell' = true := fun u hu => by
  obtain ⟨x, -, hx⟩ := List.mem_flatMap.1 hu
  simp at hx
  rcases hx with rfl | rfl | rfl | rfl | rfl | rfl | rfl | rfl <;> rfl
 have H1 := Lib.hid h1
 clear h hc hf h1 hn
 go_enter Tryz.func81, Tryz.ntmps81
 go_wp2_with (at_builtin; refine wpList_append_exact _ rfl _ _ 29 rfl W.heap.size 51 i0 (partV ⟨zeroR, 0, 0, 0, 0, 0⟩) 8 80 Tryz.underlying29 hif hz0 hz1 hz2 rfl (by decide) (.slice (some ⟨W.heap.size, 0, none⟩) 0 0) 0 [] rfl ⟨rfl, .inr ⟨W.heap.size, 0, #[], rfl, Nat.le_refl _, heap_alloc_new _ _, Nat.le_refl _, Nat.zero_le _, rfl, rfl⟩⟩ ⟨b, a, none⟩ l.length c (l.flatMap partCells) rfl HF.out HC.out H1.out (by omega) (by omega) (by simp) ?_; intro v' w' h1 h2 h3; have HS := Lib.hid (And.intro h1 h2); clear h1 h2 h3)
 go_ret
 have h1 := HS.out.1
 rw [Nat.zero_add, List.nil_append] at h1
 obtain ⟨q, d, rfl⟩ := owns_shape h1
 exact ⟨q, d, rfl, h1, ((Turned.refl (fun _ => False) W).alloc (.cells #[] 51)).fresh (Turned.of_grown (C := fun g => W.heap.size = g) HS.out.2 fun k hk => by simpa [Value.ownBlock] using hk) fun g hg => by omega⟩
theorem cell_set_same {V : World} {g o : Nat} {x : Value} (h : V.cell? ⟨g, o, none⟩ = some x) (v : Value) : (V.setCell ⟨g, o, none⟩ v).cell? ⟨g, o, none⟩ = some v := by
 simp only [World.cell?] at h ⊢
 split at h
 ·rename_i c e f hb
  have hlt : o < c.size := by
   simp only [Option.isSome_none, Bool.false_eq_true, if_false] at h
   exact (Array.getElem?_eq_some_iff.1 h).1
  simp [World.setCell, Array.getElem?_modify, hb, hlt]
 ·cases h
theorem cell_set_other {V : World} {g o b i : Nat} (hne : b ≠ g \/ i ≠ o) (v : Value) : (V.setCell ⟨g, o, none⟩ v).cell? ⟨b, i, none⟩ = V.cell? ⟨b, i, none⟩ := by
 rcases Decidable.em (b = g) with rfl | hb
 ·have hi : i ≠ o := by omega
  simp only [World.cell?, World.setCell, Array.getElem?_modify]
  cases hh : V.heap[b]? with
  | none => simp
  | some ob => cases ob <;> simp [Ne.symm hi]
 ·exact World.cell?_of_block (w := V) (a := ⟨b, i, none⟩) (heap_setCell_other hb)
theorem Lst.coef {N g c k : Nat} {W : World} {l : List Pt} {p : Pt} (h : Lst N W 8 partCells l (some ⟨g, 0, none⟩) c) (hk : l[k]? = some p) (u : Rv) :
  Lst N (((W.setCell ⟨g, k * 8, none⟩ (.bool u.neg)).setCell ⟨g, k * 8 + 1, none⟩ (.string u.num)).setCell ⟨g, k * 8 + 2, none⟩ (.string u.den)) 8 partCells (l.set k { p with coef := u }) (some ⟨g, 0, none⟩) c := by
 refine ⟨by rw [List.length_set]; exact h.cap, h.mx, fun i x hx => ?_⟩
 obtain ⟨b, a, h1, h2, h3⟩ := h.cel k p hk
 cases h1
 refine ⟨g, 0, rfl, h2, fun j v hj => ?_⟩
 have hj8 : j < 8 := by simpa using (List.getElem?_eq_some_iff.1 hj).1
 have old : ∀ j v, (partCells p)[j]? = some v -> W.cell? ⟨g, k * 8 + j, none⟩ = some v := fun j v hj => by have := h3 j v hj; rwa [Nat.zero_add] at this
 rw [Nat.zero_add]
 rcases Decidable.em (i = k) with rfl | hi
 ·have hlt := (List.getElem?_eq_some_iff.1 hk).1
  rw [List.getElem?_set_self hlt] at hx
  cases hx
  match j, hj, hj8 with
  | 0, hj, _ =>
   cases hj
   rw [cell_set_other (.inr (by omega)), cell_set_other (.inr (by omega))]
   exact cell_set_same (old 0 _ rfl) _
  | 1, hj, _ =>
   cases hj
   rw [cell_set_other (.inr (by omega))]
   exact cell_set_same ((cell_set_other (.inr (by omega)) _).trans (old 1 _ rfl)) _
  | 2, hj, _ =>
   cases hj
   exact cell_set_same ((cell_set_other (.inr (by omega)) _).trans ((cell_set_other (.inr (by omega)) _).trans (old 2 _ rfl))) _
  | j + 3, hj, _ =>
   rw [cell_set_other (.inr (by omega)), cell_set_other (.inr (by omega)), cell_set_other (.inr (by omega))]
   exact old (j + 3) v hj
 ·rw [List.getElem?_set_ne (Ne.symm hi)] at hx
  obtain ⟨b', a', h4, -, h5⟩ := h.cel i x hx
  cases h4
  have h6 := h5 j v hj
  rw [Nat.zero_add] at h6
  rw [cell_set_other (.inr (by omega)), cell_set_other (.inr (by omega)), cell_set_other (.inr (by omega))]
  exact h6
theorem setB {V : World} {N t i : Nat} {cs : Array Value} {v : Value} (h : V.heap[N]? = some (.cells cs t (0, 0))) : (V.setCell ⟨N, i, none⟩ v).heap[N]? = some (.cells (cs.setIfInBounds i v) t (0, 0)) := by
 simp [World.setCell, Array.getElem?_modify, h]
def mixP (l : List Pt) (u : Rv) (k : Nat) : List Pt := scaledP (l.take k) u ++ l.drop k
theorem mix_all (l : List Pt) (u : Rv) : mixP l u l.length = scaledP l u := by unfold mixP; rw [List.take_length, List.drop_length, List.append_nil]
theorem mix_at {l : List Pt} {u : Rv} {k : Nat} {p : Pt} (h : l[k]? = some p) : (mixP l u k)[k]? = some p := by
 have hlt := (List.getElem?_eq_some_iff.1 h).1
 unfold mixP scaledP
 rw [List.getElem?_append_right (by rw [List.length_map, List.length_take]; omega), List.length_map, List.length_take, Nat.min_eq_left (by omega), Nat.sub_self, List.getElem?_drop]
 exact h
theorem mix_succ {l : List Pt} {u : Rv} {k : Nat} {p : Pt} (h : l[k]? = some p) : mixP l u (k + 1) = (mixP l u k).set k { p with coef := mulR p.coef u } := by
 obtain ⟨hlt, he⟩ := List.getElem?_eq_some_iff.1 h
 have hd : l.drop k = p :: l.drop (k + 1) := by rw [List.drop_eq_getElem_cons hlt, he]
 have hs : (scaledP (l.take k) u).length = k := by unfold scaledP; rw [List.length_map, List.length_take]; omega
 unfold mixP
 rw [hd, List.set_append_right _ _ (by omega), hs, Nat.sub_self, zz4, List.take_add_one, h]
 unfold scaledP
 rw [List.map_append, List.append_assoc]
 rfl
theorem putB {V : World} {g b t : Nat} {x y z : Value} (h : V.heap[b]? = some (.cells #[x, y, z] t (0, 0))) (hne : g ≠ b) (o : Nat) (u v w : Value) : (((V.setCell ⟨g, o, none⟩ u).setCell ⟨g, o + 1, none⟩ v).setCell ⟨g, o + 2, none⟩ w).heap[b]? = some (.cells #[x, y, z] t (0, 0)) := by
 rw [heap_setCell_other (Ne.symm hne), heap_setCell_other (Ne.symm hne), heap_setCell_other (Ne.symm hne)]
 exact h
structure ScI (W wr : World) (g c : Nat) (l : List Pt) : Prop where
 box : ∃ cur, wr.heap[g]? = some (.cells cur 51 (0, 0))
 lst : Lst wr.heap.size wr 8 partCells l (some ⟨g, 0, none⟩) c
 tur : Turned (fun _ => False) W wr
 hg : W.heap.size <= g
theorem ScI.call {W wr V : World} {g c : Nat} {l : List Pt} (h : ScI W wr g c l) (t : Turned (fun _ => False) wr V) : ScI W V g c l := by
 obtain ⟨cur, hb⟩ := h.box
 exact ⟨⟨cur, keepB t hb⟩, (h.lst.turned t).mono t.size, h.tur.trans t, h.hg⟩
theorem ScI.free {W wr : World} {g c : Nat} {l : List Pt} (h : ScI W wr g c l) (o : Nat) : wr.frozen? ⟨g, o, none⟩ = false := by
 obtain ⟨cur, hb⟩ := h.box
 exact free_of_box hb o
theorem ScI.put {W wr : World} {g c k : Nat} {l : List Pt} {p : Pt} (h : ScI W wr g c l) (hk : l[k]? = some p) (u : Rv) :
  ScI W (((wr.setCell ⟨g, k * 8, none⟩ (.bool u.neg)).setCell ⟨g, k * 8 + 1, none⟩ (.string u.num)).setCell ⟨g, k * 8 + 2, none⟩ (.string u.den)) g c (l.set k { p with coef := u }) := by
 obtain ⟨cur, hb⟩ := h.box
 have hg := h.hg
 refine ⟨⟨_, setB (setB (setB hb))⟩, ?_, ?_, h.hg⟩
 ·have := h.lst.coef hk u
  simpa [World.setCell] using this
 ·exact h.tur.fresh (((Turned.refl (fun b => b = g) wr).setCell (p := ⟨g, k * 8, none⟩) rfl _).setCell (p := ⟨g, k * 8 + 1, none⟩) rfl _ |>.setCell (p := ⟨g, k * 8 + 2, none⟩) rfl _) fun b hb => by omega
theorem ScI.start {W w2 : World} {B d : Nat} {l : List Pt} {q : Option Addr} (hg : Grown w2 B 51 8 partCells (.slice q l.length d) l) (hn : l ≠ []) (ht : Turned (fun _ => False) W w2) (hB : W.heap.size <= B) : ∃ g, q = some ⟨g, 0, none⟩ /\ ScI W w2 g d l /\ B <= g := by
 have hat := hg.at_ (fun _ => rfl) (Nat.le_refl w2.heap.size)
 obtain ⟨h1, h2⟩ := hg
 rcases h2 with ⟨h2, -⟩ | ⟨g, cap, cur, hv, hb, hgb, -⟩
 ·cases l with
  | nil => exact absurd rfl hn
  | cons x r => cases h2
 ·cases hv
  exact ⟨g, rfl, ⟨⟨cur, hgb⟩, hat, ht, Nat.le_trans hB hb⟩, hb⟩
theorem scaled_any (l : List Pt) (u : Rv) (k0 : Nat) (p : Option Addr) (c : Nat) (W : World) (h : Lst W.heap.size W 8 partCells l p c) (hn : l ≠ []) (hl : l.length <= 100000) (h1 : 1 <= k0) (h2 : k0 <= 100000000) (hu : SzR u k0) (hs : ∀ p ∈ l, SzR p.coef k0) :
  Calls Tryz.prog 80 #[.slice p l.length c, ratV u] W fun e w' => (∃ v, e = .returned v /\ PtsAt w' (scaledP l u) v) /\ Turned (fun _ => False) W w' := by
 have HQ := Lib.hid (fun (x : Pt) (hx : x ∈ l) (V : World) => qMul_any x.coef u k0 V h1 h2 (hs x hx) hu)
 have HL0 := Lib.hid h
 have HNE := Lib.hid hn
 have HLL := Lib.hid hl
 have HR : Hid (PtsAt = PtsAt) := Lib.hid rfl
 obtain ⟨un, ux, ud⟩ := u
 obtain ⟨W1, hW1⟩ : ∃ W1, W1 = W.alloc (.cells #[.bool un, .string ux, .string ud] 31) := ⟨_, rfl⟩
 have T1 : Turned (fun _ => False) W W1 := by rw [hW1]; exact (Turned.refl _ W).alloc _
 have HB0 : W1.heap[W.heap.size]? = some (.cells #[.bool un, .string ux, .string ud] 31 (0, 0)) := by rw [hW1]; exact World.alloc_heap_new _ _
 have HC := Lib.hid (cloneP_any l p c W1 ((h.turned T1).mono T1.size) hn hl)
 have HT1 := Lib.hid (And.intro T1 HB0)
 clear h hn hl h1 h2 hu hs T1 HB0
 obtain ⟨n, hnn⟩ : ∃ n, l.length = n := ⟨_, rfl⟩
 have HN := Lib.hid hnn
 rw [hnn] at HC ⊢
 clear hnn
 rw [hW1] at HC
 go_enter Tryz.func80, Tryz.ntmps80
 go_wp2_with fail
 refine HC.out.mono ?_
 rintro e w2 ⟨q, d, rfl, hg, t2⟩
 rw [<- hW1] at hg t2
 rw [<- HN.out] at hg
 obtain ⟨g, rfl, hsc, hgB⟩ := ScI.start hg HNE.out (HT1.out.1.trans t2) HT1.out.1.size
 have hne : g ≠ W.heap.size := by
  have : W1.heap.size = W.heap.size + 1 := by rw [hW1]; exact World.size_alloc _ _
  omega
 have HSC := Lib.hid hsc
 have HG := Lib.hid hne
 have HB0 := Lib.hid (keepB t2 HT1.out.2)
 have hmx : (n : Int) <= 100000 := by have := HLL.out; rw [HN.out] at this; omega
 clear hg hsc t2 hW1 hgB hne
 go_wp2_with fail
 go_loopw [6, 11] (fun v i wr => ∃ k : Nat, k <= n /\ i = (.int .i64 k) /\ Hid (ScI W wr g d (mixP l ⟨un, ux, ud⟩ k) /\ wr.heap[W.heap.size]? = some (.cells #[.bool un, .string ux, .string ud] 31 (0, 0)))) (fun _ i _ => n - (intOf i).toNat)
 case atStart => exact ⟨0, Nat.zero_le _, rfl, Lib.hid ⟨HSC.out, HB0.out⟩⟩
 case round =>
  obtain ⟨k, hk, rfl, HH⟩ := hrel
  by_cases hlt : k < n
  ·obtain ⟨x, hx⟩ := some_of_lt (show k < l.length by rw [HN.out]; exact hlt)
   have HD := Lib.hid (HQ.out x (List.mem_of_getElem? hx))
   have HM := Lib.hid (mix_at (u := ⟨un, ux, ud⟩) hx)
   have HS := Lib.hid (mix_succ (u := ⟨un, ux, ud⟩) hx)
   unfold mulR at HS
   obtain ⟨⟨xn, xx, xd⟩, xk, xp, xo, xf, xt⟩ := x
   obtain ⟨⟨sn, sx, sy⟩, hs⟩ : ∃ s, repR (qR ⟨xn, xx, xd⟩ * qR ⟨un, ux, ud⟩) = s := ⟨_, rfl⟩
   simp only at HD HS
   rw [hs] at HD HS
   have hk0 : (0 : Int) <= k := by omega
   have hk1 : (k : Int) < n := by omega
   clear hx hs
   have HCX : Hid (∀ A, Turned (fun _ => False) wr A -> (A.cell? ⟨g, k * 8, none⟩ = some (.bool xn) /\ A.cell? ⟨g, k * 8 + 1, none⟩ = some (.string xx) /\ A.cell? ⟨g, k * 8 + 2, none⟩ = some (.string xd)) /\ A.cell? ⟨W.heap.size, 0, none⟩ = some (.bool un) /\ A.cell? ⟨W.heap.size, 1, none⟩ = some (.string ux) /\ A.cell? ⟨W.heap.size, 2, none⟩ = some (.string ud)) := Lib.hid fun A hA => by
    obtain ⟨b, a, hb, -, hcel⟩ := (HH.out.1.call hA).lst.cel k _ HM.out
    cases hb
    have e0 := hcel 0 _ rfl
    have e1 := hcel 1 _ rfl
    have e2 := hcel 2 _ rfl
    simp only [Nat.zero_add, Nat.add_zero] at e0 e1 e2
    exact ⟨⟨e0, e1, e2⟩, three_cells (keepB hA HH.out.2)⟩
   go_upto_region 5 with fail
   refine wp_region_heldL (fun A => A.cell? ⟨W.heap.size, 0, none⟩ = some (.bool un) /\ A.cell? ⟨W.heap.size, 1, none⟩ = some (.string ux) /\ A.cell? ⟨W.heap.size, 2, none⟩ = some (.string ud)) (fun A => A.cell? ⟨g, k * 8, none⟩ = some (.bool xn) /\ A.cell? ⟨g, k * 8 + 1, none⟩ = some (.string xx) /\ A.cell? ⟨g, k * 8 + 2, none⟩ = some (.string xd)) 11 (by kernel_rfl) ?_
   have HS0 := Lib.hid (HCX.out _ (Turned.refl (fun _ => False) wr).drew)
   refine wpAnyL_takeR (i := 0) (oi := _) (v := .slice (some ⟨g, 0, none⟩) n d) rfl (by kernel_rfl) (by kernel_rfl) (fun _ _ _ h => h) (Or.inl ⟨by kernel_rfl, fun V hV => ?_⟩) HS0.out.2 (fun _ => HS0.out.1) ?_
   ·clear hV
    go_simp
   try simp only [zz0, zz1, zz2, Act.put, zz3, zz4, zz5]
   refine wpAnyL_takeR (i := 1) (oi := _) (v := (.int .i64 k)) rfl (by kernel_rfl) (by kernel_rfl) (fun _ _ _ h => h) (Or.inl ⟨by kernel_rfl, fun V hV => ?_⟩) HS0.out.2 (fun _ => HS0.out.1) ?_
   ·clear hV
    go_simp
   try simp only [zz0, zz1, zz2, Act.put, zz3, zz4, zz5]
   refine wpAnyL_takeR (i := 2) (oi := _) (v := .slice (some ⟨g, 0, none⟩) n d) rfl (by kernel_rfl) (by kernel_rfl) (fun _ _ _ h => h) (Or.inl ⟨by kernel_rfl, fun V hV => ?_⟩) HS0.out.2 (fun _ => HS0.out.1) ?_
   ·clear hV
    go_simp
   try simp only [zz0, zz1, zz2, Act.put, zz3, zz4, zz5]
   refine wpAnyL_takeR (i := 3) (oi := _) (v := (.int .i64 k)) rfl (by kernel_rfl) (by kernel_rfl) (fun _ _ _ h => h) (Or.inl ⟨by kernel_rfl, fun V hV => ?_⟩) HS0.out.2 (fun _ => HS0.out.1) ?_
   ·clear hV
    go_simp
   try simp only [zz0, zz1, zz2, Act.put, zz3, zz4, zz5]
   refine wpAnyL_takeR (i := 4) (oi := _) (v := .pointer (some ⟨g, k * 8, none⟩)) rfl (by kernel_rfl) (by kernel_rfl) (fun _ _ _ h => h) (Or.inl ⟨by kernel_rfl, fun V hV => ?_⟩) HS0.out.2 (fun _ => HS0.out.1) ?_
   ·clear hV
    go_simp
   try simp only [zz0, zz1, zz2, Act.put, zz3, zz4, zz5]
   refine wpAnyL_takeR (i := 5) (oi := _) (v := .pointer (some ⟨g, k * 8, none⟩)) rfl (by kernel_rfl) (by kernel_rfl) (fun _ _ _ h => h) (Or.inl ⟨by kernel_rfl, fun V hV => ?_⟩) HS0.out.2 (fun _ => HS0.out.1) ?_
   ·clear hV
    go_simp
   try simp only [zz0, zz1, zz2, Act.put, zz3, zz4, zz5]
   refine wpAnyL_take (i := 6) (oi := _) (v := .agg #[.bool xn, .string xx, .string xd]) rfl (by kernel_rfl) (by kernel_rfl) (fun _ _ _ h => h) (Or.inl ⟨by kernel_rfl, fun V hV => ?_⟩) HS0.out.2 HS0.out.1 ?_
   ·obtain ⟨-, f0, f1, f2⟩ := hV
    go_simp
   try simp only [zz0, zz1, zz2, Act.put, zz3, zz4, zz5]
   refine wpAnyL_takeR (i := 7) (oi := _) (v := .agg #[.bool un, .string ux, .string ud]) rfl (by kernel_rfl) (by kernel_rfl) (fun _ _ _ h => h) (Or.inl ⟨by kernel_rfl, fun V hV => ?_⟩) HS0.out.2 (fun _ => HS0.out.1) ?_
   ·obtain ⟨f0, f1, f2⟩ := hV
    go_simp
   try simp only [zz0, zz1, zz2, Act.put, zz3, zz4, zz5]
   refine wpAnyL_one (i := 8) (o := _) rfl (by kernel_rfl) (fun K hK => ?_)
   go_simp
   refine (HD.out _).mono ?_
   rintro e w3 ⟨rfl, t3⟩
   have T3 := Lib.hid ((Turned.refl (fun _ => False) wr).drew.trans t3)
   clear t3
   refine hK.out _ _ (HCX.out _ T3.out).2 (fun _ => (HCX.out _ T3.out).1) ?_
   clear hK K
   try simp only [zz0, zz1, zz2, Act.put, zz3, zz4, zz5]
   refine wpAnyL_takeR (i := 9) (oi := _) (v := .pointer (some ⟨g, k * 8, none⟩)) rfl (by kernel_rfl) (by kernel_rfl) (fun _ _ _ h => h) (Or.inl ⟨by kernel_rfl, fun V hV => ?_⟩) (HCX.out _ T3.out).2 (fun _ => (HCX.out _ T3.out).1) ?_
   ·clear hV
    go_simp
   try simp only [zz0, zz1, zz2, Act.put, zz3, zz4, zz5]
   refine wpAnyL_takeR (i := 10) (oi := _) (v := .pointer (some ⟨g, k * 8, none⟩)) rfl (by kernel_rfl) (by kernel_rfl) (fun _ _ _ h => h) (Or.inl ⟨by kernel_rfl, fun V hV => ?_⟩) (HCX.out _ T3.out).2 (fun _ => (HCX.out _ T3.out).1) ?_
   ·clear hV
    go_simp
   try simp only [zz0, zz1, zz2, Act.put, zz3, zz4, zz5]
   have HT3 := Lib.hid (And.intro (HH.out.1.call T3.out) (keepB T3.out HH.out.2))
   have f0 := HT3.out.1.free (k * 8)
   have f1 := HT3.out.1.free (k * 8 + 1)
   have f2 := HT3.out.1.free (k * 8 + 2)
   obtain ⟨⟨d0, d1, d2⟩, -⟩ := HCX.out _ T3.out
   have HP := Lib.hid (HT3.out.1.put HM.out ⟨sn, sx, sy⟩)
   have HB := Lib.hid (putB HT3.out.2 HG.out (k * 8) (.bool sn) (.string sx) (.string sy))
   refine wpAnyL_one (i := 11) (o := _) rfl (by kernel_rfl) (fun K hK => ?_)
   go_simp
   refine hK.out _ _ (three_cells HB.out) (fun h => absurd h (by decide)) ?_
   clear hK K
   try simp only [zz0, zz1, zz2, Act.put, zz3, zz4, zz5]
   refine wpAnyL_done (by kernel_rfl) ?_ _
   obtain ⟨wd, hwd⟩ : ∃ wd, wd = ((w3.setCell ⟨g, k * 8, none⟩ (.bool sn)).setCell ⟨g, k * 8 + 1, none⟩ (.string sx)).setCell ⟨g, k * 8 + 2, none⟩ (.string sy) := ⟨_, rfl⟩
   have HW : Hid (ScI W wd g d (mixP l ⟨un, ux, ud⟩ (k + 1)) /\ wd.heap[W.heap.size]? = some (.cells #[.bool un, .string ux, .string ud] 31 (0, 0))) := Lib.hid (by rw [hwd, HS.out]; exact ⟨HP.out, HB.out⟩)
   rw [<- hwd]
   clear hwd d0 d1 d2 f0 f1 f2
   go_wp2_with fail
   exact ⟨⟨k + 1, by omega, by go_num, HW⟩, by simp [intOf]; omega⟩
  ·obtain rfl : k = n := by omega
   go_wp2_with fail
   go_ret
   have h1 := HH.out.1.lst
   rw [<- HN.out, mix_all] at h1
   exact ⟨⟨.slice (some ⟨g, 0, none⟩) k d, rfl, some ⟨g, 0, none⟩, d, by rw [scaled_len, HN.out], h1, fun _ he => by cases he; exact HH.out.1.box⟩, HH.out.1.tur⟩
attribute [local go_sem ↓] is_rat is_tick
theorem TabOK.turned {w w' : World} (h : TabOK w) (ht : Turned (fun _ => False) w w') : TabOK w' := fun i hi => cellT ht id (h i hi)
def BackT (W w' : World) (r : Except Int Qv) (e : Ending) : Prop := Back w' r e /\ Turned (fun _ => False) W w'
def tickA (n : Int) : TypeId × Value := (79, (.int .i64 n))
theorem call_tick (a : Rv) (p : Option Addr) (c : Nat) (W : World) (h : Lst W.heap.size W 1 anyCells [numA a] p c) (hs : SzR a 100000000) : Calls Tryz.prog 104 #[.slice p 1 c] W fun e w' => BackT W w' (tickF a) e := by
 obtain ⟨b, o, rfl, -, e0⟩ := h.anys (i := 0) rfl
 simp only [numA, Nat.add_zero] at e0
 have HC := Lib.hid (fun V => integer_any a V hs)
 have HF : Hid (tickF a = match wholeR a with | none => .error 3 | some n => atP n) := Lib.hid rfl
 unfold wholeI wholeE at HC
 clear h hs
 cases hw : wholeR a with
 | none =>
  rw [hw] at HC HF
  simp only [Option.getD_none, Option.isSome_none] at HC
  clear hw
  go_enter Tryz.func104, Tryz.ntmps104
  go_wp2_with fail
  refine (HC.out _).mono ?_
  rintro e w1 ⟨rfl, t1⟩
  have T1 := Lib.hid t1
  clear t1
  go_wp2_with fail
  go_ret2
  rw [HF.out]
  exact ⟨Back.err _ _ _, T1.out⟩
 | some n =>
  rw [hw] at HC HF
  simp only [Option.getD_some, Option.isSome_some] at HC
  clear hw
  go_enter Tryz.func104, Tryz.ntmps104
  go_wp2_with fail
  refine (HC.out _).mono ?_
  rintro e w1 ⟨rfl, t1⟩
  have T1 := Lib.hid t1
  clear t1
  go_wp2_with fail
  refine (at_back n w1).mono ?_
  rintro e w2 ⟨⟨v, rfl, hv⟩, rfl⟩
  have HV := Lib.hid hv
  clear hv
  go_wp2_with fail
  go_ret2
  rw [HF.out]
  exact ⟨⟨v, rfl, HV.out⟩, T1.out⟩
theorem dayN_bd (y m d : Int) : 0 <= dayN y m d /\ dayN y m d <= 20000 := by
 unfold dayN
 split
 ·rename_i h
  obtain ⟨h1, h2, h3, h4, h5, h6⟩ := okDate_iff.1 h
  have := ys_bd y h1 (by omega)
  have := ms_bd y m h3 (by omega)
  have := mlen_bd y m h3 h4
  omega
 ·omega
theorem wholes_three {x y z : Rv} {ns : List Int} (h : wholes [x, y, z] = some ns) : ∃ a b c, ns = [a, b, c] := by
 have hl := wholes_len h
 match ns, hl with
 | [a, b, c], _ => exact ⟨a, b, c, rfl⟩
theorem mem3 {P : Rv -> Prop} {a b c : Rv} (ha : P a) (hb : P b) (hc : P c) : ∀ u ∈ [a, b, c], P u := fun u hu => by
 simp only [List.mem_cons, List.not_mem_nil, or_false] at hu
 rcases hu with rfl | rfl | rfl
 ·exact ha
 ·exact hb
 ·exact hc
theorem call_day (y m d : Rv) (p : Option Addr) (c : Nat) (W : World) (hT : TabOK W) (h : Lst W.heap.size W 1 anyCells [numA y, numA m, numA d] p c) (hs : SzR y 100000000 /\ SzR m 100000000 /\ SzR d 100000000) : Calls Tryz.prog 101 #[.slice p 3 c] W fun e w' => BackT W w' (dayF y m d) e := by
 have HC : Hid (Calls Tryz.prog 102 #[.slice p 3 c] W fun e w' => IntsR [y, m, d] W w' e) := Lib.hid (integers_any [y, m, d] p c _ W h (mem3 hs.1 hs.2.1 hs.2.2) (by show 3 <= 100000; decide))
 unfold IntsR at HC
 have HF : Hid (dayF y m d = match wholes [y, m, d] with | some [a, b, c] => if dayE a b c = 0 then atP (dayN a b c * 96) else .error (dayE a b c) | _ => .error 3) := Lib.hid rfl
 have HT := Lib.hid hT
 clear h hs hT
 cases hw : wholes [y, m, d] with
 | none =>
  rw [hw] at HC HF
  clear hw
  go_enter Tryz.func101, Tryz.ntmps101
  go_wp2_with fail
  refine HC.out.mono ?_
  rintro e w1 ⟨rfl, t1⟩
  have T1 := Lib.hid t1
  clear t1
  go_wp2_with fail
  go_ret2
  rw [HF.out]
  exact ⟨Back.err _ _ _, T1.out⟩
 | some ns =>
  rw [hw] at HC HF
  obtain ⟨i, j, k, rfl⟩ := wholes_three hw
  clear hw
  simp only at HF
  have hb := dayN_bd i j k
  have hd0 : dayE i j k = 0 \/ dayE i j k = 3 := by unfold dayE; split <;> simp
  go_enter Tryz.func101, Tryz.ntmps101
  go_wp2_with fail
  refine HC.out.mono ?_
  rintro e w1 ⟨⟨q, f, rfl, hl⟩, t1⟩
  have T1 := Lib.hid t1
  obtain ⟨g, o, rfl, -, e0⟩ := hl.ints (i := 0) rfl
  obtain ⟨g', o', h2, -, e1⟩ := hl.ints (i := 1) rfl
  cases h2
  obtain ⟨g', o', h2, -, e2⟩ := hl.ints (i := 2) rfl
  cases h2
  simp only [Nat.add_zero] at e0
  have HD : Hid (∀ n, Calls Tryz.prog 103 #[.int .i64 i, .int .i64 j, .int .i64 k] (w1.drewN n) fun e w' => e = .returned (.tuple #[(.int .i64 (dayN i j k)), (.int .i64 (dayE i j k))]) /\ w' = w1.drewN n) := Lib.hid fun n => (day_any i j k _ (Lib.hid ((HT.out.turned t1).turned (drewNT _ _ n)))).mono fun e w' h => ⟨h.1, h.2.symm⟩
  obtain ⟨x, hx⟩ : ∃ x, dayN i j k = x := ⟨_, rfl⟩
  obtain ⟨z, hz⟩ : ∃ z, dayE i j k = z := ⟨_, rfl⟩
  rw [hx, hz] at HD HF
  rw [hx] at hb
  rw [hz] at hd0
  have hm : IntKind.i64.wrap (x * 96) = x * 96 := IntWalk.i64_in _ (by omega)
  have hm2 : wrap64 (x * 96) = x * 96 := by unfold wrap64; omega
  clear t1 hl hx hz hb HC
  go_wp2_with fail
  go_quiet ((go_at_call 103; exact Calls.quiet_of_same (HD.out _)))
  have T2 := Lib.hid (T1.out.trans (drewNT _ _ nq))
  obtain ⟨w2, hw2⟩ : ∃ w2, w2 = w1.drewN nq := ⟨_, rfl⟩
  rw [<- hw2] at T2 ⊢
  clear hw2 e0 e1 e2
  rcases hd0 with rfl | rfl
  ·rw [if_pos rfl] at HF
   go_wp2_with fail
   refine (at_back (x * 96) w2).mono ?_
   rintro e w3 ⟨⟨v, rfl, hv⟩, rfl⟩
   have HV := Lib.hid hv
   clear hv
   go_wp2_with fail
   go_ret2
   rw [HF.out]
   exact ⟨⟨v, rfl, HV.out⟩, T2.out⟩
  ·rw [if_neg (by decide)] at HF
   go_wp2_with fail
   go_ret2
   rw [HF.out]
   exact ⟨Back.err _ _ _, T2.out⟩
theorem pts_nil (W : World) : PtsAt W [] (.slice none 0 0) := ⟨none, 0, rfl, Lst.nil _ _ _ _, fun _ h => by cases h⟩
theorem call_extreme (kind : Int) (a : Rv) (t u : Int) (p : Option Addr) (c kb : Nat) (W : World) (hk : W.cell? ⟨kb, 0, none⟩ = some (.int .i64 kind)) (h : Lst W.heap.size W 1 anyCells [numA a, tickA t, tickA u] p c) (hs : SzR a 100000000) :
  Calls Tryz.prog 141 #[.slice p 3 c, .pointer (some ⟨kb, 0, none⟩)] W fun e w' => BackT W w' (extremeF kind a t u) e := by
 obtain ⟨b, o, rfl, -, e0⟩ := h.anys (i := 0) rfl
 obtain ⟨b', o', h2, -, e1⟩ := h.anys (i := 1) rfl
 cases h2
 obtain ⟨b', o', h2, -, e2⟩ := h.anys (i := 2) rfl
 cases h2
 simp only [numA, tickA, Nat.add_zero] at e0 e1 e2
 have HC := Lib.hid (fun V => integer_any a V hs)
 unfold wholeI wholeE at HC
 have HX : Hid (extremeF kind a t u = match wholeR a with | none => .error 3 | some g => .ok (.wish ⟨kind, [], g, 0, 0, t, u, zeroR, zeroR⟩)) := Lib.hid rfl
 obtain ⟨s, hw⟩ : ∃ s, wholeR a = s := ⟨_, rfl⟩
 rw [hw] at HC HX
 have HE : Hid (∀ w', Back w' (extremeF kind a t u) (.returned (.tuple #[.iface 33 (.agg #[.int .i64 kind, .slice none 0 0, (.int .i64 (s.getD 0)), .int .i64 0, .int .i64 0, .int .i64 t, .int .i64 u, .bool false, .string ⟨#[]⟩, .string ⟨#[]⟩, .bool false, .string ⟨#[]⟩, .string ⟨#[]⟩]), (.int .i64 (if s.isSome = true then 0 else 3))]))) := Lib.hid fun w' => by
  rw [HX.out]
  cases s with
  | none => exact Back.err _ _ _
  | some g => exact Back.ok ⟨_, rfl, pts_nil w'⟩
 obtain ⟨g, hg⟩ : ∃ g, s.getD 0 = g := ⟨_, rfl⟩
 obtain ⟨x, hx⟩ : ∃ x, (if s.isSome = true then (0 : Int) else 3) = x := ⟨_, rfl⟩
 rw [hg, hx] at HC HE
 clear h hs hw HX hg hx
 go_enter Tryz.func141, Tryz.ntmps141
 go_wp2_with fail
 refine (HC.out _).mono ?_
 rintro e w1 ⟨rfl, t1⟩
 have T1 := Lib.hid t1
 have e1 := cellT t1 id e1
 have e2 := cellT t1 id e2
 have e3 := cellT t1 id hk
 clear t1 e0 hk HC
 go_wp2_with fail
 go_quiet (fail)
 have T2 := Lib.hid (T1.out.trans (drewNT _ _ nq))
 obtain ⟨w2, hw2⟩ : ∃ w2, w2 = w1.drewN nq := ⟨_, rfl⟩
 rw [<- hw2] at T2 ⊢
 clear hw2 e1 e2 e3
 go_wp2_with fail
 go_ret2
 exact ⟨HE.out _, T2.out⟩
theorem call_above (a y : Rv) (t u : Int) (p : Option Addr) (c : Nat) (W : World) (h : Lst W.heap.size W 1 anyCells [numA a, numA y, tickA t, tickA u] p c) (hs : SzR a 100000000) :
  Calls Tryz.prog 107 #[.slice p 4 c] W fun e w' => BackT W w' (aboveF a y t u) e := by
 obtain ⟨b, o, rfl, -, e0⟩ := h.anys (i := 0) rfl
 obtain ⟨b', o', h2, -, e1⟩ := h.anys (i := 1) rfl
 cases h2
 obtain ⟨b', o', h2, -, e2⟩ := h.anys (i := 2) rfl
 cases h2
 obtain ⟨b', o', h2, -, e3⟩ := h.anys (i := 3) rfl
 cases h2
 simp only [numA, tickA, Nat.add_zero] at e0 e1 e2 e3
 have HC := Lib.hid (fun V => integer_any a V hs)
 unfold wholeI wholeE at HC
 have HX : Hid (aboveF a y t u = match wholeR a with | none => .error 3 | some g => .ok (.wish ⟨4, [], g, 0, 0, t, u, y, zeroR⟩)) := Lib.hid rfl
 obtain ⟨s, hw⟩ : ∃ s, wholeR a = s := ⟨_, rfl⟩
 rw [hw] at HC HX
 have HE : Hid (∀ w', Back w' (aboveF a y t u) (.returned (.tuple #[.iface 33 (.agg #[.int .i64 4, .slice none 0 0, (.int .i64 (s.getD 0)), .int .i64 0, .int .i64 0, .int .i64 t, .int .i64 u, .bool y.neg, .string y.num, .string y.den, .bool false, .string ⟨#[]⟩, .string ⟨#[]⟩]), (.int .i64 (if s.isSome = true then 0 else 3))]))) := Lib.hid fun w' => by
  rw [HX.out]
  cases s with
  | none => exact Back.err _ _ _
  | some g => exact Back.ok ⟨_, rfl, pts_nil w'⟩
 obtain ⟨g, hg⟩ : ∃ g, s.getD 0 = g := ⟨_, rfl⟩
 obtain ⟨x, hx⟩ : ∃ x, (if s.isSome = true then (0 : Int) else 3) = x := ⟨_, rfl⟩
 rw [hg, hx] at HC HE
 clear h hs hw HX hg hx
 obtain ⟨yn, yx, yd⟩ := y
 go_enter Tryz.func107, Tryz.ntmps107
 go_wp2_with fail
 refine (HC.out _).mono ?_
 rintro e w1 ⟨rfl, t1⟩
 have T1 := Lib.hid t1
 have e1 := cellT t1 id e1
 have e2 := cellT t1 id e2
 have e3 := cellT t1 id e3
 clear t1 e0 HC
 go_wp2_with fail
 go_quiet (fail)
 have T2 := Lib.hid (T1.out.trans (drewNT _ _ nq))
 obtain ⟨w2, hw2⟩ : ∃ w2, w2 = w1.drewN nq := ⟨_, rfl⟩
 rw [<- hw2] at T2 ⊢
 clear hw2 e1 e2 e3
 go_wp2_with fail
 go_ret2
 exact ⟨HE.out _, T2.out⟩
theorem call_both (a y d z k : Rv) (t u : Int) (p : Option Addr) (c : Nat) (W : World) (h : Lst W.heap.size W 1 anyCells [numA a, numA y, numA d, numA z, numA k, tickA t, tickA u] p c) (hs : SzR a 100000000 /\ SzR d 100000000 /\ SzR k 100000000) :
  Calls Tryz.prog 108 #[.slice p 7 c] W fun e w' => BackT W w' (bothF a y d z k t u) e := by
 obtain ⟨b, o, rfl, -, e0⟩ := h.anys (i := 0) rfl
 obtain ⟨b', o', h2, -, e1⟩ := h.anys (i := 1) rfl
 cases h2
 obtain ⟨b', o', h2, -, e2⟩ := h.anys (i := 2) rfl
 cases h2
 obtain ⟨b', o', h2, -, e3⟩ := h.anys (i := 3) rfl
 cases h2
 obtain ⟨b', o', h2, -, e4⟩ := h.anys (i := 4) rfl
 cases h2
 obtain ⟨b', o', h2, -, e5⟩ := h.anys (i := 5) rfl
 cases h2
 obtain ⟨b', o', h2, -, e6⟩ := h.anys (i := 6) rfl
 cases h2
 simp only [numA, tickA, Nat.add_zero] at e0 e1 e2 e3 e4 e5 e6
 have HX : Hid (bothF a y d z k t u = match wholes [a, d, k] with | some [g, h, l] => .ok (.wish ⟨5, [], g, h, l, t, u, y, z⟩) | _ => .error 3) := Lib.hid rfl
 obtain ⟨W1, hW1⟩ : ∃ W1, W1 = W.drew.alloc (.cells #[.iface 31 (ratV a), .iface 31 (ratV d), .iface 31 (ratV k)] 20) := ⟨_, rfl⟩
 have T1 : Turned (fun _ => False) W W1 := by rw [hW1]; exact (Turned.refl _ W).drew.alloc _
 have hl : Lst W1.heap.size W1 1 anyCells [numA a, numA d, numA k] (some ⟨W.heap.size, 0, none⟩) 3 := by
  rw [hW1]
  exact Lst.block (World.alloc_heap_new _ _) rfl (fun _ => rfl) (by show 3 <= 3; decide) (by decide)
 have HC : Hid (Calls Tryz.prog 102 #[.slice (some ⟨W.heap.size, 0, none⟩) 3 3] W1 fun e w' => IntsR [a, d, k] W1 w' e) := Lib.hid (integers_any [a, d, k] _ _ _ W1 hl (mem3 hs.1 hs.2.1 hs.2.2) (by show 3 <= 100000; decide))
 rw [hW1] at HC
 unfold IntsR at HC
 have HT1 := Lib.hid T1
 rw [hW1] at HT1
 clear h hs hl T1 hW1
 have HK : Hid (∀ V, Turned (fun _ => False) W V -> V.cell? ⟨b, o, none⟩ = some (.iface 31 (ratV a)) /\ V.cell? ⟨b, o + 2, none⟩ = some (.iface 31 (ratV d)) /\ V.cell? ⟨b, o + 4, none⟩ = some (.iface 31 (ratV k))) := Lib.hid fun V hV => ⟨cellT hV id e0, cellT hV id e2, cellT hV id e4⟩
 have HK0 := Lib.hid (HK.out _ (Turned.refl _ W).drew)
 have HK1 := Lib.hid (HK.out _ HT1.out)
 have HR : Hid (∀ V, Turned (fun _ => False) W V -> V.cell? ⟨b, o + 1, none⟩ = some (.iface 31 (ratV y)) /\ V.cell? ⟨b, o + 3, none⟩ = some (.iface 31 (ratV z)) /\ V.cell? ⟨b, o + 5, none⟩ = some (.iface 79 (.int .i64 t)) /\ V.cell? ⟨b, o + 6, none⟩ = some (.iface 79 (.int .i64 u))) := Lib.hid fun V hV => ⟨cellT hV id e1, cellT hV id e3, cellT hV id e5, cellT hV id e6⟩
 clear e0 e1 e2 e3 e4 e5 e6
 cases hw : wholes [a, d, k] with
 | none =>
  rw [hw] at HC HX
  clear hw
  go_enter Tryz.func108, Tryz.ntmps108
  go_wp2_with fail
  go_region_held3 (fun V => V.cell? ⟨b, o, none⟩ = some (.iface 31 (ratV a)) /\ V.cell? ⟨b, o + 2, none⟩ = some (.iface 31 (ratV d)) /\ V.cell? ⟨b, o + 4, none⟩ = some (.iface 31 (ratV k)))
   (first | exact HK2.out | exact HK1.out | exact HK0.out | go_keep)
   (first
    | (go_at_call 102; refine HC.out.mono ?_; rintro e w1 ⟨rfl, t1⟩; have T1 := Lib.hid (HT1.out.trans t1); have HK2 := Lib.hid (HK.out _ (HT1.out.trans t1)); clear t1))
  go_wp2_with fail
  go_ret2
  rw [HX.out]
  exact ⟨Back.err _ _ _, T1.out⟩
 | some ns =>
  rw [hw] at HC HX
  obtain ⟨x, v, s, rfl⟩ := wholes_three hw
  clear hw
  simp only at HX
  go_enter Tryz.func108, Tryz.ntmps108
  go_wp2_with fail
  go_region_held3 (fun V => V.cell? ⟨b, o, none⟩ = some (.iface 31 (ratV a)) /\ V.cell? ⟨b, o + 2, none⟩ = some (.iface 31 (ratV d)) /\ V.cell? ⟨b, o + 4, none⟩ = some (.iface 31 (ratV k)))
   (first | exact HK2.out | exact HK1.out | exact HK0.out | go_keep)
   (first
    | (go_at_call 102; refine HC.out.mono ?_; rintro e w1 ⟨⟨q, f, rfl, hl⟩, t1⟩; have T1 := Lib.hid (HT1.out.trans t1); have HK2 := Lib.hid (HK.out _ (HT1.out.trans t1)); have HL := Lib.hid hl; clear t1 hl))
  obtain ⟨g, r, h2, -, i0⟩ := HL.out.ints (i := 0) rfl
  subst h2
  obtain ⟨g', r', h2, -, i1⟩ := HL.out.ints (i := 1) rfl
  cases h2
  obtain ⟨g', r', h2, -, i2⟩ := HL.out.ints (i := 2) rfl
  cases h2
  simp only [Nat.add_zero] at i0
  obtain ⟨j1, j3, j5, j6⟩ := HR.out _ T1.out
  obtain ⟨yn, yx, yd⟩ := y
  obtain ⟨zn, zx, zd⟩ := z
  go_wp2_with fail
  go_quiet (fail)
  go_wp2_with fail
  go_ret2
  rw [HX.out]
  exact ⟨Back.ok ⟨_, rfl, pts_nil _⟩, T1.out.trans (drewNT _ _ nq)⟩
end Go.Proofs.YthejfklieedjmaaGreatDoor
