/- Walk of the lexer: put. Conditions: those of each theorem. -/
import Derived.Test.YtdjjifljlkjafaaGreatDoorLexWalkB
import Derived.OwnWalk
namespace Go.Proofs.YtdjjifljlkjafaaGreatDoor
open Go Go.Proofs Go.RowKit
attribute [local go_sem] Oper.semAt_some

/-- a token: kind, offset, text, number -/
structure Tok where
  kind : Int
  at_ : Int
  s : ByteArray
  n : Int
def tokV (x : Tok) : List Value := [(.int .i64 (x.kind)), (.int .i64 (x.at_)), .string x.s, (.int .i64 (x.n))]
theorem cells_four (w : World) (a b c d : Value) (t : TypeId) : ∀ j u, [a, b, c, d][j]? = some u → (w.alloc (.cells #[a, b, c, d] t)).cell? ((⟨w.heap.size, 0, none⟩ : Addr).add j) = some u := by
  intro j u hj
  match j, hj with
  | 0, hj => simp at hj; subst hj; simp [Addr.add]
  | 1, hj => simp at hj; subst hj; simp [Addr.add]
  | 2, hj => simp at hj; subst hj; simp [Addr.add]
  | 3, hj => simp at hj; subst hj; simp [Addr.add]
theorem infoTok : (Tryz.prog.info? 33).map (fun i => (i.zero, i.size, i.bytes)) = some (some (.agg #[(.int .i64 0), (.int .i64 0), .string ⟨#[]⟩, (.int .i64 0)]), 4, 40) := by kernel_rfl

set_option maxRecDepth 20000 in
set_option maxHeartbeats 2000000 in
theorem put_any (B base : Nat) (s : ByteArray) (k kind tt n : Int) (str : ByteArray) (v : Value) (ts : List Tok) (w : World) (hR : Rd w B s k v) (hown : w.ownsRow base 33 4 v ts.length (ts.flatMap tokV)) (hB : B < base) (hbase : base ≤ w.heap.size) (hlen : ts.length ≤ 100000) :
    Calls Tryz.prog 22 #[.pointer (some ⟨B, 0, none⟩), (.int .i64 kind), (.int .i64 tt), .string str, (.int .i64 n)] w fun e w' => e = .returned (.int .i64 0) ∧
      ∃ v', Rd w' B s tt v' ∧ w'.ownsRow base 33 4 v' (ts ++ [Tok.mk kind k str n]).length ((ts ++ [Tok.mk kind k str n]).flatMap tokV) ∧ Turned (fun j => j = B ∨ base ≤ j) w w' := by
  obtain ⟨i0, hif, hz0, hz1, hz2⟩ := info_parts infoTok
  obtain ⟨c0, c1, c2⟩ := hR.cells
  have f1 := hR.free 1
  have f2 := hR.free 2
  obtain ⟨va, vc, rfl⟩ := owns_shape hown
  have HR := Lib.hid hR
  have HO := Lib.hid hown
  clear hR hown
  go_enter Tryz.func22, Tryz.ntmps22
  go_wp2_with fail
  refine region_R (R := fun j V => j < 17 → (fun V => V.cell? ⟨B, 1, none⟩ = some (.int .i64 k) ∧ V.cell? ⟨B, 2, none⟩ = some (.slice va ts.length vc)) V) (by kernel_rfl) ?_
  refine wpAnyR_take (S := (fun V => V.cell? ⟨B, 1, none⟩ = some (.int .i64 k) ∧ V.cell? ⟨B, 2, none⟩ = some (.slice va ts.length vc))) (early := fun j => decide (j < 17)) (i := 0) (v := .pointer (some ⟨B, 0, none⟩)) rfl (by kernel_rfl) (by kernel_rfl) (by kernel_rfl) (by kernel_rfl) (fun _ _ he h => h (of_decide_eq_true he)) (fun _ h _ => h) (fun _ _ _ h => h) (Or.inl ⟨by rfl, ?_⟩) ⟨c1, c2⟩ ?_
  · rintro V ⟨v1, v2⟩
    go_simp
  simp only [List.getElem_toArray, List.getElem_cons_zero, Act.put, List.setIfInBounds_toArray, List.set_cons_zero, List.set_cons_succ]
  refine wpAnyR_take (S := (fun V => V.cell? ⟨B, 1, none⟩ = some (.int .i64 k) ∧ V.cell? ⟨B, 2, none⟩ = some (.slice va ts.length vc))) (early := fun j => decide (j < 17)) (i := 1) (v := .pointer (some ⟨B, 0, none⟩)) rfl (by kernel_rfl) (by kernel_rfl) (by kernel_rfl) (by kernel_rfl) (fun _ _ he h => h (of_decide_eq_true he)) (fun _ h _ => h) (fun _ _ _ h => h) (Or.inl ⟨by rfl, ?_⟩) ⟨c1, c2⟩ ?_
  · rintro V ⟨v1, v2⟩
    go_simp
  simp only [List.getElem_toArray, List.getElem_cons_zero, List.getElem_cons_succ, Act.put, List.setIfInBounds_toArray, List.set_cons_zero, List.set_cons_succ]
  refine wpAnyR_take (S := (fun V => V.cell? ⟨B, 1, none⟩ = some (.int .i64 k) ∧ V.cell? ⟨B, 2, none⟩ = some (.slice va ts.length vc))) (early := fun j => decide (j < 17)) (i := 2) (v := .pointer (some ⟨B, 0, none⟩)) rfl (by kernel_rfl) (by kernel_rfl) (by kernel_rfl) (by kernel_rfl) (fun _ _ he h => h (of_decide_eq_true he)) (fun _ h _ => h) (fun _ _ _ h => h) (Or.inl ⟨by rfl, ?_⟩) ⟨c1, c2⟩ ?_
  · rintro V ⟨v1, v2⟩
    go_simp
  simp only [List.getElem_toArray, List.getElem_cons_zero, List.getElem_cons_succ, Act.put, List.setIfInBounds_toArray, List.set_cons_zero, List.set_cons_succ]
  refine wpAnyR_take (S := (fun V => V.cell? ⟨B, 1, none⟩ = some (.int .i64 k) ∧ V.cell? ⟨B, 2, none⟩ = some (.slice va ts.length vc))) (early := fun j => decide (j < 17)) (i := 3) (v := .pointer (some ⟨B, 2, none⟩)) rfl (by kernel_rfl) (by kernel_rfl) (by kernel_rfl) (by kernel_rfl) (fun _ _ he h => h (of_decide_eq_true he)) (fun _ h _ => h) (fun _ _ _ h => h) (Or.inl ⟨by rfl, ?_⟩) ⟨c1, c2⟩ ?_
  · rintro V ⟨v1, v2⟩
    go_simp
  simp only [List.getElem_toArray, List.getElem_cons_zero, List.getElem_cons_succ, Act.put, List.setIfInBounds_toArray, List.set_cons_zero, List.set_cons_succ]
  refine wpAnyR_take (S := (fun V => V.cell? ⟨B, 1, none⟩ = some (.int .i64 k) ∧ V.cell? ⟨B, 2, none⟩ = some (.slice va ts.length vc))) (early := fun j => decide (j < 17)) (i := 4) (v := .slice va ts.length vc) rfl (by kernel_rfl) (by kernel_rfl) (by kernel_rfl) (by kernel_rfl) (fun _ _ he h => h (of_decide_eq_true he)) (fun _ h _ => h) (fun _ _ _ h => h) (Or.inl ⟨by rfl, ?_⟩) ⟨c1, c2⟩ ?_
  · rintro V ⟨v1, v2⟩
    go_simp
  simp only [List.getElem_toArray, List.getElem_cons_zero, List.getElem_cons_succ, Act.put, List.setIfInBounds_toArray, List.set_cons_zero, List.set_cons_succ]
  refine wpAnyR_take (S := (fun V => V.cell? ⟨B, 1, none⟩ = some (.int .i64 k) ∧ V.cell? ⟨B, 2, none⟩ = some (.slice va ts.length vc))) (early := fun j => decide (j < 17)) (i := 5) (v := (.int .i64 kind)) rfl (by kernel_rfl) (by kernel_rfl) (by kernel_rfl) (by kernel_rfl) (fun _ _ he h => h (of_decide_eq_true he)) (fun _ h _ => h) (fun _ _ _ h => h) (Or.inl ⟨by rfl, ?_⟩) ⟨c1, c2⟩ ?_
  · rintro V ⟨v1, v2⟩
    go_simp
  simp only [List.getElem_toArray, List.getElem_cons_zero, List.getElem_cons_succ, Act.put, List.setIfInBounds_toArray, List.set_cons_zero, List.set_cons_succ]
  refine wpAnyR_take (S := (fun V => V.cell? ⟨B, 1, none⟩ = some (.int .i64 k) ∧ V.cell? ⟨B, 2, none⟩ = some (.slice va ts.length vc))) (early := fun j => decide (j < 17)) (i := 6) (v := .pointer (some ⟨B, 0, none⟩)) rfl (by kernel_rfl) (by kernel_rfl) (by kernel_rfl) (by kernel_rfl) (fun _ _ he h => h (of_decide_eq_true he)) (fun _ h _ => h) (fun _ _ _ h => h) (Or.inl ⟨by rfl, ?_⟩) ⟨c1, c2⟩ ?_
  · rintro V ⟨v1, v2⟩
    go_simp
  simp only [List.getElem_toArray, List.getElem_cons_zero, List.getElem_cons_succ, Act.put, List.setIfInBounds_toArray, List.set_cons_zero, List.set_cons_succ]
  refine wpAnyR_take (S := (fun V => V.cell? ⟨B, 1, none⟩ = some (.int .i64 k) ∧ V.cell? ⟨B, 2, none⟩ = some (.slice va ts.length vc))) (early := fun j => decide (j < 17)) (i := 7) (v := .pointer (some ⟨B, 0, none⟩)) rfl (by kernel_rfl) (by kernel_rfl) (by kernel_rfl) (by kernel_rfl) (fun _ _ he h => h (of_decide_eq_true he)) (fun _ h _ => h) (fun _ _ _ h => h) (Or.inl ⟨by rfl, ?_⟩) ⟨c1, c2⟩ ?_
  · rintro V ⟨v1, v2⟩
    go_simp
  simp only [List.getElem_toArray, List.getElem_cons_zero, List.getElem_cons_succ, Act.put, List.setIfInBounds_toArray, List.set_cons_zero, List.set_cons_succ]
  refine wpAnyR_take (S := (fun V => V.cell? ⟨B, 1, none⟩ = some (.int .i64 k) ∧ V.cell? ⟨B, 2, none⟩ = some (.slice va ts.length vc))) (early := fun j => decide (j < 17)) (i := 8) (v := .pointer (some ⟨B, 1, none⟩)) rfl (by kernel_rfl) (by kernel_rfl) (by kernel_rfl) (by kernel_rfl) (fun _ _ he h => h (of_decide_eq_true he)) (fun _ h _ => h) (fun _ _ _ h => h) (Or.inl ⟨by rfl, ?_⟩) ⟨c1, c2⟩ ?_
  · rintro V ⟨v1, v2⟩
    go_simp
  simp only [List.getElem_toArray, List.getElem_cons_zero, List.getElem_cons_succ, Act.put, List.setIfInBounds_toArray, List.set_cons_zero, List.set_cons_succ]
  refine wpAnyR_take (S := (fun V => V.cell? ⟨B, 1, none⟩ = some (.int .i64 k) ∧ V.cell? ⟨B, 2, none⟩ = some (.slice va ts.length vc))) (early := fun j => decide (j < 17)) (i := 9) (v := (.int .i64 k)) rfl (by kernel_rfl) (by kernel_rfl) (by kernel_rfl) (by kernel_rfl) (fun _ _ he h => h (of_decide_eq_true he)) (fun _ h _ => h) (fun _ _ _ h => h) (Or.inl ⟨by rfl, ?_⟩) ⟨c1, c2⟩ ?_
  · rintro V ⟨v1, v2⟩
    go_simp
  simp only [List.getElem_toArray, List.getElem_cons_zero, List.getElem_cons_succ, Act.put, List.setIfInBounds_toArray, List.set_cons_zero, List.set_cons_succ]
  refine wpAnyR_take (S := (fun V => V.cell? ⟨B, 1, none⟩ = some (.int .i64 k) ∧ V.cell? ⟨B, 2, none⟩ = some (.slice va ts.length vc))) (early := fun j => decide (j < 17)) (i := 10) (v := .string str) rfl (by kernel_rfl) (by kernel_rfl) (by kernel_rfl) (by kernel_rfl) (fun _ _ he h => h (of_decide_eq_true he)) (fun _ h _ => h) (fun _ _ _ h => h) (Or.inl ⟨by rfl, ?_⟩) ⟨c1, c2⟩ ?_
  · rintro V ⟨v1, v2⟩
    go_simp
  simp only [List.getElem_toArray, List.getElem_cons_zero, List.getElem_cons_succ, Act.put, List.setIfInBounds_toArray, List.set_cons_zero, List.set_cons_succ]
  refine wpAnyR_take (S := (fun V => V.cell? ⟨B, 1, none⟩ = some (.int .i64 k) ∧ V.cell? ⟨B, 2, none⟩ = some (.slice va ts.length vc))) (early := fun j => decide (j < 17)) (i := 11) (v := (.int .i64 n)) rfl (by kernel_rfl) (by kernel_rfl) (by kernel_rfl) (by kernel_rfl) (fun _ _ he h => h (of_decide_eq_true he)) (fun _ h _ => h) (fun _ _ _ h => h) (Or.inl ⟨by rfl, ?_⟩) ⟨c1, c2⟩ ?_
  · rintro V ⟨v1, v2⟩
    go_simp
  simp only [List.getElem_toArray, List.getElem_cons_zero, List.getElem_cons_succ, Act.put, List.setIfInBounds_toArray, List.set_cons_zero, List.set_cons_succ]
  refine wpAnyR_take (S := (fun V => V.cell? ⟨B, 1, none⟩ = some (.int .i64 k) ∧ V.cell? ⟨B, 2, none⟩ = some (.slice va ts.length vc))) (early := fun j => decide (j < 17)) (i := 12) (v := .agg #[(.int .i64 kind), (.int .i64 k), .string str, (.int .i64 n)]) rfl (by kernel_rfl) (by kernel_rfl) (by kernel_rfl) (by kernel_rfl) (fun _ _ he h => h (of_decide_eq_true he)) (fun _ h _ => h) (fun _ _ _ h => h) (Or.inl ⟨by rfl, ?_⟩) ⟨c1, c2⟩ ?_
  · rintro V ⟨v1, v2⟩
    go_simp
  simp only [List.getElem_toArray, List.getElem_cons_zero, List.getElem_cons_succ, Act.put, List.setIfInBounds_toArray, List.set_cons_zero, List.set_cons_succ]
  refine wpAnyR_all (rs := [13]) (by kernel_rfl) (by simp) (fun i hi2 => ?_)
  obtain rfl : i = 13 := by simpa using hi2
  clear hi2
  refine wpOp_plain rfl rfl ?_
  simp only [List.getElem_toArray, List.getElem_cons_zero, List.getElem_cons_succ]
  go_simp
  have tA : Turned (fun _ => False) w (w.alloc (.cells #[(.int .i64 kind), (.int .i64 k), .string str, (.int .i64 n)] 33)) := (Turned.refl _ _).alloc _
  have hA := Rd.turned HR.out tA id
  refine ⟨⟨hA.cells.2.1, hA.cells.2.2⟩, ?_⟩
  refine wpAnyR_all (rs := [14]) (by kernel_rfl) (by simp) (fun i hi2 => ?_)
  obtain rfl : i = 14 := by simpa using hi2
  clear hi2
  refine wpOp_append_exact _ rfl rfl _ _ 23 rfl base 33 i0 (.agg #[(.int .i64 0), (.int .i64 0), .string ⟨#[]⟩, (.int .i64 0)]) 4 40 Tryz.underlying23 hif hz0 hz1 hz2 rfl (by decide) (.slice va ts.length vc) ts.length (ts.flatMap tokV) rfl (ownsRow_turned' tA.drew (fun _ _ h => h.elim) HO.out) ⟨w.heap.size, 0, none⟩ 1 1 [(.int .i64 kind), (.int .i64 k), .string str, (.int .i64 n)] rfl rfl (cells_four w _ _ _ _ _) (by simp [Value.oneCell']) (by unfold maxLen; omega) (by omega) (by show base ≤ (w.alloc _).heap.size; simp; omega) ?_
  intro v' w4 hown' hgrow hex
  have hob := ownsRow_block HO.out
  have hBw := getElem?_lt HR.out
  have t4 : Turned (fun j => (Value.slice va ts.length vc).ownBlock = some j) w w4 := (tA.mono fun _ h => h.elim).trans (Turned.of_grown (a := w.alloc (.cells #[(.int .i64 kind), (.int .i64 k), .string str, (.int .i64 n)] 33)) ⟨hgrow.os, hgrow.tape, hgrow.output, hgrow.size, hgrow.block⟩ fun _ h => h)
  have hR4 : Rd w4 B s k (.slice va ts.length vc) := Rd.turned HR.out t4 (fun h => by have := (hob _ h).1; omega)
  obtain ⟨q0, q1, q2⟩ := hR4.cells
  have g1 := hR4.free 1
  have g2 := hR4.free 2
  refine ⟨fun _ => ⟨q1, q2⟩, ?_⟩
  simp only [List.getElem_toArray, List.getElem_cons_zero, List.getElem_cons_succ, Act.put, List.setIfInBounds_toArray, List.set_cons_zero, List.set_cons_succ]
  obtain ⟨g', cap', rfl⟩ := ownsRow_succ hown'
  have t5 : Turned (fun j => j = B ∨ base ≤ j) w ((w4.setCell ⟨B, 2, none⟩ (.slice (some ⟨g', 0, none⟩) (ts.length + 1) cap')).setCell ⟨B, 1, none⟩ (.int .i64 tt)) := ((t4.mono fun j h => .inr (hob j h).1).setCell (p := ⟨B, 2, none⟩) (.inl rfl) _).setCell (p := ⟨B, 1, none⟩) (.inl rfl) _
  have hR5 : Rd ((w4.setCell ⟨B, 2, none⟩ (.slice (some ⟨g', 0, none⟩) (ts.length + 1) cap')).setCell ⟨B, 1, none⟩ (.int .i64 tt)) B s tt (.slice (some ⟨g', 0, none⟩) (ts.length + 1) cap') := Rd.setAt (k := k) (Rd.setOut hR4)
  have hO5 : ((w4.setCell ⟨B, 2, none⟩ (.slice (some ⟨g', 0, none⟩) (ts.length + 1) cap')).setCell ⟨B, 1, none⟩ (.int .i64 tt)).ownsRow base 33 4 (.slice (some ⟨g', 0, none⟩) (ts.length + 1) cap') (ts ++ [Tok.mk kind k str n]).length ((ts ++ [Tok.mk kind k str n]).flatMap tokV) := by
    have h1 := ownsRow_turned (C := fun j => j = B) (((Turned.refl (fun j => j = B) w4).setCell (p := ⟨B, 2, none⟩) rfl (.slice (some ⟨g', 0, none⟩) (ts.length + 1) cap')).setCell (p := ⟨B, 1, none⟩) rfl (.int .i64 tt)) (fun k hk => by rw [hk]; exact hB) hown'
    simpa [tokV] using h1
  have FIN := Lib.hid (And.intro hR5 (And.intro hO5 t5))
  clear hR5 hO5 t5 hown' hgrow hex t4 tA hA hob
  have c1 := q1
  have c2 := q2
  refine wpAnyR_all (rs := [15]) (by kernel_rfl) (by simp) (fun i hi2 => ?_)
  obtain rfl : i = 15 := by simpa using hi2
  clear hi2
  refine wpOp_plain rfl rfl ?_
  simp only [List.getElem_toArray, List.getElem_cons_zero, List.getElem_cons_succ]
  go_simp
  refine wpAnyR_all (rs := [16]) (by kernel_rfl) (by simp) (fun i hi2 => ?_)
  obtain rfl : i = 16 := by simpa using hi2
  clear hi2
  refine wpOp_plain rfl rfl ?_
  simp only [List.getElem_toArray, List.getElem_cons_zero, List.getElem_cons_succ]
  go_simp
  refine wpAnyR_all (rs := [17]) (by kernel_rfl) (by simp) (fun i hi2 => ?_)
  obtain rfl : i = 17 := by simpa using hi2
  clear hi2
  refine wpOp_plain rfl rfl ?_
  simp only [List.getElem_toArray, List.getElem_cons_zero, List.getElem_cons_succ]
  go_simp
  refine wpAnyR_done (by kernel_rfl) ?_ _
  go_wp2_with fail
  go_ret
  exact ⟨rfl, _, FIN.out⟩
end Go.Proofs.YtdjjifljlkjafaaGreatDoor
