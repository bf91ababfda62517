/- Part 16 of the proofs about parse: ParWalkK, ParWalkL. Conditions: those of each theorem. -/
import Derived.Test.YtjijdgkccfeeaaaGreatDoorNt01
import Derived.Test.YtjijdgkccfeeaaaGreatDoorNt13
import Derived.Test.YtjijdgkccfeeaaaGreatDoorNt15
namespace Go.Proofs.YtjijdgkccfeeaaaGreatDoor
open Go Go.Proofs Go.RowKit
attribute [local go_sem] Oper.semAt_some
def probV (a c : Int) : Value := .agg #[(.int .i64 a), (.int .i64 c)]
theorem problem_size2 : (Tryz.prog.info? 26).map (·.size) = some 2 := by kernel_rfl
theorem results_pb {fn : Func} {i : Nat} (hf : fn.results = #[ResultVar.cell i 26]) (tmps : Array Value) (w : World) (N : Nat) (a b : Value) (hp : tmps.getD i undef = .pointer (some ⟨N, 0, none⟩)) (hg : w.heap[N]? = some (.cells #[a, b] 26 (0, 0))) :
    (results fn tmps).run Tryz.prog w = .ok (.agg #[a, b]) w := by
  have hp' : tmps[i]?.getD undef = .pointer (some ⟨N, 0, none⟩) := by simpa using hp
  simp [results, hf, hp', asAddr, run_loadVar_row w N 26 26 #[a, b] (0, 0) _ hg Tryz.underlying26 rfl problem_size2]
def runP (lr : LR) (r : List Tok → PR Unit) : Int × Int :=
  match lr with
  | .err k c => (k, c)
  | .ok ts => match r ts with
    | .err j c => (atT ts j, c)
    | .ok _ j => if (ts[j]?).map (·.kind) = some 5 then (0, 0) else (atT ts j, 5)
theorem turned_narrow {C D : Nat → Prop} {W W' : World} (h : Turned C W W') (hd : ∀ b, b < W.heap.size → C b → D b) : Turned D W W' := ⟨h.os, h.tape, h.output, h.size, fun b hb hn => h.block b hb fun hc => hn (hd b hb hc)⟩
set_option maxRecDepth 20000 in
set_option maxHeartbeats 8000000 in
theorem run_forms (s : ByteArray) (ob : Nat) (w : World) (hv : Vars w.heap.size w) (hob : ob < w.heap.size) (r : List Tok → PR Unit) (Q : Nat → World → Prop)
    (hok : ∀ ts, tokensP s = .ok ts → TokOK ts ∧ 0 < ts.length)
    (hQ : ∀ (lo : Nat) (W W' : World) (C : Nat → Prop), Q lo W → Turned C W W' → (∀ b, C b → b < lo ∧ b ≠ ob) → Q lo W')
    (hHow : ∀ ts, tokensP s = .ok ts → ∀ (B g cap : Nat) (W : World), ob ≠ B → g ≠ ob → PS B g cap ts W 0 0 → W.heap[ob]? = w.heap[ob]? → Calls Tryz.prog 28 #[.pointer (some ⟨B, 0, none⟩), .pointer (some ⟨ob, 0, none⟩)] W (HowR B ob g cap ts W (r ts) (Q W.heap.size))) :
    Calls Tryz.prog 27 #[.string s, .func (Fn.func 28) #[] #[.pointer (some ⟨ob, 0, none⟩)]] w fun e w' => e = .returned (.agg #[(.int .i64 ((runP (tokensP s) r).1)), (.int .i64 ((runP (tokensP s) r).2))]) ∧ Turned (fun b => b = ob) w w' ∧ (∀ ts j, tokensP s = .ok ts → r ts = .ok () j → ∃ lo, w.heap.size ≤ lo ∧ Q lo w') := by
  have hmf : ∀ (fn : Fn) (first cap : Array Value) (w : World), (Instr.makeFunc fn first cap).run Tryz.prog w = .ok (.func fn first cap) w := fun _ _ _ _ => rfl
  have hT : Turned (fun _ => False) w (w.alloc (.cells #[(.int .i64 0), (.int .i64 0)] 26)) := (Turned.refl _ _).alloc _
  have HT := Lib.hid (tokens_any s (w.alloc (.cells #[(.int .i64 0), (.int .i64 0)] 26)) ((hv.turned hT fun g hg => id).mono (by simp)))
  cases hL : tokensP s with
  | err k c =>
    rw [hL] at HT
    have hc0 : (c != 0) = true := by simpa using tokens_err0 hL
    go_enter_defers Tryz.func27, Tryz.ntmps27
    go_wp2_with fail
    refine HT.out.mono ?_
    rintro e W1 ⟨rfl, ht⟩
    have hcV : W1.heap[w.heap.size]? = some (.cells #[(.int .i64 0), (.int .i64 0)] 26 (0, 0)) := (ht.block _ (by simp) id).trans (heap_alloc_new _ _)
    obtain ⟨x0, x1, x2, x3⟩ := two_cells hcV
    have HcV := Lib.hid hcV
    have Ht := Lib.hid ht
    clear hcV ht
    go_wp2_with fail
    have b1 : ((((W1.setCell ⟨w.heap.size, 0, none⟩ (.int .i64 k)).setCell ⟨w.heap.size, 1, none⟩ (.int .i64 c)).setCell ⟨w.heap.size, 0, none⟩ (.int .i64 k)).setCell ⟨w.heap.size, 1, none⟩ (.int .i64 c)).heap[w.heap.size]? = some (.cells #[(.int .i64 k), (.int .i64 c)] 26 (0, 0)) := two_set' (two_set' HcV.out)
    refine ⟨_, results_pb rfl _ _ w.heap.size (.int .i64 k) (.int .i64 c) rfl b1, rfl, ?_, fun ts j h => by cases h⟩
    have tA : Turned (fun b => w.heap.size ≤ b) w ((((W1.setCell ⟨w.heap.size, 0, none⟩ (.int .i64 k)).setCell ⟨w.heap.size, 1, none⟩ (.int .i64 c)).setCell ⟨w.heap.size, 0, none⟩ (.int .i64 k)).setCell ⟨w.heap.size, 1, none⟩ (.int .i64 c)) := (((hT.mono fun _ h => h.elim).trans (Ht.out.mono fun _ h => h.elim)).trans ((two_turned' W1 w.heap.size (.int .i64 k) (.int .i64 c)).mono fun b hb => (by omega))).trans ((two_turned' _ w.heap.size (.int .i64 k) (.int .i64 c)).mono fun b hb => (by omega))
    exact turned_narrow tA fun b hb hc => by omega
  | ok ts =>
    rw [hL] at HT
    obtain ⟨hTok, hpos⟩ := hok ts hL
    go_enter_defers Tryz.func27, Tryz.ntmps27
    go_wp2_with fail
    refine HT.out.mono ?_
    rintro e W1 ⟨v, rfl, hown, ht⟩
    have hcV : W1.heap[w.heap.size]? = some (.cells #[(.int .i64 0), (.int .i64 0)] 26 (0, 0)) := (ht.block _ (by simp) id).trans (heap_alloc_new _ _)
    obtain ⟨x0, x1, x2, x3⟩ := two_cells hcV
    have HcV := Lib.hid hcV
    have Ht := Lib.hid ht
    rcases owns_cell (enc := tokV) (fun _ => rfl) hown with ⟨rfl, hnil⟩ | ⟨g, cap, rfl, h1, h2, h3, h4, h5⟩
    · rw [hnil] at hpos; simp at hpos
    have H5 := Lib.hid h5
    clear hcV ht hown h5
    go_wp2_with fail
    obtain ⟨W2, hW2⟩ : ∃ W2, W2 = ((W1.setCell ⟨w.heap.size, 0, none⟩ (.int .i64 0)).setCell ⟨w.heap.size, 1, none⟩ (.int .i64 0)) := ⟨_, rfl⟩
    have t2 := two_turned' W1 w.heap.size (.int .i64 0) (.int .i64 0)
    have b2 : W2.heap[w.heap.size]? = some (.cells #[(.int .i64 0), (.int .i64 0)] 26 (0, 0)) := by rw [hW2]; exact two_set' HcV.out
    rw [← hW2] at t2 ⊢
    have hs2 : W1.heap.size = W2.heap.size := by rw [hW2]; simp
    rw [hs2]
    obtain ⟨W3, hW3⟩ : ∃ W3, W3 = W2.alloc (.cells #[.slice (some ⟨g, 0, none⟩) ts.length cap, (.int .i64 0)] 71) := ⟨_, rfl⟩
    obtain ⟨B, hB⟩ : ∃ B, B = W2.heap.size := ⟨_, rfl⟩
    have t3 : Turned (fun _ => False) W2 W3 := by rw [hW3]; exact (Turned.refl _ _).alloc _
    have b3 : W3.heap[B]? = some (.cells #[.slice (some ⟨g, 0, none⟩) ts.length cap, (.int .i64 0)] 71 (0, 0)) := by rw [hW3, hB]; exact heap_alloc_new _ _
    rw [← hW3, ← hB]
    have hsz : w.heap.size + 1 ≤ g := by simpa using h3
    have hNB : w.heap.size < B := by have := getElem?_lt HcV.out; omega
    have hgB : g < B := by omega
    have hp : PS B g cap ts W3 0 0 := by
      refine ⟨by simpa using b3, ?_, by omega, hTok, hpos, h1, h2⟩
      intro i hi j u hu
      have hj : j < 4 := by
        have := (List.getElem?_eq_some_iff.1 hu).1
        simpa [tokRow, List.getElem?_eq_getElem hi, tokV] using this
      have h6 := H5.out i j hi hj
      simp only [tokRow, List.getElem?_eq_getElem hi] at hu
      rw [hu] at h6
      exact cell_turned t3 id (cell_turned t2 (by omega) h6)
    have tA : Turned (fun b => w.heap.size ≤ b) w W3 := (((hT.mono fun _ h => h.elim).trans (Ht.out.mono fun _ h => h.elim)).trans (t2.mono fun b hb => (by omega))).trans (t3.mono fun _ h => h.elim)
    have hobo : W3.heap[ob]? = w.heap[ob]? := tA.block ob hob (by omega)
    have b4 : W3.heap[w.heap.size]? = some (.cells #[(.int .i64 0), (.int .i64 0)] 26 (0, 0)) := (t3.block _ (getElem?_lt b2) id).trans b2
    have hlo : w.heap.size < W3.heap.size := getElem?_lt b4
    have hNW : w.heap.size < W3.heap.size := hlo
    clear hW2 hW3 t2 t3 b2 b3 x0 x1 x2 x3 Ht H5 HcV hs2 hB
    have HC := hHow ts hL B g cap W3 (by omega) (by omega) hp hobo
    cases hr : r ts with
    | err j c =>
      rw [hr] at HC
      have hE : Hid (runP (LR.ok ts) r = (atT ts j, c)) := by show _ = _; unfold runP; simp only [hr]
      refine HC.mono ?_
      rintro e W4 ⟨ht4, rfl⟩
      have b5 : W4.heap[w.heap.size]? = some (.cells #[(.int .i64 0), (.int .i64 0)] 26 (0, 0)) := (ht4.block _ hlo (by omega)).trans b4
      refine leaves_cons (f := 50) (args := #[.pointer (some ⟨w.heap.size, 0, none⟩)]) (by simp) (by simp [go_sem]) ?_
      refine (catch_stop w.heap.size (atT ts j) c 0 0 [] _ b5).mono ?_
      rintro e u' W5 ⟨rfl, rfl, b6, ht5⟩
      have tB := turned_narrow (C := fun b => w.heap.size ≤ b ∨ b = ob) (((tA.mono fun _ h => .inl h).trans (ht4.mono fun b hb => (by omega))).trans (ht5.mono fun b hb => (by omega))) (D := fun b => b = ob) fun b hb hc => by omega
      refine ⟨_, results_pb rfl _ _ w.heap.size (.int .i64 (atT ts j)) (.int .i64 c) rfl b6, ?_, tB, fun ts2 j2 h1 h2 => ?_⟩
      · rw [hE.out]
      · cases h1; rw [hr] at h2; cases h2
    | ok x j =>
      rw [hr] at HC
      refine HC.mono ?_
      rintro e W4 ⟨ht4, rfl, ⟨nf, hp4⟩, hq4⟩
      have b5 : W4.heap[w.heap.size]? = some (.cells #[(.int .i64 0), (.int .i64 0)] 26 (0, 0)) := (ht4.block _ hlo (by omega)).trans b4
      obtain ⟨u, hu⟩ := some_of_lt hp4.lt
      obtain ⟨c0, c1⟩ := hp4.cells
      obtain ⟨t0, t1, t2, t3⟩ := hp4.tok hu
      obtain ⟨l, hl2⟩ : ∃ l, ts.length - j = l + 1 := ⟨ts.length - j - 1, by have := hp4.lt; omega⟩
      rw [hl2] at c0
      clear hl2
      have Hp4 := Lib.hid hp4
      have Hb5 := Lib.hid b5
      obtain ⟨x0, x1, x2, x3⟩ := two_cells b5
      have tB0 := (tA.mono (C' := fun b => w.heap.size ≤ b ∨ b = ob) fun _ h => .inl h).trans (ht4.mono fun b hb => (by omega))
      by_cases h5k : u.kind = 5
      · have hE : Hid (runP (LR.ok ts) r = (0, 0)) := by show _ = _; unfold runP; simp only [hr, hu, Option.map_some, h5k, if_true]
        have bk : (u.kind != 5) = false := by simpa using h5k
        have bk2 : (u.kind == 5) = true := by simpa using h5k
        clear h5k hp4 b5
        go_wp2_with fail
        have t5 := two_turned' W4 w.heap.size (.int .i64 0) (.int .i64 0)
        have b6 : ((W4.setCell ⟨w.heap.size, 0, none⟩ (.int .i64 0)).setCell ⟨w.heap.size, 1, none⟩ (.int .i64 0)).heap[w.heap.size]? = some (.cells #[(.int .i64 0), (.int .i64 0)] 26 (0, 0)) := two_set' Hb5.out
        refine leaves_cons (f := 50) (args := #[.pointer (some ⟨w.heap.size, 0, none⟩)]) (by simp) (by simp [go_sem]) ?_
        refine (catch_idle w.heap.size _).mono ?_
        rintro e u' W5 ⟨rfl, rfl, rfl⟩
        have tB := turned_narrow (tB0.trans (t5.mono fun b hb => (by omega))) (D := fun b => b = ob) fun b hb hc => by omega
        refine ⟨_, results_pb rfl _ _ w.heap.size (.int .i64 0) (.int .i64 0) rfl b6, ?_, tB, fun ts2 j2 h1 h2 => ⟨W3.heap.size, by omega, hQ _ _ _ _ hq4 t5 fun b hb => by omega⟩⟩
        rw [hE.out]
      · have hE : Hid (runP (LR.ok ts) r = (atT ts j, 5)) := by show _ = _; unfold runP; simp [hr, hu, h5k]
        have bk : (u.kind != 5) = true := by simpa using h5k
        have bk2 : (u.kind == 5) = false := by simpa using h5k
        clear h5k hp4 b5
        go_wp2_with fail
        refine (fail_ps Hp4.out 5).mono ?_
        rintro e W5 ⟨rfl, rfl⟩
        refine leaves_cons (f := 50) (args := #[.pointer (some ⟨w.heap.size, 0, none⟩)]) (by simp) (by simp [go_sem]) ?_
        refine (catch_stop w.heap.size (atT ts j) 5 0 0 [] _ Hb5.out).mono ?_
        rintro e u' W5 ⟨rfl, rfl, b6, ht5⟩
        have tB := turned_narrow (tB0.trans (ht5.mono fun b hb => (by omega))) (D := fun b => b = ob) fun b hb hc => by omega
        refine ⟨_, results_pb rfl _ _ w.heap.size (.int .i64 (atT ts j)) (.int .i64 5) rfl b6, ?_, tB, fun ts2 j2 h1 h2 => ⟨W3.heap.size, by omega, hQ _ _ _ _ hq4 ht5 fun b hb => by omega⟩⟩
        rw [hE.out]
set_option maxRecDepth 20000 in
set_option maxHeartbeats 8000000 in
theorem run_expr (s : ByteArray) (ob : Nat) (w : World) (hv : Vars w.heap.size w) (hob : ob < w.heap.size) (r : List Tok → PR Unit) (Q : Nat → World → Prop)
    (hok : ∀ ts, tokensP s = .ok ts → TokOK ts ∧ 0 < ts.length)
    (hQ : ∀ (lo : Nat) (W W' : World) (C : Nat → Prop), Q lo W → Turned C W W' → (∀ b, C b → b < lo ∧ b ≠ ob) → Q lo W')
    (hHow : ∀ ts, tokensP s = .ok ts → ∀ (B g cap : Nat) (W : World), ob ≠ B → g ≠ ob → PS B g cap ts W 0 0 → W.heap[ob]? = w.heap[ob]? → Calls Tryz.prog 30 #[.pointer (some ⟨B, 0, none⟩), .pointer (some ⟨ob, 0, none⟩)] W (HowR B ob g cap ts W (r ts) (Q W.heap.size))) :
    Calls Tryz.prog 27 #[.string s, .func (Fn.func 30) #[] #[.pointer (some ⟨ob, 0, none⟩)]] w fun e w' => e = .returned (.agg #[(.int .i64 ((runP (tokensP s) r).1)), (.int .i64 ((runP (tokensP s) r).2))]) ∧ Turned (fun b => b = ob) w w' ∧ (∀ ts j, tokensP s = .ok ts → r ts = .ok () j → ∃ lo, w.heap.size ≤ lo ∧ Q lo w') := by
  have hmf : ∀ (fn : Fn) (first cap : Array Value) (w : World), (Instr.makeFunc fn first cap).run Tryz.prog w = .ok (.func fn first cap) w := fun _ _ _ _ => rfl
  have hT : Turned (fun _ => False) w (w.alloc (.cells #[(.int .i64 0), (.int .i64 0)] 26)) := (Turned.refl _ _).alloc _
  have HT := Lib.hid (tokens_any s (w.alloc (.cells #[(.int .i64 0), (.int .i64 0)] 26)) ((hv.turned hT fun g hg => id).mono (by simp)))
  cases hL : tokensP s with
  | err k c =>
    rw [hL] at HT
    have hc0 : (c != 0) = true := by simpa using tokens_err0 hL
    go_enter_defers Tryz.func27, Tryz.ntmps27
    go_wp2_with fail
    refine HT.out.mono ?_
    rintro e W1 ⟨rfl, ht⟩
    have hcV : W1.heap[w.heap.size]? = some (.cells #[(.int .i64 0), (.int .i64 0)] 26 (0, 0)) := (ht.block _ (by simp) id).trans (heap_alloc_new _ _)
    obtain ⟨x0, x1, x2, x3⟩ := two_cells hcV
    have HcV := Lib.hid hcV
    have Ht := Lib.hid ht
    clear hcV ht
    go_wp2_with fail
    have b1 : ((((W1.setCell ⟨w.heap.size, 0, none⟩ (.int .i64 k)).setCell ⟨w.heap.size, 1, none⟩ (.int .i64 c)).setCell ⟨w.heap.size, 0, none⟩ (.int .i64 k)).setCell ⟨w.heap.size, 1, none⟩ (.int .i64 c)).heap[w.heap.size]? = some (.cells #[(.int .i64 k), (.int .i64 c)] 26 (0, 0)) := two_set' (two_set' HcV.out)
    refine ⟨_, results_pb rfl _ _ w.heap.size (.int .i64 k) (.int .i64 c) rfl b1, rfl, ?_, fun ts j h => by cases h⟩
    have tA : Turned (fun b => w.heap.size ≤ b) w ((((W1.setCell ⟨w.heap.size, 0, none⟩ (.int .i64 k)).setCell ⟨w.heap.size, 1, none⟩ (.int .i64 c)).setCell ⟨w.heap.size, 0, none⟩ (.int .i64 k)).setCell ⟨w.heap.size, 1, none⟩ (.int .i64 c)) := (((hT.mono fun _ h => h.elim).trans (Ht.out.mono fun _ h => h.elim)).trans ((two_turned' W1 w.heap.size (.int .i64 k) (.int .i64 c)).mono fun b hb => (by omega))).trans ((two_turned' _ w.heap.size (.int .i64 k) (.int .i64 c)).mono fun b hb => (by omega))
    exact turned_narrow tA fun b hb hc => by omega
  | ok ts =>
    rw [hL] at HT
    obtain ⟨hTok, hpos⟩ := hok ts hL
    go_enter_defers Tryz.func27, Tryz.ntmps27
    go_wp2_with fail
    refine HT.out.mono ?_
    rintro e W1 ⟨v, rfl, hown, ht⟩
    have hcV : W1.heap[w.heap.size]? = some (.cells #[(.int .i64 0), (.int .i64 0)] 26 (0, 0)) := (ht.block _ (by simp) id).trans (heap_alloc_new _ _)
    obtain ⟨x0, x1, x2, x3⟩ := two_cells hcV
    have HcV := Lib.hid hcV
    have Ht := Lib.hid ht
    rcases owns_cell (enc := tokV) (fun _ => rfl) hown with ⟨rfl, hnil⟩ | ⟨g, cap, rfl, h1, h2, h3, h4, h5⟩
    · rw [hnil] at hpos; simp at hpos
    have H5 := Lib.hid h5
    clear hcV ht hown h5
    go_wp2_with fail
    obtain ⟨W2, hW2⟩ : ∃ W2, W2 = ((W1.setCell ⟨w.heap.size, 0, none⟩ (.int .i64 0)).setCell ⟨w.heap.size, 1, none⟩ (.int .i64 0)) := ⟨_, rfl⟩
    have t2 := two_turned' W1 w.heap.size (.int .i64 0) (.int .i64 0)
    have b2 : W2.heap[w.heap.size]? = some (.cells #[(.int .i64 0), (.int .i64 0)] 26 (0, 0)) := by rw [hW2]; exact two_set' HcV.out
    rw [← hW2] at t2 ⊢
    have hs2 : W1.heap.size = W2.heap.size := by rw [hW2]; simp
    rw [hs2]
    obtain ⟨W3, hW3⟩ : ∃ W3, W3 = W2.alloc (.cells #[.slice (some ⟨g, 0, none⟩) ts.length cap, (.int .i64 0)] 71) := ⟨_, rfl⟩
    obtain ⟨B, hB⟩ : ∃ B, B = W2.heap.size := ⟨_, rfl⟩
    have t3 : Turned (fun _ => False) W2 W3 := by rw [hW3]; exact (Turned.refl _ _).alloc _
    have b3 : W3.heap[B]? = some (.cells #[.slice (some ⟨g, 0, none⟩) ts.length cap, (.int .i64 0)] 71 (0, 0)) := by rw [hW3, hB]; exact heap_alloc_new _ _
    rw [← hW3, ← hB]
    have hsz : w.heap.size + 1 ≤ g := by simpa using h3
    have hNB : w.heap.size < B := by have := getElem?_lt HcV.out; omega
    have hgB : g < B := by omega
    have hp : PS B g cap ts W3 0 0 := by
      refine ⟨by simpa using b3, ?_, by omega, hTok, hpos, h1, h2⟩
      intro i hi j u hu
      have hj : j < 4 := by
        have := (List.getElem?_eq_some_iff.1 hu).1
        simpa [tokRow, List.getElem?_eq_getElem hi, tokV] using this
      have h6 := H5.out i j hi hj
      simp only [tokRow, List.getElem?_eq_getElem hi] at hu
      rw [hu] at h6
      exact cell_turned t3 id (cell_turned t2 (by omega) h6)
    have tA : Turned (fun b => w.heap.size ≤ b) w W3 := (((hT.mono fun _ h => h.elim).trans (Ht.out.mono fun _ h => h.elim)).trans (t2.mono fun b hb => (by omega))).trans (t3.mono fun _ h => h.elim)
    have hobo : W3.heap[ob]? = w.heap[ob]? := tA.block ob hob (by omega)
    have b4 : W3.heap[w.heap.size]? = some (.cells #[(.int .i64 0), (.int .i64 0)] 26 (0, 0)) := (t3.block _ (getElem?_lt b2) id).trans b2
    have hlo : w.heap.size < W3.heap.size := getElem?_lt b4
    have hNW : w.heap.size < W3.heap.size := hlo
    clear hW2 hW3 t2 t3 b2 b3 x0 x1 x2 x3 Ht H5 HcV hs2 hB
    have HC := hHow ts hL B g cap W3 (by omega) (by omega) hp hobo
    cases hr : r ts with
    | err j c =>
      rw [hr] at HC
      have hE : Hid (runP (LR.ok ts) r = (atT ts j, c)) := by show _ = _; unfold runP; simp only [hr]
      refine HC.mono ?_
      rintro e W4 ⟨ht4, rfl⟩
      have b5 : W4.heap[w.heap.size]? = some (.cells #[(.int .i64 0), (.int .i64 0)] 26 (0, 0)) := (ht4.block _ hlo (by omega)).trans b4
      refine leaves_cons (f := 50) (args := #[.pointer (some ⟨w.heap.size, 0, none⟩)]) (by simp) (by simp [go_sem]) ?_
      refine (catch_stop w.heap.size (atT ts j) c 0 0 [] _ b5).mono ?_
      rintro e u' W5 ⟨rfl, rfl, b6, ht5⟩
      have tB := turned_narrow (C := fun b => w.heap.size ≤ b ∨ b = ob) (((tA.mono fun _ h => .inl h).trans (ht4.mono fun b hb => (by omega))).trans (ht5.mono fun b hb => (by omega))) (D := fun b => b = ob) fun b hb hc => by omega
      refine ⟨_, results_pb rfl _ _ w.heap.size (.int .i64 (atT ts j)) (.int .i64 c) rfl b6, ?_, tB, fun ts2 j2 h1 h2 => ?_⟩
      · rw [hE.out]
      · cases h1; rw [hr] at h2; cases h2
    | ok x j =>
      rw [hr] at HC
      refine HC.mono ?_
      rintro e W4 ⟨ht4, rfl, ⟨nf, hp4⟩, hq4⟩
      have b5 : W4.heap[w.heap.size]? = some (.cells #[(.int .i64 0), (.int .i64 0)] 26 (0, 0)) := (ht4.block _ hlo (by omega)).trans b4
      obtain ⟨u, hu⟩ := some_of_lt hp4.lt
      obtain ⟨c0, c1⟩ := hp4.cells
      obtain ⟨t0, t1, t2, t3⟩ := hp4.tok hu
      obtain ⟨l, hl2⟩ : ∃ l, ts.length - j = l + 1 := ⟨ts.length - j - 1, by have := hp4.lt; omega⟩
      rw [hl2] at c0
      clear hl2
      have Hp4 := Lib.hid hp4
      have Hb5 := Lib.hid b5
      obtain ⟨x0, x1, x2, x3⟩ := two_cells b5
      have tB0 := (tA.mono (C' := fun b => w.heap.size ≤ b ∨ b = ob) fun _ h => .inl h).trans (ht4.mono fun b hb => (by omega))
      by_cases h5k : u.kind = 5
      · have hE : Hid (runP (LR.ok ts) r = (0, 0)) := by show _ = _; unfold runP; simp only [hr, hu, Option.map_some, h5k, if_true]
        have bk : (u.kind != 5) = false := by simpa using h5k
        have bk2 : (u.kind == 5) = true := by simpa using h5k
        clear h5k hp4 b5
        go_wp2_with fail
        have t5 := two_turned' W4 w.heap.size (.int .i64 0) (.int .i64 0)
        have b6 : ((W4.setCell ⟨w.heap.size, 0, none⟩ (.int .i64 0)).setCell ⟨w.heap.size, 1, none⟩ (.int .i64 0)).heap[w.heap.size]? = some (.cells #[(.int .i64 0), (.int .i64 0)] 26 (0, 0)) := two_set' Hb5.out
        refine leaves_cons (f := 50) (args := #[.pointer (some ⟨w.heap.size, 0, none⟩)]) (by simp) (by simp [go_sem]) ?_
        refine (catch_idle w.heap.size _).mono ?_
        rintro e u' W5 ⟨rfl, rfl, rfl⟩
        have tB := turned_narrow (tB0.trans (t5.mono fun b hb => (by omega))) (D := fun b => b = ob) fun b hb hc => by omega
        refine ⟨_, results_pb rfl _ _ w.heap.size (.int .i64 0) (.int .i64 0) rfl b6, ?_, tB, fun ts2 j2 h1 h2 => ⟨W3.heap.size, by omega, hQ _ _ _ _ hq4 t5 fun b hb => by omega⟩⟩
        rw [hE.out]
      · have hE : Hid (runP (LR.ok ts) r = (atT ts j, 5)) := by show _ = _; unfold runP; simp [hr, hu, h5k]
        have bk : (u.kind != 5) = true := by simpa using h5k
        have bk2 : (u.kind == 5) = false := by simpa using h5k
        clear h5k hp4 b5
        go_wp2_with fail
        refine (fail_ps Hp4.out 5).mono ?_
        rintro e W5 ⟨rfl, rfl⟩
        refine leaves_cons (f := 50) (args := #[.pointer (some ⟨w.heap.size, 0, none⟩)]) (by simp) (by simp [go_sem]) ?_
        refine (catch_stop w.heap.size (atT ts j) 5 0 0 [] _ Hb5.out).mono ?_
        rintro e u' W5 ⟨rfl, rfl, b6, ht5⟩
        have tB := turned_narrow (tB0.trans (ht5.mono fun b hb => (by omega))) (D := fun b => b = ob) fun b hb hc => by omega
        refine ⟨_, results_pb rfl _ _ w.heap.size (.int .i64 (atT ts j)) (.int .i64 5) rfl b6, ?_, tB, fun ts2 j2 h1 h2 => ⟨W3.heap.size, by omega, hQ _ _ _ _ hq4 ht5 fun b hb => by omega⟩⟩
        rw [hE.out]
end Go.Proofs.YtjijdgkccfeeaaaGreatDoor
namespace Go.Proofs.YtjijdgkccfeeaaaGreatDoor
open Go Go.Proofs Go.RowKit
attribute [local go_sem] Oper.semAt_some
inductive PE (α : Type) where
  | ok (x : α)
  | bad (a c : Int)
def readE (ts : List Tok) : PR Ex := (runF ts (ts.length * 16 + 13) .expr 0 1).getD (.err 0 5)
def readF (ts : List Tok) : PR (List Fm) := (formsF ts (ts.length * 32 + 17) 0 0 []).getD (.err 0 5)
def endP {α : Type} (ts : List Tok) : PR α → PE α
  | .err j c => .bad (atT ts j) c
  | .ok x j => if (ts[j]?).map (·.kind) = some 5 then .ok x else .bad (atT ts j) 5
def exprP (s : ByteArray) : PE Ex := match tokensP s with
  | .err k c => .bad k c
  | .ok ts => endP ts (readE ts)
def formsP (s : ByteArray) : PE (List Fm) := match tokensP s with
  | .err k c => .bad k c
  | .ok ts => endP ts (readF ts)
theorem readE_some {ts : List Tok} (ok : TokOK ts) (h : 0 < ts.length) : runF ts (ts.length * 16 + 13) .expr 0 1 = some (readE ts) := by
  obtain ⟨r, hr⟩ := run_total ok (ts.length * 16 + 13) .expr 0 1 trivial h (by simp [measQ, rankQ])
  unfold readE
  rw [hr]; rfl
theorem readF_some {ts : List Tok} (ok : TokOK ts) (h : 0 < ts.length) : formsF ts (ts.length * 32 + 17) 0 0 [] = some (readF ts) := by
  obtain ⟨r, hr⟩ := forms_total ok (ts.length * 32 + 17) 0 0 [] h (by omega)
  unfold readF
  rw [hr]; rfl
theorem endP_err {α : Type} {ts : List Tok} {k : Nat} {r : PR α} {a c : Int} (hf : Fits ts.length k r) (h : endP ts r = .bad a c) : c ≠ 0 := by
  cases r with
  | err j d => cases h; rcases hf.2 with h | h <;> omega
  | ok x j =>
    simp only [endP] at h
    split at h
    · cases h
    · cases h; decide
theorem exprP_err {s : ByteArray} {a c : Int} (h : exprP s = .bad a c) : c ≠ 0 := by
  unfold exprP at h
  split at h
  · rename_i hT; cases h; exact tokens_err0 hT
  · rename_i ts hT
    obtain ⟨h1, h2, -⟩ := tokens_good hT
    exact endP_err (run_fits h1 _ _ _ _ _ (readE_some h1 h2)) h
theorem formsP_err {s : ByteArray} {a c : Int} (h : formsP s = .bad a c) : c ≠ 0 := by
  unfold formsP at h
  split at h
  · rename_i hT; cases h; exact tokens_err0 hT
  · rename_i ts hT
    obtain ⟨h1, h2, -⟩ := tokens_good hT
    exact endP_err (forms_fits h1 _ _ _ _ _ (readF_some h1 h2)) h
theorem runP_bad {α : Type} {s : ByteArray} {rd : List Tok → PR α} {a c : Int} (h : (match tokensP s with | .err k c => PE.bad k c | .ok ts => endP ts (rd ts)) = PE.bad a c) : runP (tokensP s) (fun ts => (rd ts).unit) = (a, c) := by
  cases hT : tokensP s with
  | err k d => rw [hT] at h; cases h; rfl
  | ok ts =>
    rw [hT] at h
    simp only [runP] at h ⊢
    cases hr : rd ts with
    | err j d => rw [hr] at h; cases h; rfl
    | ok x j =>
      rw [hr] at h
      simp only [PR.unit, endP] at h ⊢
      split
      · rename_i h5; rw [if_pos h5] at h; cases h
      · rename_i h5; rw [if_neg h5] at h; cases h; rfl
theorem runP_ok {α : Type} {s : ByteArray} {rd : List Tok → PR α} {x : α} (h : (match tokensP s with | .err k c => PE.bad k c | .ok ts => endP ts (rd ts)) = PE.ok x) : runP (tokensP s) (fun ts => (rd ts).unit) = (0, 0) ∧ ∃ ts j, tokensP s = .ok ts ∧ rd ts = .ok x j := by
  cases hT : tokensP s with
  | err k d => rw [hT] at h; cases h
  | ok ts =>
    rw [hT] at h
    simp only [runP] at h ⊢
    cases hr : rd ts with
    | err j d => rw [hr] at h; cases h
    | ok y j =>
      rw [hr] at h
      simp only [PR.unit, endP] at h ⊢
      split
      · rename_i h5; rw [if_pos h5] at h; cases h; exact ⟨rfl, ts, j, rfl, hr⟩
      · rename_i h5; rw [if_neg h5] at h; cases h
theorem exBox_moves (ob lo : Nat) (r : PR Ex) (W W' : World) (C : Nat → Prop) (h : ExQ ob lo r W) (ht : Turned C W W') (hC : ∀ b, C b → b < lo ∧ b ≠ ob) : ExQ ob lo r W' := by
  cases r with
  | err => trivial
  | ok x j =>
    obtain ⟨p, c, h1, h2⟩ := h
    exact ⟨p, c, (ht.block ob (getElem?_lt h1) (fun hc => (hC _ hc).2 rfl)).trans h1, h2.move ht (fun b hb hc => by have := (hC b hc).1; omega) (fun _ hb _ => hb)⟩
theorem fmBox_moves (ob lo : Nat) (r : PR (List Fm)) (W W' : World) (C : Nat → Prop) (h : FmQ ob lo r W) (ht : Turned C W W') (hC : ∀ b, C b → b < lo ∧ b ≠ ob) : FmQ ob lo r W' := by
  cases r with
  | err => trivial
  | ok x j =>
    obtain ⟨p, c, h1, h2⟩ := h
    exact ⟨p, c, (ht.block ob (getElem?_lt h1) (fun hc => (hC _ hc).2 rfl)).trans h1, h2.move ht (fun b hb hc => by have := (hC b hc).1; omega) (fun _ hb _ => hb)⟩
theorem run_expr_at (s : ByteArray) (ob : Nat) (w : World) (hv : Vars w.heap.size w) (a b c d e : Value) (hbox : w.heap[ob]? = some (.cells #[a, b, c, d, e] 31 (0, 0))) :
    Calls Tryz.prog 27 #[.string s, .func (Fn.func 30) #[] #[.pointer (some ⟨ob, 0, none⟩)]] w fun e w' => Turned (fun b => b = ob) w w' ∧ match exprP s with
      | .bad a c => e = .returned (.agg #[(.int .i64 a), (.int .i64 c)])
      | .ok x => e = .returned (.agg #[(.int .i64 0), (.int .i64 0)]) ∧ ExBox ob w.heap.size x w' := by
  refine (run_expr s ob w hv (getElem?_lt hbox) (fun ts => (readE ts).unit) (fun lo W => ∀ ts, tokensP s = .ok ts → ExQ ob lo (readE ts) W) (fun ts h => ⟨(tokens_good h).1, (tokens_good h).2.1⟩) (fun lo W W' C h ht hC ts hts => exBox_moves ob lo _ W W' C (h ts hts) ht hC) ?_).mono ?_
  · intro ts hts B g cap W h1 h2 hp hb
    obtain ⟨g1, g2, -⟩ := tokens_good hts
    refine (exprE_any (ts.length * 16 + 13) 0 _ W 0 (readE_some g1 g2) hp ob h1 h2 a b c d e (hb.trans hbox)).mono ?_
    rintro e w' ⟨ht, hr⟩
    refine ⟨ht, ?_⟩
    cases hrd : readE ts with
    | err j c => rw [hrd] at hr; exact hr
    | ok x j =>
      rw [hrd] at hr
      obtain ⟨q1, q2, q3⟩ := hr
      exact ⟨q1, q2, fun ts2 h2 => by rw [hts] at h2; cases h2; rw [hrd]; exact q3⟩
  · rintro e w' ⟨rfl, ht, hq⟩
    refine ⟨ht, ?_⟩
    cases hE : exprP s with
    | bad a c => simp only; rw [runP_bad (rd := readE) hE]
    | ok x =>
      obtain ⟨h1, ts, j, h2, h3⟩ := runP_ok (rd := readE) hE
      simp only
      refine ⟨by rw [h1], ?_⟩
      obtain ⟨lo, hlo, hq2⟩ := hq ts j h2 (by simp only [h3]; rfl)
      have := hq2 ts h2
      rw [h3] at this
      obtain ⟨p, c, q1, q2⟩ := this
      exact ⟨p, c, q1, q2.move (Turned.refl (fun _ => False) _) (fun _ _ => id) (fun b hb _ => by omega)⟩
theorem run_forms_at (s : ByteArray) (ob : Nat) (w : World) (hv : Vars w.heap.size w) (hbox : w.heap[ob]? = some (.cells #[.slice none 0 0] 23 (0, 0))) :
    Calls Tryz.prog 27 #[.string s, .func (Fn.func 28) #[] #[.pointer (some ⟨ob, 0, none⟩)]] w fun e w' => Turned (fun b => b = ob) w w' ∧ match formsP s with
      | .bad a c => e = .returned (.agg #[(.int .i64 a), (.int .i64 c)])
      | .ok x => e = .returned (.agg #[(.int .i64 0), (.int .i64 0)]) ∧ FmBox ob w.heap.size x w' := by
  refine (run_forms s ob w hv (getElem?_lt hbox) (fun ts => (readF ts).unit) (fun lo W => ∀ ts, tokensP s = .ok ts → FmQ ob lo (readF ts) W) (fun ts h => ⟨(tokens_good h).1, (tokens_good h).2.1⟩) (fun lo W W' C h ht hC ts hts => fmBox_moves ob lo _ W W' C (h ts hts) ht hC) ?_).mono ?_
  · intro ts hts B g cap W h1 h2 hp hb
    obtain ⟨g1, g2, -⟩ := tokens_good hts
    refine (formsE_any (ts.length * 32 + 17) 0 _ W (readF_some g1 g2) hp ob h1 h2 (hb.trans hbox)).mono ?_
    rintro e w' ⟨ht, hr⟩
    refine ⟨ht, ?_⟩
    cases hrd : readF ts with
    | err j c => rw [hrd] at hr; exact hr
    | ok x j =>
      rw [hrd] at hr
      obtain ⟨q1, q2, q3⟩ := hr
      exact ⟨q1, q2, fun ts2 h2 => by rw [hts] at h2; cases h2; rw [hrd]; exact q3⟩
  · rintro e w' ⟨rfl, ht, hq⟩
    refine ⟨ht, ?_⟩
    cases hE : formsP s with
    | bad a c => simp only; rw [runP_bad (rd := readF) hE]
    | ok x =>
      obtain ⟨h1, ts, j, h2, h3⟩ := runP_ok (rd := readF) hE
      simp only
      refine ⟨by rw [h1], ?_⟩
      obtain ⟨lo, hlo, hq2⟩ := hq ts j h2 (by simp only [h3]; rfl)
      have := hq2 ts h2
      rw [h3] at this
      obtain ⟨p, c, q1, q2⟩ := this
      exact ⟨p, c, q1, q2.move (Turned.refl (fun _ => False) _) (fun _ _ => id) (fun b hb _ => by omega)⟩
theorem drew_heap (w : World) : w.drew.heap = w.heap := rfl
theorem results_xp (tmps : Array Value) (w : World) (N M : Nat) (x y z u v a b : Value) (hN : tmps.getD 2 undef = .pointer (some ⟨N, 0, none⟩)) (hM : tmps.getD 3 undef = .pointer (some ⟨M, 0, none⟩)) (h1 : w.heap[N]? = some (.cells #[x, y, z, u, v] 31 (0, 0))) (h2 : w.heap[M]? = some (.cells #[a, b] 26 (0, 0))) :
    (results Tryz.f10 tmps).run Tryz.prog w = .ok (.tuple #[.agg #[x, y, z, u, v], .agg #[a, b]]) w := by
  have hN' : tmps[2]?.getD undef = .pointer (some ⟨N, 0, none⟩) := by simpa using hN
  have hM' : tmps[3]?.getD undef = .pointer (some ⟨M, 0, none⟩) := by simpa using hM
  simp [results, hN', hM', asAddr, run_loadVar_row w N 31 31 #[x, y, z, u, v] (0, 0) _ h1 Tryz.underlying31 rfl expr_size, run_loadVar_row w M 26 26 #[a, b] (0, 0) _ h2 Tryz.underlying26 rfl problem_size2]
def ExprR (s : ByteArray) (w : World) (e : Ending) (w' : World) : Prop :=
  Turned (fun _ => False) w w' ∧ match exprP s with
    | .bad a c => e = .returned (.tuple #[.agg #[(.int .i64 0), (.int .i64 0), .string ⟨#[]⟩, .slice none 0 0, (.int .i64 0)], .agg #[(.int .i64 a), (.int .i64 c)]])
    | .ok x => ∃ p c, e = .returned (.tuple #[.agg #[(.int .i64 (x.op)), (.int .i64 (x.n)), .string x.s, .slice p x.kids.length c, (.int .i64 (x.at_))], .agg #[(.int .i64 0), (.int .i64 0)]]) ∧ KidsAt w' (fun b => w.heap.size ≤ b) x.kids (.slice p x.kids.length c)
set_option maxRecDepth 20000 in
set_option maxHeartbeats 8000000 in
theorem expr_any (s : ByteArray) (w : World) (hv : Vars w.heap.size w) : Calls Tryz.prog 10 #[.string s] w (ExprR s w) := by
  have hmf : ∀ (fn : Fn) (first cap : Array Value) (w : World), (Instr.makeFunc fn first cap).run Tryz.prog w = .ok (.func fn first cap) w := fun _ _ _ _ => rfl
  obtain ⟨W1, hW1⟩ : ∃ W1, W1 = w.alloc (.cells #[(.int .i64 0), (.int .i64 0), .string ⟨#[]⟩, .slice none 0 0, (.int .i64 0)] 31) := ⟨_, rfl⟩
  obtain ⟨W2, hW2⟩ : ∃ W2, W2 = W1.alloc (.cells #[(.int .i64 0), (.int .i64 0)] 26) := ⟨_, rfl⟩
  obtain ⟨W3, hW3⟩ : ∃ W3, W3 = W2.alloc (.cells #[(.int .i64 0), (.int .i64 0), .string ⟨#[]⟩, .slice none 0 0, (.int .i64 0)] 31) := ⟨_, rfl⟩
  have s1 : W1.heap.size = w.heap.size + 1 := by rw [hW1]; simp
  have s2 : W2.heap.size = w.heap.size + 1 + 1 := by rw [hW2]; simp [s1]
  have t3 : Turned (fun _ => False) w W3 := by rw [hW3, hW2, hW1]; exact (((Turned.refl _ w).alloc _).alloc _).alloc _
  have b1 : W3.heap[w.heap.size]? = some (.cells #[(.int .i64 0), (.int .i64 0), .string ⟨#[]⟩, .slice none 0 0, (.int .i64 0)] 31 (0, 0)) := by
    rw [hW3, hao _ _ (by omega), hW2, hao _ _ (by omega), hW1]; exact heap_alloc_new _ _
  have b2 : W3.heap[w.heap.size + 1]? = some (.cells #[(.int .i64 0), (.int .i64 0)] 26 (0, 0)) := by
    rw [hW3, hao _ _ (by omega), hW2, ← s1]; exact heap_alloc_new _ _
  have b3 : W3.heap[w.heap.size + 1 + 1]? = some (.cells #[(.int .i64 0), (.int .i64 0), .string ⟨#[]⟩, .slice none 0 0, (.int .i64 0)] 31 (0, 0)) := by
    rw [hW3, ← s2]; exact heap_alloc_new _ _
  have HR := run_expr_at s (w.heap.size + 1 + 1) W3 ((hv.turned t3 fun g hg => id).mono t3.size) _ _ _ _ _ b3
  have s33 : w.heap.size + 1 + 1 < W3.heap.size := getElem?_lt b3
  go_enter Tryz.func10, Tryz.ntmps10
  go_wp2_with fail
  rw [← hW1, ← hW2, ← hW3]
  clear hW1 hW2 hW3 b3
  unfold ExprR
  cases hE : exprP s with
  | bad a c =>
    rw [hE] at HR
    have hc : (c != 0) = true := by simpa using exprP_err hE
    refine HR.mono ?_
    rintro e W4 ⟨ht, rfl⟩
    go_wp2_with fail
    obtain ⟨W5, hW5⟩ : ∃ W5, W5 = W4.alloc (.cells #[(.int .i64 a), (.int .i64 c)] 26) := ⟨_, rfl⟩
    obtain ⟨D, hD⟩ : ∃ D, D = W4.heap.size := ⟨_, rfl⟩
    have t5 : Turned (fun _ => False) W4 W5 := by rw [hW5]; exact (Turned.refl _ _).alloc _
    have d5 : W5.heap[D]? = some (.cells #[(.int .i64 a), (.int .i64 c)] 26 (0, 0)) := by rw [hW5, hD]; exact heap_alloc_new _ _
    rw [← hW5, ← hD]
    have s3 := ht.size
    have l1 := getElem?_lt b1
    have l2 := getElem?_lt b2
    have e1 : W5.heap[w.heap.size]? = some (.cells #[(.int .i64 0), (.int .i64 0), .string ⟨#[]⟩, .slice none 0 0, (.int .i64 0)] 31 (0, 0)) := (t5.block _ (by omega) id).trans ((ht.block _ l1 (by omega)).trans b1)
    have e2 : W5.heap[w.heap.size + 1]? = some (.cells #[(.int .i64 0), (.int .i64 0)] 26 (0, 0)) := (t5.block _ (by omega) id).trans ((ht.block _ l2 (by omega)).trans b2)
    have tA : Turned (fun b => w.heap.size ≤ b) w W5 := ((t3.mono fun _ h => h.elim).trans (ht.mono fun b hb => (by omega))).trans (t5.mono fun _ h => h.elim)
    obtain ⟨rb, hrb⟩ : ∃ rb, rb = w.heap.size := ⟨_, rfl⟩
    have hDl : rb + 1 < D := by omega
    rw [← hrb] at e1 e2 tA ⊢
    have n1 : rb ≠ D := by omega
    have n2 : rb + 1 ≠ D := by omega
    have n3 : D ≠ rb := by omega
    have n4 : D ≠ rb + 1 := by omega
    obtain ⟨d0, d1, d2, d3⟩ := two_cells d5
    obtain ⟨r0, r1, r2, r3, r4⟩ := cellsFive e1
    have fr := free_of_box e1
    obtain ⟨q0, q1, q2, q3⟩ := two_cells e2
    have drew5 : True := trivial
    have T := Lib.hid tA
    have E1 := Lib.hid e1
    have E2 := Lib.hid e2
    have hrw := Lib.hid hrb
    clear hW5 hD ht t5 d5 s1 s2 b1 b2 t3 tA e1 e2 hrb s3 l1 l2 hv
    refine region_R (R := fun j V => j < 3 → (fun V : World => V.cell? ⟨D, 0, none⟩ = some (.int .i64 a) ∧ V.cell? ⟨D, 1, none⟩ = some (.int .i64 c)) V) (by kernel_rfl) ?_
    refine wpAnyR_take (S := (fun V : World => V.cell? ⟨D, 0, none⟩ = some (.int .i64 a) ∧ V.cell? ⟨D, 1, none⟩ = some (.int .i64 c))) (early := fun j => decide (j < 3)) (i := 0) (v := .agg #[(.int .i64 0), (.int .i64 0), .string ⟨#[]⟩, .slice none 0 0, (.int .i64 0)]) rfl (by kernel_rfl) (by kernel_rfl) (by kernel_rfl) (by kernel_rfl) (fun _ _ he h => h (of_decide_eq_true he)) (fun _ h _ => h) (fun _ _ _ h => h) (Or.inl ⟨by rfl, ?_⟩) ⟨d0, d1⟩ ?_
    · rintro V ⟨v0, v1⟩
      go_simp
    simp only [List.getElem_toArray, List.getElem_cons_zero, Act.put, List.setIfInBounds_toArray, List.set_cons_zero, List.set_cons_succ]
    refine wpAnyR_take (S := (fun V : World => V.cell? ⟨D, 0, none⟩ = some (.int .i64 a) ∧ V.cell? ⟨D, 1, none⟩ = some (.int .i64 c))) (early := fun j => decide (j < 3)) (i := 1) (v := (.agg #[(.int .i64 a), (.int .i64 c)])) rfl (by kernel_rfl) (by kernel_rfl) (by kernel_rfl) (by kernel_rfl) (fun _ _ he h => h (of_decide_eq_true he)) (fun _ h _ => h) (fun _ _ _ h => h) (Or.inl ⟨by rfl, ?_⟩) ⟨d0, d1⟩ ?_
    · rintro V ⟨v0, v1⟩
      go_simp
    simp only [List.getElem_toArray, List.getElem_cons_zero, List.getElem_cons_succ, Act.put, List.setIfInBounds_toArray, List.set_cons_zero, List.set_cons_succ]
    refine wpAnyR_all (rs := [2]) (by kernel_rfl) (by simp) (fun i2 hi2 => ?_)
    obtain rfl : i2 = 2 := by simpa using hi2
    clear hi2
    refine wpOp_plain rfl rfl ?_
    simp only [List.getElem_toArray, List.getElem_cons_zero, List.getElem_cons_succ]
    go_simp
    refine wpAnyR_all (rs := [3]) (by kernel_rfl) (by simp) (fun i2 hi2 => ?_)
    obtain rfl : i2 = 3 := by simpa using hi2
    clear hi2
    refine wpOp_plain rfl rfl ?_
    simp only [List.getElem_toArray, List.getElem_cons_zero, List.getElem_cons_succ]
    go_simp
    refine wpAnyR_done (by kernel_rfl) ?_ _
    go_wp2_with fail
    have t6 := five_turned W5 rb (.int .i64 0) (.int .i64 0) (.string ⟨#[]⟩) (.slice none 0 0) (.int .i64 0)
    have g6 := five_set (x := (.int .i64 0)) (y := (.int .i64 0)) (z := (.string ⟨#[]⟩)) (u := (.slice none 0 0)) (v := (.int .i64 0)) E1.out
    have t7 := two_turned'  (((((W5.setCell ⟨rb, 0, none⟩ (.int .i64 0)).setCell ⟨rb, 1, none⟩ (.int .i64 0)).setCell ⟨rb, 2, none⟩ (.string ⟨#[]⟩)).setCell ⟨rb, 3, none⟩ (.slice none 0 0)).setCell ⟨rb, 4, none⟩ (.int .i64 0)) (rb + 1) (.int .i64 a) (.int .i64 c)
    have g7 := two_set' (x := (.int .i64 a)) (y := (.int .i64 c)) ((t6.block _ (getElem?_lt E2.out) (by omega)).trans E2.out)
    have h7 := (t7.block rb (getElem?_lt g6) (by omega)).trans g6
    obtain ⟨Wz, hWz⟩ : ∃ Wz, Wz = (((((((W5.setCell ⟨rb, 0, none⟩ (.int .i64 0)).setCell ⟨rb, 1, none⟩ (.int .i64 0)).setCell ⟨rb, 2, none⟩ (.string ⟨#[]⟩)).setCell ⟨rb, 3, none⟩ (.slice none 0 0)).setCell ⟨rb, 4, none⟩ (.int .i64 0)).setCell ⟨rb + 1, 0, none⟩ (.int .i64 a)).setCell ⟨rb + 1, 1, none⟩ (.int .i64 c)).drew := ⟨_, rfl⟩
    have g8 : Wz.heap[rb + 1]? = some (.cells #[(.int .i64 a), (.int .i64 c)] 26 (0, 0)) := by rw [hWz, drew_heap]; exact g7
    have h8 : Wz.heap[rb]? = some (.cells #[(.int .i64 0), (.int .i64 0), .string ⟨#[]⟩, .slice none 0 0, (.int .i64 0)] 31 (0, 0)) := by rw [hWz, drew_heap]; exact h7
    have t8 : Turned (fun b => w.heap.size ≤ b) w Wz := by rw [hWz, ← hrw.out]; exact ((T.out.trans (t6.mono fun b hb => (by omega))).trans (t7.mono fun b hb => (by omega))).drew
    rw [← hWz]
    clear hWz t6 t7 g6 g7 h7
    refine bodyPost_ret (results_xp _ Wz rb (rb + 1) (.int .i64 0) (.int .i64 0) (.string ⟨#[]⟩) (.slice none 0 0) (.int .i64 0) (.int .i64 a) (.int .i64 c) rfl rfl h8 g8) rfl ?_
    exact ⟨turned_narrow t8 fun b hb hc => absurd hb (by omega), by rw [hE]⟩
  | ok x =>
    rw [hE] at HR
    refine HR.mono ?_
    rintro e W4 ⟨ht, rfl, p, c, hb, hk⟩
    go_wp2_with fail
    obtain ⟨W5, hW5⟩ : ∃ W5, W5 = W4.alloc (.cells #[(.int .i64 0), (.int .i64 0)] 26) := ⟨_, rfl⟩
    obtain ⟨D, hD⟩ : ∃ D, D = W4.heap.size := ⟨_, rfl⟩
    have t5 : Turned (fun _ => False) W4 W5 := by rw [hW5]; exact (Turned.refl _ _).alloc _
    have d5 : W5.heap[D]? = some (.cells #[(.int .i64 0), (.int .i64 0)] 26 (0, 0)) := by rw [hW5, hD]; exact heap_alloc_new _ _
    rw [← hW5, ← hD]
    have s3 := ht.size
    have l1 := getElem?_lt b1
    have l2 := getElem?_lt b2
    have e1 : W5.heap[w.heap.size]? = some (.cells #[(.int .i64 0), (.int .i64 0), .string ⟨#[]⟩, .slice none 0 0, (.int .i64 0)] 31 (0, 0)) := (t5.block _ (by omega) id).trans ((ht.block _ l1 (by omega)).trans b1)
    have e2 : W5.heap[w.heap.size + 1]? = some (.cells #[(.int .i64 0), (.int .i64 0)] 26 (0, 0)) := (t5.block _ (by omega) id).trans ((ht.block _ l2 (by omega)).trans b2)
    have tA : Turned (fun b => w.heap.size ≤ b) w W5 := ((t3.mono fun _ h => h.elim).trans (ht.mono fun b hb => (by omega))).trans (t5.mono fun _ h => h.elim)
    have e3 := (t5.block _ (getElem?_lt hb) id).trans hb
    have hk5 := hk.move t5 (fun _ _ => id) (M := fun b => w.heap.size + 1 + 1 < b) (fun b hb _ => by omega)
    obtain ⟨rb, hrb⟩ : ∃ rb, rb = w.heap.size := ⟨_, rfl⟩
    have hDl : rb + 1 < D := by omega
    rw [← hrb] at e1 e2 tA ⊢
    rw [← hrb] at e3 hk5
    obtain ⟨o0, o1, o2, o3, o4⟩ := cellsFive e3
    have HK := Lib.hid hk5
    have n1 : rb ≠ D := by omega
    have n2 : rb + 1 ≠ D := by omega
    have n3 : D ≠ rb := by omega
    have n4 : D ≠ rb + 1 := by omega
    obtain ⟨d0, d1, d2, d3⟩ := two_cells d5
    obtain ⟨r0, r1, r2, r3, r4⟩ := cellsFive e1
    have fr := free_of_box e1
    obtain ⟨q0, q1, q2, q3⟩ := two_cells e2
    have drew5 : True := trivial
    have T := Lib.hid tA
    have E1 := Lib.hid e1
    have E2 := Lib.hid e2
    have hrw := Lib.hid hrb
    clear hk5 hk hb e3 hW5 hD ht t5 d5 s1 s2 b1 b2 t3 tA e1 e2 hrb s3 l1 l2 hv
    refine region_R (R := fun j V => j < 3 → (fun V : World => V.cell? ⟨(rb + 1 + 1), 0, none⟩ = some (.int .i64 (x.op)) ∧ V.cell? ⟨(rb + 1 + 1), 1, none⟩ = some (.int .i64 (x.n)) ∧ V.cell? ⟨(rb + 1 + 1), 2, none⟩ = some (.string x.s) ∧ V.cell? ⟨(rb + 1 + 1), 3, none⟩ = some (.slice p x.kids.length c) ∧ V.cell? ⟨(rb + 1 + 1), 4, none⟩ = some (.int .i64 (x.at_)) ∧ V.cell? ⟨D, 0, none⟩ = some (.int .i64 0) ∧ V.cell? ⟨D, 1, none⟩ = some (.int .i64 0)) V) (by kernel_rfl) ?_
    refine wpAnyR_take (S := (fun V : World => V.cell? ⟨(rb + 1 + 1), 0, none⟩ = some (.int .i64 (x.op)) ∧ V.cell? ⟨(rb + 1 + 1), 1, none⟩ = some (.int .i64 (x.n)) ∧ V.cell? ⟨(rb + 1 + 1), 2, none⟩ = some (.string x.s) ∧ V.cell? ⟨(rb + 1 + 1), 3, none⟩ = some (.slice p x.kids.length c) ∧ V.cell? ⟨(rb + 1 + 1), 4, none⟩ = some (.int .i64 (x.at_)) ∧ V.cell? ⟨D, 0, none⟩ = some (.int .i64 0) ∧ V.cell? ⟨D, 1, none⟩ = some (.int .i64 0))) (early := fun j => decide (j < 3)) (i := 0) (v := (.agg #[(.int .i64 (x.op)), (.int .i64 (x.n)), .string x.s, .slice p x.kids.length c, (.int .i64 (x.at_))])) rfl (by kernel_rfl) (by kernel_rfl) (by kernel_rfl) (by kernel_rfl) (fun _ _ he h => h (of_decide_eq_true he)) (fun _ h _ => h) (fun _ _ _ h => h) (Or.inl ⟨by rfl, ?_⟩) ⟨o0, o1, o2, o3, o4, d0, d1⟩ ?_
    · rintro V ⟨v0, v1, v2, v3, v4, v5, v6⟩
      go_simp
    simp only [List.getElem_toArray, List.getElem_cons_zero, Act.put, List.setIfInBounds_toArray, List.set_cons_zero, List.set_cons_succ]
    refine wpAnyR_take (S := (fun V : World => V.cell? ⟨(rb + 1 + 1), 0, none⟩ = some (.int .i64 (x.op)) ∧ V.cell? ⟨(rb + 1 + 1), 1, none⟩ = some (.int .i64 (x.n)) ∧ V.cell? ⟨(rb + 1 + 1), 2, none⟩ = some (.string x.s) ∧ V.cell? ⟨(rb + 1 + 1), 3, none⟩ = some (.slice p x.kids.length c) ∧ V.cell? ⟨(rb + 1 + 1), 4, none⟩ = some (.int .i64 (x.at_)) ∧ V.cell? ⟨D, 0, none⟩ = some (.int .i64 0) ∧ V.cell? ⟨D, 1, none⟩ = some (.int .i64 0))) (early := fun j => decide (j < 3)) (i := 1) (v := (.agg #[(.int .i64 0), (.int .i64 0)])) rfl (by kernel_rfl) (by kernel_rfl) (by kernel_rfl) (by kernel_rfl) (fun _ _ he h => h (of_decide_eq_true he)) (fun _ h _ => h) (fun _ _ _ h => h) (Or.inl ⟨by rfl, ?_⟩) ⟨o0, o1, o2, o3, o4, d0, d1⟩ ?_
    · rintro V ⟨v0, v1, v2, v3, v4, v5, v6⟩
      go_simp
    simp only [List.getElem_toArray, List.getElem_cons_zero, List.getElem_cons_succ, Act.put, List.setIfInBounds_toArray, List.set_cons_zero, List.set_cons_succ]
    refine wpAnyR_all (rs := [2]) (by kernel_rfl) (by simp) (fun i2 hi2 => ?_)
    obtain rfl : i2 = 2 := by simpa using hi2
    clear hi2
    refine wpOp_plain rfl rfl ?_
    simp only [List.getElem_toArray, List.getElem_cons_zero, List.getElem_cons_succ]
    go_simp
    refine wpAnyR_all (rs := [3]) (by kernel_rfl) (by simp) (fun i2 hi2 => ?_)
    obtain rfl : i2 = 3 := by simpa using hi2
    clear hi2
    refine wpOp_plain rfl rfl ?_
    simp only [List.getElem_toArray, List.getElem_cons_zero, List.getElem_cons_succ]
    go_simp
    refine wpAnyR_done (by kernel_rfl) ?_ _
    go_wp2_with fail
    have t6 := five_turned W5 rb (.int .i64 (x.op)) (.int .i64 (x.n)) (.string x.s) (.slice p x.kids.length c) (.int .i64 (x.at_))
    have g6 := five_set (x := (.int .i64 (x.op))) (y := (.int .i64 (x.n))) (z := (.string x.s)) (u := (.slice p x.kids.length c)) (v := (.int .i64 (x.at_))) E1.out
    have t7 := two_turned'  (((((W5.setCell ⟨rb, 0, none⟩ (.int .i64 (x.op))).setCell ⟨rb, 1, none⟩ (.int .i64 (x.n))).setCell ⟨rb, 2, none⟩ (.string x.s)).setCell ⟨rb, 3, none⟩ (.slice p x.kids.length c)).setCell ⟨rb, 4, none⟩ (.int .i64 (x.at_))) (rb + 1) (.int .i64 0) (.int .i64 0)
    have g7 := two_set' (x := (.int .i64 0)) (y := (.int .i64 0)) ((t6.block _ (getElem?_lt E2.out) (by omega)).trans E2.out)
    have h7 := (t7.block rb (getElem?_lt g6) (by omega)).trans g6
    obtain ⟨Wz, hWz⟩ : ∃ Wz, Wz = (((((((W5.setCell ⟨rb, 0, none⟩ (.int .i64 (x.op))).setCell ⟨rb, 1, none⟩ (.int .i64 (x.n))).setCell ⟨rb, 2, none⟩ (.string x.s)).setCell ⟨rb, 3, none⟩ (.slice p x.kids.length c)).setCell ⟨rb, 4, none⟩ (.int .i64 (x.at_))).setCell ⟨rb + 1, 0, none⟩ (.int .i64 0)).setCell ⟨rb + 1, 1, none⟩ (.int .i64 0)).drew := ⟨_, rfl⟩
    have g8 : Wz.heap[rb + 1]? = some (.cells #[(.int .i64 0), (.int .i64 0)] 26 (0, 0)) := by rw [hWz, drew_heap]; exact g7
    have h8 : Wz.heap[rb]? = some (.cells #[(.int .i64 (x.op)), (.int .i64 (x.n)), .string x.s, .slice p x.kids.length c, (.int .i64 (x.at_))] 31 (0, 0)) := by rw [hWz, drew_heap]; exact h7
    have t8 : Turned (fun b => w.heap.size ≤ b) w Wz := by rw [hWz, ← hrw.out]; exact ((T.out.trans (t6.mono fun b hb => (by omega))).trans (t7.mono fun b hb => (by omega))).drew
    have hk8 : KidsAt Wz (fun b => w.heap.size ≤ b) x.kids (.slice p x.kids.length c) := by
      rw [hWz]
      exact HK.out.move ((t6.mono (C' := fun b => b = rb ∨ b = rb + 1) fun _ h => .inl h).trans (t7.mono fun _ h => .inr h)).drew (fun b hb hc => by omega) (fun b hb _ => by have := hrw.out; omega)
    rw [← hWz]
    clear hWz t6 t7 g6 g7 h7
    refine bodyPost_ret (results_xp _ Wz rb (rb + 1) (.int .i64 (x.op)) (.int .i64 (x.n)) (.string x.s) (.slice p x.kids.length c) (.int .i64 (x.at_)) (.int .i64 0) (.int .i64 0) rfl rfl h8 g8) rfl ?_
    refine ⟨turned_narrow t8 fun b hb hc => absurd hb (by omega), ?_⟩
    rw [hE]
    exact ⟨p, c, rfl, hk8⟩
theorem results_fp (tmps : Array Value) (w : World) (M : Nat) (v a b : Value) (hN : tmps.getD 2 undef = v) (hM : tmps.getD 3 undef = .pointer (some ⟨M, 0, none⟩)) (h2 : w.heap[M]? = some (.cells #[a, b] 26 (0, 0))) :
    (results Tryz.f9 tmps).run Tryz.prog w = .ok (.tuple #[v, .agg #[a, b]]) w := by
  have hN' : tmps[2]?.getD undef = v := by simpa using hN
  have hM' : tmps[3]?.getD undef = .pointer (some ⟨M, 0, none⟩) := by simpa using hM
  simp [results, hN', hM', asAddr, run_loadVar_row w M 26 26 #[a, b] (0, 0) _ h2 Tryz.underlying26 rfl problem_size2]
def FormsR (s : ByteArray) (w : World) (e : Ending) (w' : World) : Prop :=
  Turned (fun _ => False) w w' ∧ match formsP s with
    | .bad a c => e = .returned (.tuple #[.slice none 0 0, .agg #[(.int .i64 a), (.int .i64 c)]])
    | .ok fs => ∃ p c, e = .returned (.tuple #[.slice p fs.length c, .agg #[(.int .i64 0), (.int .i64 0)]]) ∧ FormsAt w' (fun b => w.heap.size ≤ b) fs (.slice p fs.length c)
set_option maxRecDepth 20000 in
set_option maxHeartbeats 8000000 in
theorem forms_any (s : ByteArray) (w : World) (hv : Vars w.heap.size w) : Calls Tryz.prog 9 #[.string s] w (FormsR s w) := by
  have hmf : ∀ (fn : Fn) (first cap : Array Value) (w : World), (Instr.makeFunc fn first cap).run Tryz.prog w = .ok (.func fn first cap) w := fun _ _ _ _ => rfl
  obtain ⟨W1, hW1⟩ : ∃ W1, W1 = w.alloc (.cells #[(.int .i64 0), (.int .i64 0)] 26) := ⟨_, rfl⟩
  obtain ⟨W2, hW2⟩ : ∃ W2, W2 = W1.alloc (.cells #[.slice none 0 0] 23) := ⟨_, rfl⟩
  have s1 : W1.heap.size = w.heap.size + 1 := by rw [hW1]; simp
  have t2 : Turned (fun _ => False) w W2 := by rw [hW2, hW1]; exact ((Turned.refl _ w).alloc _).alloc _
  have b1 : W2.heap[w.heap.size]? = some (.cells #[(.int .i64 0), (.int .i64 0)] 26 (0, 0)) := by
    rw [hW2, hao _ _ (by omega), hW1]; exact heap_alloc_new _ _
  have b2 : W2.heap[w.heap.size + 1]? = some (.cells #[.slice none 0 0] 23 (0, 0)) := by
    rw [hW2, ← s1]; exact heap_alloc_new _ _
  have HR := run_forms_at s (w.heap.size + 1) W2 ((hv.turned t2 fun g hg => id).mono t2.size) b2
  have s33 : w.heap.size + 1 < W2.heap.size := getElem?_lt b2
  go_enter Tryz.func9, Tryz.ntmps9
  go_wp2_with fail
  rw [← hW1, ← hW2]
  clear hW1 hW2 b2
  unfold FormsR
  cases hE : formsP s with
  | bad a c =>
    rw [hE] at HR
    have hc : (c != 0) = true := by simpa using formsP_err hE
    refine HR.mono ?_
    rintro e W4 ⟨ht, rfl⟩
    go_wp2_with fail
    obtain ⟨W5, hW5⟩ : ∃ W5, W5 = W4.alloc (.cells #[(.int .i64 a), (.int .i64 c)] 26) := ⟨_, rfl⟩
    obtain ⟨D, hD⟩ : ∃ D, D = W4.heap.size := ⟨_, rfl⟩
    have t5 : Turned (fun _ => False) W4 W5 := by rw [hW5]; exact (Turned.refl _ _).alloc _
    have d5 : W5.heap[D]? = some (.cells #[(.int .i64 a), (.int .i64 c)] 26 (0, 0)) := by rw [hW5, hD]; exact heap_alloc_new _ _
    rw [← hW5, ← hD]
    have s3 := ht.size
    have l1 := getElem?_lt b1
    have e1 : W5.heap[w.heap.size]? = some (.cells #[(.int .i64 0), (.int .i64 0)] 26 (0, 0)) := (t5.block _ (by omega) id).trans ((ht.block _ l1 (by omega)).trans b1)
    have tA : Turned (fun b => w.heap.size ≤ b) w W5 := ((t2.mono fun _ h => h.elim).trans (ht.mono fun b hb => (by omega))).trans (t5.mono fun _ h => h.elim)
    obtain ⟨rb, hrb⟩ : ∃ rb, rb = w.heap.size := ⟨_, rfl⟩
    have hDl : rb < D := by omega
    rw [← hrb] at e1 tA ⊢
    have n1 : rb ≠ D := by omega
    have n3 : D ≠ rb := by omega
    obtain ⟨d0, d1, d2, d3⟩ := two_cells d5
    obtain ⟨q0, q1, q2, q3⟩ := two_cells e1
    have T := Lib.hid tA
    have E1 := Lib.hid e1
    have hrw := Lib.hid hrb
    clear hW5 hD ht t5 d5 s1 b1 t2 tA e1 hrb s3 l1 hv
    refine region_R (R := fun j V => j < 2 → (fun V : World => V.cell? ⟨D, 0, none⟩ = some (.int .i64 a) ∧ V.cell? ⟨D, 1, none⟩ = some (.int .i64 c)) V) (by kernel_rfl) ?_
    refine wpAnyR_take (S := (fun V : World => V.cell? ⟨D, 0, none⟩ = some (.int .i64 a) ∧ V.cell? ⟨D, 1, none⟩ = some (.int .i64 c))) (early := fun j => decide (j < 2)) (i := 0) (v := (.agg #[(.int .i64 a), (.int .i64 c)])) rfl (by kernel_rfl) (by kernel_rfl) (by kernel_rfl) (by kernel_rfl) (fun _ _ he h => h (of_decide_eq_true he)) (fun _ h _ => h) (fun _ _ _ h => h) (Or.inl ⟨by rfl, ?_⟩) ⟨d0, d1⟩ ?_
    · rintro V ⟨v0, v1⟩
      go_simp
    simp only [List.getElem_toArray, List.getElem_cons_zero, Act.put, List.setIfInBounds_toArray, List.set_cons_zero, List.set_cons_succ]
    refine wpAnyR_take (S := (fun V : World => V.cell? ⟨D, 0, none⟩ = some (.int .i64 a) ∧ V.cell? ⟨D, 1, none⟩ = some (.int .i64 c))) (early := fun j => decide (j < 2)) (i := 1) (v := .slice none 0 0) rfl (by kernel_rfl) (by kernel_rfl) (by kernel_rfl) (by kernel_rfl) (fun _ _ he h => h (of_decide_eq_true he)) (fun _ h _ => h) (fun _ _ _ h => h) (Or.inl ⟨by rfl, ?_⟩) ⟨d0, d1⟩ ?_
    · rintro V ⟨v0, v1⟩
      go_simp
    simp only [List.getElem_toArray, List.getElem_cons_zero, List.getElem_cons_succ, Act.put, List.setIfInBounds_toArray, List.set_cons_zero, List.set_cons_succ]
    refine wpAnyR_all (rs := [2]) (by kernel_rfl) (by simp) (fun i2 hi2 => ?_)
    obtain rfl : i2 = 2 := by simpa using hi2
    clear hi2
    refine wpOp_plain rfl rfl ?_
    simp only [List.getElem_toArray, List.getElem_cons_zero, List.getElem_cons_succ]
    go_simp
    refine wpAnyR_done (by kernel_rfl) ?_ _
    go_wp2_with fail
    have t7 := two_turned' W5 rb (.int .i64 a) (.int .i64 c)
    have g7 := two_set' (x := (.int .i64 a)) (y := (.int .i64 c)) E1.out
    obtain ⟨Wz, hWz⟩ : ∃ Wz, Wz = ((W5.setCell ⟨rb, 0, none⟩ (.int .i64 a)).setCell ⟨rb, 1, none⟩ (.int .i64 c)).drew := ⟨_, rfl⟩
    have g8 : Wz.heap[rb]? = some (.cells #[(.int .i64 a), (.int .i64 c)] 26 (0, 0)) := by rw [hWz, drew_heap]; exact g7
    have t8 : Turned (fun b => w.heap.size ≤ b) w Wz := by rw [hWz, ← hrw.out]; exact (T.out.trans (t7.mono fun b hb => (by omega))).drew
    rw [← hWz]
    clear hWz t7 g7
    refine bodyPost_ret (results_fp _ Wz rb (.slice none 0 0) (.int .i64 a) (.int .i64 c) rfl rfl g8) rfl ?_
    exact ⟨turned_narrow t8 fun b hb hc => absurd hb (by omega), by rw [hE]⟩
  | ok x =>
    rw [hE] at HR
    refine HR.mono ?_
    rintro e W4 ⟨ht, rfl, p, c, hb, hk⟩
    go_wp2_with fail
    obtain ⟨W5, hW5⟩ : ∃ W5, W5 = W4.alloc (.cells #[(.int .i64 0), (.int .i64 0)] 26) := ⟨_, rfl⟩
    obtain ⟨D, hD⟩ : ∃ D, D = W4.heap.size := ⟨_, rfl⟩
    have t5 : Turned (fun _ => False) W4 W5 := by rw [hW5]; exact (Turned.refl _ _).alloc _
    have d5 : W5.heap[D]? = some (.cells #[(.int .i64 0), (.int .i64 0)] 26 (0, 0)) := by rw [hW5, hD]; exact heap_alloc_new _ _
    rw [← hW5, ← hD]
    have s3 := ht.size
    have l1 := getElem?_lt b1
    have e1 : W5.heap[w.heap.size]? = some (.cells #[(.int .i64 0), (.int .i64 0)] 26 (0, 0)) := (t5.block _ (by omega) id).trans ((ht.block _ l1 (by omega)).trans b1)
    have tA : Turned (fun b => w.heap.size ≤ b) w W5 := ((t2.mono fun _ h => h.elim).trans (ht.mono fun b hb => (by omega))).trans (t5.mono fun _ h => h.elim)
    have e3 := (t5.block _ (getElem?_lt hb) id).trans hb
    have hk5 := hk.move t5 (fun _ _ => id) (M := fun b => w.heap.size + 1 < b) (fun b hb _ => by omega)
    obtain ⟨rb, hrb⟩ : ∃ rb, rb = w.heap.size := ⟨_, rfl⟩
    have hDl : rb < D := by omega
    rw [← hrb] at e1 tA ⊢
    rw [← hrb] at e3 hk5
    have o0 := cell_of_box e3
    have HK := Lib.hid hk5
    have n1 : rb ≠ D := by omega
    have n3 : D ≠ rb := by omega
    obtain ⟨d0, d1, d2, d3⟩ := two_cells d5
    obtain ⟨q0, q1, q2, q3⟩ := two_cells e1
    have T := Lib.hid tA
    have E1 := Lib.hid e1
    have hrw := Lib.hid hrb
    clear hk5 hk hb e3 hW5 hD ht t5 d5 s1 b1 t2 tA e1 hrb s3 l1 hv
    refine region_R (R := fun j V => j < 3 → (fun V : World => V.cell? ⟨(rb + 1), 0, none⟩ = some (.slice p x.length c) ∧ V.cell? ⟨D, 0, none⟩ = some (.int .i64 0) ∧ V.cell? ⟨D, 1, none⟩ = some (.int .i64 0)) V) (by kernel_rfl) ?_
    refine wpAnyR_take (S := (fun V : World => V.cell? ⟨(rb + 1), 0, none⟩ = some (.slice p x.length c) ∧ V.cell? ⟨D, 0, none⟩ = some (.int .i64 0) ∧ V.cell? ⟨D, 1, none⟩ = some (.int .i64 0))) (early := fun j => decide (j < 3)) (i := 0) (v := (.slice p x.length c)) rfl (by kernel_rfl) (by kernel_rfl) (by kernel_rfl) (by kernel_rfl) (fun _ _ he h => h (of_decide_eq_true he)) (fun _ h _ => h) (fun _ _ _ h => h) (Or.inl ⟨by rfl, ?_⟩) ⟨o0, d0, d1⟩ ?_
    · rintro V ⟨v0, v1, v2⟩
      go_simp
    simp only [List.getElem_toArray, List.getElem_cons_zero, Act.put, List.setIfInBounds_toArray, List.set_cons_zero, List.set_cons_succ]
    refine wpAnyR_take (S := (fun V : World => V.cell? ⟨(rb + 1), 0, none⟩ = some (.slice p x.length c) ∧ V.cell? ⟨D, 0, none⟩ = some (.int .i64 0) ∧ V.cell? ⟨D, 1, none⟩ = some (.int .i64 0))) (early := fun j => decide (j < 3)) (i := 1) (v := (.agg #[(.int .i64 0), (.int .i64 0)])) rfl (by kernel_rfl) (by kernel_rfl) (by kernel_rfl) (by kernel_rfl) (fun _ _ he h => h (of_decide_eq_true he)) (fun _ h _ => h) (fun _ _ _ h => h) (Or.inl ⟨by rfl, ?_⟩) ⟨o0, d0, d1⟩ ?_
    · rintro V ⟨v0, v1, v2⟩
      go_simp
    simp only [List.getElem_toArray, List.getElem_cons_zero, List.getElem_cons_succ, Act.put, List.setIfInBounds_toArray, List.set_cons_zero, List.set_cons_succ]
    refine wpAnyR_take (S := (fun V : World => V.cell? ⟨(rb + 1), 0, none⟩ = some (.slice p x.length c) ∧ V.cell? ⟨D, 0, none⟩ = some (.int .i64 0) ∧ V.cell? ⟨D, 1, none⟩ = some (.int .i64 0))) (early := fun j => decide (j < 3)) (i := 2) (v := (.slice p x.length c)) rfl (by kernel_rfl) (by kernel_rfl) (by kernel_rfl) (by kernel_rfl) (fun _ _ he h => h (of_decide_eq_true he)) (fun _ h _ => h) (fun _ _ _ h => h) (Or.inl ⟨by rfl, ?_⟩) ⟨o0, d0, d1⟩ ?_
    · rintro V ⟨v0, v1, v2⟩
      go_simp
    simp only [List.getElem_toArray, List.getElem_cons_zero, List.getElem_cons_succ, Act.put, List.setIfInBounds_toArray, List.set_cons_zero, List.set_cons_succ]
    refine wpAnyR_all (rs := [3]) (by kernel_rfl) (by simp) (fun i2 hi2 => ?_)
    obtain rfl : i2 = 3 := by simpa using hi2
    clear hi2
    refine wpOp_plain rfl rfl ?_
    simp only [List.getElem_toArray, List.getElem_cons_zero, List.getElem_cons_succ]
    go_simp
    refine wpAnyR_done (by kernel_rfl) ?_ _
    go_wp2_with fail
    have t7 := two_turned' W5 rb (.int .i64 0) (.int .i64 0)
    have g7 := two_set' (x := (.int .i64 0)) (y := (.int .i64 0)) E1.out
    obtain ⟨Wz, hWz⟩ : ∃ Wz, Wz = ((W5.setCell ⟨rb, 0, none⟩ (.int .i64 0)).setCell ⟨rb, 1, none⟩ (.int .i64 0)).drew := ⟨_, rfl⟩
    have g8 : Wz.heap[rb]? = some (.cells #[(.int .i64 0), (.int .i64 0)] 26 (0, 0)) := by rw [hWz, drew_heap]; exact g7
    have t8 : Turned (fun b => w.heap.size ≤ b) w Wz := by rw [hWz, ← hrw.out]; exact (T.out.trans (t7.mono fun b hb => (by omega))).drew
    have hk8 : FormsAt Wz (fun b => w.heap.size ≤ b) x (.slice p x.length c) := by
      rw [hWz]
      exact HK.out.move t7.drew (fun b hb hc => by omega) (fun b hb _ => by have := hrw.out; omega)
    rw [← hWz]
    clear hWz t7 g7
    refine bodyPost_ret (results_fp _ Wz rb (.slice p x.length c) (.int .i64 0) (.int .i64 0) rfl rfl g8) rfl ?_
    refine ⟨turned_narrow t8 fun b hb hc => absurd hb (by omega), ?_⟩
    rw [hE]
    exact ⟨p, c, rfl, hk8⟩
end Go.Proofs.YtjijdgkccfeeaaaGreatDoor
