/- Part 18 of the proof of lawMatches.card: ParWalkK. Conditions: those of each theorem. -/
import Derived.Test.YtjijdgkccfeeaaaGreatDoorMt01
import Derived.Test.YtjijdgkccfeeaaaGreatDoorMt14
import Derived.Test.YtjijdgkccfeeaaaGreatDoorMt15
import Derived.Test.YtjijdgkccfeeaaaGreatDoorMt17
namespace Go.Proofs.YtjijdgkccfeeaaaGreatDoor
open Go Go.Proofs Go.RowKit
attribute [local go_sem] Oper.semAt_some
theorem problem_size2 : (Tryz.prog.info? 26).map (·.size) = some 2 := by kernel_rfl
theorem results_pb {fn : Func} {i : Nat} (hf : fn.results = #[ResultVar.cell i 26]) (tmps : Array Value) (w : World) (N : Nat) (a b : Value) (hp : tmps.getD i undef = .pointer (some ⟨N, 0, none⟩)) (hg : w.heap[N]? = some (.cells #[a, b] 26 (0, 0))) :
    (results fn tmps).run Tryz.prog w = .ok (.agg #[a, b]) w := by
  have hp' : tmps[i]?.getD undef = .pointer (some ⟨N, 0, none⟩) := by simpa using hp
  simp [results, hf, hp', asAddr, run_loadVar_row w N 26 26 #[a, b] (0, 0) _ hg Tryz.underlying26 rfl problem_size2]
def runP (lr : LR) (r : List Tok → PR Unit) : Int × Int :=
  match lr with
  | .err k c => (k, c)
  | .ok ts => match r ts with
    | .err j c => (atT ts j, c)
    | .ok _ j => if (ts[j]?).map (·.kind) = some 5 then (0, 0) else (atT ts j, 5)
theorem turned_narrow {C D : Nat → Prop} {W W' : World} (h : Turned C W W') (hd : ∀ b, b < W.heap.size → C b → D b) : Turned D W W' := ⟨h.os, h.tape, h.output, h.size, fun b hb hn => h.block b hb fun hc => hn (hd b hb hc)⟩
set_option maxRecDepth 20000 in
set_option maxHeartbeats 8000000 in
theorem run_forms (s : ByteArray) (ob : Nat) (w : World) (hv : Vars w.heap.size w) (hob : ob < w.heap.size) (r : List Tok → PR Unit) (Q : Nat → World → Prop)
    (hok : ∀ ts, tokensP s = .ok ts → TokOK ts ∧ 0 < ts.length)
    (hQ : ∀ (lo : Nat) (W W' : World) (C : Nat → Prop), Q lo W → Turned C W W' → (∀ b, C b → b < lo ∧ b ≠ ob) → Q lo W')
    (hHow : ∀ ts, tokensP s = .ok ts → ∀ (B g cap : Nat) (W : World), ob ≠ B → g ≠ ob → PS B g cap ts W 0 0 → W.heap[ob]? = w.heap[ob]? → Calls Tryz.prog 28 #[.pointer (some ⟨B, 0, none⟩), .pointer (some ⟨ob, 0, none⟩)] W (HowR B ob g cap ts W (r ts) (Q W.heap.size))) :
    Calls Tryz.prog 27 #[.string s, .func (Fn.func 28) #[] #[.pointer (some ⟨ob, 0, none⟩)]] w fun e w' => e = .returned (.agg #[(.int .i64 ((runP (tokensP s) r).1)), (.int .i64 ((runP (tokensP s) r).2))]) ∧ Turned (fun b => b = ob) w w' ∧ (∀ ts j, tokensP s = .ok ts → r ts = .ok () j → ∃ lo, w.heap.size ≤ lo ∧ Q lo w') := by
  have hmf : ∀ (fn : Fn) (first cap : Array Value) (w : World), (Instr.makeFunc fn first cap).run Tryz.prog w = .ok (.func fn first cap) w := fun _ _ _ _ => rfl
  have hT : Turned (fun _ => False) w (w.alloc (.cells #[(.int .i64 0), (.int .i64 0)] 26)) := (Turned.refl _ _).alloc _
  have HT := Lib.hid (tokens_any s (w.alloc (.cells #[(.int .i64 0), (.int .i64 0)] 26)) ((hv.turned hT fun g hg => id).mono (by simp)))
  cases hL : tokensP s with
  | err k c =>
    rw [hL] at HT
    have hc0 : (c != 0) = true := by simpa using tokens_err0 hL
    go_enter_defers Tryz.func27, Tryz.ntmps27
    go_wp2_with fail
    refine HT.out.mono ?_
    rintro e W1 ⟨rfl, ht⟩
    have hcV : W1.heap[w.heap.size]? = some (.cells #[(.int .i64 0), (.int .i64 0)] 26 (0, 0)) := (ht.block _ (by simp) id).trans (heap_alloc_new _ _)
    obtain ⟨x0, x1, x2, x3⟩ := two_cells hcV
    have HcV := Lib.hid hcV
    have Ht := Lib.hid ht
    clear hcV ht
    go_wp2_with fail
    have b1 : ((((W1.setCell ⟨w.heap.size, 0, none⟩ (.int .i64 k)).setCell ⟨w.heap.size, 1, none⟩ (.int .i64 c)).setCell ⟨w.heap.size, 0, none⟩ (.int .i64 k)).setCell ⟨w.heap.size, 1, none⟩ (.int .i64 c)).heap[w.heap.size]? = some (.cells #[(.int .i64 k), (.int .i64 c)] 26 (0, 0)) := two_set' (two_set' HcV.out)
    refine ⟨_, results_pb rfl _ _ w.heap.size (.int .i64 k) (.int .i64 c) rfl b1, rfl, ?_, fun ts j h => by cases h⟩
    have tA : Turned (fun b => w.heap.size ≤ b) w ((((W1.setCell ⟨w.heap.size, 0, none⟩ (.int .i64 k)).setCell ⟨w.heap.size, 1, none⟩ (.int .i64 c)).setCell ⟨w.heap.size, 0, none⟩ (.int .i64 k)).setCell ⟨w.heap.size, 1, none⟩ (.int .i64 c)) := (((hT.mono fun _ h => h.elim).trans (Ht.out.mono fun _ h => h.elim)).trans ((two_turned' W1 w.heap.size (.int .i64 k) (.int .i64 c)).mono fun b hb => (by omega))).trans ((two_turned' _ w.heap.size (.int .i64 k) (.int .i64 c)).mono fun b hb => (by omega))
    exact turned_narrow tA fun b hb hc => by omega
  | ok ts =>
    rw [hL] at HT
    obtain ⟨hTok, hpos⟩ := hok ts hL
    go_enter_defers Tryz.func27, Tryz.ntmps27
    go_wp2_with fail
    refine HT.out.mono ?_
    rintro e W1 ⟨v, rfl, hown, ht⟩
    have hcV : W1.heap[w.heap.size]? = some (.cells #[(.int .i64 0), (.int .i64 0)] 26 (0, 0)) := (ht.block _ (by simp) id).trans (heap_alloc_new _ _)
    obtain ⟨x0, x1, x2, x3⟩ := two_cells hcV
    have HcV := Lib.hid hcV
    have Ht := Lib.hid ht
    rcases owns_cell (enc := tokV) (fun _ => rfl) hown with ⟨rfl, hnil⟩ | ⟨g, cap, rfl, h1, h2, h3, h4, h5⟩
    · rw [hnil] at hpos; simp at hpos
    have H5 := Lib.hid h5
    clear hcV ht hown h5
    go_wp2_with fail
    obtain ⟨W2, hW2⟩ : ∃ W2, W2 = ((W1.setCell ⟨w.heap.size, 0, none⟩ (.int .i64 0)).setCell ⟨w.heap.size, 1, none⟩ (.int .i64 0)) := ⟨_, rfl⟩
    have t2 := two_turned' W1 w.heap.size (.int .i64 0) (.int .i64 0)
    have b2 : W2.heap[w.heap.size]? = some (.cells #[(.int .i64 0), (.int .i64 0)] 26 (0, 0)) := by rw [hW2]; exact two_set' HcV.out
    rw [← hW2] at t2 ⊢
    have hs2 : W1.heap.size = W2.heap.size := by rw [hW2]; simp
    rw [hs2]
    obtain ⟨W3, hW3⟩ : ∃ W3, W3 = W2.alloc (.cells #[.slice (some ⟨g, 0, none⟩) ts.length cap, (.int .i64 0)] 71) := ⟨_, rfl⟩
    obtain ⟨B, hB⟩ : ∃ B, B = W2.heap.size := ⟨_, rfl⟩
    have t3 : Turned (fun _ => False) W2 W3 := by rw [hW3]; exact (Turned.refl _ _).alloc _
    have b3 : W3.heap[B]? = some (.cells #[.slice (some ⟨g, 0, none⟩) ts.length cap, (.int .i64 0)] 71 (0, 0)) := by rw [hW3, hB]; exact heap_alloc_new _ _
    rw [← hW3, ← hB]
    have hsz : w.heap.size + 1 ≤ g := by simpa using h3
    have hNB : w.heap.size < B := by have := getElem?_lt HcV.out; omega
    have hgB : g < B := by omega
    have hp : PS B g cap ts W3 0 0 := by
      refine ⟨by simpa using b3, ?_, by omega, hTok, hpos, h1, h2⟩
      intro i hi j u hu
      have hj : j < 4 := by
        have := (List.getElem?_eq_some_iff.1 hu).1
        simpa [tokRow, List.getElem?_eq_getElem hi, tokV] using this
      have h6 := H5.out i j hi hj
      simp only [tokRow, List.getElem?_eq_getElem hi] at hu
      rw [hu] at h6
      exact cell_turned t3 id (cell_turned t2 (by omega) h6)
    have tA : Turned (fun b => w.heap.size ≤ b) w W3 := (((hT.mono fun _ h => h.elim).trans (Ht.out.mono fun _ h => h.elim)).trans (t2.mono fun b hb => (by omega))).trans (t3.mono fun _ h => h.elim)
    have hobo : W3.heap[ob]? = w.heap[ob]? := tA.block ob hob (by omega)
    have b4 : W3.heap[w.heap.size]? = some (.cells #[(.int .i64 0), (.int .i64 0)] 26 (0, 0)) := (t3.block _ (getElem?_lt b2) id).trans b2
    have hlo : w.heap.size < W3.heap.size := getElem?_lt b4
    have hNW : w.heap.size < W3.heap.size := hlo
    clear hW2 hW3 t2 t3 b2 b3 x0 x1 x2 x3 Ht H5 HcV hs2 hB
    have HC := hHow ts hL B g cap W3 (by omega) (by omega) hp hobo
    cases hr : r ts with
    | err j c =>
      rw [hr] at HC
      have hE : Hid (runP (LR.ok ts) r = (atT ts j, c)) := by show _ = _; unfold runP; simp only [hr]
      refine HC.mono ?_
      rintro e W4 ⟨ht4, rfl⟩
      have b5 : W4.heap[w.heap.size]? = some (.cells #[(.int .i64 0), (.int .i64 0)] 26 (0, 0)) := (ht4.block _ hlo (by omega)).trans b4
      refine leaves_cons (f := 50) (args := #[.pointer (some ⟨w.heap.size, 0, none⟩)]) (by simp) (by simp [go_sem]) ?_
      refine (catch_stop w.heap.size (atT ts j) c 0 0 [] _ b5).mono ?_
      rintro e u' W5 ⟨rfl, rfl, b6, ht5⟩
      have tB := turned_narrow (C := fun b => w.heap.size ≤ b ∨ b = ob) (((tA.mono fun _ h => .inl h).trans (ht4.mono fun b hb => (by omega))).trans (ht5.mono fun b hb => (by omega))) (D := fun b => b = ob) fun b hb hc => by omega
      refine ⟨_, results_pb rfl _ _ w.heap.size (.int .i64 (atT ts j)) (.int .i64 c) rfl b6, ?_, tB, fun ts2 j2 h1 h2 => ?_⟩
      · rw [hE.out]
      · cases h1; rw [hr] at h2; cases h2
    | ok x j =>
      rw [hr] at HC
      refine HC.mono ?_
      rintro e W4 ⟨ht4, rfl, ⟨nf, hp4⟩, hq4⟩
      have b5 : W4.heap[w.heap.size]? = some (.cells #[(.int .i64 0), (.int .i64 0)] 26 (0, 0)) := (ht4.block _ hlo (by omega)).trans b4
      obtain ⟨u, hu⟩ := some_of_lt hp4.lt
      obtain ⟨c0, c1⟩ := hp4.cells
      obtain ⟨t0, t1, t2, t3⟩ := hp4.tok hu
      obtain ⟨l, hl2⟩ : ∃ l, ts.length - j = l + 1 := ⟨ts.length - j - 1, by have := hp4.lt; omega⟩
      rw [hl2] at c0
      clear hl2
      have Hp4 := Lib.hid hp4
      have Hb5 := Lib.hid b5
      obtain ⟨x0, x1, x2, x3⟩ := two_cells b5
      have tB0 := (tA.mono (C' := fun b => w.heap.size ≤ b ∨ b = ob) fun _ h => .inl h).trans (ht4.mono fun b hb => (by omega))
      by_cases h5k : u.kind = 5
      · have hE : Hid (runP (LR.ok ts) r = (0, 0)) := by show _ = _; unfold runP; simp only [hr, hu, Option.map_some, h5k, if_true]
        have bk : (u.kind != 5) = false := by simpa using h5k
        have bk2 : (u.kind == 5) = true := by simpa using h5k
        clear h5k hp4 b5
        go_wp2_with fail
        have t5 := two_turned' W4 w.heap.size (.int .i64 0) (.int .i64 0)
        have b6 : ((W4.setCell ⟨w.heap.size, 0, none⟩ (.int .i64 0)).setCell ⟨w.heap.size, 1, none⟩ (.int .i64 0)).heap[w.heap.size]? = some (.cells #[(.int .i64 0), (.int .i64 0)] 26 (0, 0)) := two_set' Hb5.out
        refine leaves_cons (f := 50) (args := #[.pointer (some ⟨w.heap.size, 0, none⟩)]) (by simp) (by simp [go_sem]) ?_
        refine (catch_idle w.heap.size _).mono ?_
        rintro e u' W5 ⟨rfl, rfl, rfl⟩
        have tB := turned_narrow (tB0.trans (t5.mono fun b hb => (by omega))) (D := fun b => b = ob) fun b hb hc => by omega
        refine ⟨_, results_pb rfl _ _ w.heap.size (.int .i64 0) (.int .i64 0) rfl b6, ?_, tB, fun ts2 j2 h1 h2 => ⟨W3.heap.size, by omega, hQ _ _ _ _ hq4 t5 fun b hb => by omega⟩⟩
        rw [hE.out]
      · have hE : Hid (runP (LR.ok ts) r = (atT ts j, 5)) := by show _ = _; unfold runP; simp [hr, hu, h5k]
        have bk : (u.kind != 5) = true := by simpa using h5k
        have bk2 : (u.kind == 5) = false := by simpa using h5k
        clear h5k hp4 b5
        go_wp2_with fail
        refine (fail_ps Hp4.out 5).mono ?_
        rintro e W5 ⟨rfl, rfl⟩
        refine leaves_cons (f := 50) (args := #[.pointer (some ⟨w.heap.size, 0, none⟩)]) (by simp) (by simp [go_sem]) ?_
        refine (catch_stop w.heap.size (atT ts j) 5 0 0 [] _ Hb5.out).mono ?_
        rintro e u' W5 ⟨rfl, rfl, b6, ht5⟩
        have tB := turned_narrow (tB0.trans (ht5.mono fun b hb => (by omega))) (D := fun b => b = ob) fun b hb hc => by omega
        refine ⟨_, results_pb rfl _ _ w.heap.size (.int .i64 (atT ts j)) (.int .i64 5) rfl b6, ?_, tB, fun ts2 j2 h1 h2 => ⟨W3.heap.size, by omega, hQ _ _ _ _ hq4 ht5 fun b hb => by omega⟩⟩
        rw [hE.out]
set_option maxRecDepth 20000 in
set_option maxHeartbeats 8000000 in
theorem run_expr (s : ByteArray) (ob : Nat) (w : World) (hv : Vars w.heap.size w) (hob : ob < w.heap.size) (r : List Tok → PR Unit) (Q : Nat → World → Prop)
    (hok : ∀ ts, tokensP s = .ok ts → TokOK ts ∧ 0 < ts.length)
    (hQ : ∀ (lo : Nat) (W W' : World) (C : Nat → Prop), Q lo W → Turned C W W' → (∀ b, C b → b < lo ∧ b ≠ ob) → Q lo W')
    (hHow : ∀ ts, tokensP s = .ok ts → ∀ (B g cap : Nat) (W : World), ob ≠ B → g ≠ ob → PS B g cap ts W 0 0 → W.heap[ob]? = w.heap[ob]? → Calls Tryz.prog 30 #[.pointer (some ⟨B, 0, none⟩), .pointer (some ⟨ob, 0, none⟩)] W (HowR B ob g cap ts W (r ts) (Q W.heap.size))) :
    Calls Tryz.prog 27 #[.string s, .func (Fn.func 30) #[] #[.pointer (some ⟨ob, 0, none⟩)]] w fun e w' => e = .returned (.agg #[(.int .i64 ((runP (tokensP s) r).1)), (.int .i64 ((runP (tokensP s) r).2))]) ∧ Turned (fun b => b = ob) w w' ∧ (∀ ts j, tokensP s = .ok ts → r ts = .ok () j → ∃ lo, w.heap.size ≤ lo ∧ Q lo w') := by
  have hmf : ∀ (fn : Fn) (first cap : Array Value) (w : World), (Instr.makeFunc fn first cap).run Tryz.prog w = .ok (.func fn first cap) w := fun _ _ _ _ => rfl
  have hT : Turned (fun _ => False) w (w.alloc (.cells #[(.int .i64 0), (.int .i64 0)] 26)) := (Turned.refl _ _).alloc _
  have HT := Lib.hid (tokens_any s (w.alloc (.cells #[(.int .i64 0), (.int .i64 0)] 26)) ((hv.turned hT fun g hg => id).mono (by simp)))
  cases hL : tokensP s with
  | err k c =>
    rw [hL] at HT
    have hc0 : (c != 0) = true := by simpa using tokens_err0 hL
    go_enter_defers Tryz.func27, Tryz.ntmps27
    go_wp2_with fail
    refine HT.out.mono ?_
    rintro e W1 ⟨rfl, ht⟩
    have hcV : W1.heap[w.heap.size]? = some (.cells #[(.int .i64 0), (.int .i64 0)] 26 (0, 0)) := (ht.block _ (by simp) id).trans (heap_alloc_new _ _)
    obtain ⟨x0, x1, x2, x3⟩ := two_cells hcV
    have HcV := Lib.hid hcV
    have Ht := Lib.hid ht
    clear hcV ht
    go_wp2_with fail
    have b1 : ((((W1.setCell ⟨w.heap.size, 0, none⟩ (.int .i64 k)).setCell ⟨w.heap.size, 1, none⟩ (.int .i64 c)).setCell ⟨w.heap.size, 0, none⟩ (.int .i64 k)).setCell ⟨w.heap.size, 1, none⟩ (.int .i64 c)).heap[w.heap.size]? = some (.cells #[(.int .i64 k), (.int .i64 c)] 26 (0, 0)) := two_set' (two_set' HcV.out)
    refine ⟨_, results_pb rfl _ _ w.heap.size (.int .i64 k) (.int .i64 c) rfl b1, rfl, ?_, fun ts j h => by cases h⟩
    have tA : Turned (fun b => w.heap.size ≤ b) w ((((W1.setCell ⟨w.heap.size, 0, none⟩ (.int .i64 k)).setCell ⟨w.heap.size, 1, none⟩ (.int .i64 c)).setCell ⟨w.heap.size, 0, none⟩ (.int .i64 k)).setCell ⟨w.heap.size, 1, none⟩ (.int .i64 c)) := (((hT.mono fun _ h => h.elim).trans (Ht.out.mono fun _ h => h.elim)).trans ((two_turned' W1 w.heap.size (.int .i64 k) (.int .i64 c)).mono fun b hb => (by omega))).trans ((two_turned' _ w.heap.size (.int .i64 k) (.int .i64 c)).mono fun b hb => (by omega))
    exact turned_narrow tA fun b hb hc => by omega
  | ok ts =>
    rw [hL] at HT
    obtain ⟨hTok, hpos⟩ := hok ts hL
    go_enter_defers Tryz.func27, Tryz.ntmps27
    go_wp2_with fail
    refine HT.out.mono ?_
    rintro e W1 ⟨v, rfl, hown, ht⟩
    have hcV : W1.heap[w.heap.size]? = some (.cells #[(.int .i64 0), (.int .i64 0)] 26 (0, 0)) := (ht.block _ (by simp) id).trans (heap_alloc_new _ _)
    obtain ⟨x0, x1, x2, x3⟩ := two_cells hcV
    have HcV := Lib.hid hcV
    have Ht := Lib.hid ht
    rcases owns_cell (enc := tokV) (fun _ => rfl) hown with ⟨rfl, hnil⟩ | ⟨g, cap, rfl, h1, h2, h3, h4, h5⟩
    · rw [hnil] at hpos; simp at hpos
    have H5 := Lib.hid h5
    clear hcV ht hown h5
    go_wp2_with fail
    obtain ⟨W2, hW2⟩ : ∃ W2, W2 = ((W1.setCell ⟨w.heap.size, 0, none⟩ (.int .i64 0)).setCell ⟨w.heap.size, 1, none⟩ (.int .i64 0)) := ⟨_, rfl⟩
    have t2 := two_turned' W1 w.heap.size (.int .i64 0) (.int .i64 0)
    have b2 : W2.heap[w.heap.size]? = some (.cells #[(.int .i64 0), (.int .i64 0)] 26 (0, 0)) := by rw [hW2]; exact two_set' HcV.out
    rw [← hW2] at t2 ⊢
    have hs2 : W1.heap.size = W2.heap.size := by rw [hW2]; simp
    rw [hs2]
    obtain ⟨W3, hW3⟩ : ∃ W3, W3 = W2.alloc (.cells #[.slice (some ⟨g, 0, none⟩) ts.length cap, (.int .i64 0)] 71) := ⟨_, rfl⟩
    obtain ⟨B, hB⟩ : ∃ B, B = W2.heap.size := ⟨_, rfl⟩
    have t3 : Turned (fun _ => False) W2 W3 := by rw [hW3]; exact (Turned.refl _ _).alloc _
    have b3 : W3.heap[B]? = some (.cells #[.slice (some ⟨g, 0, none⟩) ts.length cap, (.int .i64 0)] 71 (0, 0)) := by rw [hW3, hB]; exact heap_alloc_new _ _
    rw [← hW3, ← hB]
    have hsz : w.heap.size + 1 ≤ g := by simpa using h3
    have hNB : w.heap.size < B := by have := getElem?_lt HcV.out; omega
    have hgB : g < B := by omega
    have hp : PS B g cap ts W3 0 0 := by
      refine ⟨by simpa using b3, ?_, by omega, hTok, hpos, h1, h2⟩
      intro i hi j u hu
      have hj : j < 4 := by
        have := (List.getElem?_eq_some_iff.1 hu).1
        simpa [tokRow, List.getElem?_eq_getElem hi, tokV] using this
      have h6 := H5.out i j hi hj
      simp only [tokRow, List.getElem?_eq_getElem hi] at hu
      rw [hu] at h6
      exact cell_turned t3 id (cell_turned t2 (by omega) h6)
    have tA : Turned (fun b => w.heap.size ≤ b) w W3 := (((hT.mono fun _ h => h.elim).trans (Ht.out.mono fun _ h => h.elim)).trans (t2.mono fun b hb => (by omega))).trans (t3.mono fun _ h => h.elim)
    have hobo : W3.heap[ob]? = w.heap[ob]? := tA.block ob hob (by omega)
    have b4 : W3.heap[w.heap.size]? = some (.cells #[(.int .i64 0), (.int .i64 0)] 26 (0, 0)) := (t3.block _ (getElem?_lt b2) id).trans b2
    have hlo : w.heap.size < W3.heap.size := getElem?_lt b4
    have hNW : w.heap.size < W3.heap.size := hlo
    clear hW2 hW3 t2 t3 b2 b3 x0 x1 x2 x3 Ht H5 HcV hs2 hB
    have HC := hHow ts hL B g cap W3 (by omega) (by omega) hp hobo
    cases hr : r ts with
    | err j c =>
      rw [hr] at HC
      have hE : Hid (runP (LR.ok ts) r = (atT ts j, c)) := by show _ = _; unfold runP; simp only [hr]
      refine HC.mono ?_
      rintro e W4 ⟨ht4, rfl⟩
      have b5 : W4.heap[w.heap.size]? = some (.cells #[(.int .i64 0), (.int .i64 0)] 26 (0, 0)) := (ht4.block _ hlo (by omega)).trans b4
      refine leaves_cons (f := 50) (args := #[.pointer (some ⟨w.heap.size, 0, none⟩)]) (by simp) (by simp [go_sem]) ?_
      refine (catch_stop w.heap.size (atT ts j) c 0 0 [] _ b5).mono ?_
      rintro e u' W5 ⟨rfl, rfl, b6, ht5⟩
      have tB := turned_narrow (C := fun b => w.heap.size ≤ b ∨ b = ob) (((tA.mono fun _ h => .inl h).trans (ht4.mono fun b hb => (by omega))).trans (ht5.mono fun b hb => (by omega))) (D := fun b => b = ob) fun b hb hc => by omega
      refine ⟨_, results_pb rfl _ _ w.heap.size (.int .i64 (atT ts j)) (.int .i64 c) rfl b6, ?_, tB, fun ts2 j2 h1 h2 => ?_⟩
      · rw [hE.out]
      · cases h1; rw [hr] at h2; cases h2
    | ok x j =>
      rw [hr] at HC
      refine HC.mono ?_
      rintro e W4 ⟨ht4, rfl, ⟨nf, hp4⟩, hq4⟩
      have b5 : W4.heap[w.heap.size]? = some (.cells #[(.int .i64 0), (.int .i64 0)] 26 (0, 0)) := (ht4.block _ hlo (by omega)).trans b4
      obtain ⟨u, hu⟩ := some_of_lt hp4.lt
      obtain ⟨c0, c1⟩ := hp4.cells
      obtain ⟨t0, t1, t2, t3⟩ := hp4.tok hu
      obtain ⟨l, hl2⟩ : ∃ l, ts.length - j = l + 1 := ⟨ts.length - j - 1, by have := hp4.lt; omega⟩
      rw [hl2] at c0
      clear hl2
      have Hp4 := Lib.hid hp4
      have Hb5 := Lib.hid b5
      obtain ⟨x0, x1, x2, x3⟩ := two_cells b5
      have tB0 := (tA.mono (C' := fun b => w.heap.size ≤ b ∨ b = ob) fun _ h => .inl h).trans (ht4.mono fun b hb => (by omega))
      by_cases h5k : u.kind = 5
      · have hE : Hid (runP (LR.ok ts) r = (0, 0)) := by show _ = _; unfold runP; simp only [hr, hu, Option.map_some, h5k, if_true]
        have bk : (u.kind != 5) = false := by simpa using h5k
        have bk2 : (u.kind == 5) = true := by simpa using h5k
        clear h5k hp4 b5
        go_wp2_with fail
        have t5 := two_turned' W4 w.heap.size (.int .i64 0) (.int .i64 0)
        have b6 : ((W4.setCell ⟨w.heap.size, 0, none⟩ (.int .i64 0)).setCell ⟨w.heap.size, 1, none⟩ (.int .i64 0)).heap[w.heap.size]? = some (.cells #[(.int .i64 0), (.int .i64 0)] 26 (0, 0)) := two_set' Hb5.out
        refine leaves_cons (f := 50) (args := #[.pointer (some ⟨w.heap.size, 0, none⟩)]) (by simp) (by simp [go_sem]) ?_
        refine (catch_idle w.heap.size _).mono ?_
        rintro e u' W5 ⟨rfl, rfl, rfl⟩
        have tB := turned_narrow (tB0.trans (t5.mono fun b hb => (by omega))) (D := fun b => b = ob) fun b hb hc => by omega
        refine ⟨_, results_pb rfl _ _ w.heap.size (.int .i64 0) (.int .i64 0) rfl b6, ?_, tB, fun ts2 j2 h1 h2 => ⟨W3.heap.size, by omega, hQ _ _ _ _ hq4 t5 fun b hb => by omega⟩⟩
        rw [hE.out]
      · have hE : Hid (runP (LR.ok ts) r = (atT ts j, 5)) := by show _ = _; unfold runP; simp [hr, hu, h5k]
        have bk : (u.kind != 5) = true := by simpa using h5k
        have bk2 : (u.kind == 5) = false := by simpa using h5k
        clear h5k hp4 b5
        go_wp2_with fail
        refine (fail_ps Hp4.out 5).mono ?_
        rintro e W5 ⟨rfl, rfl⟩
        refine leaves_cons (f := 50) (args := #[.pointer (some ⟨w.heap.size, 0, none⟩)]) (by simp) (by simp [go_sem]) ?_
        refine (catch_stop w.heap.size (atT ts j) 5 0 0 [] _ Hb5.out).mono ?_
        rintro e u' W5 ⟨rfl, rfl, b6, ht5⟩
        have tB := turned_narrow (tB0.trans (ht5.mono fun b hb => (by omega))) (D := fun b => b = ob) fun b hb hc => by omega
        refine ⟨_, results_pb rfl _ _ w.heap.size (.int .i64 (atT ts j)) (.int .i64 5) rfl b6, ?_, tB, fun ts2 j2 h1 h2 => ⟨W3.heap.size, by omega, hQ _ _ _ _ hq4 ht5 fun b hb => by omega⟩⟩
        rw [hE.out]
end Go.Proofs.YtjijdgkccfeeaaaGreatDoor
