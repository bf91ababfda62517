/- Walk of the lexer: Tokens. Conditions: those of each theorem. -/
import Derived.Test.YtdjjifljlkjafaaGreatDoorLexWalkG
namespace Go.Proofs.YtdjjifljlkjafaaGreatDoor
open Go Go.Proofs Go.RowKit
attribute [local go_sem] Oper.semAt_some

/-- how the reading of a source ends -/
inductive LR where
  | ok (ts : List Tok)
  | err (at_ : Nat) (c : Int)
def endTok (s : ByteArray) : Tok := ⟨5, s.size, ⟨#[]⟩, 0⟩
/-- the tokens behind an offset, with those that were read -/
def lexF (s : ByteArray) : Nat → Nat → List Tok → LR
  | 0, k, _ => .err k 26
  | n + 1, k, ts =>
    if k < s.size then
      match nextT s k with
      | .tok t tt => lexF s n (blankTo s tt) (ts ++ [t])
      | .err c => .err k c
      | .none => .err k 26
    else .ok (ts ++ [endTok s])
/-- how Tokens ends -/
def tokensP (s : ByteArray) : LR := if 65536 < s.size then .err 0 2 else lexF s (s.size + 1) (blankTo s 0) []

/-- Tokens has ended so -/
def TokensR (w : World) (_s : ByteArray) (r : LR) (e : Ending) (w' : World) : Prop :=
  match r with
  | .err k c => e = .returned (.tuple #[.slice none 0 0, .agg #[(.int .i64 k), (.int .i64 c)]]) ∧ Turned (fun _ => False) w w'
  | .ok ts => ∃ v, e = .returned (.tuple #[v, .agg #[(.int .i64 0), (.int .i64 0)]]) ∧ w'.ownsRow w.heap.size 33 4 v ts.length (ts.flatMap tokV) ∧ Turned (fun _ => False) w w'
/-- in the loop of Tokens -/
structure TL (w : World) (s : ByteArray) (k : Nat) (v : Value) (ts : List Tok) (f : Nat) (wr : World) : Prop where
  at_ : At wr (w.heap.size + 1) (w.heap.size + 2) s k v ts
  le : k ≤ s.size
  fuel : s.size < k + f
  eq : lexF s f k ts = tokensP s
  cell : wr.heap[w.heap.size]? = some (.cells #[(.int .i64 0), (.int .i64 0)] 26 (0, 0))
  tur : Turned (fun j => w.heap.size ≤ j) w wr

theorem skip_at {w wr : World} {s : ByteArray} {k : Nat} {v : Value} {ts : List Tok} {f : Nat} (hs : s.size ≤ 65536) (hA : At wr (w.heap.size + 1) (w.heap.size + 2) s k v ts) (hk : k ≤ s.size) (hf : s.size < blankTo s k + f) (he : lexF s f (blankTo s k) ts = tokensP s)
    (hc : wr.heap[w.heap.size]? = some (.cells #[(.int .i64 0), (.int .i64 0)] 26 (0, 0))) (ht : Turned (fun j => w.heap.size ≤ j) w wr) :
    Calls Tryz.prog 20 #[.pointer (some ⟨w.heap.size + 1, 0, none⟩)] wr fun e w' => e = .returned (.tuple #[]) ∧ Hid (TL w s (blankTo s k) v ts f w') := by
  refine (skip_any _ s k v wr hA.rd (by omega) hk).mono ?_
  rintro e w' ⟨rfl, h1, h2⟩
  have hlt := getElem?_lt hA.rd
  refine ⟨rfl, ⟨⟨h1, ownsRow_turned' h2 (fun g hg he => ?_) hA.own, hA.lt, Nat.le_trans hA.le h2.size, Nat.le_trans hA.len (blankTo_ge s k), hA.vars.turned h2 fun g hg he => by omega⟩, blankTo_le s k hk, hf, he, ?_, ht.trans (h2.mono fun j hj => by omega)⟩⟩
  · have := (ownsRow_block hA.own g hg).1
    omega
  · rw [h2.block _ (by omega) (by omega)]; exact hc
theorem TL.next {w wr : World} {s : ByteArray} {k : Nat} {v : Value} {ts : List Tok} {f : Nat} (hs : s.size ≤ 65536) (h : TL w s k v ts f wr) (hk : k < s.size) {t : Tok} {tt : Nat} {v' : Value} {w' : World} (hn : nextT s k = .tok t tt) (hA : At w' (w.heap.size + 1) (w.heap.size + 2) s tt v' (ts ++ [t])) (hM : Moved (w.heap.size + 1) (w.heap.size + 2) wr w') :
    Hid (∃ f', Calls Tryz.prog 20 #[.pointer (some ⟨w.heap.size + 1, 0, none⟩)] w' fun e w2 => e = .returned (.tuple #[]) ∧ Hid (TL w s (blankTo s tt) v' (ts ++ [t]) f' w2)) := by
  obtain ⟨hg, hle⟩ := next_fits hk hn
  have hfu := h.fuel
  have hge := blankTo_ge s tt
  have hlt := getElem?_lt h.cell
  obtain ⟨f', rfl⟩ : ∃ f', f = f' + 1 := ⟨f - 1, by have := h.le; omega⟩
  refine ⟨f', skip_at hs hA hle (by omega) ?_ ?_ (h.tur.trans (hM.mono fun j hj => by omega))⟩
  · rw [← h.eq]
    conv => rhs; unfold lexF
    rw [if_pos hk, hn]
  · rw [hM.block _ hlt (by omega)]; exact h.cell
theorem problem_size : (Tryz.prog.info? 26).map (·.size) = some 2 := by kernel_rfl
theorem results_tokens (tmps : Array Value) (w : World) (g : Nat) (x y v : Value) (h2 : tmps.getD 2 undef = v) (hp : tmps.getD 3 undef = .pointer (some ⟨g, 0, none⟩)) (hg : w.heap[g]? = some (.cells #[x, y] 26 (0, 0))) :
    (results Tryz.f12 tmps).run Tryz.prog w = .ok (.tuple #[v, .agg #[x, y]]) w := by
  have hp' : tmps[3]?.getD undef = .pointer (some ⟨g, 0, none⟩) := by simpa using hp
  have h2' : tmps[2]?.getD undef = v := by simpa using h2
  simp [results, hp', h2', asAddr, run_loadVar_row w g 26 26 #[x, y] (0, 0) _ hg Tryz.underlying26 rfl problem_size]
theorem two_cells {V : World} {N : Nat} {a b : Value} {t : TypeId} (h : V.heap[N]? = some (.cells #[a, b] t (0, 0))) : V.cell? ⟨N, 0, none⟩ = some a ∧ V.cell? ⟨N, 1, none⟩ = some b ∧ V.frozen? ⟨N, 0, none⟩ = false ∧ V.frozen? ⟨N, 1, none⟩ = false := by
  simp [World.cell?, World.frozen?, h]
theorem two_set {V : World} {N : Nat} {a b x y : Value} {t : TypeId} (h : V.heap[N]? = some (.cells #[a, b] t (0, 0))) : ((V.setCell ⟨N, 0, none⟩ x).setCell ⟨N, 1, none⟩ y).heap[N]? = some (.cells #[x, y] t (0, 0)) := by
  simp [World.setCell, Array.getElem?_modify, h]
theorem two_turned {C : Nat → Prop} {W V : World} {N : Nat} {x y : Value} (h : Turned C W V) (hN : C N) : Turned C W ((V.setCell ⟨N, 0, none⟩ x).setCell ⟨N, 1, none⟩ y) := (h.setCell (p := ⟨N, 0, none⟩) hN x).setCell (p := ⟨N, 1, none⟩) hN y
theorem Vars.mono {n m : Nat} {w : World} (h : Vars n w) (hm : n ≤ m) : Vars m w := by
  obtain ⟨⟨a, b, h1⟩, ⟨c, d, h2⟩, h3⟩ := h
  exact ⟨⟨a, b, h1.1, fun g hg => Nat.lt_of_lt_of_le (h1.2 g hg) hm⟩, ⟨c, d, h2.1, fun g hg => Nat.lt_of_lt_of_le (h2.2 g hg) hm⟩, h3.1, fun g hg => Nat.lt_of_lt_of_le (h3.2 g hg) hm⟩
theorem textL_errs (k0 : Nat) (c : Int) (l : List UInt8) (j : Nat) (b : List UInt8) (h : textL k0 l j b = .err c) : c ≠ 0 := by
  fun_induction textL k0 l j b <;> simp_all <;> omega
theorem next_errs {s : ByteArray} {k : Nat} {c : Int} (h : nextT s k = .err c) : c ≠ 0 := by
  have gen : ∀ l : List TR, firstT l = .err c → (∀ d, TR.err d ∈ l → d ≠ 0) → c ≠ 0 := by
    intro l
    induction l with
    | nil => intro h _; simp [firstT] at h; omega
    | cons r l ih =>
      intro h hl
      cases r with
      | none => exact ih h fun d hd => hl d (List.mem_cons_of_mem _ hd)
      | err d => simp [firstT] at h; subst h; exact hl d (List.mem_cons_self ..)
      | tok t tt => simp [firstT] at h
  refine gen _ h fun d hm => ?_
  simp only [List.mem_cons, List.not_mem_nil, or_false] at hm
  rcases hm with hm | hm | hm | hm
  · unfold nameT at hm
    split at hm
    · cases hm
    · split at hm
      · cases hm; decide
      · cases hm
  · unfold numT numOf at hm
    split at hm
    · cases hm
    · split at hm
      · split at hm
        · cases hm; decide
        · cases hm
      · cases hm; decide
  · unfold textT at hm
    split at hm
    · cases hm
    · exact textL_errs _ _ _ _ _ hm.symm
  · have gs : ∀ l, signL s k l ≠ .err d := by
      intro l
      induction l with
      | nil => unfold signL; split <;> simp
      | cons p l ih => unfold signL; split <;> simp [ih]
    exact absurd hm.symm (gs _)
theorem TL.meas {w wr : World} {s : ByteArray} {k : Nat} {v : Value} {ts : List Tok} {f : Nat} (h : TL w s k v ts f wr) : intOf ((wr.cell? ⟨w.heap.size + 1, 1, none⟩).getD undef) = k := by
  rw [h.at_.rd.cells.2.1]; rfl
theorem lexF_ok {s : ByteArray} {k f : Nat} {ts : List Tok} (h : s.size < k + f) (hk : k = s.size) : lexF s f k ts = .ok (ts ++ [endTok s]) := by
  obtain ⟨f', rfl⟩ : ∃ f', f = f' + 1 := ⟨f - 1, by omega⟩
  unfold lexF; rw [if_neg (by omega)]
theorem lexF_err {s : ByteArray} {k f : Nat} {ts : List Tok} {c : Int} (h : s.size < k + f) (hk : k < s.size) (hn : nextT s k = .err c) : lexF s f k ts = .err k c := by
  obtain ⟨f', rfl⟩ : ∃ f', f = f' + 1 := ⟨f - 1, by omega⟩
  unfold lexF; rw [if_pos hk, hn]
set_option maxRecDepth 20000 in
set_option maxHeartbeats 2000000 in
theorem tokens_any (s : ByteArray) (w : World) (hv : Vars w.heap.size w) : Calls Tryz.prog 12 #[.string s] w (TokensR w s (tokensP s)) := by
  go_enter Tryz.func12, Tryz.ntmps12
  by_cases hbig : 65536 < s.size
  · have HF : Hid (tokensP s = .err 0 2) := by show _ = _; unfold tokensP; rw [if_pos hbig]
    go_wp2_with fail
    refine bodyPost_ret (results_tokens _ _ w.heap.size (.int .i64 0) (.int .i64 2) _ rfl rfl (heap_alloc_new _ _)) rfl ?_
    rw [HF.out]
    exact ⟨rfl, (Turned.refl _ _).alloc _⟩
  · have hs : s.size ≤ 65536 := by omega
    have HE : Hid (lexF s (s.size + 1) (blankTo s 0) [] = tokensP s) := by show _ = _; unfold tokensP; rw [if_neg hbig]
    have HK : Hid (Calls Tryz.prog 20 #[.pointer (some ⟨w.heap.size + 1, 0, none⟩)] ((w.alloc (.cells #[(.int .i64 0), (.int .i64 0)] 26)).alloc (.cells #[.string s, (.int .i64 0), .slice none 0 0] 51)) fun e w' => e = .returned (.tuple #[]) ∧ Hid (TL w s (blankTo s 0) (.slice none 0 0) [] (s.size + 1) w')) := by
      have ht : Turned (fun j => w.heap.size ≤ j) w ((w.alloc (.cells #[(.int .i64 0), (.int .i64 0)] 26)).alloc (.cells #[.string s, (.int .i64 0), .slice none 0 0] 51)) := ((Turned.refl _ _).alloc _).alloc _
      refine skip_at hs ⟨?_, ⟨rfl, .inl ⟨rfl, rfl⟩⟩, by omega, by simp, by simp, (hv.turned ht fun g hg => by omega).mono (by omega)⟩ (by omega) (by have := blankTo_ge s 0; omega) HE.out ?_ ht
      · have := heap_alloc_new (w.alloc (.cells #[(.int .i64 0), (.int .i64 0)] 26)) (.cells #[.string s, (.int .i64 0), .slice none 0 0] 51)
        rw [show (w.alloc (.cells #[(.int .i64 0), (.int .i64 0)] 26)).heap.size = w.heap.size + 1 by simp] at this
        exact this
      · rw [heap_alloc_old _ _ _ (by simp)]
        exact heap_alloc_new _ _
    clear HE
    go_wp2_with (go_at_call 20; refine HK.out.mono ?_; rintro e w1 ⟨rfl, HL⟩)
    clear HK
    go_loopw [5] (fun _ wr => ∃ (k : Nat) (v : Value) (ts : List Tok) (f : Nat), Hid (TL w s k v ts f wr)) (fun _ wr => s.size - (intOf ((wr.cell? ⟨w.heap.size + 1, 1, none⟩).getD undef)).toNat)
    case atStart => exact ⟨_, _, _, _, HL⟩
    case round =>
      clear HL w1
      obtain ⟨k, v, ts, f, HL⟩ := hrel
      obtain ⟨c0, c1, c2⟩ := HL.out.at_.rd.cells
      have hle := HL.out.le
      have HM : Hid (intOf ((wr.cell? ⟨w.heap.size + 1, 1, none⟩).getD undef) = k) := HL.out.meas
      by_cases hk : k < s.size
      · have HC := Lib.hid (next_any _ _ s k v ts wr HL.out.at_ hs hk)
        cases hT : nextT s k with
        | none =>
          go_wp2_with (go_at_call 21; refine HC.out.mono ?_; intro e w7 hr; rw [hT] at hr; exact hr.elim)
        | err c =>
          have hc0 : (c != 0) = true := by simpa using next_errs hT
          have HF : Hid (tokensP s = .err k c) := by show _ = _; rw [← HL.out.eq, lexF_err HL.out.fuel hk hT]
          go_wp2_with (go_at_call 21; refine HC.out.mono ?_; intro e w7 hr; rw [hT] at hr; obtain ⟨rfl, hA, hM⟩ := hr; have HA := Lib.hid hA; have HMo := Lib.hid hM; clear hA hM)
          refine region_tail (w := w7) (Turned.refl _ _) 7 (by kernel_rfl) (by kernel_rfl) (fun V hT => ?_)
          obtain ⟨d0, d1, d2⟩ := (HA.out.same hT).rd.cells
          have HT2 := Lib.hid hT
          have hcV : V.heap[w.heap.size]? = some (.cells #[(.int .i64 0), (.int .i64 0)] 26 (0, 0)) := by
            have h7 := HMo.out.block w.heap.size (getElem?_lt HL.out.cell) (by omega)
            rw [hT.block _ (by have := HMo.out.size; have := getElem?_lt HL.out.cell; omega) id, h7]
            exact HL.out.cell
          obtain ⟨x0, x1, x2, x3⟩ := two_cells hcV
          have HcV := Lib.hid hcV
          clear hT c0 c1 c2 hcV
          simp only [List.take_succ_cons, List.take_zero, List.drop_succ_cons, List.drop_zero]
          repeat still_step
          refine wpStill_nil ?_
          go_wp2_with fail
          refine bodyPost_ret (results_tokens _ _ w.heap.size (.int .i64 k) (.int .i64 c) _ rfl rfl (two_set HcV.out)) rfl ?_
          rw [HF.out]
          exact ⟨rfl, (two_turned (HL.out.tur.trans ((HMo.out.mono fun j hj => (by omega)).trans (HT2.out.mono fun _ h => h.elim))) (Nat.le_refl _)).strip⟩
        | tok t tt =>
          have HN := Lib.hid (fun (v' : Value) (w' : World) (hA : At w' (w.heap.size + 1) (w.heap.size + 2) s tt v' (ts ++ [t])) hM => TL.next hs HL.out hk hT hA hM)
          have hft := next_fits hk hT
          go_wp2_with (first | (go_at_call 21; refine HC.out.mono ?_; intro e w7 hr; rw [hT] at hr; obtain ⟨rfl, v', hA, hM⟩ := hr; obtain ⟨f', HSk⟩ := (HN.out v' w7 hA hM).out; clear hA hM) | (go_at_call 20; refine HSk.mono ?_; rintro e w2 ⟨rfl, HL2⟩))
          refine ⟨?_, ?measure⟩
          case measure => rw [HL2.out.meas, HM.out]; have := blankTo_ge s tt; have := HL2.out.le; omega
          repeat apply Exists.intro
          exact HL2
      · obtain rfl : k = s.size := by omega
        have HF : Hid (tokensP s = .ok (ts ++ [endTok s])) := by show _ = _; rw [← HL.out.eq, lexF_ok HL.out.fuel rfl]
        have HP := Lib.hid (put_any (w.heap.size + 1) (w.heap.size + 2) s s.size 5 s.size 0 ⟨#[]⟩ v ts wr HL.out.at_.rd HL.out.at_.own HL.out.at_.lt HL.out.at_.le (by have := HL.out.at_.len; omega))
        go_wp2_with (go_at_call 22; refine HP.out.mono ?_; rintro e w6 ⟨rfl, v', hR', hO', hT'⟩; obtain ⟨d0, d1, d2⟩ := hR'.cells; have HO' := Lib.hid hO'; have HT' := Lib.hid hT'; have hcV : w6.heap[w.heap.size]? = some (.cells #[(.int .i64 0), (.int .i64 0)] 26 (0, 0)) := (hT'.block _ (getElem?_lt HL.out.cell) (by omega)).trans HL.out.cell; obtain ⟨x0, x1, x2, x3⟩ := two_cells hcV; have HcV := Lib.hid hcV; clear hR' hO' hT' c0 c1 c2 hcV)
        refine bodyPost_ret (results_tokens _ _ w.heap.size (.int .i64 0) (.int .i64 0) _ rfl rfl (two_set HcV.out)) rfl ?_
        rw [HF.out]
        refine ⟨v', rfl, ?_, (two_turned (HL.out.tur.trans (HT'.out.mono fun j hj => (by omega))) (Nat.le_refl _)).strip⟩
        have h1 := ownsRow_turned' (C := fun j => j = w.heap.size) (two_turned (x := (.int .i64 0)) (y := (.int .i64 0)) (Turned.refl _ w6) rfl) (fun g hg he => by have := (ownsRow_block HO'.out g hg).1; omega) HO'.out
        exact ownsRow_lower h1 fun g hg => by have := (ownsRow_block HO'.out g hg).1; omega
end Go.Proofs.YtdjjifljlkjafaaGreatDoor
