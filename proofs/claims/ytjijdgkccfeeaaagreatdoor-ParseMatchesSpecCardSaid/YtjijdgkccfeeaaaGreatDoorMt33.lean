/- Part 33 of the proof of lawMatches.card: LexRefG. Conditions: those of each theorem. -/
import Derived.Test.YtjijdgkccfeeaaaGreatDoorMt01
import Derived.Test.YtjijdgkccfeeaaaGreatDoorMt32
namespace Go.Proofs.YtjijdgkccfeeaaaGreatDoor
open Go Go.Proofs Go.RowKit
attribute [local go_sem] Oper.semAt_some
theorem read_size : (Tryz.prog.info? 76).map (·.size) = some 3 := by kernel_rfl
theorem results_rtokens (tmps : Array Value) (w : World) (g : Nat) (a b c : Value) (hp : tmps.getD 2 undef = .pointer (some ⟨g, 0, none⟩)) (hg : w.heap[g]? = some (.cells #[a, b, c] 76 (0, 0))) :
    (results Tryz.f32 tmps).run Tryz.prog w = .ok (.agg #[a, b, c]) w :=
  results_cell_row (fn := Tryz.f32) rfl tmps w g 76 #[a, b, c] (0, 0) _ hp hg Tryz.underlying76 rfl read_size
theorem three_cells {V : World} {N : Nat} {a b c : Value} {t : TypeId} (h : V.heap[N]? = some (.cells #[a, b, c] t (0, 0))) : V.cell? ⟨N, 0, none⟩ = some a ∧ V.cell? ⟨N, 1, none⟩ = some b ∧ V.cell? ⟨N, 2, none⟩ = some c := by
  simp [World.cell?, h]
theorem three_free {V : World} {N : Nat} {a b c : Value} {t : TypeId} (h : V.heap[N]? = some (.cells #[a, b, c] t (0, 0))) (i : Nat) : V.frozen? ⟨N, i, none⟩ = false := by
  simp [World.frozen?, h]
theorem three_set {V : World} {N : Nat} {a b c a' b' c' : Value} {t : TypeId} (h : V.heap[N]? = some (.cells #[a, b, c] t (0, 0))) :
    (((V.setCell ⟨N, 0, none⟩ a').setCell ⟨N, 1, none⟩ b').setCell ⟨N, 2, none⟩ c').heap[N]? = some (.cells #[a', b', c'] t (0, 0)) := by
  simp [World.setCell, Array.getElem?_modify, h]
theorem three_turned {C : Nat → Prop} {W V : World} {N : Nat} {a' b' c' : Value} (h : Turned C W V) (hN : C N) : Turned C W (((V.setCell ⟨N, 0, none⟩ a').setCell ⟨N, 1, none⟩ b').setCell ⟨N, 2, none⟩ c') :=
  ((h.setCell (p := ⟨N, 0, none⟩) hN a').setCell (p := ⟨N, 1, none⟩) hN b').setCell (p := ⟨N, 2, none⟩) hN c'
theorem firstT_some : ∀ l : List TR, firstT l ≠ .none
  | [] => by simp [firstT]
  | .none :: l => firstT_some l
  | .err _ :: _ => by simp [firstT]
  | .tok _ _ :: _ => by simp [firstT]
def ReadR (w : World) (r : LR) (e : Ending) (w' : World) : Prop :=
  match r with
  | .err k c => e = .returned (.agg #[.slice none 0 0, (.int .i64 k), (.int .i64 c)]) ∧ Turned (fun _ => False) w w'
  | .ok ts => ∃ v, e = .returned (.agg #[v, (.int .i64 0), (.int .i64 0)]) ∧ w'.ownsRow w.heap.size 68 4 v ts.length (ts.flatMap tokV) ∧ Turned (fun _ => False) w w'
structure RT (w1 : World) (s : ByteArray) (k : Nat) (v : Value) (ts : List Tok) (f : Nat) (wr : World) : Prop where
  own : wr.ownsRow w1.heap.size 68 4 v ts.length (ts.flatMap tokV)
  le : k ≤ s.size
  len : ts.length ≤ k
  fuel : s.size < k + f
  eq : lexF s f k ts = tokensP s
  tur : Turned (fun i => w1.heap.size ≤ i) w1 wr
theorem RT.ownT {w1 wr X : World} {s : ByteArray} {k : Nat} {v : Value} {ts : List Tok} {f : Nat} (h : RT w1 s k v ts f wr) (ht : Turned (fun _ => False) wr X) : X.ownsRow w1.heap.size 68 4 v ts.length (ts.flatMap tokV) := ownsRow_turned' ht (fun _ _ => id) h.own
theorem RT.push {w1 wr X w4 : World} {s : ByteArray} {k : Nat} {v v' : Value} {ts : List Tok} {f : Nat} (h : RT w1 s k v ts (f + 1) wr) (ht : Turned (fun _ => False) wr X) (hk : k < s.size) {t : Tok} {tt : Nat} (hn : nextT s k = .tok t tt)
    (hown' : w4.ownsRow w1.heap.size 68 4 v' (ts.length + 1) (ts.flatMap tokV ++ tokV t)) (hgrow : X.grownBy w4 v.ownBlock) : RT w1 s (blankTo s tt) v' (ts ++ [t]) f w4 := by
  obtain ⟨hg, hle⟩ := next_fits hk hn
  have hge := blankTo_ge s tt
  have hfu := h.fuel
  have hlen := h.len
  have hb := ownsRow_block h.own
  refine ⟨by simpa using hown', blankTo_le s tt hle, by simp; omega, by omega, ?_, (h.tur.trans (ht.mono fun _ h => h.elim)).trans (Turned.of_grown hgrow fun g hgr => (hb g hgr).1)⟩
  rw [← h.eq]
  conv => rhs; unfold lexF
  rw [if_pos hk, hn]
theorem RT.stay {w1 wr X : World} {s : ByteArray} {k : Nat} {v : Value} {ts : List Tok} {f : Nat} (h : RT w1 s k v ts f wr) (ht : Turned (fun _ => False) wr X) : RT w1 s k v ts f X := ⟨h.ownT ht, h.le, h.len, h.fuel, h.eq, h.tur.trans (ht.mono fun _ h => h.elim)⟩
theorem four_at {w : World} {a b c d : Value} {t : TypeId} {n : Nat} (hn : w.heap.size = n) : ∀ j u, [a, b, c, d][j]? = some u → (w.alloc (.cells #[a, b, c, d] t)).cell? ((⟨n, 0, none⟩ : Addr).add j) = some u := by
  subst hn; exact cells_four w a b c d t
theorem grown_cell {X w4 : World} {row : Option Nat} {o : Obj} {kind at_ num : Int} {str : ByteArray} {tt : Nat} (h : ((X.alloc (.cells #[(.int .i64 kind), (.int .i64 at_), .string str, (.int .i64 num), (.int .i64 tt), (.int .i64 0)] 116)).alloc o).grownBy w4 row) (hr : ∀ g, row = some g → g < X.heap.size) : w4.cell? ⟨X.heap.size, 4, none⟩ = some (.int .i64 tt) := by
  have h1 := h.block X.heap.size (by simp; omega) (fun e => by have := hr _ e.symm; omega)
  rw [hao _ _ (by simp), heap_alloc_new] at h1
  simp [World.cell?, h1]
set_option maxRecDepth 20000 in
set_option maxHeartbeats 4000000 in
theorem rtokens_any (s : ByteArray) (w : World) (hs : s.size ≤ 70000) : Calls Tryz.prog 32 #[.string s] w (ReadR w (tokensP s)) := by
  obtain ⟨i0, hif, hz0, hz1, hz2⟩ := info_parts infoTok
  go_enter Tryz.func32, Tryz.ntmps32
  by_cases hbig : 65536 < s.size
  · have HF : Hid (tokensP s = .err 0 2) := by show _ = _; unfold tokensP; rw [if_pos hbig]
    go_wp2_with fail
    refine bodyPost_ret (results_rtokens _ _ w.heap.size _ _ _ rfl (heap_alloc_new _ _)) rfl ?_
    rw [HF.out]
    exact ⟨rfl, (Turned.refl _ _).alloc _⟩
  · have HK := Lib.hid (fun (k : Nat) (W : World) (h : k ≤ s.size) => rblank_any s k W hs h)
    obtain ⟨w1, hw1⟩ : ∃ w1, w1 = w.alloc (.cells #[.slice none 0 0, (.int .i64 0), (.int .i64 0)] 76) := ⟨_, rfl⟩
    have HB : Hid (w1.heap[w.heap.size]? = some (.cells #[.slice none 0 0, (.int .i64 0), (.int .i64 0)] 76 (0, 0))) := by show _ = _; rw [hw1]; exact heap_alloc_new _ _
    have HT : Hid (Turned (fun i => w.heap.size ≤ i) w w1) := by rw [hw1]; exact (Turned.refl _ _).alloc _
    have hw1s : w1.heap.size = w.heap.size + 1 := by rw [hw1]; simp
    go_wp2_with fail
    rw [← hw1]
    clear hw1
    have h0 := blankTo_le s 0 (by omega)
    have hcall := HK.out 0 w1 (by omega)
    rw [Int.ofNat_zero] at hcall
    refine hcall.mono ?_
    rintro e w' ⟨rfl, rfl⟩
    have H0 : Hid (RT w1 s (blankTo s 0) (.slice none 0 0) [] (s.size + 1) w1) := by
      refine ⟨⟨rfl, .inl ⟨rfl, rfl⟩⟩, h0, by simp, by omega, ?_, Turned.refl _ _⟩
      unfold tokensP; rw [if_neg hbig]
    clear hcall
    go_wp2_with fail
    go_loopw [3, 4] (fun v u wr => ∃ (k : Nat) (ts : List Tok) (f : Nat), u = (.int .i64 k) ∧ Hid (RT w1 s k v ts f wr)) (fun _ u _ => s.size - (intOf u).toNat)
    case atStart => exact ⟨_, _, _, rfl, H0⟩
    case round =>
      clear H0 h0
      obtain ⟨k, ts, f, rfl, HS⟩ := hrel
      have hle := HS.out.le
      have hlen := HS.out.len
      have HBr : Hid (∀ X, Turned (fun _ => False) wr X → X.heap[w.heap.size]? = some (.cells #[.slice none 0 0, (.int .i64 0), (.int .i64 0)] 76 (0, 0))) := fun X hX => by
        have h1 : w.heap.size < w1.heap.size := by omega
        have h2 := HS.out.tur.size
        rw [hX.block _ (by omega) id, HS.out.tur.block _ h1 (by omega)]
        exact HB.out
      have HTr : Hid (∀ X, Turned (fun _ => False) wr X → Turned (fun i => w.heap.size ≤ i) w X) := fun X hX => HT.out.trans ((HS.out.tur.mono fun i hi => by omega).trans (hX.mono fun _ h => h.elim))
      obtain ⟨va, vc, rfl⟩ := owns_shape HS.out.own
      by_cases hk : k < s.size
      · have HC := Lib.hid (rtoken_any s k wr (by omega) hk)
        have hnn : nextT s k ≠ .none := firstT_some _
        cases hT : nextT s k with
        | none => exact absurd hT hnn
        | err c =>
          have hc0 : (c != 0) = true := by simpa using next_errs hT
          have HF : Hid (tokensP s = .err k c) := by show _ = _; rw [← HS.out.eq, lexF_err HS.out.fuel hk hT]
          rw [hT] at HC
          clear hnn hT
          go_wp2_with fail
          refine HC.out.mono ?_
          rintro e X ⟨rfl, ht⟩
          have hB := HBr.out _ (ht.alloc (.cells #[(.int .i64 0), (.int .i64 0), .string ⟨#[]⟩, (.int .i64 0), (.int .i64 0), (.int .i64 c)] 116))
          have HT2 := Lib.hid (HTr.out _ (ht.alloc (.cells #[(.int .i64 0), (.int .i64 0), .string ⟨#[]⟩, (.int .i64 0), (.int .i64 0), (.int .i64 c)] 116)))
          obtain ⟨x0, x1, x2⟩ := three_cells hB
          have xf := three_free hB
          have HB2 := Lib.hid hB
          clear ht hB
          simp only [oneV]
          go_wp2_with fail
          refine bodyPost_ret (results_rtokens _ _ w.heap.size _ _ _ rfl (three_set HB2.out)) rfl ?_
          rw [HF.out]
          exact ⟨rfl, (three_turned HT2.out (Nat.le_refl _)).strip⟩
        | tok t tt =>
          obtain ⟨f', rfl⟩ : ∃ f', f = f' + 1 := ⟨f - 1, by have := HS.out.fuel; omega⟩
          obtain ⟨hft1, hft2⟩ := next_fits hk hT
          have hge := blankTo_ge s tt
          have hbl := blankTo_le s tt hft2
          rw [hT] at HC
          have HPU := Lib.hid (fun (X v' w4 : _) ht hown' hgrow => HS.out.push (X := X) (v' := v') (w4 := w4) ht hk hT hown' hgrow)
          obtain ⟨kind, at_, str, num⟩ := t
          have HKt := HK.out tt
          clear hnn hT
          go_wp2_with fail
          refine HC.out.mono ?_
          rintro e X ⟨rfl, ht⟩
          have HTX : Hid (Turned (fun _ => False) wr ((X.alloc (.cells #[(.int .i64 kind), (.int .i64 at_), .string str, (.int .i64 num), (.int .i64 tt), (.int .i64 0)] 116)).alloc (.cells #[(.int .i64 kind), (.int .i64 at_), .string str, (.int .i64 num)] 68))) := (ht.alloc _).alloc _
          have hXs : w1.heap.size ≤ X.heap.size ∧ wr.heap.size ≤ X.heap.size := ⟨Nat.le_trans HS.out.tur.size ht.size, ht.size⟩
          clear ht
          simp only [oneV]
          go_wp2_with (first | (at_builtin; refine wpList_append_own _ rfl _ _ 69 rfl w1.heap.size 68 i0 (.agg #[(.int .i64 0), (.int .i64 0), .string ⟨#[]⟩, (.int .i64 0)]) 4 40 Tryz.underlying69 hif hz0 hz1 hz2 rfl (by decide) _ _ _ rfl (HS.out.ownT HTX.out) ⟨X.heap.size + 1, 0, none⟩ 1 1 [(.int .i64 kind), (.int .i64 at_), .string str, (.int .i64 num)] rfl rfl (four_at (by simp)) (by simp [Value.oneCell']) (by unfold maxLen; omega) (by omega) (by simp; omega) ?_; intro v' w4 hown' hgrow hnil; have HE := Lib.hid (HPU.out _ v' w4 HTX.out hown' hgrow); have hx4 := grown_cell hgrow (fun g hg => Nat.lt_of_lt_of_le (ownsRow_block HS.out.own g hg).2 hXs.2); clear hown' hgrow hnil) | (go_at_call 59; refine (HKt _ hft2).mono ?_; rintro e w' ⟨rfl, rfl⟩))
          go_roundw
          case rel => exact ⟨blankTo s tt, _, f', rfl, HE⟩
          case measure => simp [intOf]; omega
      · obtain rfl : k = s.size := by omega
        have HF : Hid (tokensP s = .ok (ts ++ [endTok s])) := by show _ = _; rw [← HS.out.eq, lexF_ok HS.out.fuel rfl]
        have HTX : Hid (Turned (fun _ => False) wr (wr.alloc (.cells #[(.int .i64 5), (.int .i64 (s.size)), .string ⟨#[]⟩, (.int .i64 0)] 68))) := (Turned.refl _ _).alloc _
        have hws := HS.out.tur.size
        go_wp2_with (at_builtin; refine wpList_append_own _ rfl _ _ 69 rfl w1.heap.size 68 i0 (.agg #[(.int .i64 0), (.int .i64 0), .string ⟨#[]⟩, (.int .i64 0)]) 4 40 Tryz.underlying69 hif hz0 hz1 hz2 rfl (by decide) _ _ _ rfl (HS.out.ownT HTX.out) ⟨wr.heap.size, 0, none⟩ 1 1 [(.int .i64 5), (.int .i64 (s.size)), .string ⟨#[]⟩, (.int .i64 0)] rfl rfl (cells_four wr _ _ _ _ _) (by simp [Value.oneCell']) (by unfold maxLen; omega) (by omega) (by simp; omega) ?_; intro v' w4 hown' hgrow hnil; obtain ⟨va', vc', rfl⟩ := owns_shape hown'; have HO := Lib.hid hown'; have HG := Lib.hid hgrow; have hB := (hgrow.block w.heap.size (by simp; omega) (fun e => by have := (ownsRow_block HS.out.own _ e.symm).1; omega)).trans (HBr.out _ HTX.out); obtain ⟨x0, x1, x2⟩ := three_cells hB; have xf := three_free hB; have HB2 := Lib.hid hB; clear hown' hgrow hnil hB)
        refine bodyPost_ret (results_rtokens _ _ w.heap.size _ _ _ rfl (three_set HB2.out)) rfl ?_
        rw [HF.out]
        refine ⟨_, rfl, ?_, ?_⟩
        · have h2 : w4.ownsRow w1.heap.size 68 4 (.slice va' (ts.length + 1) vc') (ts ++ [endTok s]).length ((ts ++ [endTok s]).flatMap tokV) := by simpa [endTok, tokV] using HO.out
          have h1 := ownsRow_turned' (C := fun j => j = w.heap.size) (three_turned (a' := .slice va' (ts.length + 1) vc') (b' := (.int .i64 0)) (c' := (.int .i64 0)) (Turned.refl _ w4) rfl) (fun g hg he => by have := (ownsRow_block h2 g hg).1; omega) h2
          exact ownsRow_lower h1 fun g hg => by have := (ownsRow_block h2 g hg).1; omega
        · have hTG := Turned.of_grown (C := fun i => w.heap.size ≤ i) HG.out fun g hgr => by have := (ownsRow_block HS.out.own g hgr).1; omega
          exact (three_turned ((HTr.out _ HTX.out).trans hTG) (Nat.le_refl _)).strip
end Go.Proofs.YtjijdgkccfeeaaaGreatDoor
