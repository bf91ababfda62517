/- Walks of the calendar's reference: inside, Children, Blocks. Conditions: those of each theorem. -/
import Derived.Test.YtfcfdphkaildiaaDoorCalLawB
import Derived.OwnWalk
namespace Go.Proofs.YtfcfdphkaildiaaDoor
open Go Go.Proofs Go.RowKit
attribute [local go_sem] Oper.semAt_some

theorem below_of_grown {w w1 : World} {base : Nat} {row : Option Nat} (hg : w.grownBy w1 row) (hb : base ≤ w.heap.size) (hr : ∀ k, row = some k → base ≤ k) : Below base w w1 := (Below.refl _ _).grown hg hb hr

/-- a list that the call collects stays, if the blocks from its own on up to the heap's end stay -/
theorem ownsRow_same {A B : World} {base e size n : Nat} {v : Value} {xs : List Value} (h : A.ownsRow base e size v n xs) (hb : Below A.heap.size A B) : B.ownsRow base e size v n xs :=
  ownsRow_turned (Turned.of_new (C := fun _ => False) hb) (fun _ h => h.elim) h

theorem cells_three_next (w : World) (o : Obj) (a b c : Value) (t : TypeId) : ∀ j u, [a, b, c][j]? = some u → ((w.alloc o).alloc (.cells #[a, b, c] t)).cell? ((⟨w.heap.size + 1, 0, none⟩ : Addr).add j) = some u := by
  have := cells_three (w.alloc o) a b c t
  rwa [World.size_alloc] at this
theorem grown_two {w w1 w4 : World} {o1 o2 : Obj} {e size n : Nat} {v : Value} {xs : List Value} (hown : w1.ownsRow w.heap.size e size v n xs) (hb : Below w.heap.size w w1) (hg : ((w1.alloc o1).alloc o2).grownBy w4 v.ownBlock) :
    w4.heap[w1.heap.size]? = some o1 ∧ Below w.heap.size w w4 := by
  have hob := ownsRow_block hown
  have hb2 : Below w.heap.size w ((w1.alloc o1).alloc o2) := (hb.alloc hb.size _).alloc (by have := hb.size; simp; omega) _
  refine ⟨(hg.block w1.heap.size (by simp; omega) (fun h => by have := hob _ h.symm; omega)).trans ?_, hb2.grown hg hb2.size (fun k hk => (hob k hk).1)⟩
  exact (Below.heap_alloc _ _ _ (by simp)).trans (World.alloc_heap_new _ _)

structure RIns (l f t : Int) (w : World) (v : Value) (g : Int) (bs : List Bn) (wr : World) : Prop where
  le : f ≤ g
  st : g < t → g = f ∨ lo l g = g
  eq : bs ++ insL l g t = insL l f t
  own : wr.ownsRow w.heap.size 38 3 v bs.length (bs.flatMap binCells)
  bel : Below w.heap.size w wr

set_option maxHeartbeats 1000000 in
theorem rinside_any (l f t : Int) (w : World) (l0 : 0 ≤ l) (l1 : l ≤ 4) (f0 : 0 ≤ f) (ht : t ≤ 1402560) :
    Calls Tryd.prog 41 #[(.int .i64 l), (.int .i64 f), (.int .i64 t)] w fun e w' => ∃ v, e = .returned v ∧ w'.ownsRow w.heap.size 38 3 v (insL l f t).length ((insL l f t).flatMap binCells) ∧ Below w.heap.size w w' := by
  obtain ⟨i0, hif, hz0, hz1, hz2⟩ := info_parts infoBin
  have hst : Hid (RIns l f t w (.slice none 0 0) f [] w) := ⟨Int.le_refl _, fun _ => .inl rfl, rfl, ⟨by simp, .inl ⟨rfl, rfl⟩⟩, Below.refl _ _⟩
  go_enter Tryd.func41, Tryd.ntmps41
  go_wp2_with fail
  go_loopw [7, 8] (fun u i wr => ∃ v g bs, v = u ∧ i = (.int .i64 g) ∧ Hid (RIns l f t w v g bs wr)) (fun _ i _ => (t - intOf i).toNat)
  case atStart => exact ⟨_, f, [], rfl, rfl, hst⟩
  case round =>
    obtain ⟨v, g, bs, rfl, rfl, HR⟩ := hrel
    have hfg := HR.out.le
    by_cases hlt : g < t
    · have hh := lh l g l0 l1 (by omega) (by omega)
      have e1 := hh.lo
      have e2 := hh.hi
      have e3 := hh.b1
      have e4 := hh.a0
      have HS := Lib.hid hh.sb
      clear hh
      have HB := Lib.hid (rblock_yes l g wr l0 l1 (by omega) (by omega))
      have HST : Hid (f ≤ lo l g → g ≤ lo l g) := fun h => by
        rcases HR.out.st hlt with rfl | h'
        · exact h
        · omega
      have HO : Hid (t < hi l g → insL l g t = []) := insL_out l0 l1 (by omega) ht hlt
      have HK : Hid (hi l g ≤ t → ¬ g ≤ lo l g → insL l g t = insL l (hi l g) t) := fun h h' => insL_skip l0 l1 (by omega) ht hlt (by omega) h'
      have HC : Hid (hi l g ≤ t → g ≤ lo l g → insL l g t = (l, lo l g, hi l g) :: insL l (hi l g) t) := fun h h' => insL_cons l0 l1 (by omega) ht hlt (by omega) h'
      have HN : Hid (t ≤ hi l g → insL l (hi l g) t = []) := fun h => insL_nil h
      have HL : Hid (hi l g < t → lo l (hi l g) = hi l g) := fun h => lo_hi l0 l1 (by omega) (by omega) (by omega)
      generalize lo l g = a at *
      generalize hi l g = b at *
      have hlen : bs.length ≤ 1402560 := by
        have h1 := congrArg List.length HR.out.eq
        have h2 := insL_len (l := l) (f := f) (t := t) l0 l1 f0 ht
        simp at h1; omega
      go_wp2_with fail
      refine HB.out.mono ?_
      rintro e w1 ⟨rfl, hb⟩
      have hown1 : w1.ownsRow w.heap.size 38 3 v bs.length (bs.flatMap binCells) := ownsRow_same HR.out.own hb
      have hbel1 : Below w.heap.size w w1 := HR.out.bel.trans (hb.mono HR.out.bel.size)
      have HE := Lib.hid HR.out.eq
      clear hb HB
      obtain ⟨va, vc, rfl⟩ := owns_shape hown1
      by_cases hc : f ≤ a ∧ b ≤ t
      · obtain ⟨c1, c2⟩ := hc
        have b1 : decide (f ≤ a) = true := by simpa using c1
        have b2 : decide (b ≤ t) = true := by simpa using c2
        have HF : Hid (∀ v' w', w'.ownsRow w.heap.size 38 3 v' (bs.length + 1) (bs.flatMap binCells ++ [(.int .i64 l), (.int .i64 a), (.int .i64 b)]) → Below w.heap.size w w' → RIns l f t w v' b (bs ++ [(l, a, b)]) w') := by
          intro v' w' h1 h2
          refine ⟨by omega, fun h => .inr (HL.out h), ?_, ?_, h2⟩
          · rw [List.append_assoc]
            rw [← HE.out, HC.out c2 (HST.out c1)]; rfl
          · simpa [binCells] using h1
        have HO1 := Lib.hid hown1
        have HBL := Lib.hid hbel1
        have hws := hbel1.size
        clear hown1 hbel1 HO HK HC HN HL HST HE
        go_wp2_with (at_builtin; refine wpList_append_own _ rfl _ _ 46 rfl w.heap.size 38 i0 (.agg #[(.int .i64 0), (.int .i64 0), (.int .i64 0)]) 3 24 Tryd.underlying46 hif hz0 hz1 hz2 rfl (by decide) (.slice va bs.length vc) _ _ rfl (ownsRow_same HO1.out ((below_new w1 _).trans ((below_new _ _).mono (by simp)))) ⟨w1.heap.size + 1, 0, none⟩ 1 1 [(.int .i64 l), (.int .i64 a), (.int .i64 b)] rfl rfl (cells_three_next _ _ _ _ _ _) (by simp [Value.oneCell']) (by unfold maxLen; omega) (by omega) (by simp; omega) ?_; intro v' w4 hown' hgrow _; obtain ⟨h4, hb4⟩ := grown_two HO1.out HBL.out hgrow; obtain ⟨-, -, c3, -⟩ := cells_of_four h4; have HN := Lib.hid (HF.out v' w4 hown' hb4); clear h4 hb4 hown' hgrow)
        go_roundw
        case rel => exact ⟨v', b, _, rfl, rfl, HN⟩
        case measure => simp [intOf]; omega
      · have HF : Hid (RIns l f t w (.slice va bs.length vc) b bs (w1.alloc (.cells #[(.int .i64 l), (.int .i64 a), (.int .i64 b), (.int .i64 0)] 42))) := by
          refine ⟨by omega, fun h => .inr (HL.out h), ?_, ownsRow_same hown1 (below_new _ _), hbel1.alloc hbel1.size _⟩
          rw [← HE.out]
          rcases Int.lt_or_le t b with h | h
          · rw [HO.out h, HN.out (by omega)]
          · rw [HK.out h (by omega)]
        clear hown1 hbel1 HO HK HC HN HL HST HE
        by_cases c1 : f ≤ a
        · have b1 : decide (f ≤ a) = true := by simpa using c1
          have b2 : decide (b ≤ t) = false := by simp; omega
          go_wp2_with fail
          go_roundw
          case rel => exact ⟨_, b, _, rfl, rfl, HF⟩
          case measure => simp [intOf]; omega
        · have b1 : decide (f ≤ a) = false := by simp; omega
          go_wp2_with fail
          go_roundw
          case rel => exact ⟨_, b, _, rfl, rfl, HF⟩
          case measure => simp [intOf]; omega
    · have hE := HR.out.eq
      rw [insL_nil (by omega), List.append_nil] at hE
      have HO := Lib.hid HR.out.own
      have HE := Lib.hid hE
      clear hE
      go_wp2_with fail
      go_ret
      exact ⟨_, rfl, by rw [← HE.out]; exact HO.out, HR.out.bel⟩

/-- 'returns a Listed': what the list reads as, and the error number -/
def RetListed (xs : List Bn) (er : Int) (w : World) (e : Ending) (w' : World) : Prop := ∃ v, e = .returned (.agg #[v, (.int .i64 er)]) ∧ Reads w' v xs ∧ Below w.heap.size w w'

theorem rinterval_eq (f t : Int) (b : Bool) (w : World) (h : ivB f t = b) : Calls Tryd.prog 25 #[(.int .i64 f), (.int .i64 t)] w fun e w' => e = .returned (.bool b) ∧ w' = w :=
  (rinterval_any f t w).mono fun _ _ h' => ⟨by rw [h'.1, h], h'.2.symm⟩

theorem reads_shape {W : World} {v : Value} {xs : List Bn} (h : Reads W v xs) : ∃ a c, v = .slice a xs.length c := by
  rcases h with ⟨rfl, rfl⟩ | ⟨b, off, cap, rfl, -⟩
  · exact ⟨none, 0, rfl⟩
  · exact ⟨_, _, rfl⟩

theorem rchildren_no (l f t : Int) (w : World) (h : validB l f t = false ∨ validB l f t = true ∧ l = 0) : Calls Tryd.prog 21 #[(.agg #[(.int .i64 l), (.int .i64 f), (.int .i64 t)])] w (RetListed [] (chE l f t) w) := by
  have fin : ∀ b : Bool, validB l f t = b → (b = false ∧ chE l f t = 1 ∨ b = true ∧ (l == 0) = true ∧ chE l f t = 8) → Calls Tryd.prog 21 #[(.agg #[(.int .i64 l), (.int .i64 f), (.int .i64 t)])] w (RetListed [] (chE l f t) w) := by
    intro b hb hf
    have HV : Hid (∀ W, Calls Tryd.prog 23 #[(.agg #[(.int .i64 l), (.int .i64 f), (.int .i64 t)])] W fun e w' => e = .returned (.bool b) ∧ Below W.heap.size W w') := fun W => rvalid_eq l f t b W hb
    clear hb h
    rcases hf with ⟨rfl, hp⟩ | ⟨rfl, h1, hp⟩
    all_goals
      rw [hp]
      clear hp
      go_enter Tryd.func21, Tryd.ntmps21
      go_wp2_with fail
      refine (HV.out _).mono ?_
      rintro e w1 ⟨rfl, hb⟩
      have hB : Below w.heap.size w w1 := (((Below.refl _ _).alloc (Nat.le_refl _) _).alloc (by simp) _).trans (hb.mono (by simp; omega))
      obtain ⟨hc, hf⟩ := bcell hb
      have hz : w.heap.size + 1 < w1.heap.size := by have := hb.size; simp at this; omega
      clear HV
      go_wp2_with fail
      exact bodyPost_ret (v := .agg #[.slice none 0 0, _]) (by simp [results, Tryd.results21, go_sem, hc]) rfl ⟨_, rfl, .inl ⟨rfl, rfl⟩, (hB.setCell (by simp) _).setCell (by simp) _⟩
  refine fin _ rfl ?_
  rcases h with h | ⟨h, rfl⟩
  · exact .inl ⟨h, by simp [chE, h]⟩
  · exact .inr ⟨h, rfl, by simp [chE, h]⟩

/-- a store into a block below those of the list -/
theorem owns_setCell {W : World} {base e size n : Nat} {v : Value} {xs : List Value} (h : W.ownsRow base e size v n xs) {p : Addr} (hp : p.block < base) (u : Value) : (W.setCell p u).ownsRow base e size v n xs :=
  ownsRow_turned (C := fun k => k = p.block) ((Turned.refl (fun k => k = p.block) W).setCell (p := p) rfl u) (fun k hk => by rw [hk]; exact hp) h

theorem rchildren_yes (l f t : Int) (w : World) (h : validB l f t = true) (hl : l ≠ 0) : Calls Tryd.prog 21 #[(.agg #[(.int .i64 l), (.int .i64 f), (.int .i64 t)])] w (RetListed (insL (l - 1) f t) 0 w) := by
  have HV : Hid (∀ W, Calls Tryd.prog 23 #[(.agg #[(.int .i64 l), (.int .i64 f), (.int .i64 t)])] W fun e w' => e = .returned (.bool true) ∧ Below W.heap.size W w') := fun W => rvalid_eq l f t true W h
  obtain ⟨l0, l1, f0, f1, e1, e2⟩ := validB_iff.1 h
  have hb1 := (lh l f l0 l1 f0 f1).b1
  rw [e2] at hb1
  have HI : Hid (∀ W, Calls Tryd.prog 41 #[(.int .i64 (l - 1)), (.int .i64 f), (.int .i64 t)] W fun e w' => ∃ v, e = .returned v ∧ w'.ownsRow W.heap.size 38 3 v (insL (l - 1) f t).length ((insL (l - 1) f t).flatMap binCells) ∧ Below W.heap.size W w') := fun W => rinside_any (l - 1) f t W (by omega) (by omega) f0 hb1
  have hb : (l == 0) = false := by simpa using hl
  clear e1 e2 hb1 h
  go_enter Tryd.func21, Tryd.ntmps21
  go_wp2_with fail
  refine (HV.out _).mono ?_
  rintro e w1 ⟨rfl, hb1⟩
  have hB : Below w.heap.size w w1 := (((Below.refl _ _).alloc (Nat.le_refl _) _).alloc (by simp) _).trans (hb1.mono (by simp; omega))
  obtain ⟨hc, hf⟩ := bcell hb1
  have hz : w.heap.size + 1 < w1.heap.size := by have := hb1.size; simp at this; omega
  clear HV hb1
  go_wp2_with fail
  refine (HI.out _).mono ?_
  rintro e w2 ⟨v, rfl, hown, hb2⟩
  have hB2 : Below w.heap.size w w2 := hB.trans (hb2.mono hB.size)
  obtain ⟨hc2, hf2⟩ := bcell hb2
  have q0 := (hc2 (w.heap.size + 1) 0 hz).trans (hc (w.heap.size + 1) 0 (by simp))
  have q1 := (hc2 (w.heap.size + 1) 1 hz).trans (hc (w.heap.size + 1) 1 (by simp))
  have qf := (hf2 (w.heap.size + 1) 0 hz).trans (hf (w.heap.size + 1) 0 (by simp))
  have qg := (hf2 (w.heap.size + 1) 1 hz).trans (hf (w.heap.size + 1) 1 (by simp))
  obtain ⟨va, vc, rfl⟩ := owns_shape hown
  simp [go_sem] at q0 q1 qf qg
  have HO := Lib.hid (owns_setCell (owns_setCell hown (p := ⟨w.heap.size + 1, 0, none⟩) hz (.slice va (insL (l - 1) f t).length vc)) (p := ⟨w.heap.size + 1, 1, none⟩) hz (.int .i64 0))
  have HB := Lib.hid ((hB2.setCell (p := ⟨w.heap.size + 1, 0, none⟩) (by simp) (.slice va (insL (l - 1) f t).length vc)).setCell (p := ⟨w.heap.size + 1, 1, none⟩) (by simp) (.int .i64 0))
  clear hc hf hc2 hf2 hown hb2 hB2 hB
  go_wp2_with fail
  exact bodyPost_ret (v := .agg #[.slice va (insL (l - 1) f t).length vc, (.int .i64 0)]) (by simp [results, Tryd.results21, go_sem, q0, q1]) rfl ⟨_, rfl, reads_of_owns HO.out, HB.out⟩

def RetBlocksL (xs : List Bn) (w : World) : Ending → World → Prop := if xs.length ≤ 4000 then RetListed xs 0 w else RetListed [] 2 w

theorem rblocks_yes (l f t : Int) (w : World) (l0 : 0 ≤ l) (l1 : l ≤ 4) (h : ivB f t = true) : Calls Tryd.prog 27 #[(.int .i64 l), (.int .i64 f), (.int .i64 t)] w (RetBlocksL (insL l f t) w) := by
  obtain ⟨f0, ft, t1⟩ := ivB_iff.1 h
  have HV : Hid (∀ W, Calls Tryd.prog 25 #[(.int .i64 f), (.int .i64 t)] W fun e w' => e = .returned (.bool true) ∧ w' = W) := fun W => rinterval_eq f t true W h
  have HI : Hid (∀ W, Calls Tryd.prog 41 #[(.int .i64 l), (.int .i64 f), (.int .i64 t)] W fun e w' => ∃ v, e = .returned v ∧ w'.ownsRow W.heap.size 38 3 v (insL l f t).length ((insL l f t).flatMap binCells) ∧ Below W.heap.size W w') := fun W => rinside_any l f t W l0 l1 f0 t1
  have b1 : decide (l < 0) = false := by simp; omega
  have b2 : decide (4 < l) = false := by simp; omega
  have hlen := insL_len (l := l) (f := f) (t := t) l0 l1 f0 t1
  clear h
  go_enter Tryd.func27, Tryd.ntmps27
  go_wp2_with fail
  refine (HV.out _).mono ?_
  rintro e w1 ⟨rfl, rfl⟩
  go_wp2_with fail
  refine (HI.out _).mono ?_
  rintro e w2 ⟨v, rfl, hown, hb2⟩
  have hB2 : Below w.heap.size w w2 := ((Below.refl _ _).alloc (Nat.le_refl _) _).trans (hb2.mono (by simp))
  obtain ⟨hc2, hf2⟩ := bcell hb2
  have q0 := hc2 w.heap.size 0 (by simp)
  have q1 := hc2 w.heap.size 1 (by simp)
  have qf := hf2 w.heap.size 0 (by simp)
  have qg := hf2 w.heap.size 1 (by simp)
  obtain ⟨va, vc, rfl⟩ := owns_shape hown
  simp [go_sem] at q0 q1 qf qg
  generalize hxs : insL l f t = xs at *
  clear hxs
  have HBW := Lib.hid hB2
  have HOW := Lib.hid hown
  clear hc2 hf2 hown hb2 hB2
  by_cases hn : xs.length ≤ 4000
  · have HO := Lib.hid (owns_setCell (owns_setCell HOW.out (p := ⟨w.heap.size, 0, none⟩) (by simp) (.slice va xs.length vc)) (p := ⟨w.heap.size, 1, none⟩) (by simp) (.int .i64 0))
    have HB := Lib.hid ((HBW.out.setCell (p := ⟨w.heap.size, 0, none⟩) (by simp) (.slice va xs.length vc)).setCell (p := ⟨w.heap.size, 1, none⟩) (by simp) (.int .i64 0))
    have b3 : decide ((4000 : Int) < xs.length) = false := by simp; omega
    have HR : Hid (RetBlocksL xs w = RetListed xs 0 w) := by show _ = _; unfold RetBlocksL; rw [if_pos hn]
    go_wp2_with fail
    exact bodyPost_ret (v := .agg #[.slice va xs.length vc, (.int .i64 0)]) (by simp [results, Tryd.results27, go_sem, q0, q1]) rfl (by rw [HR.out]; exact ⟨_, rfl, reads_of_owns HO.out, HB.out⟩)
  · have HB := Lib.hid ((HBW.out.setCell (p := ⟨w.heap.size, 0, none⟩) (by simp) (.slice none 0 0)).setCell (p := ⟨w.heap.size, 1, none⟩) (by simp) (.int .i64 2))
    have b3 : decide ((4000 : Int) < xs.length) = true := by simp; omega
    have HR : Hid (RetBlocksL xs w = RetListed [] 2 w) := by show _ = _; unfold RetBlocksL; rw [if_neg hn]
    go_wp2_with fail
    exact bodyPost_ret (v := .agg #[.slice none 0 0, (.int .i64 2)]) (by simp [results, Tryd.results27, go_sem, q0, q1]) rfl (by rw [HR.out]; exact ⟨_, rfl, .inl ⟨rfl, rfl⟩, HB.out⟩)

theorem rblocks_no (l f t : Int) (w : World) (h : ¬ (0 ≤ l ∧ l ≤ 4 ∧ ivB f t = true)) : Calls Tryd.prog 27 #[(.int .i64 l), (.int .i64 f), (.int .i64 t)] w (RetListed [] 3 w) := by
  have fin : ∀ b : Bool, ivB f t = b → (decide (l < 0) = true ∨ decide (l < 0) = false ∧ (decide (4 < l) = true ∨ decide (4 < l) = false ∧ b = false)) → Calls Tryd.prog 27 #[(.int .i64 l), (.int .i64 f), (.int .i64 t)] w (RetListed [] 3 w) := by
    intro b hb hab
    have HV : Hid (∀ W, Calls Tryd.prog 25 #[(.int .i64 f), (.int .i64 t)] W fun e w' => e = .returned (.bool b) ∧ w' = W) := fun W => rinterval_eq f t b W hb
    clear hb h
    rcases hab with h1 | ⟨h1, h2 | ⟨h2, rfl⟩⟩
    all_goals
      go_enter Tryd.func27, Tryd.ntmps27
      go_wp2_with fail
      refine (HV.out _).mono ?_
      rintro e w1 ⟨rfl, rfl⟩
      go_wp2_with fail
      exact bodyPost_ret (v := .agg #[.slice none 0 0, (.int .i64 3)]) (by simp [results, Tryd.results27, go_sem]) rfl ⟨_, rfl, .inl ⟨rfl, rfl⟩, (Below.refl _ _).alloc (Nat.le_refl _) _⟩
  refine fin _ rfl ?_
  simp only [decide_eq_true_eq, decide_eq_false_iff_not]
  rcases Bool.eq_false_or_eq_true (ivB f t) with hi | hi
  · have : ¬ (0 ≤ l ∧ l ≤ 4) := fun h' => h ⟨h'.1, h'.2, hi⟩
    omega
  · by_cases c1 : l < 0
    · exact .inl c1
    · by_cases c2 : 4 < l
      · exact .inr ⟨c1, .inl c2⟩
      · exact .inr ⟨c1, .inr ⟨c2, hi⟩⟩
end Go.Proofs.YtfcfdphkaildiaaDoor
