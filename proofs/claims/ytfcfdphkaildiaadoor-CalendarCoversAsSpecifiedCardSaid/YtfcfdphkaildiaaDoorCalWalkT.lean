/- Walk of the calendar's reference: Cover. Conditions: those of each theorem. -/
import Derived.Test.YtfcfdphkaildiaaDoorCalWalkR
import Derived.Test.YtfcfdphkaildiaaDoorCalPlainE
namespace Go.Proofs.YtfcfdphkaildiaaDoor
open Go Go.Proofs Go.RowKit
attribute [local go_sem] Oper.semAt_some

structure RCov (f t : Int) (w : World) (v : Value) (g : Int) (bs : List Bn) (wr : World) : Prop where
  le : f ≤ g
  gt : g ≤ t
  len : (bs.length : Int) ≤ g - f
  gre : ∀ zs, IsGre 4 g t zs → IsGre 4 f t (bs ++ zs)
  own : wr.ownsRow (w.heap.size + 1) 38 3 v bs.length (bs.flatMap binCells)
  bel : Below w.heap.size w wr
  box : wr.heap[w.heap.size]? = some (.cells #[.slice none 0 0, (.int .i64 0)] 50 (0, 0))

structure RBest (g t : Int) (m : Nat) (W8 : World) (B8 : Nat) (wr : World) : Prop where
  le : m ≤ 4
  box : wr.heap[B8]? = some (.cells #[(.int .i64 ((bestN m g t).1)), (.int .i64 ((bestN m g t).2.1)), (.int .i64 ((bestN m g t).2.2))] 38 (0, 0))
  tur : Turned (fun j => j = B8) W8 wr

theorem rcov_next {f t g : Int} {w wr w1 w2 w4 : World} {v v' : Value} {bs : List Bn} {o1 : Obj} {x : Bn} {B8 : Nat} (f0 : 0 ≤ f) (ht : t ≤ 1402560) (h : RCov f t w v g bs wr) (hlt : g < t) (hb : Below wr.heap.size wr w1) (h8 : B8 = w1.heap.size)
    (hB : RBest g t 4 (w1.alloc o1) B8 w2) (hx : x = bestN 4 g t) (o2 : Obj) (hown' : w4.ownsRow (w.heap.size + 1) 38 3 v' (bs.length + 1) (bs.flatMap binCells ++ binCells x)) (hg : (w2.alloc o2).grownBy w4 v.ownBlock) :
    Hid (RCov f t w v' x.2.2 (bs ++ [x]) w4) ∧ w4.heap[B8]? = w2.heap[B8]? := by
  have hob := ownsRow_block h.own
  have hs := best_spec 4 g t (by omega) (by have := h.le; omega) hlt ht
  rw [← hx] at hs
  have hz := hb.size
  have ht2 := hB.tur.size
  simp only [World.size_alloc] at ht2
  have hbox := getElem?_lt h.box
  have T1 : Turned (fun j => j = B8) wr w2 := (Turned.of_new (C := fun j => j = B8) (hb.trans ((below_new w1 o1).mono hz))).trans hB.tur
  have T2 : Turned (fun j => v.ownBlock = some j) w2 w4 := ((Turned.refl _ w2).alloc o2).trans (Turned.of_grown hg fun k hk => hk)
  have T : Turned (fun j => j = B8 ∨ v.ownBlock = some j) wr w4 := (T1.mono fun _ h => .inl h).trans (T2.mono fun _ h => .inr h)
  refine ⟨Lib.hid ⟨by have := h.le; omega, hs.2.2, ?_, ?_, by simpa using hown', ?_, ?_⟩, ?_⟩
  · have := h.len; simp; omega
  · intro zs hzs
    rw [List.append_assoc]
    exact h.gre _ ⟨hlt, hx, hzs⟩
  · refine h.bel.trans (T.below h.bel.size ?_)
    rintro k (rfl | hk)
    · omega
    · have := (hob k hk).1; omega
  · refine (T.block _ hbox ?_).trans h.box
    rintro (hk | hk)
    · omega
    · have := (hob _ hk).1; omega
  · refine T2.block B8 (by omega) ?_
    intro hk
    have := (hob _ hk).2; omega

theorem box3_set {W : World} {B T : Nat} {x y z a b c : Value} (h : W.heap[B]? = some (.cells #[x, y, z] T (0, 0))) :
    (((W.setCell ⟨B, 0, none⟩ a).setCell ⟨B, 1, none⟩ b).setCell ⟨B, 2, none⟩ c).heap[B]? = some (.cells #[a, b, c] T (0, 0)) := by
  simp [World.setCell, Array.getElem?_modify, h]
theorem turned3_set {C : Nat → Prop} {A W : World} {B : Nat} {a b c : Value} (h : Turned C A W) (hB : C B) : Turned C A (((W.setCell ⟨B, 0, none⟩ a).setCell ⟨B, 1, none⟩ b).setCell ⟨B, 2, none⟩ c) :=
  ((h.setCell (p := ⟨B, 0, none⟩) hB _).setCell (p := ⟨B, 1, none⟩) hB _).setCell (p := ⟨B, 2, none⟩) hB _
theorem rbest_yes {g t : Int} {m : Nat} {W8 wr V : World} {B8 : Nat} (h : RBest g t m W8 B8 wr) (hm : m < 4) (h1 : lo ((m : Int) + 1) g = g) (h2 : hi ((m : Int) + 1) g ≤ t) (hb : Below wr.heap.size wr V) :
    Hid (RBest g t (m + 1) W8 B8 (((V.setCell ⟨B8, 0, none⟩ (.int .i64 ((m : Int) + 1))).setCell ⟨B8, 1, none⟩ (.int .i64 g)).setCell ⟨B8, 2, none⟩ (.int .i64 (hi ((m : Int) + 1) g)))) := by
  have hbox := box_below h.box hb
  refine Lib.hid ⟨hm, ?_, turned3_set (h.tur.trans (Turned.of_new hb)) rfl⟩
  simp only [bestN]
  rw [if_pos ⟨h1, h2⟩]
  exact box3_set hbox
theorem rbest_alloc {g t : Int} {m : Nat} {W8 V : World} {B8 : Nat} (h : Hid (RBest g t m W8 B8 V)) (o : Obj) : Hid (RBest g t m W8 B8 (V.alloc o)) :=
  Lib.hid ⟨h.out.le, box_below h.out.box (below_new V o), h.out.tur.alloc o⟩
theorem rbest_no {g t : Int} {m : Nat} {W8 wr V : World} {B8 : Nat} (h : RBest g t m W8 B8 wr) (hm : m < 4) (h1 : ¬ (lo ((m : Int) + 1) g = g ∧ hi ((m : Int) + 1) g ≤ t)) (hb : Below wr.heap.size wr V) : Hid (RBest g t (m + 1) W8 B8 V) := by
  refine Lib.hid ⟨hm, ?_, h.tur.trans (Turned.of_new hb)⟩
  simp only [bestN]
  rw [if_neg h1]
  exact box_below h.box hb

theorem run_field_bin (a b c d : Value) (W : World) : (Instr.field 42 (.agg #[a, b, c, d]) 0).run Tryd.prog W = .ok (.agg #[a, b, c]) W := by kernel_rfl

set_option maxHeartbeats 2000000 in
theorem rcover_yes (f t : Int) (w : World) (h : ivB f t = true) : Calls Tryd.prog 29 #[(.int .i64 f), (.int .i64 t)] w (RetListed (covN 4 f t) 0 w) := by
  obtain ⟨f0, ft, t1⟩ := ivB_iff.1 h
  have HV : Hid (∀ W, Calls Tryd.prog 25 #[(.int .i64 f), (.int .i64 t)] W fun e w' => e = .returned (.bool true) ∧ w' = W) := fun W => rinterval_eq f t true W h
  obtain ⟨i0, hif, hz0, hz1, hz2⟩ := info_parts infoBin
  have HFIN : Hid (∀ bs, IsGre 4 f t bs → bs = covN 4 f t) := fun bs hb => hb.unique (gre_cov 4 f t (by omega) f0 t1)
  clear h
  have hfld := run_field_bin
  have hst : Hid (RCov f t w (.slice none 0 0) f [] (w.alloc (.cells #[.slice none 0 0, (.int .i64 0)] 50))) :=
    ⟨Int.le_refl _, ft, by simp, fun zs h => h, ⟨by simp, .inl ⟨rfl, rfl⟩⟩, below_new _ _, World.alloc_heap_new _ _⟩
  go_enter Tryd.func29, Tryd.ntmps29
  go_wp2_with fail
  refine (HV.out _).mono ?_
  rintro e w1 ⟨rfl, rfl⟩
  go_wp2_with fail
  go_loopw [6, 7] (fun u i wr => ∃ v g bs, v = u ∧ i = (.int .i64 g) ∧ Hid (RCov f t w v g bs wr)) (fun _ i _ => (t - intOf i).toNat)
  case atStart => exact ⟨_, f, [], rfl, rfl, hst⟩
  case round =>
    clear hst HV
    obtain ⟨v, g, bs, rfl, rfl, HR⟩ := hrel
    obtain ⟨wo, rfl⟩ : ∃ wo : World, wo = wr := ⟨_, rfl⟩
    have hfg := HR.out.le
    by_cases hlt : g < t
    · have HB := Lib.hid (fun (l : Int) (h0 : 0 ≤ l) (h4 : l ≤ 4) (W : World) => rblock_yes l g W h0 h4 (by omega) (by omega))
      have hx0 : lo 0 g = g := by simp [lo]
      have hy0 : hi 0 g = g + 1 := by simp [hi]
      have HB0 : Hid (∀ W, Calls Tryd.prog 17 #[(.int .i64 0), (.int .i64 g)] W fun e w' => e = .returned (.agg #[(.int .i64 0), (.int .i64 g), (.int .i64 (g + 1)), (.int .i64 0)]) ∧ Below W.heap.size W w') := fun W => by
        have := HB.out 0 (by omega) (by omega) W
        rwa [hx0, hy0] at this
      clear hx0 hy0
      go_wp2_with fail
      refine (HB0.out _).mono ?_
      rintro e w1 ⟨rfl, hb⟩
      have Hb := Lib.hid hb
      clear hb HB0
      go_wp2_with fail
      obtain ⟨B8, hB8⟩ : ∃ B, B = w1.heap.size := ⟨_, rfl⟩
      have hst : Hid (RBest g t 0 (w1.alloc (.cells #[(.int .i64 0), (.int .i64 g), (.int .i64 (g + 1))] 38)) B8 (w1.alloc (.cells #[(.int .i64 0), (.int .i64 g), (.int .i64 (g + 1))] 38))) := ⟨by omega, by rw [hB8]; exact World.alloc_heap_new _ _, Turned.refl _ _⟩
      rw [← hB8]
      have H8 := Lib.hid hB8
      clear hB8
      go_loopw [9] (fun i wr => ∃ m : Nat, i = (.int .i64 ((m : Int) + 1)) ∧ Hid (RBest g t m (w1.alloc (.cells #[(.int .i64 0), (.int .i64 g), (.int .i64 (g + 1))] 38)) B8 wr)) (fun i _ => (5 - intOf i).toNat)
      case atStart => exact ⟨0, by simp, hst⟩
      case round =>
        clear hst
        obtain ⟨m, rfl, HBE⟩ := hrel
        by_cases hm : m < 4
        · have HL := Lib.hid (HB.out ((m : Int) + 1) (by omega) (by omega) wr)
          have HY : Hid (∀ V, Below wr.heap.size wr V → lo ((m : Int) + 1) g = g → hi ((m : Int) + 1) g ≤ t → Hid (RBest g t (m + 1) (w1.alloc (.cells #[(.int .i64 0), (.int .i64 g), (.int .i64 (g + 1))] 38)) B8 (((V.setCell ⟨B8, 0, none⟩ (.int .i64 ((m : Int) + 1))).setCell ⟨B8, 1, none⟩ (.int .i64 g)).setCell ⟨B8, 2, none⟩ (.int .i64 (hi ((m : Int) + 1) g))))) := fun V hb h1 h2 => rbest_yes HBE.out hm h1 h2 hb
          have HN : Hid (∀ V, Below wr.heap.size wr V → ¬ (lo ((m : Int) + 1) g = g ∧ hi ((m : Int) + 1) g ≤ t) → Hid (RBest g t (m + 1) (w1.alloc (.cells #[(.int .i64 0), (.int .i64 g), (.int .i64 (g + 1))] 38)) B8 V)) := fun V hb h1 => rbest_no HBE.out hm h1 hb
          generalize lo ((m : Int) + 1) g = a at *
          generalize hi ((m : Int) + 1) g = b at *
          have bl : decide ((m : Int) + 1 ≤ 4) = true := by simp; omega
          go_wp2_with fail
          refine HL.out.mono ?_
          rintro e w3 ⟨rfl, hb3⟩
          have hbx := box_below HBE.out.box hb3
          have z8 : B8 < w3.heap.size := getElem?_lt hbx
          obtain ⟨c0, c1, c2⟩ := cells_of_three hbx
          have fz0 := free_of_box hbx 0
          have fz1 := free_of_box hbx 1
          have fz2 := free_of_box hbx 2
          have HB3 := Lib.hid (hb3.trans ((below_new w3 (.cells #[(.int .i64 ((m : Int) + 1)), (.int .i64 a), (.int .i64 b)] 38)).mono hb3.size))
          have HB3' := Lib.hid hb3
          clear hbx hb3 HL
          by_cases hc : a = g ∧ b ≤ t
          · obtain ⟨ha, hbt⟩ := hc
            have HF := rbest_alloc (HY.out _ HB3'.out ha hbt) (.cells #[(.int .i64 ((m : Int) + 1)), (.int .i64 a), (.int .i64 b)] 38)
            subst ha
            have b1 : (a == a) = true := by simp
            have b2 : decide (b ≤ t) = true := by simpa using hbt
            clear HY HN
            go_wp2_with fail
            go_roundw
            case rel => exact ⟨m + 1, by simp, HF⟩
            case measure => simp [intOf]; omega
          · have HF := HN.out _ HB3.out hc
            clear HY HN
            by_cases ha : a = g
            · subst ha
              have b1 : (a == a) = true := by simp
              have b2 : decide (b ≤ t) = false := by simp; omega
              go_wp2_with fail
              go_roundw
              case rel => exact ⟨m + 1, by simp, HF⟩
              case measure => simp [intOf]; omega
            · have b1 : (a == g) = false := by simpa using ha
              go_wp2_with fail
              go_roundw
              case rel => exact ⟨m + 1, by simp, HF⟩
              case measure => simp [intOf]; omega
        · obtain rfl : m = 4 := by have := HBE.out.le; omega
          obtain ⟨c0, c1, c2⟩ := cells_of_three HBE.out.box
          have z8 : B8 < wr.heap.size := getElem?_lt HBE.out.box
          have hob := ownsRow_block HR.out.own
          have hown1 : wr.ownsRow (w.heap.size + 1) 38 3 v bs.length (bs.flatMap binCells) := by
            refine ownsRow_turned' HBE.out.tur (fun j hj => ?_) (ownsRow_same HR.out.own (Hb.out.trans ((below_new w1 _).mono Hb.out.size)))
            have h1 := (hob j hj).2; have h2 := Hb.out.size; have h3 := H8.out; omega
          obtain ⟨x, hx⟩ : ∃ x, x = bestN 4 g t := ⟨_, rfl⟩
          have HX := Lib.hid hx
          rw [← hx] at c0 c1 c2
          have hlen : bs.length ≤ 1402560 := by have := HR.out.len; have := HR.out.gt; omega
          have hsz : w.heap.size + 1 ≤ wr.heap.size := by have h1 := HR.out.bel.size; have h2 := Hb.out.size; have h3 := H8.out; omega
          have HN : Hid (∀ v' w4, w4.ownsRow (w.heap.size + 1) 38 3 v' (bs.length + 1) (bs.flatMap binCells ++ binCells x) → (wr.alloc (.cells #[(.int .i64 (x.1)), (.int .i64 (x.2.1)), (.int .i64 (x.2.2))] 38)).grownBy w4 v.ownBlock →
              Hid (RCov f t w v' x.2.2 (bs ++ [x]) w4) ∧ w4.cell? ⟨B8, 2, none⟩ = some (.int .i64 (x.2.2))) := fun v' w4 h1 h2 => by
            obtain ⟨p1, p2⟩ := rcov_next f0 t1 HR.out hlt Hb.out H8.out HBE.out HX.out _ h1 h2
            refine ⟨p1, ?_⟩
            have := HBE.out.box
            rw [← HX.out] at this
            exact (cells_of_three (p2.trans this)).2.2
          have hxb := best_spec 4 g t (by omega) (by omega) hlt t1
          rw [← hx] at hxb
          obtain ⟨-, hx1, hx2⟩ := hxb
          obtain ⟨va, vc, rfl⟩ := owns_shape hown1
          have HO1 := Lib.hid hown1
          clear hx hown1 hob HB
          go_wp2_with (at_builtin; refine wpList_append_own _ rfl _ _ 46 rfl (w.heap.size + 1) 38 i0 (.agg #[(.int .i64 0), (.int .i64 0), (.int .i64 0)]) 3 24 Tryd.underlying46 hif hz0 hz1 hz2 rfl (by decide) (.slice va bs.length vc) _ _ rfl (ownsRow_same HO1.out (below_new wr _)) ⟨wr.heap.size, 0, none⟩ 1 1 [(.int .i64 (x.1)), (.int .i64 (x.2.1)), (.int .i64 (x.2.2))] rfl rfl (cells_three _ _ _ _ _) (by simp [Value.oneCell']) (by unfold maxLen; omega) (by omega) (by simp; omega) ?_; intro v' w4 hown' hgrow _; obtain ⟨hN, c3⟩ := HN.out v' w4 hown' hgrow; clear hown' hgrow)
          go_roundw
          case rel => exact ⟨v', x.2.2, _, rfl, rfl, hN⟩
          case measure => simp [intOf]; omega
    · have hgt : g = t := by have := HR.out.gt; omega
      have hbs : bs = covN 4 f t := by
        have := HR.out.gre [] (show t ≤ g by omega)
        rw [List.append_nil] at this
        exact HFIN.out _ this
      obtain ⟨va, vc, rfl⟩ := owns_shape HR.out.own
      obtain ⟨c0, c1⟩ := cells_of_two HR.out.box
      have f0' := free_of_box HR.out.box 0
      have f1' := free_of_box HR.out.box 1
      have HO := Lib.hid (owns_setCell (owns_setCell HR.out.own (p := ⟨w.heap.size, 0, none⟩) (by simp) (.slice va bs.length vc)) (p := ⟨w.heap.size, 1, none⟩) (by simp) (.int .i64 0))
      have HB := Lib.hid ((HR.out.bel.setCell (p := ⟨w.heap.size, 0, none⟩) (by simp) (.slice va bs.length vc)).setCell (p := ⟨w.heap.size, 1, none⟩) (by simp) (.int .i64 0))
      have HBS := Lib.hid hbs
      clear hgt hbs hfld
      go_wp2_with fail
      exact bodyPost_ret (v := .agg #[.slice va bs.length vc, (.int .i64 0)]) (by simp [results, Tryd.results29, go_sem, c0, c1]) rfl ⟨_, rfl, by rw [← HBS.out]; exact reads_of_owns HO.out, HB.out⟩

theorem rcover_no (f t : Int) (w : World) (h : ivB f t = false) : Calls Tryd.prog 29 #[(.int .i64 f), (.int .i64 t)] w (RetListed [] 3 w) := by
  have HV : Hid (∀ W, Calls Tryd.prog 25 #[(.int .i64 f), (.int .i64 t)] W fun e w' => e = .returned (.bool false) ∧ w' = W) := fun W => rinterval_eq f t false W h
  clear h
  go_enter Tryd.func29, Tryd.ntmps29
  go_wp2_with fail
  refine (HV.out _).mono ?_
  rintro e w1 ⟨rfl, rfl⟩
  go_wp2_with fail
  exact bodyPost_ret (v := .agg #[.slice none 0 0, (.int .i64 3)]) (by simp [results, Tryd.results29, go_sem]) rfl ⟨_, rfl, .inl ⟨rfl, rfl⟩, (Below.refl _ _).alloc (Nat.le_refl _) _⟩
end Go.Proofs.YtfcfdphkaildiaaDoor
