/- Part 20 of the proof of lawSum.card: QryWalkP, QryWalkQ, QryWalkR, QryLawA. Conditions: those of each theorem. -/
import Derived.BigQuiet
import Derived.Test.YthejfklieedjmaaGreatDoorQs01
import Derived.Test.YthejfklieedjmaaGreatDoorQs09
import Derived.Test.YthejfklieedjmaaGreatDoorQs13
import Derived.Test.YthejfklieedjmaaGreatDoorQs18
import Derived.Test.YthejfklieedjmaaGreatDoorQs19
set_option linter.unusedSimpArgs false
namespace Go.Proofs.YthejfklieedjmaaGreatDoor
open Go Go.Proofs Go.RowKit
attribute [local go_sem] Oper.semAt_some
attribute [local go_sem ↓] yes_parts no_parts_rat no_parts_tick no_parts_wish no_wish_rat no_wish_tick yes_wish
def OfR (W : World) (r : Of) (e : Ending) : Prop := match r with
  | .ok q => ∃ v, e = .returned (.tuple #[v, .agg #[(.int .i64 0), (.int .i64 0)], .bool false]) ∧ AnyAt W q v
  | .own a c => e = .returned (.tuple #[.nilIface, .agg #[(.int .i64 a), (.int .i64 c)], .bool true])
  | .err c => e = .returned (.tuple #[.nilIface, .agg #[(.int .i64 0), (.int .i64 c)], .bool false])
theorem contains_eq (ts : List Int) (t : Int) : (ts.any fun n => t == n) = ts.contains t := by rw [List.contains_eq_any_beq]
theorem results_of (tmps : Array Value) (w : World) (N : Nat) (x a c b : Value) (hx : tmps.getD 4 undef = x) (hp : tmps.getD 5 undef = .pointer (some ⟨N, 0, none⟩)) (hb : tmps.getD 6 undef = b) (hg : w.heap[N]? = some (.cells #[a, c] 26 (0, 0))) :
    (results Tryz.f28 tmps).run Tryz.prog w = .ok (.tuple #[x, .agg #[a, c], b]) w := by
  have h1 := run_loadVar_row (P := Tryz.prog) w N 26 26 #[a, c] (0, 0) _ hg Tryz.underlying26 rfl (by kernel_rfl)
  have hf : (Tryz.f28).results = #[ResultVar.tmp 4, ResultVar.cell 5 26, ResultVar.tmp 6] := rfl
  have hx' : tmps[4]?.getD undef = x := by simpa using hx
  have hp' : tmps[5]?.getD undef = .pointer (some ⟨N, 0, none⟩) := by simpa using hp
  have hb' : tmps[6]?.getD undef = b := by simpa using hb
  simp [results, hf, hx', hp', hb', asAddr, h1]
theorem of_end {w W1 V : World} {N : Nat} (h : Turned (fun _ => False) w W1) (t : Turned (fun _ => False) W1 V) (hN : w.heap.size ≤ N) (x y : Value) : Turned (fun _ => False) w ((V.setCell ⟨N, 0, none⟩ x).setCell ⟨N, 1, none⟩ y) :=
  (h.trans t).freshC (((Turned.refl (fun k => k = N) V).setCell rfl _).setCell rfl _) fun i hi => by rw [hi]; exact hN
theorem AnyAt.set {V : World} {N : Nat} {q : Qv} {v : Value} {cs : Array Value} (h : AnyAt V q v) (hb : V.heap[N]? = some (.cells cs 26 (0, 0))) (x y : Value) : AnyAt ((V.setCell ⟨N, 0, none⟩ x).setCell ⟨N, 1, none⟩ y) q v := by
  have t2 : Turned (fun k => k = N) V ((V.setCell ⟨N, 0, none⟩ x).setCell ⟨N, 1, none⟩ y) := ((Turned.refl (fun k => k = N) V).setCell rfl _).setCell rfl _
  have key : ∀ l s, PtsAt V l s → PtsAt ((V.setCell ⟨N, 0, none⟩ x).setCell ⟨N, 1, none⟩ y) l s := fun l s hp => by
    obtain ⟨p, c, rfl, h, hg⟩ := hp
    have hn : ∀ g, p = some g → ¬ g.block = N := fun g he h1 => by
      obtain ⟨cs, h2⟩ := hg g he
      rw [h1, hb] at h2
      simp at h2
    refine ⟨p, c, rfl, (h.apart t2 hn).mono t2.size, fun g he => ?_⟩
    obtain ⟨cs, h2⟩ := hg g he
    exact ⟨cs, (t2.block _ (getElem?_lt h2) (hn g he)).trans h2⟩
  cases q with
  | num u => exact h
  | tick n => exact h
  | sum l => obtain ⟨s, h1, h2⟩ := h; exact ⟨s, h1, key _ _ h2⟩
  | wish w => obtain ⟨s, h1, h2⟩ := h; exact ⟨s, h1, key _ _ h2⟩
set_option maxRecDepth 20000 in
set_option maxHeartbeats 8000000 in
theorem of_any (x : Ex) (sm : SmX x) (hn : nodes x ≤ 100000) (ts : List Int) (p : Option Addr) (c : Nat) (a : Value) (w : World) (hT : TabOK w) (hk : KidsAt w (fun _ => True) x.kids a) (hl : Lst w.heap.size w 1 intCells ts p c) :
    Calls Tryz.prog 28 #[exA x a, .slice p ts.length c] w fun e w' => OfR w' (ofP x ts) e ∧ Turned (fun _ => False) w w' := by
  obtain ⟨pa, ca, rfl⟩ := hk.shape
  obtain ⟨W1, hW1⟩ : ∃ W1, W1 = (w.alloc (.cells #[(.int .i64 (x.op)), (.int .i64 (x.n)), .string x.s, .slice pa x.kids.length ca, (.int .i64 (x.at_))] 42)).alloc (.cells #[(.int .i64 0), (.int .i64 0)] 26) := ⟨_, rfl⟩
  have hb : W1.heap[w.heap.size]? = some (.cells #[(.int .i64 (x.op)), (.int .i64 (x.n)), .string x.s, .slice pa x.kids.length ca, (.int .i64 (x.at_))] 42 (0, 0)) ∧ W1.heap[w.heap.size + 1]? = some (.cells #[(.int .i64 0), (.int .i64 0)] 26 (0, 0)) := by
    refine ⟨?_, ?_⟩
    · rw [hW1, hao _ _ (by simp)]; exact World.alloc_heap_new _ _
    · have h2 := World.alloc_heap_new (w.alloc (.cells #[(.int .i64 (x.op)), (.int .i64 (x.n)), .string x.s, .slice pa x.kids.length ca, (.int .i64 (x.at_))] 42)) (.cells #[(.int .i64 0), (.int .i64 0)] 26)
      rw [hW1]; simpa using h2
  have HW := Lib.hid hW1
  have HB := Lib.hid hb.1
  have HP := Lib.hid hb.2
  have HT : Hid (Turned (fun _ => False) w W1) := Lib.hid (by rw [hW1]; exact ((Turned.refl _ _).alloc _).alloc _)
  have HCT := Lib.hid (typed_any _ x (Nat.le_refl _) sm _ W1 (hk.all HT.out))
  have HCV := Lib.hid (fun (t : Int) (ht : typedE x = .ok t) (V : World) (hV : Turned (fun _ => False) W1 V) => value_any _ x (Nat.le_refl _) sm hn t ht _ V (hT.turned (HT.out.trans hV)) (hk.all (HT.out.trans hV)))
  have HCC : Hid (∀ (t : Int) (V : World), Turned (fun _ => False) W1 V → Calls Tryz.prog 50 #[.slice p ts.length c, (.int .i64 t)] V fun e w' => e = .returned (.bool (ts.contains t)) ∧ Turned (fun _ => False) V w') := Lib.hid fun t V hV => by
    have := contains_any ts t p c _ V (hl.turned (HT.out.trans hV))
    rwa [contains_eq] at this
  have HCX : Hid (∀ V, Turned (fun _ => False) W1 V → V.cell? ⟨w.heap.size, 0, none⟩ = some (.int .i64 (x.op)) ∧ V.cell? ⟨w.heap.size, 1, none⟩ = some (.int .i64 (x.n)) ∧ V.cell? ⟨w.heap.size, 2, none⟩ = some (.string x.s) ∧ V.cell? ⟨w.heap.size, 3, none⟩ = some (.slice pa x.kids.length ca) ∧ V.cell? ⟨w.heap.size, 4, none⟩ = some (.int .i64 (x.at_))) :=
    Lib.hid fun V hV => cellsFive ((hV.block _ (getElem?_lt HB.out) id).trans HB.out)
  have HN := Lib.hid hn
  clear hn hT hk hl hW1 hb
  unfold exA at HCT HCV ⊢
  obtain ⟨x0, x1, x2, x3, x4⟩ := HCX.out _ (Turned.refl _ _)
  cases hty : typedE x with
  | error e =>
    have HVX : Hid (typV x = .tuple #[(.int .i64 0), .agg #[(.int .i64 (e.1)), (.int .i64 (e.2))]]) := Lib.hid (by unfold typV; rw [hty])
    have HV : Hid (ofP x ts = .own e.1 e.2) := Lib.hid (by unfold ofP; rw [hty])
    have hne : e.2 ≠ 0 := typedE_err hty
    have hnb : (e.2 == 0) = false := by simpa using hne
    clear hty HCC HCV
    go_enter Tryz.func28, Tryz.ntmps28
    go_upto_region 1 with fail
    rw [← HW.out]
    clear HW
    go_wp2_with (go_at_call 45; refine HCT.out.mono ?_; rintro e9 W9 ⟨rfl, ht⟩; rw [HVX.out]; have T1 := Lib.hid ht; clear ht)
    have HB9 := Lib.hid (((T1.out.alloc (.cells #[(.int .i64 (e.1)), (.int .i64 (e.2))] 26)).block _ (getElem?_lt HP.out) id).trans HP.out)
    obtain ⟨z0, z1, f0, f1⟩ := two_cells HB9.out
    go_region
    go_wp2_with fail
    refine bodyPost_ret (results_of _ _ (w.heap.size + 1) .nilIface (.int .i64 (e.1)) (.int .i64 (e.2)) (.bool true) rfl rfl rfl (two_set HB9.out)) rfl ?_
    rw [HV.out]
    exact ⟨rfl, (of_end HT.out (T1.out.alloc _) (Nat.le_succ _) _ _).drew⟩
  | ok t =>
    have HVX : Hid (typV x = .tuple #[(.int .i64 t), .agg #[(.int .i64 0), (.int .i64 0)]]) := Lib.hid (by unfold typV; rw [hty])
    have HTY := Lib.hid hty
    clear hty
    cases hcn : ts.contains t with
    | false =>
      have HV : Hid (ofP x ts = .err 7) := Lib.hid (by unfold ofP; rw [HTY.out]; dsimp only; rw [hcn]; rfl)
      have HC := Lib.hid (HCC.out t)
      rw [hcn] at HC
      clear hcn HCC HCV
      go_enter Tryz.func28, Tryz.ntmps28
      go_upto_region 1 with fail
      rw [← HW.out]
      clear HW
      go_wp2_with (first
        | (go_at_call 45; refine HCT.out.mono ?_; rintro e9 W9 ⟨rfl, ht⟩; rw [HVX.out]; have T1 := Lib.hid ht; clear ht)
        | (go_at_call 50; refine (HC.out _ (T1.out.alloc _)).mono ?_; rintro e9 V9 ⟨rfl, ht⟩; have T2 := Lib.hid ((T1.out.alloc _).trans ht); clear ht; have HB9 := Lib.hid (keepB T2.out HP.out); obtain ⟨z0, z1, f0, f1⟩ := two_cells HB9.out))
      refine bodyPost_ret (results_of _ _ (w.heap.size + 1) .nilIface (.int .i64 0) (.int .i64 7) (.bool false) rfl rfl rfl (two_set HB9.out)) rfl ?_
      rw [HV.out]
      exact ⟨rfl, of_end HT.out T2.out (Nat.le_succ _) _ _⟩
    | true =>
      have HC := Lib.hid (HCC.out t)
      rw [hcn] at HC
      have HVC := Lib.hid (HCV.out t HTY.out)
      have HOF : Hid (ofP x ts = match valueE x with
        | .error c => .err c
        | .ok v => match wishOf v with
          | .wish w => if checkW w = 0 then .ok (.wish w) else .err (checkW w)
          | u => .ok u) := Lib.hid (by unfold ofP; rw [HTY.out]; dsimp only; rw [hcn]; rfl)
      clear hcn HCC HCV
      cases hv : valueE x with
      | error e =>
        rw [hv] at HVC HOF
        have hnb : (e == 0) = false := by have := value_err hv; simp; omega
        have hE1 : errOf (.error e) = e := rfl
        clear hv
        go_enter Tryz.func28, Tryz.ntmps28
        go_upto_region 1 with fail
        rw [← HW.out]
        clear HW
        go_wp2_with (first
          | (go_at_call 45; refine HCT.out.mono ?_; rintro e9 W9 ⟨rfl, ht⟩; rw [HVX.out]; have T1 := Lib.hid ht; clear ht)
          | (go_at_call 50; refine (HC.out _ (T1.out.alloc _)).mono ?_; rintro e9 V9 ⟨rfl, ht⟩; have T2 := Lib.hid ((T1.out.alloc _).trans ht); clear ht x0 x1 x2 x3 x4; obtain ⟨x0, x1, x2, x3, x4⟩ := HCX.out _ T2.out)
          | (go_at_call 51; refine (HVC.out _ T2.out).mono ?_; rintro e9 V8 ⟨⟨v9, rfl, -⟩, ht⟩; have T3 := Lib.hid (T2.out.trans ht); clear ht; have HB9 := Lib.hid (keepB T3.out HP.out); obtain ⟨z0, z1, f0, f1⟩ := two_cells HB9.out))
        refine bodyPost_ret (results_of _ _ (w.heap.size + 1) .nilIface (.int .i64 0) (.int .i64 e) (.bool false) rfl rfl rfl (two_set HB9.out)) rfl ?_
        rw [HOF.out]
        exact ⟨rfl, of_end HT.out T3.out (Nat.le_succ _) _ _⟩
      | ok q =>
        rw [hv] at HVC HOF
        have hE1 : errOf (.ok q) = 0 := rfl
        have hck := fun w hw => ck_of HTY.out hv HN.out (w := w) hw
        clear hv
        cases q with
        | num u =>
          have HOF2 : Hid (ofP x ts = .ok (.num u)) := Lib.hid HOF.out
          obtain ⟨un, ux, ud⟩ := u
          go_enter Tryz.func28, Tryz.ntmps28
          go_upto_region 1 with fail
          rw [← HW.out]
          clear HW
          go_wp2_with (first
            | (go_at_call 45; refine HCT.out.mono ?_; rintro e9 W9 ⟨rfl, ht⟩; rw [HVX.out]; have T1 := Lib.hid ht; clear ht)
            | (go_at_call 50; refine (HC.out _ (T1.out.alloc _)).mono ?_; rintro e9 V9 ⟨rfl, ht⟩; have T2 := Lib.hid ((T1.out.alloc _).trans ht); clear ht x0 x1 x2 x3 x4; obtain ⟨x0, x1, x2, x3, x4⟩ := HCX.out _ T2.out)
            | (go_at_call 51; refine (HVC.out _ T2.out).mono ?_; rintro e9 V8 ⟨⟨v9, rfl, hq9⟩, ht⟩; have HQ := hq9 _ rfl; simp only [AnyAt] at HQ; subst HQ; have T3 := Lib.hid (T2.out.trans ht); clear ht hq9; have HB9 := Lib.hid (keepB (T3.out.alloc (.cells (wishC noWs (.slice none 0 0)) 33)) HP.out); obtain ⟨z0, z1, f0, f1⟩ := two_cells HB9.out))
          refine bodyPost_ret (results_of _ _ (w.heap.size + 1) _ (.int .i64 0) (.int .i64 0) (.bool false) rfl rfl rfl (two_set HB9.out)) rfl ?_
          rw [HOF2.out]
          exact ⟨⟨_, rfl, rfl⟩, of_end HT.out (T3.out.alloc _) (Nat.le_succ _) _ _⟩
        | tick n =>
          have HOF2 : Hid (ofP x ts = .ok (.tick n)) := Lib.hid HOF.out
          go_enter Tryz.func28, Tryz.ntmps28
          go_upto_region 1 with fail
          rw [← HW.out]
          clear HW
          go_wp2_with (first
            | (go_at_call 45; refine HCT.out.mono ?_; rintro e9 W9 ⟨rfl, ht⟩; rw [HVX.out]; have T1 := Lib.hid ht; clear ht)
            | (go_at_call 50; refine (HC.out _ (T1.out.alloc _)).mono ?_; rintro e9 V9 ⟨rfl, ht⟩; have T2 := Lib.hid ((T1.out.alloc _).trans ht); clear ht x0 x1 x2 x3 x4; obtain ⟨x0, x1, x2, x3, x4⟩ := HCX.out _ T2.out)
            | (go_at_call 51; refine (HVC.out _ T2.out).mono ?_; rintro e9 V8 ⟨⟨v9, rfl, hq9⟩, ht⟩; have HQ := hq9 _ rfl; simp only [AnyAt] at HQ; subst HQ; have T3 := Lib.hid (T2.out.trans ht); clear ht hq9; have HB9 := Lib.hid (keepB (T3.out.alloc (.cells (wishC noWs (.slice none 0 0)) 33)) HP.out); obtain ⟨z0, z1, f0, f1⟩ := two_cells HB9.out))
          refine bodyPost_ret (results_of _ _ (w.heap.size + 1) _ (.int .i64 0) (.int .i64 0) (.bool false) rfl rfl rfl (two_set HB9.out)) rfl ?_
          rw [HOF2.out]
          exact ⟨⟨_, rfl, rfl⟩, of_end HT.out (T3.out.alloc _) (Nat.le_succ _) _ _⟩
        | sum l =>
          obtain ⟨cc, hc⟩ : ∃ cc, checkW (sumW l) = cc := ⟨_, rfl⟩
          have HOF2 : Hid (ofP x ts = if cc = 0 then .ok (.wish (sumW l)) else .err cc) := Lib.hid (by rw [← hc]; exact HOF.out)
          have HCK : Hid (∀ (p : Option Addr) (k : Nat) (V : World), PtsAt V l (.slice p l.length k) → Calls Tryz.prog 7 #[.agg #[(.int .i64 1), .slice p l.length k, (.int .i64 0), (.int .i64 0), (.int .i64 0), (.int .i64 0), (.int .i64 0), .bool false, .string ⟨#[]⟩, .string ⟨#[]⟩, .bool false, .string ⟨#[]⟩, .string ⟨#[]⟩]] V fun e w' => e = .returned (.int .i64 cc) ∧ Turned (fun _ => False) V w') := Lib.hid fun p k V h => by
            rw [← hc]
            exact check_any (sumW l) _ V (hck _ rfl) h
          clear hck hc
          have hc2 : cc = 0 ∨ ((cc == 0) = false ∧ ¬ cc = 0) := by by_cases h : cc = 0 <;> simp [h]
          rcases hc2 with rfl | ⟨hc2, hc3⟩
          all_goals
            go_enter Tryz.func28, Tryz.ntmps28
            go_upto_region 1 with fail
            rw [← HW.out]
            clear HW
            go_wp2_with (first
              | (go_at_call 45; refine HCT.out.mono ?_; rintro e9 W9 ⟨rfl, ht⟩; rw [HVX.out]; have T1 := Lib.hid ht; clear ht)
              | (go_at_call 50; refine (HC.out _ (T1.out.alloc _)).mono ?_; rintro e9 V9 ⟨rfl, ht⟩; have T2 := Lib.hid ((T1.out.alloc _).trans ht); clear ht x0 x1 x2 x3 x4; obtain ⟨x0, x1, x2, x3, x4⟩ := HCX.out _ T2.out)
              | (go_at_call 51; refine (HVC.out _ T2.out).mono ?_; rintro e9 V8 ⟨⟨v9, rfl, hq9⟩, ht⟩; obtain ⟨s9, rfl, hp9⟩ := hq9 _ rfl; obtain ⟨p9, c9, rfl⟩ : ∃ p9 c9, s9 = .slice p9 _ c9 := (by obtain ⟨p9, c9, h9, -⟩ := hp9; exact ⟨p9, c9, h9⟩); have HP9 := Lib.hid hp9; have T3 := Lib.hid (T2.out.trans ht); clear ht hq9 hp9)
              | (go_at_call 7; refine (HCK.out p9 c9 _ (HP9.out.turned ((Turned.refl (fun _ => False) V8).alloc _))).mono ?_; rintro e9 V7 ⟨rfl, ht⟩; have T5 := Lib.hid (((Turned.refl (fun _ => False) V8).alloc _).trans ht); have T4 := Lib.hid ((T3.out.alloc _).trans ht); clear ht; have HB9 := Lib.hid (keepB T4.out HP.out); obtain ⟨z0, z1, f0, f1⟩ := two_cells HB9.out))
            first
              | (refine bodyPost_ret (results_of _ _ (w.heap.size + 1) _ (.int .i64 0) (.int .i64 0) (.bool false) rfl rfl rfl (two_set HB9.out)) rfl ?_
                 rw [HOF2.out.trans (if_pos (by trivial))]
                 exact ⟨⟨_, rfl, AnyAt.set (q := .wish _) ⟨_, rfl, HP9.out.turned T5.out⟩ HB9.out _ _⟩, of_end HT.out T4.out (Nat.le_succ _) _ _⟩)
              | (refine bodyPost_ret (results_of _ _ (w.heap.size + 1) .nilIface (.int .i64 0) (.int .i64 cc) (.bool false) rfl rfl rfl (two_set HB9.out)) rfl ?_
                 rw [HOF2.out, if_neg hc3]
                 exact ⟨rfl, of_end HT.out T4.out (Nat.le_succ _) _ _⟩)
        | wish w2 =>
          obtain ⟨cc, hc⟩ : ∃ cc, checkW w2 = cc := ⟨_, rfl⟩
          have HOF2 : Hid (ofP x ts = if cc = 0 then .ok (.wish w2) else .err cc) := Lib.hid (by rw [← hc]; exact HOF.out)
          have HCK : Hid (∀ (p : Option Addr) (k : Nat) (V : World), PtsAt V w2.parts (.slice p w2.parts.length k) → Calls Tryz.prog 7 #[.agg (wishC w2 (.slice p w2.parts.length k))] V fun e w' => e = .returned (.int .i64 cc) ∧ Turned (fun _ => False) V w') := Lib.hid fun p k V h => by
            rw [← hc]
            exact check_any w2 _ V (hck _ rfl) h
          obtain ⟨k0, k1, k2, k3, k4, k5, k6, ⟨an, ax, ad⟩, ⟨bn, bx, bd⟩⟩ := w2
          dsimp only at HCK
          clear hck hc
          have hc2 : cc = 0 ∨ ((cc == 0) = false ∧ ¬ cc = 0) := by by_cases h : cc = 0 <;> simp [h]
          rcases hc2 with rfl | ⟨hc2, hc3⟩
          all_goals
            go_enter Tryz.func28, Tryz.ntmps28
            go_upto_region 1 with fail
            rw [← HW.out]
            clear HW
            go_wp2_with (first
              | (go_at_call 45; refine HCT.out.mono ?_; rintro e9 W9 ⟨rfl, ht⟩; rw [HVX.out]; have T1 := Lib.hid ht; clear ht)
              | (go_at_call 50; refine (HC.out _ (T1.out.alloc _)).mono ?_; rintro e9 V9 ⟨rfl, ht⟩; have T2 := Lib.hid ((T1.out.alloc _).trans ht); clear ht x0 x1 x2 x3 x4; obtain ⟨x0, x1, x2, x3, x4⟩ := HCX.out _ T2.out)
              | (go_at_call 51; refine (HVC.out _ T2.out).mono ?_; rintro e9 V8 ⟨⟨v9, rfl, hq9⟩, ht⟩; obtain ⟨s9, rfl, hp9⟩ := hq9 _ rfl; obtain ⟨p9, c9, rfl⟩ : ∃ p9 c9, s9 = .slice p9 _ c9 := (by obtain ⟨p9, c9, h9, -⟩ := hp9; exact ⟨p9, c9, h9⟩); have HP9 := Lib.hid hp9; have T3 := Lib.hid (T2.out.trans ht); clear ht hq9 hp9)
              | (go_at_call 7; refine (HCK.out p9 c9 _ (HP9.out.turned ((Turned.refl (fun _ => False) V8).alloc _))).mono ?_; rintro e9 V7 ⟨rfl, ht⟩; have T5 := Lib.hid (((Turned.refl (fun _ => False) V8).alloc _).trans ht); have T4 := Lib.hid ((T3.out.alloc _).trans ht); clear ht; have HB9 := Lib.hid (keepB T4.out HP.out); obtain ⟨z0, z1, f0, f1⟩ := two_cells HB9.out))
            first
              | (refine bodyPost_ret (results_of _ _ (w.heap.size + 1) _ (.int .i64 0) (.int .i64 0) (.bool false) rfl rfl rfl (two_set HB9.out)) rfl ?_
                 rw [HOF2.out.trans (if_pos (by trivial))]
                 exact ⟨⟨_, rfl, AnyAt.set (q := .wish _) ⟨_, rfl, HP9.out.turned T5.out⟩ HB9.out _ _⟩, of_end HT.out T4.out (Nat.le_succ _) _ _⟩)
              | (refine bodyPost_ret (results_of _ _ (w.heap.size + 1) .nilIface (.int .i64 0) (.int .i64 cc) (.bool false) rfl rfl rfl (two_set HB9.out)) rfl ?_
                 rw [HOF2.out, if_neg hc3]
                 exact ⟨rfl, of_end HT.out T4.out (Nat.le_succ _) _ _⟩)
end Go.Proofs.YthejfklieedjmaaGreatDoor
namespace Go.Proofs.YthejfklieedjmaaGreatDoor
open Go Go.Proofs Go.RowKit
attribute [local go_sem] Oper.semAt_some
attribute [local go_sem ↓] is_rat is_tick is_wish
theorem of_errs {x : Ex} {ts : List Int} {a c : Int} (h : ofP x ts = .own a c ∨ ofP x ts = .err c) : c ≠ 0 := by
  unfold ofP at h
  cases ht : typedE x with
  | error p =>
    rw [ht] at h
    simp at h
    have := typedE_err ht
    rw [← h.2]
    exact this
  | ok t =>
    rw [ht] at h
    dsimp only at h
    split at h
    · cases hv : valueE x with
      | error d =>
        rw [hv] at h
        simp at h
        have := value_err hv
        omega
      | ok v =>
        rw [hv] at h
        dsimp only at h
        split at h
        · split at h
          · simp at h
          · rename_i hc
            simp at h
            rw [← h]
            exact hc
        · simp at h
    · simp at h
      omega
theorem PtsAt.off {V V' : World} {N : Nat} {l : List Pt} {s : Value} {cs : Array Value} {T : TypeId} (h : PtsAt V l s) (t : Turned (fun k => k = N) V V') (hb : V.heap[N]? = some (.cells cs T (0, 0))) (hT : T ≠ 51) : PtsAt V' l s := by
  obtain ⟨p, c, rfl, h, hg⟩ := h
  have hn : ∀ g, p = some g → ¬ g.block = N := fun g he h1 => by
    obtain ⟨cs, h2⟩ := hg g he
    rw [h1, hb] at h2
    simp at h2
    exact hT h2.2
  refine ⟨p, c, rfl, (h.apart t hn).mono t.size, fun g he => ?_⟩
  obtain ⟨cs, h2⟩ := hg g he
  exact ⟨cs, (t.block _ (getElem?_lt h2) (hn g he)).trans h2⟩
theorem of_cases (x : Ex) (ts : List Int) : (∃ q, ofP x ts = .ok q) ∨ ∃ (a c : Int) (b : Bool), c ≠ 0 ∧ (ofP x ts = .own a c ∨ ofP x ts = .err c) ∧ ∀ W e, OfR W (ofP x ts) e → e = .returned (.tuple #[.nilIface, .agg #[(.int .i64 a), (.int .i64 c)], .bool b]) := by
  cases hr : ofP x ts with
  | ok q => exact .inl ⟨q, rfl⟩
  | own a c => exact .inr ⟨a, c, true, of_errs (.inl hr), .inl rfl, fun W e h => h⟩
  | err c => exact .inr ⟨0, c, false, of_errs (a := 0) (.inr hr), .inr rfl, fun W e h => h⟩
def numR (r : Of) : Value := match r with
  | .ok (.num u) => .tuple #[ratV u, (.int .i64 0)]
  | .ok _ => .tuple #[ratV zeroR, (.int .i64 0)]
  | .own _ c => .tuple #[ratV zeroR, (.int .i64 c)]
  | .err c => .tuple #[ratV zeroR, (.int .i64 c)]
def WishR (W : World) (r : Of) (e : Ending) : Prop := match r with
  | .ok (.wish w) => ∃ s, e = .returned (.tuple #[.agg (wishC w s), (.int .i64 0)]) ∧ PtsAt W w.parts s
  | .ok _ => False
  | .own _ c => e = .returned (.tuple #[.agg (wishC noWs (.slice none 0 0)), (.int .i64 c)])
  | .err c => e = .returned (.tuple #[.agg (wishC noWs (.slice none 0 0)), (.int .i64 c)])
theorem results_num (tmps : Array Value) (w : World) (N : Nat) (x y z c : Value) (hp : tmps.getD 2 undef = .pointer (some ⟨N, 0, none⟩)) (hc : tmps.getD 3 undef = c) (hg : w.heap[N]? = some (.cells #[x, y, z] 31 (0, 0))) :
    (results Tryz.f11 tmps).run Tryz.prog w = .ok (.tuple #[.agg #[x, y, z], c]) w := by
  have h1 := run_loadVar_row (P := Tryz.prog) w N 31 31 #[x, y, z] (0, 0) _ hg Tryz.underlying31 rfl (by kernel_rfl)
  have hf : (Tryz.f11).results = #[ResultVar.cell 2 31, ResultVar.tmp 3] := rfl
  have hp' : tmps[2]?.getD undef = .pointer (some ⟨N, 0, none⟩) := by simpa using hp
  have hc' : tmps[3]?.getD undef = c := by simpa using hc
  simp [results, hf, hp', hc', asAddr, h1]
theorem froz3 {V : World} {N t : Nat} {x y z : Value} (h : V.heap[N]? = some (.cells #[x, y, z] t (0, 0))) : V.frozen? ⟨N, 0, none⟩ = false ∧ V.frozen? ⟨N, 1, none⟩ = false ∧ V.frozen? ⟨N, 2, none⟩ = false := by
  simp [World.frozen?, h]
set_option maxRecDepth 20000 in
set_option maxHeartbeats 8000000 in
theorem jNumber_any (x : Ex) (sm : SmX x) (hn : nodes x ≤ 100000) (a : Value) (w : World) (hT : TabOK w) (hk : KidsAt w (fun _ => True) x.kids a) : Calls Tryz.prog 11 #[exA x a] w fun e w' => e = .returned (numR (ofP x [1])) ∧ Turned (fun _ => False) w w' := by
  obtain ⟨pa, ca, rfl⟩ := hk.shape
  obtain ⟨W1, hW1⟩ : ∃ W1, W1 = (w.alloc (.cells #[(.int .i64 (x.op)), (.int .i64 (x.n)), .string x.s, .slice pa x.kids.length ca, (.int .i64 (x.at_))] 42)).alloc (.cells #[.bool false, .string ⟨#[]⟩, .string ⟨#[]⟩] 31) := ⟨_, rfl⟩
  have hb : W1.heap[w.heap.size]? = some (.cells #[(.int .i64 (x.op)), (.int .i64 (x.n)), .string x.s, .slice pa x.kids.length ca, (.int .i64 (x.at_))] 42 (0, 0)) ∧ W1.heap[w.heap.size + 1]? = some (.cells #[.bool false, .string ⟨#[]⟩, .string ⟨#[]⟩] 31 (0, 0)) := by
    refine ⟨by rw [hW1, hao _ _ (by simp)]; exact World.alloc_heap_new _ _, ?_⟩
    have h2 := World.alloc_heap_new (w.alloc (.cells #[(.int .i64 (x.op)), (.int .i64 (x.n)), .string x.s, .slice pa x.kids.length ca, (.int .i64 (x.at_))] 42)) (.cells #[.bool false, .string ⟨#[]⟩, .string ⟨#[]⟩] 31)
    rw [hW1]; simpa using h2
  have HW := Lib.hid hW1
  have HP := Lib.hid hb.2
  have HT : Hid (Turned (fun _ => False) w W1) := Lib.hid (by rw [hW1]; exact ((Turned.refl _ _).alloc _).alloc _)
  have t2 : Turned (fun _ => False) W1 (W1.alloc (.cells #[(.int .i64 1)] 3)) := (Turned.refl _ _).alloc _
  have HO := Lib.hid (of_any x sm hn [1] _ 1 _ _ (hT.turned (HT.out.trans t2)) (hk.all (HT.out.trans t2)) (Lst.block (World.alloc_heap_new _ _) rfl (fun _ => rfl) (Nat.le_refl 1) (by decide)))
  have HT2 := Lib.hid t2
  have hnum : ∀ q, ofP x [1] = .ok q → ∃ u, q = .num u := fun q hq => by
    obtain ⟨u, h, -⟩ := of_num hq
    exact ⟨u, h⟩
  obtain ⟨x0, x1, x2, x3, x4⟩ := cellsFive hb.1
  clear hT hk hW1 hb t2 hn
  unfold exA at HO ⊢
  rcases of_cases x [1] with ⟨q, hr⟩ | ⟨a, c, b, hne, hr, hof⟩
  · obtain ⟨u, rfl⟩ := hnum q hr
    rw [hr] at HO ⊢
    clear hr hnum
    obtain ⟨un, ux, ud⟩ := u
    go_enter Tryz.func11, Tryz.ntmps11
    go_upto_region 1 with fail
    rw [← HW.out]
    clear HW
    go_wp2_with (go_at_call 28; refine HO.out.mono ?_; rintro e9 W9 ⟨⟨v9, rfl, hq⟩, ht⟩; simp only [AnyAt] at hq; subst hq; have T1 := Lib.hid ((HT2.out.trans ht).alloc (.cells #[(.int .i64 0), (.int .i64 0)] 26)); clear ht; have HB9 := Lib.hid (keepB T1.out HP.out); obtain ⟨z0, z1, z2⟩ := three_cells HB9.out; obtain ⟨f0, f1, f2⟩ := froz3 HB9.out)
    obtain ⟨k1, k2⟩ := set3 HB9.out (.bool un) (.string ux) (.string ud)
    refine bodyPost_ret (results_num _ _ (w.heap.size + 1) _ _ _ (.int .i64 0) rfl rfl k1) rfl ?_
    exact ⟨rfl, (HT.out.trans T1.out).freshC k2 fun i hi => by rw [hi]; exact Nat.le_succ _⟩
  · have hnb : (c == 0) = false := by simpa using hne
    have HE : Hid (numR (ofP x [1]) = .tuple #[ratV zeroR, (.int .i64 c)]) := Lib.hid (by rcases hr with h | h <;> rw [h] <;> rfl)
    have HOF := Lib.hid hof
    clear hr hnum hof
    rw [HE.out]
    go_enter Tryz.func11, Tryz.ntmps11
    go_upto_region 1 with fail
    rw [← HW.out]
    clear HW
    go_wp2_with (go_at_call 28; refine HO.out.mono ?_; rintro e9 W9 ⟨he, ht⟩; cases HOF.out _ _ he; clear he; have hgn : ¬ W9.heap.size = w.heap.size + 1 := (by have h1 := getElem?_lt (keepB (HT2.out.trans ht) HP.out); omega); have hgm : ¬ w.heap.size + 1 = W9.heap.size := (fun h => hgn h.symm); have T1 := Lib.hid ((HT2.out.trans ht).alloc (.cells #[(.int .i64 a), (.int .i64 c)] 26)); clear ht; have HB9 := Lib.hid (keepB T1.out HP.out); obtain ⟨z0, z1, z2⟩ := three_cells HB9.out; obtain ⟨f0, f1, f2⟩ := froz3 HB9.out)
    go_region
    go_wp2_with fail
    obtain ⟨k1, k2⟩ := set3 HB9.out (.bool false) (.string ⟨#[]⟩) (.string ⟨#[]⟩)
    refine bodyPost_ret (results_num _ _ (w.heap.size + 1) _ _ _ (.int .i64 c) rfl rfl k1) rfl ?_
    exact ⟨rfl, ((HT.out.trans T1.out).freshC k2 fun i hi => by rw [hi]; exact Nat.le_succ _).drew⟩
end Go.Proofs.YthejfklieedjmaaGreatDoor
namespace Go.Proofs.YthejfklieedjmaaGreatDoor
open Go Go.Proofs Go.RowKit
attribute [local go_sem] Oper.semAt_some
attribute [local go_sem ↓] is_wish
theorem froz13 {V : World} {b t : Nat} {x0 x1 x2 x3 x4 x5 x6 x7 x8 x9 x10 x11 x12 : Value} (h : V.heap[b]? = some (.cells #[x0, x1, x2, x3, x4, x5, x6, x7, x8, x9, x10, x11, x12] t (0, 0))) : V.frozen? ⟨b, 0, none⟩ = false ∧ V.frozen? ⟨b, 1, none⟩ = false ∧ V.frozen? ⟨b, 2, none⟩ = false ∧ V.frozen? ⟨b, 3, none⟩ = false ∧ V.frozen? ⟨b, 4, none⟩ = false ∧ V.frozen? ⟨b, 5, none⟩ = false ∧ V.frozen? ⟨b, 6, none⟩ = false ∧ V.frozen? ⟨b, 7, none⟩ = false ∧ V.frozen? ⟨b, 8, none⟩ = false ∧ V.frozen? ⟨b, 9, none⟩ = false ∧ V.frozen? ⟨b, 10, none⟩ = false ∧ V.frozen? ⟨b, 11, none⟩ = false ∧ V.frozen? ⟨b, 12, none⟩ = false := by
  simp [World.frozen?, h]
theorem set13 {w : World} {b t : Nat} {x0 x1 x2 x3 x4 x5 x6 x7 x8 x9 x10 x11 x12 : Value} (h : w.heap[b]? = some (.cells #[x0, x1, x2, x3, x4, x5, x6, x7, x8, x9, x10, x11, x12] t (0, 0))) (v0 v1 v2 v3 v4 v5 v6 v7 v8 v9 v10 v11 v12 : Value) : (((((((((((((w.setCell ⟨b, 0, none⟩ v0).setCell ⟨b, 1, none⟩ v1).setCell ⟨b, 2, none⟩ v2).setCell ⟨b, 3, none⟩ v3).setCell ⟨b, 4, none⟩ v4).setCell ⟨b, 5, none⟩ v5).setCell ⟨b, 6, none⟩ v6).setCell ⟨b, 7, none⟩ v7).setCell ⟨b, 8, none⟩ v8).setCell ⟨b, 9, none⟩ v9).setCell ⟨b, 10, none⟩ v10).setCell ⟨b, 11, none⟩ v11).setCell ⟨b, 12, none⟩ v12).heap[b]? = some (.cells #[v0, v1, v2, v3, v4, v5, v6, v7, v8, v9, v10, v11, v12] t (0, 0)) ∧ Turned (fun k => k = b) w (((((((((((((w.setCell ⟨b, 0, none⟩ v0).setCell ⟨b, 1, none⟩ v1).setCell ⟨b, 2, none⟩ v2).setCell ⟨b, 3, none⟩ v3).setCell ⟨b, 4, none⟩ v4).setCell ⟨b, 5, none⟩ v5).setCell ⟨b, 6, none⟩ v6).setCell ⟨b, 7, none⟩ v7).setCell ⟨b, 8, none⟩ v8).setCell ⟨b, 9, none⟩ v9).setCell ⟨b, 10, none⟩ v10).setCell ⟨b, 11, none⟩ v11).setCell ⟨b, 12, none⟩ v12) := by
  refine ⟨?_, ((((((((((((((Turned.refl (fun k => k = b) w).setCell (p := ⟨b, 0, none⟩) rfl v0).setCell (p := ⟨b, 1, none⟩) rfl v1).setCell (p := ⟨b, 2, none⟩) rfl v2).setCell (p := ⟨b, 3, none⟩) rfl v3).setCell (p := ⟨b, 4, none⟩) rfl v4).setCell (p := ⟨b, 5, none⟩) rfl v5).setCell (p := ⟨b, 6, none⟩) rfl v6).setCell (p := ⟨b, 7, none⟩) rfl v7).setCell (p := ⟨b, 8, none⟩) rfl v8).setCell (p := ⟨b, 9, none⟩) rfl v9).setCell (p := ⟨b, 10, none⟩) rfl v10).setCell (p := ⟨b, 11, none⟩) rfl v11).setCell (p := ⟨b, 12, none⟩) rfl v12)⟩
  rw [(setBlock (setBlock (setBlock (setBlock (setBlock (setBlock (setBlock (setBlock (setBlock (setBlock (setBlock (setBlock (setBlock h 0 v0) 1 v1) 2 v2) 3 v3) 4 v4) 5 v5) 6 v6) 7 v7) 8 v8) 9 v9) 10 v10) 11 v11) 12 v12)]
  simp
theorem results_wish (tmps : Array Value) (w : World) (N : Nat) (x0 x1 x2 x3 x4 x5 x6 x7 x8 x9 x10 x11 x12 c : Value) (hp : tmps.getD 2 undef = .pointer (some ⟨N, 0, none⟩)) (hc : tmps.getD 3 undef = c) (hg : w.heap[N]? = some (.cells #[x0, x1, x2, x3, x4, x5, x6, x7, x8, x9, x10, x11, x12] 33 (0, 0))) :
    (results Tryz.f10 tmps).run Tryz.prog w = .ok (.tuple #[.agg #[x0, x1, x2, x3, x4, x5, x6, x7, x8, x9, x10, x11, x12], c]) w := by
  have h1 := run_loadVar_row (P := Tryz.prog) w N 33 33 #[x0, x1, x2, x3, x4, x5, x6, x7, x8, x9, x10, x11, x12] (0, 0) _ hg Tryz.underlying33 rfl (by kernel_rfl)
  have hf : (Tryz.f10).results = #[ResultVar.cell 2 33, ResultVar.tmp 3] := rfl
  have hp' : tmps[2]?.getD undef = .pointer (some ⟨N, 0, none⟩) := by simpa using hp
  have hc' : tmps[3]?.getD undef = c := by simpa using hc
  simp [results, hf, hp', hc', asAddr, h1]
set_option maxRecDepth 20000 in
set_option maxHeartbeats 16000000 in
theorem jWish_any (x : Ex) (sm : SmX x) (hn : nodes x ≤ 100000) (a : Value) (w : World) (hT : TabOK w) (hk : KidsAt w (fun _ => True) x.kids a) : Calls Tryz.prog 10 #[exA x a] w fun e w' => WishR w' (ofP x [3, 4]) e ∧ Turned (fun _ => False) w w' := by
  obtain ⟨pa, ca, rfl⟩ := hk.shape
  obtain ⟨W1, hW1⟩ : ∃ W1, W1 = (w.alloc (.cells #[(.int .i64 (x.op)), (.int .i64 (x.n)), .string x.s, .slice pa x.kids.length ca, (.int .i64 (x.at_))] 42)).alloc (.cells #[(.int .i64 0), .slice none 0 0, (.int .i64 0), (.int .i64 0), (.int .i64 0), (.int .i64 0), (.int .i64 0), .bool false, .string ⟨#[]⟩, .string ⟨#[]⟩, .bool false, .string ⟨#[]⟩, .string ⟨#[]⟩] 33) := ⟨_, rfl⟩
  have hb : W1.heap[w.heap.size]? = some (.cells #[(.int .i64 (x.op)), (.int .i64 (x.n)), .string x.s, .slice pa x.kids.length ca, (.int .i64 (x.at_))] 42 (0, 0)) ∧ W1.heap[w.heap.size + 1]? = some (.cells #[(.int .i64 0), .slice none 0 0, (.int .i64 0), (.int .i64 0), (.int .i64 0), (.int .i64 0), (.int .i64 0), .bool false, .string ⟨#[]⟩, .string ⟨#[]⟩, .bool false, .string ⟨#[]⟩, .string ⟨#[]⟩] 33 (0, 0)) := by
    refine ⟨by rw [hW1, hao _ _ (by simp)]; exact World.alloc_heap_new _ _, ?_⟩
    have h2 := World.alloc_heap_new (w.alloc (.cells #[(.int .i64 (x.op)), (.int .i64 (x.n)), .string x.s, .slice pa x.kids.length ca, (.int .i64 (x.at_))] 42)) (.cells #[(.int .i64 0), .slice none 0 0, (.int .i64 0), (.int .i64 0), (.int .i64 0), (.int .i64 0), (.int .i64 0), .bool false, .string ⟨#[]⟩, .string ⟨#[]⟩, .bool false, .string ⟨#[]⟩, .string ⟨#[]⟩] 33)
    rw [hW1]; simpa using h2
  have HW := Lib.hid hW1
  have HP := Lib.hid hb.2
  have HT : Hid (Turned (fun _ => False) w W1) := Lib.hid (by rw [hW1]; exact ((Turned.refl _ _).alloc _).alloc _)
  have t2 : Turned (fun _ => False) W1 (W1.alloc (.cells #[(.int .i64 3), (.int .i64 4)] 3)) := (Turned.refl _ _).alloc _
  have HO := Lib.hid (of_any x sm hn [3, 4] _ 2 _ _ (hT.turned (HT.out.trans t2)) (hk.all (HT.out.trans t2)) (Lst.block (World.alloc_heap_new _ _) rfl (fun _ => rfl) (Nat.le_refl 2) (by decide)))
  have HT2 := Lib.hid t2
  have hnum : ∀ q, ofP x [3, 4] = .ok q → ∃ w, q = .wish w := fun q hq => by
    obtain ⟨t, v, ht, hc, hv, hq, -⟩ := of_ok hq
    have ht1 : t = 3 ∨ t = 4 := by simpa using hc
    have h1 := value_type ht hv
    cases v with
    | num c => exfalso; simp [tyOf] at h1; omega
    | tick n => exfalso; simp [tyOf] at h1; omega
    | sum l => exact ⟨_, hq.symm⟩
    | wish w => exact ⟨_, hq.symm⟩
  obtain ⟨x0, x1, x2, x3, x4⟩ := cellsFive hb.1
  clear hT hk hW1 hb t2 hn
  unfold exA at HO ⊢
  rcases of_cases x [3, 4] with ⟨q, hr⟩ | ⟨a, c, b, hne, hr, hof⟩
  · obtain ⟨u, rfl⟩ := hnum q hr
    rw [hr] at HO ⊢
    clear hr hnum
    obtain ⟨k0, k1, k2, k3, k4, k5, k6, ⟨an, ax, ad⟩, ⟨bn, bx, bd⟩⟩ := u
    go_enter Tryz.func10, Tryz.ntmps10
    go_upto_region 1 with fail
    rw [← HW.out]
    clear HW
    go_wp2_with (go_at_call 28; refine HO.out.mono ?_; rintro e9 W9 ⟨⟨v9, rfl, s9, rfl, hp9⟩, ht⟩; obtain ⟨p9, c9, rfl⟩ : ∃ p9 c9, s9 = .slice p9 k1.length c9 := (by obtain ⟨p9, c9, h9, -⟩ := hp9; exact ⟨p9, c9, h9⟩); have HP9 := Lib.hid (hp9.turned ((Turned.refl (fun _ => False) W9).alloc (.cells #[(.int .i64 0), (.int .i64 0)] 26))); have T1 := Lib.hid ((HT2.out.trans ht).alloc (.cells #[(.int .i64 0), (.int .i64 0)] 26)); clear ht hp9; have HB9 := Lib.hid (keepB T1.out HP.out); obtain ⟨z0, z1, z2, z3, z4, z5, z6, z7, z8, z9, z10, z11, z12⟩ := thirteen HB9.out; obtain ⟨f0, f1, f2, f3, f4, f5, f6, f7, f8, f9, f10, f11, f12⟩ := froz13 HB9.out)
    obtain ⟨m1, m2⟩ := set13 HB9.out (.int .i64 k0) (.slice p9 k1.length c9) (.int .i64 k2) (.int .i64 k3) (.int .i64 k4) (.int .i64 k5) (.int .i64 k6) (.bool an) (.string ax) (.string ad) (.bool bn) (.string bx) (.string bd)
    refine bodyPost_ret (results_wish _ _ (w.heap.size + 1) _ _ _ _ _ _ _ _ _ _ _ _ _ (.int .i64 0) rfl rfl m1) rfl ?_
    exact ⟨⟨_, rfl, HP9.out.off m2 HB9.out (by decide)⟩, (HT.out.trans T1.out).freshC m2 fun i hi => by rw [hi]; exact Nat.le_succ _⟩
  · have hnb : (c == 0) = false := by simpa using hne
    have HE : Hid (∀ V, WishR V (ofP x [3, 4]) (.returned (.tuple #[.agg #[(.int .i64 0), .slice none 0 0, (.int .i64 0), (.int .i64 0), (.int .i64 0), (.int .i64 0), (.int .i64 0), .bool false, .string ⟨#[]⟩, .string ⟨#[]⟩, .bool false, .string ⟨#[]⟩, .string ⟨#[]⟩], (.int .i64 c)]))) := Lib.hid (fun V => by rcases hr with h | h <;> rw [h] <;> rfl)
    have HOF := Lib.hid hof
    clear hr hnum hof
    go_enter Tryz.func10, Tryz.ntmps10
    go_upto_region 1 with fail
    rw [← HW.out]
    clear HW
    go_wp2_with (go_at_call 28; refine HO.out.mono ?_; rintro e9 W9 ⟨he, ht⟩; cases HOF.out _ _ he; clear he; have hgn : ¬ W9.heap.size = w.heap.size + 1 := (by have h1 := getElem?_lt (keepB (HT2.out.trans ht) HP.out); omega); have T1 := Lib.hid ((HT2.out.trans ht).alloc (.cells #[(.int .i64 a), (.int .i64 c)] 26)).drew; clear ht)
    have HR0 : Hid (((W9.alloc (.cells #[(.int .i64 a), (.int .i64 c)] 26)).drew).cell? ⟨W9.heap.size, 1, none⟩ = some (.int .i64 c)) := Lib.hid (two_cells (World.alloc_heap_new W9 (.cells #[(.int .i64 a), (.int .i64 c)] 26))).2.1
    refine wp_region_heldL (fun A => A.cell? ⟨W9.heap.size, 1, none⟩ = some (.int .i64 c)) (fun _ => True) 3 (by kernel_rfl) ?_
    obtain ⟨V9, hV9⟩ : ∃ V9, V9 = (W9.alloc (.cells #[(.int .i64 a), (.int .i64 c)] 26)).drew := ⟨_, rfl⟩
    rw [← hV9] at HR0 T1 ⊢
    clear hV9
    refine wpAnyL_takeR (i := 0) (oi := _) (v := .agg #[(.int .i64 0), .slice none 0 0, (.int .i64 0), (.int .i64 0), (.int .i64 0), (.int .i64 0), (.int .i64 0), .bool false, .string ⟨#[]⟩, .string ⟨#[]⟩, .bool false, .string ⟨#[]⟩, .string ⟨#[]⟩]) rfl (by kernel_rfl) (by kernel_rfl) (fun _ _ _ h => h) (Or.inl ⟨by kernel_rfl, fun V hV => ?_⟩) HR0.out (fun _ => trivial) ?_
    · go_simp
    try simp only [List.getElem_toArray, List.getElem_cons_zero, List.getElem_cons_succ, Act.put, List.setIfInBounds_toArray, List.set_cons_zero, List.set_cons_succ]
    refine wpAnyL_takeR (i := 1) (oi := _) (v := .pointer (some ⟨W9.heap.size, 1, none⟩)) rfl (by kernel_rfl) (by kernel_rfl) (fun _ _ _ h => h) (Or.inl ⟨by kernel_rfl, fun V hV => ?_⟩) HR0.out (fun _ => trivial) ?_
    · go_simp
    try simp only [List.getElem_toArray, List.getElem_cons_zero, List.getElem_cons_succ, Act.put, List.setIfInBounds_toArray, List.set_cons_zero, List.set_cons_succ]
    refine wpAnyL_takeR (i := 2) (oi := _) (v := (.int .i64 c)) rfl (by kernel_rfl) (by kernel_rfl) (fun _ _ _ h => h) (Or.inl ⟨by kernel_rfl, fun V hV => ?_⟩) HR0.out (fun _ => trivial) ?_
    · go_simp
    try simp only [List.getElem_toArray, List.getElem_cons_zero, List.getElem_cons_succ, Act.put, List.setIfInBounds_toArray, List.set_cons_zero, List.set_cons_succ]
    have HB9 := Lib.hid (keepB T1.out HP.out)
    obtain ⟨z0, z1, z2, z3, z4, z5, z6, z7, z8, z9, z10, z11, z12⟩ := thirteen HB9.out
    obtain ⟨f0, f1, f2, f3, f4, f5, f6, f7, f8, f9, f10, f11, f12⟩ := froz13 HB9.out
    obtain ⟨m1, m2⟩ := set13 HB9.out (.int .i64 0) (.slice none 0 0) (.int .i64 0) (.int .i64 0) (.int .i64 0) (.int .i64 0) (.int .i64 0) (.bool false) (.string ⟨#[]⟩) (.string ⟨#[]⟩) (.bool false) (.string ⟨#[]⟩) (.string ⟨#[]⟩)
    have HM := Lib.hid (And.intro m1 m2)
    clear m1 m2
    refine wpAnyL_one (i := 3) (o := _) rfl (by kernel_rfl) (fun K hK => ?_)
    go_simp
    refine hK.out _ _ (cellT HM.out.2 hgn HR0.out) (fun _ => trivial) ?_
    clear hK K
    try simp only [List.getElem_toArray, List.getElem_cons_zero, List.getElem_cons_succ, Act.put, List.setIfInBounds_toArray, List.set_cons_zero, List.set_cons_succ]
    refine wpAnyL_takeR (i := 4) (oi := _) (v := (.int .i64 c)) rfl (by kernel_rfl) (by kernel_rfl) (fun _ _ _ h => h) (Or.inl ⟨by kernel_rfl, fun V hV => ?_⟩) (cellT HM.out.2 hgn HR0.out) (fun _ => trivial) ?_
    · go_simp
    try simp only [List.getElem_toArray, List.getElem_cons_zero, List.getElem_cons_succ, Act.put, List.setIfInBounds_toArray, List.set_cons_zero, List.set_cons_succ]
    refine wpAnyL_done (by kernel_rfl) ?_ _
    go_wp2_with fail
    refine bodyPost_ret (results_wish _ _ (w.heap.size + 1) _ _ _ _ _ _ _ _ _ _ _ _ _ (.int .i64 c) rfl rfl HM.out.1) rfl ?_
    exact ⟨HE.out _, (HT.out.trans T1.out).freshC HM.out.2 fun i hi => by rw [hi]; exact Nat.le_succ _⟩
end Go.Proofs.YthejfklieedjmaaGreatDoor
namespace Go.Proofs.YthejfklieedjmaaGreatDoor
open Go Go.Proofs Go.RowKit
attribute [local go_sem] Oper.semAt_some
theorem KidsAt.old {W V A : World} {M N : Nat → Prop} {l : List Ex} {v : Value} (h : KidsAt W M l v) (t : Turned (fun _ => False) W V) (s : Turned (fun _ => False) V A) (hN : ∀ g, g < V.heap.size → N g) : KidsAt A N l v :=
  h.move (t.trans s) (fun _ _ => id) fun b _ hb => hN b (Nat.lt_of_lt_of_le hb t.size)
theorem KidsAt.app {W V : World} {l : List Ex} {u v v' : Value} (h : KidsAt W (fun g => v.ownBlock ≠ Option.some g) l u) (t : Turned (fun g => v.ownBlock = Option.some g) W V) (hex : ∀ g, v'.ownBlock = Option.some g → v.ownBlock = Option.some g ∨ W.heap.size ≤ g) : KidsAt V (fun g => v'.ownBlock ≠ Option.some g) l u :=
  h.move t (fun _ hb => hb) fun b hb hlt he => by
    rcases hex b he with h1 | h1
    · exact hb h1
    · omega
theorem grown_nil' {W : World} {g base : Nat} (h : W.heap[g]? = some (.cells #[] 51 (0, 0))) (hb : base ≤ g) : Grown W base 51 8 partCells (.slice (some ⟨g, 0, none⟩) 0 0) [] := ⟨rfl, .inr ⟨g, 0, #[], rfl, hb, h, Nat.le_refl _, Nat.zero_le _, rfl, rfl⟩⟩
set_option maxRecDepth 20000 in
set_option maxHeartbeats 4000000 in
theorem two_any (op : Int) (x y : Ex) (u v : Value) (W : World) (N : Nat → Prop) (hx : KidsAt W N x.kids u) (hy : KidsAt W N y.kids v) :
    Calls Tryz.prog 12 #[(.int .i64 op), exA x u, exA y v] W fun e w' => (∃ b, e = .returned (exA (twoX op x y) (.slice (some ⟨b, 0, none⟩) 2 2)) ∧ KidsAt w' (fun k => N k ∨ W.heap.size ≤ k) [x, y] (.slice (some ⟨b, 0, none⟩) 2 2)) ∧ Turned (fun _ => False) W w' := by
  unfold exA
  obtain ⟨W1, hW1⟩ : ∃ W1, W1 = ((W.alloc (.cells #[(.int .i64 (x.op)), (.int .i64 (x.n)), .string x.s, u, (.int .i64 (x.at_))] 42)).alloc (.cells #[(.int .i64 (y.op)), (.int .i64 (y.n)), .string y.s, v, (.int .i64 (y.at_))] 42)).alloc (.cells #[(.int .i64 0), (.int .i64 0), .string ⟨#[]⟩, .slice none 0 0, (.int .i64 0)] 42) := ⟨_, rfl⟩
  have h3 := new3 W (.cells #[(.int .i64 (x.op)), (.int .i64 (x.n)), .string x.s, u, (.int .i64 (x.at_))] 42) (.cells #[(.int .i64 (y.op)), (.int .i64 (y.n)), .string y.s, v, (.int .i64 (y.at_))] 42) (.cells #[(.int .i64 0), (.int .i64 0), .string ⟨#[]⟩, .slice none 0 0, (.int .i64 0)] 42)
  rw [← hW1] at h3
  obtain ⟨⟨a0, a1, a2, a3, a4⟩, -⟩ := five_box h3.1
  obtain ⟨⟨b0, b1, b2, b3, b4⟩, -⟩ := five_box h3.2.1
  have T1 := Lib.hid (show Turned (fun _ => False) W W1 by rw [hW1]; exact (((Turned.refl _ W).alloc _).alloc _).alloc _)
  have H3 := Lib.hid h3
  have HX := Lib.hid hx
  have HY := Lib.hid hy
  have T2 := Lib.hid ((Turned.refl (fun _ => False) W1).alloc (.cells #[(.int .i64 (x.op)), (.int .i64 (x.n)), .string x.s, u, (.int .i64 (x.at_)), (.int .i64 (y.op)), (.int .i64 (y.n)), .string y.s, v, (.int .i64 (y.at_))] 42))
  have H2 := Lib.hid (World.alloc_heap_new W1 (.cells #[(.int .i64 (x.op)), (.int .i64 (x.n)), .string x.s, u, (.int .i64 (x.at_)), (.int .i64 (y.op)), (.int .i64 (y.n)), .string y.s, v, (.int .i64 (y.at_))] 42))
  have H4 := Lib.hid (keepB T2.out h3.2.2)
  obtain ⟨⟨c0, c1, c2, c3, c4⟩, f0, f1, f2, f3, f4⟩ := five_box H4.out
  clear h3 hx hy
  have HW := Lib.hid hW1
  clear hW1
  go_enter Tryz.func12, Tryz.ntmps12
  go_upto_region 1 with fail
  rw [← HW.out]
  go_wp2_with fail
  clear a0 a1 a2 a3 a4 b0 b1 b2 b3 b4 c0 c1 c2 c3 c4 f0 f1 f2 f3 f4
  obtain ⟨r1, r2⟩ := ex_set H4.out (.int .i64 op) (.int .i64 0) (.string ⟨#[]⟩) (.slice (some ⟨W1.heap.size, 0, none⟩) 2 2) (.int .i64 0)
  have hne : ∀ g, g = W.heap.size + 1 + 1 → W.heap.size ≤ g := fun g h => by omega
  have h5 := getElem?_lt H3.out.2.2
  refine bodyPost_ret (results_ex rfl _ _ (W.heap.size + 1 + 1) _ _ _ _ _ rfl r1) rfl ?_
  refine ⟨⟨W1.heap.size, rfl, ?_⟩, (T1.out.trans T2.out).freshC r2 hne⟩
  have hB := (r2.block W1.heap.size (by simp) (by omega)).trans H2.out
  have hK : ∀ (l : List Ex) (k : Value), KidsAt W N l k → KidsAt _ (fun k => N k ∨ W.heap.size ≤ k) l k := fun l k h => h.move ((T1.out.trans T2.out).freshC r2 hne) (fun _ _ => id) fun b hb _ => .inl hb
  refine kids_at [(x, u), (y, v)] (by simp [maxLen]) ?_ 2 (.inr T1.out.size) hB rfl
  intro p hp
  simp only [List.mem_cons, List.not_mem_nil, or_false] at hp
  rcases hp with rfl | rfl
  · exact hK _ _ HX.out
  · exact hK _ _ HY.out
set_option maxRecDepth 20000 in
set_option maxHeartbeats 4000000 in
theorem scaled2_any (l : List Pt) (u : Rv) (k0 : Nat) (p : Option Addr) (c : Nat) (W : World) (h : Lst W.heap.size W 8 partCells l p c) (hn : l ≠ []) (hl : l.length ≤ 40) (h1 : 1 ≤ k0) (h2 : k0 ≤ 100000000) (hu : SzR u k0) (hs : ∀ p ∈ l, SzR p.coef k0) :
    Calls Tryz.prog 13 #[.slice p l.length c, ratV u] W fun e w' => (∃ v, e = .returned v ∧ PtsAt w' (scaledP l u) v) ∧ Turned (fun _ => False) W w' := by
  have HQ := Lib.hid (fun (x : Pt) (hx : x ∈ l) (V : World) => qMul_any x.coef u k0 V h1 h2 (hs x hx) hu)
  have HL0 := Lib.hid h
  have HNE := Lib.hid hn
  have HLL := Lib.hid hl
  have HR : Hid (PtsAt = PtsAt) := Lib.hid rfl
  obtain ⟨un, ux, ud⟩ := u
  obtain ⟨W1, hW1⟩ : ∃ W1, W1 = W.alloc (.cells #[.bool un, .string ux, .string ud] 31) := ⟨_, rfl⟩
  have T1 : Turned (fun _ => False) W W1 := by rw [hW1]; exact (Turned.refl _ W).alloc _
  have HB0 : W1.heap[W.heap.size]? = some (.cells #[.bool un, .string ux, .string ud] 31 (0, 0)) := by rw [hW1]; exact World.alloc_heap_new _ _
  have HC := Lib.hid (show Lst (W.heap.size + 1) ((W.alloc (.cells #[.bool un, .string ux, .string ud] 31)).alloc (.cells #[] 51)) 8 partCells l p c from (h.turned (((Turned.refl _ W).alloc _).alloc _)).mono (Nat.le_succ _))
  have HN1 := Lib.hid (show ((W.alloc (.cells #[.bool un, .string ux, .string ud] 31)).alloc (.cells #[] 51)).heap[W.heap.size + 1]? = some (.cells #[] 51 (0, 0)) by have := World.alloc_heap_new (W.alloc (.cells #[.bool un, .string ux, .string ud] 31)) (.cells #[] 51); simpa using this)
  have HT1 := Lib.hid (And.intro T1 HB0)
  clear h hn hl h1 h2 hu hs T1 HB0
  obtain ⟨n, hnn⟩ : ∃ n, l.length = n := ⟨_, rfl⟩
  have HN := Lib.hid hnn
  rw [hnn]
  clear hnn
  have HW1 := Lib.hid hW1
  go_enter Tryz.func13, Tryz.ntmps13
  go_wp2_with (at_builtin; refine app_parts _ rfl _ _ rfl (W.heap.size + 1) _ (.slice (some ⟨W.heap.size + 1, 0, none⟩) 0 0) [] l p c rfl (by rw [HN.out]; rfl) HNE.out (grown_nil' HN1.out (Nat.le_refl _)) HC.out (by simp) (by simpa using HLL.out) ?_; intro v2 w2 hg t2; rw [List.nil_append] at hg; obtain ⟨q, d, hq⟩ := hg.shape; rw [HN.out] at hq; subst hq; rw [← HN.out] at hg; have HGR := Lib.hid hg; have T2 := Lib.hid t2; clear hg t2)
  have t2 : Turned (fun _ => False) W1 w2 := by
    rw [HW1.out]
    exact ((Turned.refl (fun _ => False) _).alloc (.cells #[] 51)).fresh T2.out fun g hg => by simpa using hg
  have hg := HGR.out
  obtain ⟨g, rfl, hsc, hgB⟩ := ScI.start hg HNE.out (HT1.out.1.trans t2) (Nat.le_succ _)
  have hne : g ≠ W.heap.size := by omega
  have HSC := Lib.hid hsc
  have HG := Lib.hid hne
  have HB0 := Lib.hid (keepB t2 HT1.out.2)
  have hmx : (n : Int) ≤ 100000 := by have := HLL.out; rw [HN.out] at this; omega
  clear hg hsc t2 hW1 hgB hne HC HN1 HGR T2 HW1
  go_wp2_with fail
  go_loopw [6, 12] (fun v i wr => ∃ k : Nat, k ≤ n ∧ i = (.int .i64 k) ∧ Hid (ScI W wr g d (mixP l ⟨un, ux, ud⟩ k) ∧ wr.heap[W.heap.size]? = some (.cells #[.bool un, .string ux, .string ud] 31 (0, 0)))) (fun _ i _ => n - (intOf i).toNat)
  case atStart => exact ⟨0, Nat.zero_le _, rfl, Lib.hid ⟨HSC.out, HB0.out⟩⟩
  case round =>
    obtain ⟨k, hk, rfl, HH⟩ := hrel
    by_cases hlt : k < n
    · obtain ⟨x, hx⟩ := some_of_lt (show k < l.length by rw [HN.out]; exact hlt)
      have HD := Lib.hid (HQ.out x (List.mem_of_getElem? hx))
      have HM := Lib.hid (mix_at (u := ⟨un, ux, ud⟩) hx)
      have HS := Lib.hid (mix_succ (u := ⟨un, ux, ud⟩) hx)
      unfold mulR at HS
      obtain ⟨⟨xn, xx, xd⟩, xk, xp, xo, xf, xt⟩ := x
      obtain ⟨⟨sn, sx, sy⟩, hs⟩ : ∃ s, repR (qR ⟨xn, xx, xd⟩ * qR ⟨un, ux, ud⟩) = s := ⟨_, rfl⟩
      simp only at HD HS
      rw [hs] at HD HS
      have hk0 : (0 : Int) ≤ k := by omega
      have hk1 : (k : Int) < n := by omega
      clear hx hs
      have HCX : Hid (∀ A, Turned (fun _ => False) wr A → (A.cell? ⟨g, k * 8, none⟩ = some (.bool xn) ∧ A.cell? ⟨g, k * 8 + 1, none⟩ = some (.string xx) ∧ A.cell? ⟨g, k * 8 + 2, none⟩ = some (.string xd)) ∧ A.cell? ⟨W.heap.size, 0, none⟩ = some (.bool un) ∧ A.cell? ⟨W.heap.size, 1, none⟩ = some (.string ux) ∧ A.cell? ⟨W.heap.size, 2, none⟩ = some (.string ud)) := Lib.hid fun A hA => by
        obtain ⟨b, a, hb, -, hcel⟩ := (HH.out.1.call hA).lst.cel k _ HM.out
        cases hb
        have e0 := hcel 0 _ rfl
        have e1 := hcel 1 _ rfl
        have e2 := hcel 2 _ rfl
        simp only [Nat.zero_add, Nat.add_zero] at e0 e1 e2
        exact ⟨⟨e0, e1, e2⟩, three_cells (keepB hA HH.out.2)⟩
      go_upto_region 5 with fail
      refine wp_region_heldL (fun A => A.cell? ⟨W.heap.size, 0, none⟩ = some (.bool un) ∧ A.cell? ⟨W.heap.size, 1, none⟩ = some (.string ux) ∧ A.cell? ⟨W.heap.size, 2, none⟩ = some (.string ud)) (fun A => A.cell? ⟨g, k * 8, none⟩ = some (.bool xn) ∧ A.cell? ⟨g, k * 8 + 1, none⟩ = some (.string xx) ∧ A.cell? ⟨g, k * 8 + 2, none⟩ = some (.string xd)) 11 (by kernel_rfl) ?_
      have HS0 := Lib.hid (HCX.out _ (Turned.refl (fun _ => False) wr).drew)
      refine wpAnyL_takeR (i := 0) (oi := _) (v := .slice (some ⟨g, 0, none⟩) n d) rfl (by kernel_rfl) (by kernel_rfl) (fun _ _ _ h => h) (Or.inl ⟨by kernel_rfl, fun V hV => ?_⟩) HS0.out.2 (fun _ => HS0.out.1) ?_
      · clear hV
        go_simp
      try simp only [List.getElem_toArray, List.getElem_cons_zero, List.getElem_cons_succ, Act.put, List.setIfInBounds_toArray, List.set_cons_zero, List.set_cons_succ]
      refine wpAnyL_takeR (i := 1) (oi := _) (v := (.int .i64 k)) rfl (by kernel_rfl) (by kernel_rfl) (fun _ _ _ h => h) (Or.inl ⟨by kernel_rfl, fun V hV => ?_⟩) HS0.out.2 (fun _ => HS0.out.1) ?_
      · clear hV
        go_simp
      try simp only [List.getElem_toArray, List.getElem_cons_zero, List.getElem_cons_succ, Act.put, List.setIfInBounds_toArray, List.set_cons_zero, List.set_cons_succ]
      refine wpAnyL_takeR (i := 2) (oi := _) (v := .slice (some ⟨g, 0, none⟩) n d) rfl (by kernel_rfl) (by kernel_rfl) (fun _ _ _ h => h) (Or.inl ⟨by kernel_rfl, fun V hV => ?_⟩) HS0.out.2 (fun _ => HS0.out.1) ?_
      · clear hV
        go_simp
      try simp only [List.getElem_toArray, List.getElem_cons_zero, List.getElem_cons_succ, Act.put, List.setIfInBounds_toArray, List.set_cons_zero, List.set_cons_succ]
      refine wpAnyL_takeR (i := 3) (oi := _) (v := (.int .i64 k)) rfl (by kernel_rfl) (by kernel_rfl) (fun _ _ _ h => h) (Or.inl ⟨by kernel_rfl, fun V hV => ?_⟩) HS0.out.2 (fun _ => HS0.out.1) ?_
      · clear hV
        go_simp
      try simp only [List.getElem_toArray, List.getElem_cons_zero, List.getElem_cons_succ, Act.put, List.setIfInBounds_toArray, List.set_cons_zero, List.set_cons_succ]
      refine wpAnyL_takeR (i := 4) (oi := _) (v := .pointer (some ⟨g, k * 8, none⟩)) rfl (by kernel_rfl) (by kernel_rfl) (fun _ _ _ h => h) (Or.inl ⟨by kernel_rfl, fun V hV => ?_⟩) HS0.out.2 (fun _ => HS0.out.1) ?_
      · clear hV
        go_simp
      try simp only [List.getElem_toArray, List.getElem_cons_zero, List.getElem_cons_succ, Act.put, List.setIfInBounds_toArray, List.set_cons_zero, List.set_cons_succ]
      refine wpAnyL_takeR (i := 5) (oi := _) (v := .pointer (some ⟨g, k * 8, none⟩)) rfl (by kernel_rfl) (by kernel_rfl) (fun _ _ _ h => h) (Or.inl ⟨by kernel_rfl, fun V hV => ?_⟩) HS0.out.2 (fun _ => HS0.out.1) ?_
      · clear hV
        go_simp
      try simp only [List.getElem_toArray, List.getElem_cons_zero, List.getElem_cons_succ, Act.put, List.setIfInBounds_toArray, List.set_cons_zero, List.set_cons_succ]
      refine wpAnyL_take (i := 6) (oi := _) (v := .agg #[.bool xn, .string xx, .string xd]) rfl (by kernel_rfl) (by kernel_rfl) (fun _ _ _ h => h) (Or.inl ⟨by kernel_rfl, fun V hV => ?_⟩) HS0.out.2 HS0.out.1 ?_
      · obtain ⟨-, f0, f1, f2⟩ := hV
        go_simp
      try simp only [List.getElem_toArray, List.getElem_cons_zero, List.getElem_cons_succ, Act.put, List.setIfInBounds_toArray, List.set_cons_zero, List.set_cons_succ]
      refine wpAnyL_takeR (i := 7) (oi := _) (v := .agg #[.bool un, .string ux, .string ud]) rfl (by kernel_rfl) (by kernel_rfl) (fun _ _ _ h => h) (Or.inl ⟨by kernel_rfl, fun V hV => ?_⟩) HS0.out.2 (fun _ => HS0.out.1) ?_
      · obtain ⟨f0, f1, f2⟩ := hV
        go_simp
      try simp only [List.getElem_toArray, List.getElem_cons_zero, List.getElem_cons_succ, Act.put, List.setIfInBounds_toArray, List.set_cons_zero, List.set_cons_succ]
      refine wpAnyL_one (i := 8) (o := _) rfl (by kernel_rfl) (fun K hK => ?_)
      go_simp
      refine (HD.out _).mono ?_
      rintro e w3 ⟨rfl, t3⟩
      have T3 := Lib.hid ((Turned.refl (fun _ => False) wr).drew.trans t3)
      clear t3
      refine hK.out _ _ (HCX.out _ T3.out).2 (fun _ => (HCX.out _ T3.out).1) ?_
      clear hK K
      try simp only [List.getElem_toArray, List.getElem_cons_zero, List.getElem_cons_succ, Act.put, List.setIfInBounds_toArray, List.set_cons_zero, List.set_cons_succ]
      refine wpAnyL_takeR (i := 9) (oi := _) (v := .pointer (some ⟨g, k * 8, none⟩)) rfl (by kernel_rfl) (by kernel_rfl) (fun _ _ _ h => h) (Or.inl ⟨by kernel_rfl, fun V hV => ?_⟩) (HCX.out _ T3.out).2 (fun _ => (HCX.out _ T3.out).1) ?_
      · clear hV
        go_simp
      try simp only [List.getElem_toArray, List.getElem_cons_zero, List.getElem_cons_succ, Act.put, List.setIfInBounds_toArray, List.set_cons_zero, List.set_cons_succ]
      refine wpAnyL_takeR (i := 10) (oi := _) (v := .pointer (some ⟨g, k * 8, none⟩)) rfl (by kernel_rfl) (by kernel_rfl) (fun _ _ _ h => h) (Or.inl ⟨by kernel_rfl, fun V hV => ?_⟩) (HCX.out _ T3.out).2 (fun _ => (HCX.out _ T3.out).1) ?_
      · clear hV
        go_simp
      try simp only [List.getElem_toArray, List.getElem_cons_zero, List.getElem_cons_succ, Act.put, List.setIfInBounds_toArray, List.set_cons_zero, List.set_cons_succ]
      have HT3 := Lib.hid (And.intro (HH.out.1.call T3.out) (keepB T3.out HH.out.2))
      have f0 := HT3.out.1.free (k * 8)
      have f1 := HT3.out.1.free (k * 8 + 1)
      have f2 := HT3.out.1.free (k * 8 + 2)
      obtain ⟨⟨d0, d1, d2⟩, -⟩ := HCX.out _ T3.out
      have HP := Lib.hid (HT3.out.1.put HM.out ⟨sn, sx, sy⟩)
      have HB := Lib.hid (putB HT3.out.2 HG.out (k * 8) (.bool sn) (.string sx) (.string sy))
      refine wpAnyL_one (i := 11) (o := _) rfl (by kernel_rfl) (fun K hK => ?_)
      go_simp
      refine hK.out _ _ (three_cells HB.out) (fun h => absurd h (by decide)) ?_
      clear hK K
      try simp only [List.getElem_toArray, List.getElem_cons_zero, List.getElem_cons_succ, Act.put, List.setIfInBounds_toArray, List.set_cons_zero, List.set_cons_succ]
      refine wpAnyL_done (by kernel_rfl) ?_ _
      obtain ⟨wd, hwd⟩ : ∃ wd, wd = ((w3.setCell ⟨g, k * 8, none⟩ (.bool sn)).setCell ⟨g, k * 8 + 1, none⟩ (.string sx)).setCell ⟨g, k * 8 + 2, none⟩ (.string sy) := ⟨_, rfl⟩
      have HW : Hid (ScI W wd g d (mixP l ⟨un, ux, ud⟩ (k + 1)) ∧ wd.heap[W.heap.size]? = some (.cells #[.bool un, .string ux, .string ud] 31 (0, 0))) := Lib.hid (by rw [hwd, HS.out]; exact ⟨HP.out, HB.out⟩)
      rw [← hwd]
      clear hwd d0 d1 d2 f0 f1 f2
      go_wp2_with fail
      exact ⟨⟨k + 1, by omega, by go_num, HW⟩, by simp [intOf]; omega⟩
    · obtain rfl : k = n := by omega
      go_wp2_with fail
      go_ret
      have h1 := HH.out.1.lst
      rw [← HN.out, mix_all] at h1
      exact ⟨⟨.slice (some ⟨g, 0, none⟩) k d, rfl, some ⟨g, 0, none⟩, d, by rw [scaled_len, HN.out], h1, fun _ he => by cases he; exact HH.out.1.box⟩, HH.out.1.tur⟩
set_option maxRecDepth 20000 in
set_option maxHeartbeats 4000000 in
theorem is_any (x : Ex) (sm : SmX x) (hn : nodes x ≤ 100000) (k v : Value) (l : List Pt) (W : World) (hT : TabOK W) (hk : KidsAt W (fun _ => True) x.kids k) (hl : PtsAt W l v) (ho : ofP x [3, 4] = .ok (.wish (sumW l))) :
    Calls Tryz.prog 15 #[exA x k, v] W fun e w' => e = .returned (.bool true) ∧ Turned (fun _ => False) W w' := by
  obtain ⟨pv, cv, rfl⟩ : ∃ p c, v = .slice p l.length c := by obtain ⟨p, c, h, -⟩ := hl; exact ⟨p, c, h⟩
  have HJ : Hid (∀ V, Turned (fun _ => False) W V → Calls Tryz.prog 10 #[exA x k] V fun e w' => (∃ s, e = .returned (.tuple #[.agg #[(.int .i64 1), s, (.int .i64 0), (.int .i64 0), (.int .i64 0), (.int .i64 0), (.int .i64 0), .bool false, .string ⟨#[]⟩, .string ⟨#[]⟩, .bool false, .string ⟨#[]⟩, .string ⟨#[]⟩], (.int .i64 0)]) ∧ PtsAt w' l s) ∧ Turned (fun _ => False) V w') := Lib.hid fun V t => by
    have h := jWish_any x sm hn k V (hT.turned t) (hk.all t)
    rw [ho] at h
    exact h
  have HL := Lib.hid hl
  have HR : Hid (∀ V u, PtsAt V l u → PtsAt V l (.slice pv l.length cv) → Calls Tryz.prog 16 #[.agg #[(.int .i64 1), u, (.int .i64 0), (.int .i64 0), (.int .i64 0), (.int .i64 0), (.int .i64 0), .bool false, .string ⟨#[]⟩, .string ⟨#[]⟩, .bool false, .string ⟨#[]⟩, .string ⟨#[]⟩], .agg #[(.int .i64 1), .slice pv l.length cv, (.int .i64 0), (.int .i64 0), (.int .i64 0), (.int .i64 0), (.int .i64 0), .bool false, .string ⟨#[]⟩, .string ⟨#[]⟩, .bool false, .string ⟨#[]⟩, .string ⟨#[]⟩]] V fun e w' => e = .returned (.bool true) ∧ Turned (fun _ => False) V w') := Lib.hid fun V u h1 h2 => rsame_w (sumW l) u _ V h1 h2
  clear hT hk hl ho
  unfold exA at HJ ⊢
  obtain ⟨W1, hW1⟩ : ∃ W1, W1 = W.alloc (.cells #[(.int .i64 (x.op)), (.int .i64 (x.n)), .string x.s, k, (.int .i64 (x.at_))] 42) := ⟨_, rfl⟩
  have T1 := Lib.hid (show Turned (fun _ => False) W W1 by rw [hW1]; exact (Turned.refl _ W).alloc _)
  obtain ⟨⟨a0, a1, a2, a3, a4⟩, -⟩ := five_box (show W1.heap[W.heap.size]? = some (.cells #[(.int .i64 (x.op)), (.int .i64 (x.n)), .string x.s, k, (.int .i64 (x.at_))] 42 (0, 0)) by rw [hW1]; exact World.alloc_heap_new _ _)
  have HW := Lib.hid hW1
  clear hW1
  go_enter Tryz.func15, Tryz.ntmps15
  go_upto_region 1 with fail
  rw [← HW.out]
  go_upto_region 2 with (go_at_call 10; refine (HJ.out _ T1.out).mono ?_; rintro e9 W9 ⟨⟨s9, rfl, hp9⟩, ht⟩; obtain ⟨p9, c9, rfl⟩ : ∃ p9 c9, s9 = .slice p9 l.length c9 := (by obtain ⟨p9, c9, h9, -⟩ := hp9; exact ⟨p9, c9, h9⟩); have T9 := Lib.hid ((T1.out.trans ht).alloc (.cells #[(.int .i64 1), .slice p9 l.length c9, (.int .i64 0), (.int .i64 0), (.int .i64 0), (.int .i64 0), (.int .i64 0), .bool false, .string ⟨#[]⟩, .string ⟨#[]⟩, .bool false, .string ⟨#[]⟩, .string ⟨#[]⟩] 33)); have HP9 := Lib.hid (hp9.turned ((Turned.refl (fun _ => False) W9).alloc (.cells #[(.int .i64 1), .slice p9 l.length c9, (.int .i64 0), (.int .i64 0), (.int .i64 0), (.int .i64 0), (.int .i64 0), .bool false, .string ⟨#[]⟩, .string ⟨#[]⟩, .bool false, .string ⟨#[]⟩, .string ⟨#[]⟩] 33))); clear ht hp9)
  clear a0 a1 a2 a3 a4
  obtain ⟨V9, hV9⟩ : ∃ V, V = W9.alloc (.cells #[(.int .i64 1), .slice p9 l.length c9, (.int .i64 0), (.int .i64 0), (.int .i64 0), (.int .i64 0), (.int .i64 0), .bool false, .string ⟨#[]⟩, .string ⟨#[]⟩, .bool false, .string ⟨#[]⟩, .string ⟨#[]⟩] 33) := ⟨_, rfl⟩
  obtain ⟨z0, z1, z2, z3, z4, z5, z6, z7, z8, z9, z10, z11, z12⟩ := thirteen (show V9.heap[W9.heap.size]? = some (.cells #[(.int .i64 1), .slice p9 l.length c9, (.int .i64 0), (.int .i64 0), (.int .i64 0), (.int .i64 0), (.int .i64 0), .bool false, .string ⟨#[]⟩, .string ⟨#[]⟩, .bool false, .string ⟨#[]⟩, .string ⟨#[]⟩] 33 (0, 0)) by rw [hV9]; exact World.alloc_heap_new _ _)
  rw [← hV9] at T9 HP9 ⊢
  clear hV9
  go_wp2_with (go_at_call 16; refine (HR.out _ _ HP9.out (HL.out.turned T9.out)).mono ?_; rintro e8 W8 ⟨rfl, ht⟩; have T8 := Lib.hid (T9.out.trans ht); clear ht)
  go_ret
  exact ⟨rfl, T8.out⟩
end Go.Proofs.YthejfklieedjmaaGreatDoor
