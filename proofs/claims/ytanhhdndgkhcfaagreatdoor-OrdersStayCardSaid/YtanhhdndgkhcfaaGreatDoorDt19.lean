/- Part 19 of the proof of lawDue.card: OrdCheck, OrdLimits, OrdFew, OrdSmall, OrdGrow. Conditions: those of each theorem. -/
import Derived.Test.YtanhhdndgkhcfaaGreatDoorDt01
import Derived.Test.YtanhhdndgkhcfaaGreatDoorDt18
namespace Go.Proofs.YtanhhdndgkhcfaaGreatDoor
open Go Go.Proofs Go.RowKit
attribute [local go_sem] Oper.semAt_some
attribute [local go_sem ↓] run_eql_rat' run_neq_rat'
theorem oSupply_any (p q r g : Option Addr) (np nq nr ng cp cq cr cg : Nat) (W : World) : Calls Tryz.prog 41 #[.agg #[.slice p np cp, .slice q nq cq, .slice r nr cr], .slice g ng cg] W fun e w' => e = .returned (.agg #[.slice p np cp, .slice g ng cg]) ∧ Turned (fun _ => False) W w' := by
  go_enter Tryz.func41, Tryz.ntmps41
  go_wp2_with fail
  refine bodyPost_ret (results_cell_row (fn := Tryz.f41) rfl _ _ (W.heap.size + 1) 65 #[.slice p np cp, .slice g ng cg] (0, 0) _ rfl (new_second W (.cells #[.slice p np cp, .slice q nq cq, .slice r nr cr] 25) (.cells #[.slice p np cp, .slice g ng cg] 65)) Tryz.underlying65 rfl (by kernel_rfl)) rfl ?_
  exact ⟨rfl, ((Turned.refl (fun _ => False) W).alloc _).alloc _⟩
set_option maxRecDepth 20000 in
set_option maxHeartbeats 4000000 in
theorem oCheck_any (rs : List Rc) (lo hi : List Rv) (cs : List Cl) (rp lp hp cp : Option Addr) (rc lc hc cc : Nat) (W : World) (hf : FcAt W.heap.size W rs lo hi rp lp hp rc lc hc) (hcl : At W.heap.size W 5 claimCells cs cp cc)
    (sl : ∀ u ∈ lo, SzR u 20) (sh : ∀ u ∈ hi, SzR u 20) (sc : ∀ c ∈ cs, SzR c.amt 20) :
    Calls Tryz.prog 19 #[.agg #[.slice rp rs.length rc, .slice lp lo.length lc, .slice hp hi.length hc], .slice cp cs.length cc] W fun e w' => e = .returned (.int .i64 (ordE rs lo hi cs)) ∧ Turned (fun _ => False) W w' := by
  have HL := Lib.hid (fun A (hA : Turned (fun _ => False) W A) => hCheck_any rs lo cs rp lp cp rc lc cc A (hf.on hA).riv (hf.on hA).lo (hcl.on hA) (fun u hu => (sl u hu).mono (by omega)) (fun c hc => (sc c hc).mono (by omega)))
  have HH := Lib.hid (fun A (hA : Turned (fun _ => False) W A) => hCheck_any rs hi cs rp hp cp rc hc cc A (hf.on hA).riv (hf.on hA).hi (hcl.on hA) (fun u hu => (sh u hu).mono (by omega)) (fun c hc => (sc c hc).mono (by omega)))
  have HV : Hid (ordE rs lo hi cs = if supE rs lo cs ≠ 0 then supE rs lo cs else if supE rs hi cs ≠ 0 then supE rs hi cs else if crossB lo hi = true then 3 else 0) := Lib.hid rfl
  have HLN : Hid (supE rs lo cs = 0 → supE rs hi cs = 0 → lo.length = rs.length ∧ hi.length = rs.length) := Lib.hid fun h1 h2 => ⟨(supE_zero h1).len, (supE_zero h2).len⟩
  have HFC := Lib.hid hf
  have HSZ := Lib.hid (And.intro sl sh)
  have m1 : (lo.length : Int) ≤ 9223372036854775807 := by have := hf.lo.len; unfold maxLen at this; omega
  obtain ⟨nr, hnr⟩ : ∃ n, rs.length = n := ⟨_, rfl⟩
  obtain ⟨nl, hnl⟩ : ∃ n, lo.length = n := ⟨_, rfl⟩
  obtain ⟨nh, hnh⟩ : ∃ n, hi.length = n := ⟨_, rfl⟩
  obtain ⟨nc, hnc⟩ : ∃ n, cs.length = n := ⟨_, rfl⟩
  obtain ⟨e1, he1⟩ : ∃ v, supE rs lo cs = v := ⟨_, rfl⟩
  obtain ⟨e2, he2⟩ : ∃ v, supE rs hi cs = v := ⟨_, rfl⟩
  obtain ⟨ov, hov⟩ : ∃ v, ordE rs lo hi cs = v := ⟨_, rfl⟩
  rw [hnr, hnl, hnc, he1] at HL
  rw [hnr, hnh, hnc, he2] at HH
  rw [he1, he2, hov] at HV
  rw [he1, he2, hnl, hnh, hnr] at HLN
  rw [hnl] at m1
  rw [hnr, hnl, hnh, hnc, hov]
  have HNL := Lib.hid hnl
  have HNH := Lib.hid hnh
  clear hf hcl sl sh sc hnr hnl hnh hnc he1 he2 hov
  have T0 := ((Turned.refl (fun _ => False) W).alloc (.cells #[.slice rp nr rc, .slice lp nl lc, .slice hp nh hc] 25)).alloc (.cells #[.slice lp nl lc, .slice hp nh hc] 23)
  have n0 := new_first W (.cells #[.slice rp nr rc, .slice lp nl lc, .slice hp nh hc] 25) (.cells #[.slice lp nl lc, .slice hp nh hc] 23)
  have n1 := new_second W (.cells #[.slice rp nr rc, .slice lp nl lc, .slice hp nh hc] 25) (.cells #[.slice lp nl lc, .slice hp nh hc] 23)
  go_enter Tryz.func19, Tryz.ntmps19
  go_wp2_with fail
  obtain ⟨w0, hw0⟩ : ∃ w, w = (W.alloc (.cells #[.slice rp nr rc, .slice lp nl lc, .slice hp nh hc] 25)).alloc (.cells #[.slice lp nl lc, .slice hp nh hc] 23) := ⟨_, rfl⟩
  rw [← hw0] at T0 n0 n1 ⊢
  obtain ⟨B, hB⟩ : ∃ o, W.heap.size = o := ⟨_, rfl⟩
  rw [hB] at n0 n1 ⊢
  have HB := Lib.hid (And.intro n0 n1)
  have HT0 := Lib.hid T0
  have CE : ∀ A, Turned (fun _ => False) w0 A → (A.cell? ⟨B, 0, none⟩ = some (.slice rp nr rc) ∧ A.cell? ⟨B, 1, none⟩ = some (.slice lp nl lc) ∧ A.cell? ⟨B, 2, none⟩ = some (.slice hp nh hc)) ∧ A.cell? ⟨B + 1, 0, none⟩ = some (.slice lp nl lc) ∧ A.cell? ⟨B + 1, 1, none⟩ = some (.slice hp nh hc) := fun A hA => by
    have h0 := keepB hA HB.out.1
    have h1 := keepB hA HB.out.2
    exact ⟨⟨by simp [World.cell?, h0], by simp [World.cell?, h0], by simp [World.cell?, h0]⟩, by simp [World.cell?, h1], by simp [World.cell?, h1]⟩
  have HCE := Lib.hid CE
  obtain ⟨⟨c0, c1, c2⟩, d0, d1⟩ := CE w0 (Turned.refl _ _)
  clear hw0 hB T0 n0 n1 CE
  refine wp_loop_rounds 3 ?_
  rw [rounds_succ]
  go_wp2_with fail
  refine (oSupply_any rp lp hp lp nr nl nh nl rc lc hc lc w0).mono ?_
  rintro e w1 ⟨rfl, t1⟩
  have HT1 := Lib.hid t1
  clear c0 c1 c2 d0 d1 t1
  go_wp2_with fail
  refine (HL.out w1 (HT0.out.trans HT1.out)).mono ?_
  rintro e w2 ⟨rfl, t2⟩
  have HT2 := Lib.hid (HT1.out.trans t2)
  clear t2 HT1 HL
  by_cases g1 : e1 = 0
  · subst g1
    replace HV := Lib.hid (HV.out.trans (if_neg (by simp)))
    obtain ⟨⟨c0, c1, c2⟩, d0, d1⟩ := HCE.out w2 HT2.out
    go_wp2_with fail
    rw [rounds_succ]
    go_wp2_with fail
    refine (oSupply_any rp lp hp hp nr nl nh nh rc lc hc hc w2).mono ?_
    rintro e w3 ⟨rfl, t3⟩
    have HT3 := Lib.hid (HT2.out.trans t3)
    clear c0 c1 c2 d0 d1 t3
    go_wp2_with fail
    refine (HH.out w3 (HT0.out.trans HT3.out)).mono ?_
    rintro e w4 ⟨rfl, t4⟩
    have HT4 := Lib.hid (HT3.out.trans t4)
    clear t4 HT3 HH HT2
    by_cases g1 : e2 = 0
    · subst g1
      replace HV := Lib.hid (HV.out.trans (if_neg (by simp)))
      obtain ⟨hl1, hl2⟩ := HLN.out (by simp) (by simp)
      subst hl1
      subst hl2
      have HBL : Hid (crossB lo hi = (List.range nh).any fun g => decide (gainQ hi g < gainQ lo g)) := Lib.hid (by unfold crossB; rw [HNL.out])
      obtain ⟨⟨c0, c1, c2⟩, d0, d1⟩ := HCE.out w4 HT4.out
      clear HLN
      go_wp2_with fail
      rw [rounds_succ]
      go_wp2_with fail
      clear c0 c1 c2 d0 d1
      go_loopw [31] (fun i wr => ∃ k : Nat, k ≤ nh ∧ i = (.int .i64 k) ∧ Hid (Turned (fun _ => False) w0 wr ∧ ∀ g, g < k → ¬ gainQ hi g < gainQ lo g)) (fun i _ => nh - (intOf i).toNat)
      case atStart => exact ⟨0, Nat.zero_le _, rfl, Lib.hid ⟨HT4.out, fun g h => by omega⟩⟩
      case round =>
        clear HT4
        obtain ⟨k, hk, rfl, HI⟩ := hrel
        by_cases hlt : k < nh
        · have hx : lo[k]? = some (lo[k]'(by rw [HNL.out]; exact hlt)) := List.getElem?_eq_getElem _
          obtain ⟨⟨xn, xx, xd⟩, hxe⟩ : ∃ u, lo[k]'(by rw [HNL.out]; exact hlt) = u := ⟨_, rfl⟩
          rw [hxe] at hx
          have hy : hi[k]? = some (hi[k]'(by rw [HNH.out]; exact hlt)) := List.getElem?_eq_getElem _
          obtain ⟨⟨yn, yx, yd⟩, hye⟩ : ∃ u, hi[k]'(by rw [HNH.out]; exact hlt) = u := ⟨_, rfl⟩
          rw [hye] at hy
          have HX := Lib.hid hx
          have HY := Lib.hid hy
          have hF := HFC.out.turned (HT0.out.trans HI.out.1)
          obtain ⟨b, a, rfl, -, e0, e1, e2⟩ := hF.lo.rats hx
          obtain ⟨b', a', rfl, -, g0, g1, g2⟩ := hF.hi.rats hy
          have hq1 : qR ⟨xn, xx, xd⟩ = gainQ lo k := by unfold gainQ; rw [getD_of hx]
          have hq2 : qR ⟨yn, yx, yd⟩ = gainQ hi k := by unfold gainQ; rw [getD_of hy]
          have HCMP := Lib.hid (fun W => qCmp_any ⟨xn, xx, xd⟩ ⟨yn, yx, yd⟩ 20 W (by decide) (by decide) (HSZ.out.1 _ (List.mem_of_getElem? hx)) (HSZ.out.2 _ (List.mem_of_getElem? hy)))
          obtain ⟨c, hcq⟩ : ∃ c, cmpQ (gainQ lo k) (gainQ hi k) = c := ⟨_, rfl⟩
          rw [hq1, hq2, hcq] at HCMP
          have hcl := cmpQ_le (p := gainQ lo k) (q := gainQ hi k)
          rw [hcq] at hcl
          have HCL := Lib.hid hcl
          obtain ⟨⟨c0, c1, c2⟩, -, -⟩ := HCE.out wr HI.out.1
          have HK0 : Hid ((wr.drew.cell? ⟨B, 1, none⟩ = some (.slice (some ⟨b, a, none⟩) nh lc) ∧ wr.drew.cell? ⟨B, 2, none⟩ = some (.slice (some ⟨b', a', none⟩) nh hc)) ∧ (wr.drew.cell? ⟨b, a + k * 3, none⟩ = some (.bool xn) ∧ wr.drew.cell? ⟨b, a + k * 3 + 1, none⟩ = some (.string xx) ∧ wr.drew.cell? ⟨b, a + k * 3 + 2, none⟩ = some (.string xd)) ∧ (wr.drew.cell? ⟨b', a' + k * 3, none⟩ = some (.bool yn) ∧ wr.drew.cell? ⟨b', a' + k * 3 + 1, none⟩ = some (.string yx) ∧ wr.drew.cell? ⟨b', a' + k * 3 + 2, none⟩ = some (.string yd))) :=
            Lib.hid ⟨⟨cellT (Turned.refl (fun _ => False) wr).drew id c1, cellT (Turned.refl (fun _ => False) wr).drew id c2⟩, ⟨cellT (Turned.refl (fun _ => False) wr).drew id e0, cellT (Turned.refl (fun _ => False) wr).drew id e1, cellT (Turned.refl (fun _ => False) wr).drew id e2⟩, cellT (Turned.refl (fun _ => False) wr).drew id g0, cellT (Turned.refl (fun _ => False) wr).drew id g1, cellT (Turned.refl (fun _ => False) wr).drew id g2⟩
          have HD := Lib.hid (HI.out.1.drew)
          have hk0 : (0 : Int) ≤ k := by omega
          have hk1 : (k : Int) < nh := by omega
          clear hx hxe hy hye hF e0 e1 e2 g0 g1 g2 hq1 hq2 hcq hcl c0 c1 c2
          go_wp2_with fail
          go_region_held3 (fun V => (V.cell? ⟨B, 1, none⟩ = some (.slice (some ⟨b, a, none⟩) nh lc) ∧ V.cell? ⟨B, 2, none⟩ = some (.slice (some ⟨b', a', none⟩) nh hc)) ∧ (V.cell? ⟨b, a + k * 3, none⟩ = some (.bool xn) ∧ V.cell? ⟨b, a + k * 3 + 1, none⟩ = some (.string xx) ∧ V.cell? ⟨b, a + k * 3 + 2, none⟩ = some (.string xd)) ∧ (V.cell? ⟨b', a' + k * 3, none⟩ = some (.bool yn) ∧ V.cell? ⟨b', a' + k * 3 + 1, none⟩ = some (.string yx) ∧ V.cell? ⟨b', a' + k * 3 + 2, none⟩ = some (.string yd)))
            (first | exact HK1.out | exact HK0.out | go_keep)
            (first | (go_at_call 30; refine (HCMP.out _).mono ?_; rintro e w5 ⟨rfl, t5⟩; have HT5 := Lib.hid (HD.out.trans t5); have HK1 : Hid _ := Lib.hid (And.intro (And.intro (cellT t5 id HK0.out.1.1) (cellT t5 id HK0.out.1.2)) (And.intro (And.intro (cellT t5 id HK0.out.2.1.1) (And.intro (cellT t5 id HK0.out.2.1.2.1) (cellT t5 id HK0.out.2.1.2.2))) (And.intro (cellT t5 id HK0.out.2.2.1) (And.intro (cellT t5 id HK0.out.2.2.2.1) (cellT t5 id HK0.out.2.2.2.2))))); clear t5))
          by_cases h0 : 0 < c
          · have HBT : Hid (crossB lo hi = true) := Lib.hid (by
              rw [HBL.out, List.any_eq_true]
              refine ⟨k, List.mem_range.2 hlt, decide_eq_true ?_⟩
              have := HCL.out
              exact Rat.not_le.1 fun h => by have := this.2 h; omega)
            replace HV := Lib.hid (HV.out.trans (if_pos HBT.out))
            go_wp2_with fail
            go_ret
            rw [HV.out]
            exact ⟨rfl, HT0.out.trans HT5.out⟩
          · have HG : Hid (Turned (fun _ => False) w0 w5 ∧ ∀ g, g < k + 1 → ¬ gainQ hi g < gainQ lo g) := Lib.hid ⟨HT5.out, fun g hg => by
              rcases Nat.lt_or_ge g k with h1 | h1
              · exact HI.out.2 g h1
              · obtain rfl : g = k := by omega
                exact Rat.not_lt.2 (HCL.out.1 (by omega))⟩
            go_wp2_with fail
            go_roundw
            case rel => exact ⟨k + 1, by omega, by go_num, HG⟩
            case measure => simp [intOf]; omega
        · obtain rfl : k = nh := by omega
          have HBF : Hid (crossB lo hi = false) := Lib.hid (by
            rw [HBL.out, List.any_eq_false]
            intro g hg
            rw [decide_eq_true_eq]
            exact HI.out.2 g (List.mem_range.1 hg))
          replace HV := Lib.hid (HV.out.trans (if_neg (by rw [HBF.out]; simp)))
          go_wp2_with fail
          go_ret
          rw [HV.out]
          exact ⟨rfl, HT0.out.trans HI.out.1⟩
    · have g2 : (e2 == 0) = false := by simpa using g1
      have g3 : (e2 != 0) = true := by simpa using g1
      replace HV := Lib.hid (HV.out.trans (if_pos g1))
      clear g1
      go_wp2_with fail
      go_ret
      rw [HV.out]
      exact ⟨rfl, HT0.out.trans HT4.out⟩
  · have g2 : (e1 == 0) = false := by simpa using g1
    have g3 : (e1 != 0) = true := by simpa using g1
    replace HV := Lib.hid (HV.out.trans (if_pos g1))
    clear g1
    go_wp2_with fail
    go_ret
    rw [HV.out]
    exact ⟨rfl, HT0.out.trans HT2.out⟩
end Go.Proofs.YtanhhdndgkhcfaaGreatDoor
namespace Go.Proofs.YtanhhdndgkhcfaaGreatDoor
open Go Go.Proofs Go.RowKit
attribute [local go_sem] Oper.semAt_some
attribute [local go_sem ↓] run_eql_rat' run_neq_rat'
theorem three_out {fn : Func} {t u v : Tmp} (h : fn.results = #[.tmp t, .tmp u, .tmp v]) (tmps : Array Value) (P : Program) (w : World) : (results fn tmps).run P w = .ok (.tuple #[tmps.getD t undef, tmps.getD u undef, tmps.getD v undef]) w := by
  simp [results, h]
structure OIn (W : World) (rs : List Rc) (lo hi : List Rv) (cs : List Cl) (rp lp hp cp : Option Addr) (rc lc hc cc : Nat) : Prop where
  fc : FcAt W.heap.size W rs lo hi rp lp hp rc lc hc
  cl : At W.heap.size W 5 claimCells cs cp cc
  sl : ∀ u ∈ lo, SzR u 20
  sh : ∀ u ∈ hi, SzR u 20
  sc : ∀ c ∈ cs, SzR c.amt 20
theorem OIn.on {W W' : World} {rs : List Rc} {lo hi : List Rv} {cs : List Cl} {rp lp hp cp : Option Addr} {rc lc hc cc : Nat} (h : OIn W rs lo hi cs rp lp hp cp rc lc hc cc) (ht : Turned (fun _ => False) W W') : OIn W' rs lo hi cs rp lp hp cp rc lc hc cc :=
  ⟨h.fc.on ht, h.cl.on ht, h.sl, h.sh, h.sc⟩
set_option maxRecDepth 20000 in
set_option maxHeartbeats 4000000 in
theorem oTakes_any (rs : List Rc) (us : List Rv) (cs : List Cl) (rp gp cp lp hp : Option Addr) (rc gc cc nl lc nh hc fb cb : Nat) (W : World) (hr : RivAt W.heap.size W rs rp rc) (hg : At W.heap.size W 3 ratCells us gp gc) (hcl : At W.heap.size W 5 claimCells cs cp cc)
    (hfb : W.heap[fb]? = some (.cells #[.slice rp rs.length rc, .slice lp nl lc, .slice hp nh hc] 25 (0, 0))) (hcb : W.heap[cb]? = some (.cells #[.slice cp cs.length cc] 26 (0, 0)))
    (hok : supE rs us cs = 0) (hn8 : rs.length ≤ 8) (hm12 : cs.length ≤ 12) (su : ∀ u ∈ us, SzR u 20) (sc : ∀ c ∈ cs, SzR c.amt 20) :
    Calls Tryz.prog 40 #[.slice gp us.length gc, .pointer (some ⟨fb, 0, none⟩), .pointer (some ⟨cb, 0, none⟩)] W fun e w' => ∃ tk, e = .returned (.slice (some ⟨tk, 0, none⟩) cs.length cs.length) ∧ W.heap.size ≤ tk ∧ OwnR w' tk (takesR rs cs us) ∧ (∀ u ∈ takesR rs cs us, SzR u 24000300) ∧ Turned (fun _ => False) W w' := by
  have HT := Lib.hid (fun A (hA : Turned (fun _ => False) W A) => hTakes_any rs us cs rp gp cp rc gc cc A ((hr.turned hA).mono hA.size) (hg.on hA) (hcl.on hA) hok hn8 hm12 su sc)
  have HB := Lib.hid (And.intro hfb hcb)
  obtain ⟨tl, htl⟩ : ∃ t, takesR rs cs us = t := ⟨_, rfl⟩
  obtain ⟨nr, hnr⟩ : ∃ n, rs.length = n := ⟨_, rfl⟩
  obtain ⟨nu, hnu⟩ : ∃ n, us.length = n := ⟨_, rfl⟩
  obtain ⟨nc, hnc⟩ : ∃ n, cs.length = n := ⟨_, rfl⟩
  rw [hnr, hnu, hnc, htl] at HT
  rw [hnr, hnc] at HB
  rw [hnu, hnc, htl]
  clear hr hg hcl hfb hcb hok hn8 hm12 su sc hnr hnu hnc htl
  have CE : ∀ A, Turned (fun _ => False) W A → (A.cell? ⟨fb, 0, none⟩ = some (.slice rp nr rc) ∧ A.cell? ⟨fb, 1, none⟩ = some (.slice lp nl lc) ∧ A.cell? ⟨fb, 2, none⟩ = some (.slice hp nh hc)) ∧ A.cell? ⟨cb, 0, none⟩ = some (.slice cp nc cc) := fun A hA => by
    have h0 := keepB hA HB.out.1
    have h1 := keepB hA HB.out.2
    exact ⟨⟨by simp [World.cell?, h0], by simp [World.cell?, h0], by simp [World.cell?, h0]⟩, by simp [World.cell?, h1]⟩
  have HCE := Lib.hid CE
  have HD := Lib.hid ((Turned.refl (fun _ => False) W).drew)
  have HK0 := Lib.hid (CE _ (Turned.refl (fun _ => False) W).drew)
  clear CE HB
  go_enter Tryz.func40, Tryz.ntmps40
  go_wp2_with fail
  go_region_held3 (fun V => (V.cell? ⟨fb, 0, none⟩ = some (.slice rp nr rc) ∧ V.cell? ⟨fb, 1, none⟩ = some (.slice lp nl lc) ∧ V.cell? ⟨fb, 2, none⟩ = some (.slice hp nh hc)) ∧ V.cell? ⟨cb, 0, none⟩ = some (.slice cp nc cc))
    (first | exact HK2.out | exact HK1.out | exact HK0.out | go_keep)
    (first
      | (have hq := HK1; clear hq; go_at_call 28; refine (HT.out _ HT1.out).mono ?_; rintro e w2 ⟨tk, rfl, h1, h2, h3, t2⟩; have HT2 := Lib.hid (HT1.out.trans t2); have HK2 : Hid _ := Lib.hid (HCE.out _ HT2.out); have HR := Lib.hid (And.intro (Nat.le_trans HT1.out.size h1) (And.intro h2 h3)); clear h1 h2 h3 t2)
      | (go_at_call 41; refine (oSupply_any rp lp hp gp nr nl nh nu rc lc hc gc _).mono ?_; rintro e w1 ⟨rfl, t1⟩; have HT1 := Lib.hid (HD.out.trans t1); have HK1 : Hid _ := Lib.hid (HCE.out _ HT1.out); clear t1))
  go_wp2_with fail
  go_ret
  exact ⟨tk, rfl, HR.out.1, HR.out.2.1, HR.out.2.2, HT2.out⟩
section
variable {rs : List Rc} {lo hi : List Rv} {cs : List Cl} {rp lp hp cp : Option Addr} {rc lc hc cc : Nat} {W : World}
set_option maxRecDepth 20000 in
set_option maxHeartbeats 4000000 in
theorem oLimits_ok (h : OIn W rs lo hi cs rp lp hp cp rc lc hc cc) (he : ordE rs lo hi cs = 0) (hn8 : rs.length ≤ 8) (hm12 : cs.length ≤ 12) :
    Calls Tryz.prog 9 #[.agg #[.slice rp rs.length rc, .slice lp lo.length lc, .slice hp hi.length hc], .slice cp cs.length cc] W fun e w' => ∃ a b, e = .returned (.tuple #[.slice (some ⟨a, 0, none⟩) cs.length cs.length, .slice (some ⟨b, 0, none⟩) cs.length cs.length, (.int .i64 0)]) ∧
      (W.heap.size ≤ a ∧ W.heap.size ≤ b) ∧ OwnR w' a (takesR rs cs lo) ∧ OwnR w' b (takesR rs cs hi) ∧ ((∀ u ∈ takesR rs cs lo, SzR u 24000300) ∧ ∀ u ∈ takesR rs cs hi, SzR u 24000300) ∧ Turned (fun _ => False) W w' := by
  have hO := ordE_zero he
  have HC := Lib.hid (fun A (hA : Turned (fun _ => False) W A) => oCheck_any rs lo hi cs rp lp hp cp rc lc hc cc A (h.on hA).fc (h.on hA).cl h.sl h.sh h.sc)
  rw [he] at HC
  have HL := Lib.hid (fun A (hA : Turned (fun _ => False) W A) fb cb hfb hcb => oTakes_any rs lo cs rp lp cp lp hp rc lc cc lo.length lc hi.length hc fb cb A (h.on hA).fc.riv (h.on hA).fc.lo (h.on hA).cl hfb hcb hO.e1 hn8 hm12 h.sl h.sc)
  have HH := Lib.hid (fun A (hA : Turned (fun _ => False) W A) fb cb hfb hcb => oTakes_any rs hi cs rp hp cp lp hp rc hc cc lo.length lc hi.length hc fb cb A (h.on hA).fc.riv (h.on hA).fc.hi (h.on hA).cl hfb hcb hO.e2 hn8 hm12 h.sh h.sc)
  obtain ⟨t1, ht1⟩ : ∃ t, takesR rs cs lo = t := ⟨_, rfl⟩
  obtain ⟨t2, ht2⟩ : ∃ t, takesR rs cs hi = t := ⟨_, rfl⟩
  obtain ⟨nr, hnr⟩ : ∃ n, rs.length = n := ⟨_, rfl⟩
  obtain ⟨nl, hnl⟩ : ∃ n, lo.length = n := ⟨_, rfl⟩
  obtain ⟨nh, hnh⟩ : ∃ n, hi.length = n := ⟨_, rfl⟩
  obtain ⟨nc, hnc⟩ : ∃ n, cs.length = n := ⟨_, rfl⟩
  rw [hnr, hnl, hnh, hnc] at HC ⊢
  rw [hnr, hnl, hnh, hnc, ht1] at HL
  rw [hnr, hnl, hnh, hnc, ht2] at HH
  rw [ht1, ht2]
  have T0 := ((Turned.refl (fun _ => False) W).alloc (.cells #[.slice rp nr rc, .slice lp nl lc, .slice hp nh hc] 25)).alloc (.cells #[.slice cp nc cc] 26)
  have n0 := new_first W (.cells #[.slice rp nr rc, .slice lp nl lc, .slice hp nh hc] 25) (.cells #[.slice cp nc cc] 26)
  have n1 := new_second W (.cells #[.slice rp nr rc, .slice lp nl lc, .slice hp nh hc] 25) (.cells #[.slice cp nc cc] 26)
  clear h he hO hnr hnl hnh hnc hn8 hm12 ht1 ht2
  go_enter Tryz.func9, Tryz.ntmps9
  go_wp2_with fail
  obtain ⟨w0, hw0⟩ : ∃ w, w = (W.alloc (.cells #[.slice rp nr rc, .slice lp nl lc, .slice hp nh hc] 25)).alloc (.cells #[.slice cp nc cc] 26) := ⟨_, rfl⟩
  rw [← hw0] at T0 n0 n1 ⊢
  obtain ⟨B, hB⟩ : ∃ o, W.heap.size = o := ⟨_, rfl⟩
  rw [hB] at n0 n1 ⊢
  have HB := Lib.hid (And.intro n0 (And.intro n1 hB))
  have HT0 := Lib.hid T0
  have CE : ∀ A, Turned (fun _ => False) w0 A → (A.cell? ⟨B, 1, none⟩ = some (.slice lp nl lc) ∧ A.cell? ⟨B, 2, none⟩ = some (.slice hp nh hc)) := fun A hA => by
    have h0 := keepB hA HB.out.1
    exact ⟨by simp [World.cell?, h0], by simp [World.cell?, h0]⟩
  have HCE := Lib.hid CE
  clear hw0 hB T0 n0 n1 CE
  refine (HC.out _ HT0.out).mono ?_
  rintro e w1 ⟨rfl, t1'⟩
  have HT1 := Lib.hid t1'
  clear t1'
  have HD := Lib.hid (HT1.out.drew)
  have HK0 := Lib.hid (HCE.out _ HT1.out.drew)
  go_wp2_with fail
  go_region_held3 (fun V => V.cell? ⟨B, 1, none⟩ = some (.slice lp nl lc) ∧ V.cell? ⟨B, 2, none⟩ = some (.slice hp nh hc))
    (first | exact HK2.out | exact HK1.out | exact HK0.out | go_keep)
    (first
      | (have hq := HK1; clear hq; go_at_call 40; refine (HH.out _ (HT0.out.trans HT2.out) B (B + 1) (keepB HT2.out HB.out.1) (keepB HT2.out HB.out.2.1)).mono ?_; rintro e w3 ⟨b, rfl, h1, h2, h3, t3⟩; have HT3 := Lib.hid (HT2.out.trans t3); have HK2 : Hid _ := Lib.hid (HCE.out _ HT3.out); have HRB := Lib.hid (And.intro (Nat.le_trans (HT0.out.trans HT2.out).size h1) (And.intro h2 h3)); have HRC := Lib.hid (HRA.out.2.1.turned t3 id); clear h1 h2 h3 t3)
      | (go_at_call 40; refine (HL.out _ (HT0.out.trans HD.out) B (B + 1) (keepB HD.out HB.out.1) (keepB HD.out HB.out.2.1)).mono ?_; rintro e w2 ⟨a, rfl, h1, h2, h3, t3⟩; have HT2 := Lib.hid (HD.out.trans t3); have HK1 : Hid _ := Lib.hid (HCE.out _ HT2.out); have HRA := Lib.hid (And.intro (Nat.le_trans (HT0.out.trans HD.out).size h1) (And.intro h2 h3)); clear h1 h2 h3 t3))
  go_wp2_with fail
  refine bodyPost_ret (three_out rfl _ _ _) rfl ?_
  exact ⟨a, b, rfl, ⟨HRA.out.1, HRB.out.1⟩, HRC.out, HRB.out.2.1, ⟨HRA.out.2.2, HRB.out.2.2⟩, HT0.out.trans HT3.out⟩
end
end Go.Proofs.YtanhhdndgkhcfaaGreatDoor
namespace Go.Proofs.YtanhhdndgkhcfaaGreatDoor
open Go Go.Proofs Go.RowKit
attribute [local go_sem] Oper.semAt_some
attribute [local go_sem ↓] run_eql_rat' run_neq_rat'
def shortR (u : Rv) : Bool := decide (u.num.size ≤ 20) && decide (u.den.size ≤ 20)
theorem shortR.sz {u : Rv} (h : shortR u = true) : SzR u 20 := by
  unfold shortR at h
  rw [Bool.and_eq_true, decide_eq_true_eq, decide_eq_true_eq] at h
  exact h
set_option maxRecDepth 20000 in
set_option maxHeartbeats 2000000 in
theorem yShort_any (u : Rv) (W : World) : Calls Tryz.prog 53 #[ratV u] W fun e w' => e = .returned (.bool (shortR u)) ∧ Turned (fun _ => False) W w' := by
  obtain ⟨un, ux, ud⟩ := u
  have T0 := (Turned.refl (fun _ => False) W).alloc (.cells #[.bool un, .string ux, .string ud] 68)
  have HT := Lib.hid T0
  clear T0
  by_cases h1 : ux.size ≤ 20
  · have h1' : (ux.size : Int) ≤ 20 := by omega
    by_cases h2 : ud.size ≤ 20
    · have h2' : (ud.size : Int) ≤ 20 := by omega
      have HS : Hid (shortR ⟨un, ux, ud⟩ = true) := Lib.hid (by simp [shortR, h1, h2])
      go_enter Tryz.func53, Tryz.ntmps53
      go_wp2_with fail
      go_ret
      exact ⟨by rw [HS.out]; rfl, HT.out⟩
    · have h2' : ¬ (ud.size : Int) ≤ 20 := by omega
      have HS : Hid (shortR ⟨un, ux, ud⟩ = false) := Lib.hid (by simp [shortR, h2])
      go_enter Tryz.func53, Tryz.ntmps53
      go_wp2_with fail
      go_ret
      exact ⟨by rw [HS.out]; rfl, HT.out⟩
  · have h1' : ¬ (ux.size : Int) ≤ 20 := by omega
    have HS : Hid (shortR ⟨un, ux, ud⟩ = false) := Lib.hid (by simp [shortR, h1])
    go_enter Tryz.func53, Tryz.ntmps53
    go_wp2_with fail
    go_ret
    exact ⟨by rw [HS.out]; rfl, HT.out⟩
def IsB (e : Ending) : Prop := ∃ b, e = .returned (.bool b)
theorem IsB.mk (b : Bool) : IsB (.returned (.bool b)) := ⟨b, rfl⟩
set_option maxRecDepth 20000 in
set_option maxHeartbeats 2000000 in
theorem xFew_any (rs : List Rc) (rp : Option Addr) (rc N : Nat) (W : World) (h : RivAt N W rs rp rc) : Calls Tryz.prog 74 #[.slice rp rs.length rc, (.int .i64 8)] W fun e w' => IsB e ∧ Turned (fun _ => False) W w' := by
  have mx : (rs.length : Int) ≤ 9223372036854775807 := by have := h.at_.len; unfold maxLen at this; omega
  obtain ⟨n, hn⟩ : ∃ n, rs.length = n := ⟨_, rfl⟩
  have HN := Lib.hid hn
  have HR := Lib.hid h
  rw [hn] at mx ⊢
  clear hn h
  by_cases h1 : (8 : Int) < n <;> by_cases h2 : (n : Int) ≤ 40 <;> by_cases h3 : (50 : Int) < n
  all_goals first | (exfalso; omega) | skip
  all_goals go_enter Tryz.func74, Tryz.ntmps74
  all_goals go_wp2_with fail
  all_goals first
    | (go_ret; exact ⟨IsB.mk _, Turned.refl _ _⟩)
    | skip
  all_goals
    go_loopw [5] (fun i wr => ∃ k : Nat, k ≤ n ∧ i = (.int .i64 k) ∧ Hid (Turned (fun _ => False) W wr)) (fun i _ => n - (intOf i).toNat)
    case atStart => exact ⟨0, Nat.zero_le _, rfl, Lib.hid (Turned.refl _ _)⟩
    case round =>
      obtain ⟨k, hk, rfl, HI⟩ := hrel
      by_cases hlt : k < n
      · have hx : rs[k]? = some (rs[k]'(by rw [HN.out]; exact hlt)) := List.getElem?_eq_getElem _
        obtain ⟨x, hxe⟩ : ∃ x, rs[k]'(by rw [HN.out]; exact hlt) = x := ⟨_, rfl⟩
        rw [hxe] at hx
        obtain ⟨b, a, rfl, -, -, e1⟩ := (HR.out.turned HI.out).at_.reaches hx
        obtain ⟨m, hm⟩ : ∃ m, x.ws.length = m := ⟨_, rfl⟩
        rw [hm] at e1
        clear hxe hm hx
        by_cases g1 : (12 : Int) < m <;> by_cases g2 : (m : Int) ≤ 400 <;> by_cases g3 : (402 : Int) < m
        all_goals first | (exfalso; omega) | skip
        all_goals go_wp2_with fail
        all_goals first
          | (go_ret; exact ⟨IsB.mk _, HI.out⟩)
          | (go_roundw
             case rel => exact ⟨k + 1, by omega, by go_num, HI⟩
             case measure => simp [intOf]; omega)
      · obtain rfl : k = n := by omega
        go_wp2_with fail
        go_ret
        exact ⟨IsB.mk _, HI.out⟩
theorem box2 {w : World} {b t : Nat} {x y : Value} (h : w.heap[b]? = some (.cells #[x, y] t (0, 0))) : w.cell? ⟨b, 0, none⟩ = some x ∧ w.cell? ⟨b, 1, none⟩ = some y := by simp [World.cell?, h]
def IsBP (P : Prop) (e : Ending) : Prop := ∃ b, e = .returned (.bool b) ∧ (b = true → P)
theorem IsBP.no (P : Prop) : IsBP P (.returned (.bool false)) := ⟨false, rfl, fun h => by cases h⟩
theorem IsBP.yes {P : Prop} (h : P) : IsBP P (.returned (.bool true)) := ⟨true, rfl, fun _ => h⟩
set_option maxRecDepth 20000 in
set_option maxHeartbeats 2000000 in
theorem yFew_any (rs : List Rc) (us : List Rv) (cs : List Cl) (rp gp cp : Option Addr) (rc gc cc : Nat) (W : World) (hr : RivAt W.heap.size W rs rp rc) (hg : At W.heap.size W 3 ratCells us gp gc) (hcl : At W.heap.size W 5 claimCells cs cp cc) :
    Calls Tryz.prog 35 #[.agg #[.slice rp rs.length rc, .slice gp us.length gc], .slice cp cs.length cc] W fun e w' => IsBP ((∀ u ∈ us, SzR u 20) ∧ ∀ c ∈ cs, SzR c.amt 20) e ∧ Turned (fun _ => False) W w' := by
  have HX := Lib.hid (fun A (hA : Turned (fun _ => False) W A) => xFew_any rs rp rc W.heap.size A (hr.turned hA))
  have mx : (us.length : Int) ≤ 9223372036854775807 := by have := hg.len; unfold maxLen at this; omega
  have my : (cs.length : Int) ≤ 9223372036854775807 := by have := hcl.len; unfold maxLen at this; omega
  obtain ⟨nr, hnr⟩ : ∃ n, rs.length = n := ⟨_, rfl⟩
  obtain ⟨nu, hnu⟩ : ∃ n, us.length = n := ⟨_, rfl⟩
  obtain ⟨nc, hnc⟩ : ∃ n, cs.length = n := ⟨_, rfl⟩
  have HNU := Lib.hid hnu
  have HNC := Lib.hid hnc
  have HG := Lib.hid hg
  have HCL := Lib.hid hcl
  obtain ⟨P, hP⟩ : ∃ P : Prop, P = ((∀ u ∈ us, SzR u 20) ∧ ∀ c ∈ cs, SzR c.amt 20) := ⟨_, rfl⟩
  rw [← hP]
  have HP := Lib.hid hP
  rw [hnr] at HX
  rw [hnu] at mx
  rw [hnc] at my
  rw [hnr, hnu, hnc]
  clear hnr hnu hnc hr hg hcl hP
  have HT0 := Lib.hid ((Turned.refl (fun _ => False) W).alloc (.cells #[.slice rp nr rc, .slice gp nu gc] 65))
  have HN0 := Lib.hid (World.alloc_heap_new W (.cells #[.slice rp nr rc, .slice gp nu gc] 65))
  go_enter Tryz.func35, Tryz.ntmps35
  go_wp2_with fail
  refine (HX.out _ HT0.out).mono ?_
  rintro e w1 ⟨⟨b, rfl⟩, t1⟩
  have HT1 := Lib.hid (HT0.out.trans t1)
  have HN1 := Lib.hid (keepB t1 HN0.out)
  clear t1 HX HT0 HN0
  have d1 := (box2 HN1.out).2
  cases b with
  | false =>
    go_wp2_with fail
    go_ret
    exact ⟨IsBP.no _, HT1.out⟩
  | true =>
    by_cases h1 : (60 : Int) < nu <;> by_cases h2 : (12 : Int) < nc <;> by_cases h3 : (nc : Int) ≤ 200 <;> by_cases h4 : (205 : Int) < nc
    all_goals first | (exfalso; omega) | skip
    all_goals go_wp2_with fail
    all_goals first
      | (go_ret; exact ⟨IsBP.no _, HT1.out⟩)
      | skip
    all_goals
      clear d1
      go_loopw [6] (fun i wr => ∃ k : Nat, k ≤ nu ∧ i = (.int .i64 k) ∧ Hid (Turned (fun _ => False) w1 wr ∧ ∀ j u, j < k → us[j]? = some u → SzR u 20)) (fun i _ => nu - (intOf i).toNat)
      case atStart => exact ⟨0, Nat.zero_le _, rfl, Lib.hid ⟨Turned.refl _ _, fun j u hj => by omega⟩⟩
      case round =>
        obtain ⟨k, hk, rfl, HI⟩ := hrel
        have d1 := (box2 (keepB HI.out.1 HN1.out)).2
        by_cases hlt : k < nu
        · have hx : us[k]? = some (us[k]'(by rw [HNU.out]; exact hlt)) := List.getElem?_eq_getElem _
          obtain ⟨x, hxe⟩ : ∃ x, us[k]'(by rw [HNU.out]; exact hlt) = x := ⟨_, rfl⟩
          rw [hxe] at hx
          obtain ⟨b, a, rfl, -, e1, e2, e3⟩ := (HG.out.turned (HT1.out.trans HI.out.1)).rats hx
          have HXX := Lib.hid hx
          obtain ⟨xn, xx, xd⟩ := x
          clear hxe hx
          go_wp2_with fail
          refine (yShort_any ⟨xn, xx, xd⟩ _).mono ?_
          rintro e w2 ⟨rfl, t2⟩
          have HI2 := Lib.hid (HI.out.1.trans t2)
          obtain ⟨sb, hsb⟩ : ∃ s, shortR ⟨xn, xx, xd⟩ = s := ⟨_, rfl⟩
          rw [hsb]
          have HSB := Lib.hid hsb
          clear t2 hsb d1 e1 e2 e3
          cases sb with
          | false =>
            go_wp2_with fail
            go_ret
            exact ⟨IsBP.no _, HT1.out.trans HI2.out⟩
          | true =>
            go_wp2_with fail
            go_roundw
            case rel => exact ⟨k + 1, by omega, by go_num, Lib.hid ⟨HI2.out, fun j u hj hu => by
              by_cases he : j = k
              · subst he
                rw [HXX.out] at hu
                cases hu
                exact shortR.sz HSB.out
              · exact HI.out.2 j u (by omega) hu⟩⟩
            case measure => simp [intOf]; omega
        · obtain rfl : k = nu := by omega
          go_wp2_with fail
          have HU := HI
          clear HI d1
          go_loopw [8] (fun i wv => ∃ k : Nat, k ≤ nc ∧ i = (.int .i64 k) ∧ Hid (Turned (fun _ => False) w1 wv ∧ ∀ j c, j < k → cs[j]? = some c → SzR c.amt 20)) (fun i _ => nc - (intOf i).toNat)
          case atStart => exact ⟨0, Nat.zero_le _, rfl, Lib.hid ⟨HU.out.1, fun j u hj => by omega⟩⟩
          case round =>
            obtain ⟨k, hk, rfl, HI⟩ := hrel
            by_cases hlt : k < nc
            · have hx : cs[k]? = some (cs[k]'(by rw [HNC.out]; exact hlt)) := List.getElem?_eq_getElem _
              obtain ⟨x, hxe⟩ : ∃ x, cs[k]'(by rw [HNC.out]; exact hlt) = x := ⟨_, rfl⟩
              rw [hxe] at hx
              obtain ⟨b, a, rfl, -, e0, e1, e2, e3, e4⟩ := (HCL.out.turned (HT1.out.trans HI.out.1)).claims hx
              have HXX := Lib.hid hx
              obtain ⟨xp, xr, ⟨xn, xx, xd⟩⟩ := x
              clear hxe hx
              go_wp2_with fail
              refine (yShort_any ⟨xn, xx, xd⟩ _).mono ?_
              rintro e w2 ⟨rfl, t2⟩
              have HI2 := Lib.hid (HI.out.1.trans t2)
              obtain ⟨sb, hsb⟩ : ∃ s, shortR ⟨xn, xx, xd⟩ = s := ⟨_, rfl⟩
              rw [hsb]
              have HSB := Lib.hid hsb
              clear t2 hsb e0 e1 e2 e3 e4
              cases sb with
              | false =>
                go_wp2_with fail
                go_ret
                exact ⟨IsBP.no _, HT1.out.trans HI2.out⟩
              | true =>
                go_wp2_with fail
                go_roundw
                case rel => exact ⟨k + 1, by omega, by go_num, Lib.hid ⟨HI2.out, fun j u hj hu => by
                  by_cases he : j = k
                  · subst he
                    rw [HXX.out] at hu
                    cases hu
                    exact shortR.sz HSB.out
                  · exact HI.out.2 j u (by omega) hu⟩⟩
                case measure => simp [intOf]; omega
            · obtain rfl : k = nc := by omega
              go_wp2_with fail
              go_ret
              refine ⟨IsBP.yes ?_, HT1.out.trans HI.out.1⟩
              rw [HP.out]
              refine ⟨fun u hu => ?_, fun c hc => ?_⟩
              · obtain ⟨j, hj⟩ := List.mem_iff_getElem?.1 hu
                exact HU.out.2 j u (by rw [← HNU.out]; exact (List.getElem?_eq_some_iff.1 hj).1) hj
              · obtain ⟨j, hj⟩ := List.mem_iff_getElem?.1 hc
                exact HI.out.2 j c (by rw [← HNC.out]; exact (List.getElem?_eq_some_iff.1 hj).1) hj
end Go.Proofs.YtanhhdndgkhcfaaGreatDoor
namespace Go.Proofs.YtanhhdndgkhcfaaGreatDoor
open Go Go.Proofs Go.RowKit
attribute [local go_sem] Oper.semAt_some
attribute [local go_sem ↓] run_eql_rat' run_neq_rat'
theorem lSupply_any (p q r g : Option Addr) (np nq nr ng cp cq cr cg : Nat) (W : World) : Calls Tryz.prog 36 #[.agg #[.slice p np cp, .slice q nq cq, .slice r nr cr], .slice g ng cg] W fun e w' => e = .returned (.agg #[.slice p np cp, .slice g ng cg]) ∧ Turned (fun _ => False) W w' := by
  go_enter Tryz.func36, Tryz.ntmps36
  go_wp2_with fail
  refine bodyPost_ret (results_cell_row (fn := Tryz.f36) rfl _ _ (W.heap.size + 1) 65 #[.slice p np cp, .slice g ng cg] (0, 0) _ rfl (new_second W (.cells #[.slice p np cp, .slice q nq cq, .slice r nr cr] 25) (.cells #[.slice p np cp, .slice g ng cg] 65)) Tryz.underlying65 rfl (by kernel_rfl)) rfl ?_
  exact ⟨rfl, ((Turned.refl (fun _ => False) W).alloc _).alloc _⟩
set_option maxRecDepth 20000 in
set_option maxHeartbeats 2000000 in
theorem lFew_any (rs : List Rc) (lo hi : List Rv) (cs : List Cl) (rp lp hp cp : Option Addr) (rc lc hc cc : Nat) (W : World) (hf : FcAt W.heap.size W rs lo hi rp lp hp rc lc hc) (hcl : At W.heap.size W 5 claimCells cs cp cc) :
    Calls Tryz.prog 6 #[.agg #[.slice rp rs.length rc, .slice lp lo.length lc, .slice hp hi.length hc], .slice cp cs.length cc] W fun e w' => IsBP ((∀ u ∈ lo, SzR u 20) ∧ (∀ u ∈ hi, SzR u 20) ∧ ∀ c ∈ cs, SzR c.amt 20) e ∧ Turned (fun _ => False) W w' := by
  have HL := Lib.hid (fun A (hA : Turned (fun _ => False) W A) => yFew_any rs lo cs rp lp cp rc lc cc A (hf.on hA).riv (hf.on hA).lo (hcl.on hA))
  have HH := Lib.hid (fun A (hA : Turned (fun _ => False) W A) => yFew_any rs hi cs rp hp cp rc hc cc A (hf.on hA).riv (hf.on hA).hi (hcl.on hA))
  obtain ⟨P, hP⟩ : ∃ P : Prop, P = ((∀ u ∈ lo, SzR u 20) ∧ (∀ u ∈ hi, SzR u 20) ∧ ∀ c ∈ cs, SzR c.amt 20) := ⟨_, rfl⟩
  rw [← hP]
  have HP := Lib.hid hP
  obtain ⟨nr, hnr⟩ : ∃ n, rs.length = n := ⟨_, rfl⟩
  obtain ⟨nl, hnl⟩ : ∃ n, lo.length = n := ⟨_, rfl⟩
  obtain ⟨nh, hnh⟩ : ∃ n, hi.length = n := ⟨_, rfl⟩
  obtain ⟨nc, hnc⟩ : ∃ n, cs.length = n := ⟨_, rfl⟩
  rw [hnr, hnl, hnc] at HL
  rw [hnr, hnh, hnc] at HH
  rw [hnr, hnl, hnh, hnc]
  clear hnr hnl hnh hnc hf hcl hP
  have HT0 := Lib.hid ((Turned.refl (fun _ => False) W).alloc (.cells #[.slice rp nr rc, .slice lp nl lc, .slice hp nh hc] 25))
  have HN0 := Lib.hid (World.alloc_heap_new W (.cells #[.slice rp nr rc, .slice lp nl lc, .slice hp nh hc] 25))
  go_enter Tryz.func6, Tryz.ntmps6
  go_wp2_with fail
  refine (lSupply_any _ _ _ _ _ _ _ _ _ _ _ _ _).mono ?_
  rintro e w1 ⟨rfl, t1⟩
  have HT1 := Lib.hid (HT0.out.trans t1)
  have HN1 := Lib.hid (keepB t1 HN0.out)
  clear t1 HT0 HN0
  go_wp2_with fail
  refine (HL.out _ HT1.out).mono ?_
  rintro e w2 ⟨⟨b, rfl, hb⟩, t1⟩
  have HB := Lib.hid hb
  have HT2 := Lib.hid (HT1.out.trans t1)
  have HN2 := Lib.hid (keepB t1 HN1.out)
  obtain ⟨d0, d1, d2, -, -, -⟩ := box3 HN2.out
  clear t1 HT1 HN1 hb
  go_wp2_with fail
  refine (lSupply_any _ _ _ _ _ _ _ _ _ _ _ _ _).mono ?_
  rintro e w3 ⟨rfl, t1⟩
  have HT3 := Lib.hid (HT2.out.trans t1)
  clear t1 HT2 HN2 d0 d1 d2
  go_wp2_with fail
  refine (HH.out _ HT3.out).mono ?_
  rintro e w4 ⟨⟨c, rfl, hc⟩, t1⟩
  have HC := Lib.hid hc
  have HT4 := Lib.hid (HT3.out.trans t1)
  clear t1 HT3 hc
  cases b with
  | false =>
    go_wp2_with fail
    go_ret
    exact ⟨IsBP.no _, HT4.out⟩
  | true =>
    go_wp2_with fail
    go_ret
    refine ⟨⟨c, rfl, fun h => ?_⟩, HT4.out⟩
    rw [HP.out]
    exact ⟨(HB.out (by simp)).1, (HC.out h).1, (HB.out (by simp)).2⟩
set_option maxRecDepth 20000 in
set_option maxHeartbeats 2000000 in
theorem yBrief_any (us : List Rv) (gp : Option Addr) (gc N : Nat) (W : World) (hg : At N W 3 ratCells us gp gc) :
    Calls Tryz.prog 26 #[.slice gp us.length gc] W fun e w' => IsBP (∀ u ∈ us, SzR u 20) e ∧ Turned (fun _ => False) W w' := by
  have mx : (us.length : Int) ≤ 9223372036854775807 := by have := hg.len; unfold maxLen at this; omega
  obtain ⟨nu, hnu⟩ : ∃ n, us.length = n := ⟨_, rfl⟩
  have HNU := Lib.hid hnu
  have HG := Lib.hid hg
  obtain ⟨P, hP⟩ : ∃ P : Prop, P = ∀ u ∈ us, SzR u 20 := ⟨_, rfl⟩
  rw [← hP]
  have HP := Lib.hid hP
  rw [hnu] at mx ⊢
  clear hnu hg hP
  by_cases h1 : (205 : Int) < nu
  · go_enter Tryz.func26, Tryz.ntmps26
    go_wp2_with fail
    go_ret
    exact ⟨IsBP.no _, Turned.refl _ _⟩
  go_enter Tryz.func26, Tryz.ntmps26
  go_wp2_with fail
  go_loopw [3] (fun i wr => ∃ k : Nat, k ≤ nu ∧ i = (.int .i64 k) ∧ Hid (Turned (fun _ => False) W wr ∧ ∀ j u, j < k → us[j]? = some u → SzR u 20)) (fun i _ => nu - (intOf i).toNat)
  case atStart => exact ⟨0, Nat.zero_le _, rfl, Lib.hid ⟨Turned.refl _ _, fun j u hj => by omega⟩⟩
  case round =>
    obtain ⟨k, hk, rfl, HI⟩ := hrel
    by_cases hlt : k < nu
    · have hx : us[k]? = some (us[k]'(by rw [HNU.out]; exact hlt)) := List.getElem?_eq_getElem _
      obtain ⟨x, hxe⟩ : ∃ x, us[k]'(by rw [HNU.out]; exact hlt) = x := ⟨_, rfl⟩
      rw [hxe] at hx
      obtain ⟨b, a, rfl, -, e1, e2, e3⟩ := (HG.out.turned HI.out.1).rats hx
      have HXX := Lib.hid hx
      obtain ⟨xn, xx, xd⟩ := x
      clear hxe hx
      go_wp2_with fail
      refine (yShort_any ⟨xn, xx, xd⟩ _).mono ?_
      rintro e w2 ⟨rfl, t2⟩
      have HI2 := Lib.hid (HI.out.1.trans t2)
      obtain ⟨sb, hsb⟩ : ∃ s, shortR ⟨xn, xx, xd⟩ = s := ⟨_, rfl⟩
      rw [hsb]
      have HSB := Lib.hid hsb
      clear t2 hsb e1 e2 e3
      cases sb with
      | false =>
        go_wp2_with fail
        go_ret
        exact ⟨IsBP.no _, HI2.out⟩
      | true =>
        go_wp2_with fail
        go_roundw
        case rel => exact ⟨k + 1, by omega, by go_num, Lib.hid ⟨HI2.out, fun j u hj hu => by
          by_cases he : j = k
          · subst he
            rw [HXX.out] at hu
            cases hu
            exact shortR.sz HSB.out
          · exact HI.out.2 j u (by omega) hu⟩⟩
        case measure => simp [intOf]; omega
    · obtain rfl : k = nu := by omega
      go_wp2_with fail
      go_ret
      refine ⟨IsBP.yes ?_, HI.out.1⟩
      rw [HP.out]
      intro u hu
      obtain ⟨j, hj⟩ := List.mem_iff_getElem?.1 hu
      exact HI.out.2 j u (by rw [← HNU.out]; exact (List.getElem?_eq_some_iff.1 hj).1) hj
structure SmallP (rs : List Rc) (lo hi : List Rv) (cs : List Cl) : Prop where
  sl : ∀ u ∈ lo, SzR u 20
  sh : ∀ u ∈ hi, SzR u 20
  sc : ∀ c ∈ cs, SzR c.amt 20
  m12 : cs.length ≤ 12
  n8 : rs.length ≤ 8
  e : ordE rs lo hi cs = 0
set_option maxRecDepth 20000 in
set_option maxHeartbeats 2000000 in
theorem lawSmall_any (rs : List Rc) (lo hi : List Rv) (cs : List Cl) (rp lp hp cp : Option Addr) (rc lc hc cc : Nat) (W : World) (hf : FcAt W.heap.size W rs lo hi rp lp hp rc lc hc) (hcl : At W.heap.size W 5 claimCells cs cp cc) :
    Calls Tryz.prog 27 #[.agg #[.slice rp rs.length rc, .slice lp lo.length lc, .slice hp hi.length hc], .slice cp cs.length cc] W fun e w' => IsBP (SmallP rs lo hi cs) e ∧ Turned (fun _ => False) W w' := by
  have HF := Lib.hid (fun A (hA : Turned (fun _ => False) W A) => lFew_any rs lo hi cs rp lp hp cp rc lc hc cc A (hf.on hA) (hcl.on hA))
  have HC := Lib.hid (fun A (hA : Turned (fun _ => False) W A) => oCheck_any rs lo hi cs rp lp hp cp rc lc hc cc A (hf.on hA) (hcl.on hA))
  have HS : Hid ((∀ u ∈ lo, SzR u 20) ∧ (∀ u ∈ hi, SzR u 20) ∧ (∀ c ∈ cs, SzR c.amt 20) → cs.length ≤ 12 → rs.length ≤ 8 → ordE rs lo hi cs = 0 → SmallP rs lo hi cs) := Lib.hid fun h1 h2 h3 h4 => ⟨h1.1, h1.2.1, h1.2.2, h2, h3, h4⟩
  obtain ⟨P, hP⟩ : ∃ P : Prop, P = SmallP rs lo hi cs := ⟨_, rfl⟩
  have HW := Lib.hid (fun (h : (∀ u ∈ lo, SzR u 20) ∧ (∀ u ∈ hi, SzR u 20) ∧ ∀ c ∈ cs, SzR c.amt 20) A (hA : Turned (fun _ => False) W A) => HC.out A hA h.1 h.2.1 h.2.2)
  clear HC
  obtain ⟨Q, hQ⟩ : ∃ Q : Prop, Q = ((∀ u ∈ lo, SzR u 20) ∧ (∀ u ∈ hi, SzR u 20) ∧ ∀ c ∈ cs, SzR c.amt 20) := ⟨_, rfl⟩
  obtain ⟨ov, hov⟩ : ∃ v, ordE rs lo hi cs = v := ⟨_, rfl⟩
  rw [← hQ] at HF HS HW
  rw [hov] at HS HW
  rw [← hP] at HS ⊢
  have mr : (rs.length : Int) ≤ 9223372036854775807 := by have := hf.riv.at_.len; unfold maxLen at this; omega
  have ml : (lo.length : Int) ≤ 9223372036854775807 := by have := hf.lo.len; unfold maxLen at this; omega
  have mh : (hi.length : Int) ≤ 9223372036854775807 := by have := hf.hi.len; unfold maxLen at this; omega
  have mc : (cs.length : Int) ≤ 9223372036854775807 := by have := hcl.len; unfold maxLen at this; omega
  obtain ⟨nr, hnr⟩ : ∃ n, rs.length = n := ⟨_, rfl⟩
  obtain ⟨nl, hnl⟩ : ∃ n, lo.length = n := ⟨_, rfl⟩
  obtain ⟨nh, hnh⟩ : ∃ n, hi.length = n := ⟨_, rfl⟩
  obtain ⟨nc, hnc⟩ : ∃ n, cs.length = n := ⟨_, rfl⟩
  rw [hnr, hnl, hnh, hnc] at HF HW
  rw [hnr, hnc] at HS
  rw [hnr] at mr
  rw [hnl] at ml
  rw [hnh] at mh
  rw [hnc] at mc
  rw [hnr, hnl, hnh, hnc]
  clear hnr hnl hnh hnc hf hcl hP hQ hov
  have HT0 := Lib.hid ((Turned.refl (fun _ => False) W).alloc (.cells #[.slice rp nr rc, .slice lp nl lc, .slice hp nh hc] 25))
  have HN0 := Lib.hid (World.alloc_heap_new W (.cells #[.slice rp nr rc, .slice lp nl lc, .slice hp nh hc] 25))
  go_enter Tryz.func27, Tryz.ntmps27
  go_wp2_with fail
  refine (HF.out _ HT0.out).mono ?_
  rintro e w1 ⟨⟨b, rfl, hb⟩, t1⟩
  have HB := Lib.hid hb
  have HT1 := Lib.hid (HT0.out.trans t1)
  have HN1 := Lib.hid (keepB t1 HN0.out)
  obtain ⟨d0, d1, d2, -, -, -⟩ := box3 HN1.out
  clear t1 HT0 HN0 hb HF
  cases b with
  | false =>
    go_wp2_with fail
    go_ret
    exact ⟨IsBP.no _, HT1.out⟩
  | true =>
    by_cases g1 : (nc : Int) ≤ 12
    · by_cases g2 : (nr : Int) ≤ 8
      · by_cases g3 : (nl : Int) = nr
        · have f3 : ((nl : Int) == nr) = true := by simpa using g3
          by_cases g4 : (nh : Int) = nr
          · have f4 : ((nh : Int) == nr) = true := by simpa using g4
            have HE := Lib.hid (HS.out (HB.out rfl) (by omega) (by omega))
            have HK := Lib.hid (HW.out (HB.out rfl))
            clear g3 g4
            go_wp2_with fail
            refine (HK.out _ HT1.out).mono ?_
            rintro e w2 ⟨rfl, t2⟩
            have HT2 := Lib.hid (HT1.out.trans t2)
            clear t2 d0 d1 d2 f3 f4
            by_cases g5 : ov = 0
            · have HG := Lib.hid (HE.out g5)
              have f5 : (ov == 0) = true := by simpa using g5
              clear g5
              go_wp2_with fail
              go_ret
              exact ⟨IsBP.yes HG.out, HT2.out⟩
            · have f5 : (ov == 0) = false := by simpa using g5
              clear g5
              go_wp2_with fail
              go_ret
              exact ⟨IsBP.no _, HT2.out⟩
          · have f4 : ((nh : Int) == nr) = false := by simpa using g4
            clear g3 g4
            go_wp2_with fail
            go_ret
            exact ⟨IsBP.no _, HT1.out⟩
        · have f3 : ((nl : Int) == nr) = false := by simpa using g3
          clear g3
          go_wp2_with fail
          go_ret
          exact ⟨IsBP.no _, HT1.out⟩
      · go_wp2_with fail
        go_ret
        exact ⟨IsBP.no _, HT1.out⟩
    · go_wp2_with fail
      go_ret
      exact ⟨IsBP.no _, HT1.out⟩
end Go.Proofs.YtanhhdndgkhcfaaGreatDoor
namespace Go.Proofs.YtanhhdndgkhcfaaGreatDoor
open Go Go.Proofs Go.RowKit
def Grown {α : Type} (W : World) (base e s : Nat) (enc : α → List Value) (v : Value) (l : List α) : Prop := W.ownsRow base e s v l.length (l.flatMap enc)
section
variable {α : Type} {W W' : World} {base e s : Nat} {enc : α → List Value} {v : Value} {l : List α}
theorem Grown.nil (W : World) (base e s : Nat) (enc : α → List Value) : Grown W base e s enc (.slice none 0 0) [] := ⟨by simp, .inl ⟨rfl, rfl⟩⟩
theorem Grown.shape (h : Grown W base e s enc v l) : ∃ p c, v = .slice p l.length c := owns_shape h
theorem Grown.turned (h : Grown W base e s enc v l) {C : Nat → Prop} (ht : Turned C W W') (hC : ∀ k, C k → k < base) : Grown W' base e s enc v l := ownsRow_turned ht hC h
theorem Grown.low (h : Grown W base e s enc v l) {b : Nat} (hb : b ≤ base) : Grown W b e s enc v l := by
  obtain ⟨h1, h2⟩ := h
  refine ⟨h1, ?_⟩
  rcases h2 with h2 | ⟨g, cap, cur, h3, h4, h5⟩
  · exact .inl h2
  · exact .inr ⟨g, cap, cur, h3, Nat.le_trans hb h4, h5⟩
theorem Grown.at_ {p : Option Addr} {c : Nat} (h : Grown W base e s enc (.slice p l.length c) l) (henc : ∀ x, (enc x).length = s) {N : Nat} (hN : W.heap.size ≤ N) : At N W s enc l p c := by
  obtain ⟨h1, h2⟩ := h
  rcases h2 with ⟨h2, h3⟩ | ⟨g, cap, cur, hv, hb, hg, h4, h5, h6, h7⟩
  · simp only [Value.slice.injEq] at h2
    obtain ⟨rfl, -, rfl⟩ := h2
    exact ⟨by omega, Nat.zero_le _, fun i x hi => by
      have := (List.getElem?_eq_some_iff.1 hi).1
      omega⟩
  · cases hv
    refine ⟨h4, h5, fun i x hi => ⟨g, 0, rfl, Nat.lt_of_lt_of_le (getElem?_lt hg) hN, fun j u hj => ?_⟩⟩
    obtain ⟨hlt, hx⟩ := List.getElem?_eq_some_iff.1 hi
    have hjs : j < s := by
      have := (List.getElem?_eq_some_iff.1 hj).1
      rwa [henc] at this
    have h8 := flatMap_at enc s henc l i j hlt hjs
    rw [hx, hj] at h8
    have hlt2 : i * s + j < l.length * s := by
      have h9 : (i + 1) * s ≤ l.length * s := Nat.mul_le_mul_right s hlt
      rw [Nat.add_mul] at h9
      omega
    rw [← h7, List.getElem?_take_of_lt hlt2] at h8
    rw [Nat.zero_add]
    simp only [World.cell?, hg]
    simpa using h8
end
theorem app_row {α : Type} (enc : α → List Value) (e t s bytes : Nat) (z : Value) (hinfo : (Tryz.prog.info? e).map (fun i => (i.zero, i.size, i.bytes)) = some (some z, s, bytes)) (hund : Tryz.prog.underlying t = some (.slice e)) (hz : z.cells.size = s) (hs0 : 0 < s) (henc : ∀ x, (enc x).length = s) (h1c : ∀ x, ∀ u ∈ enc x, u.oneCell' = true)
    (W : World) {ops : Array Oper} {rest : List Oper} {o : Oper} {a : Act} {Q : Exit → Act → World → Prop} (hg : o.guard = none) (so xo : Operand) (hop : o.op = Op.call { callee := Callee.builtin Builtin.append, args := #[so, xo], argTypes := #[t, t] })
    (base : Nat) (v : Value) (x : α) (L : List α) (hs : a.eval so = v) (hx : a.eval xo = .slice (some ⟨W.heap.size, 0, none⟩) 1 1) (hown : Grown W base e s enc v L) (hb : base ≤ W.heap.size) (hl : L.length ≤ 100000) (hby : bytes ≤ 1000)
    (hK : ∀ p c w', Grown w' base e s enc (.slice p (L ++ [x]).length c) (L ++ [x]) → Turned (fun g => base ≤ g) W w' → wpList Tryz.prog ops Q rest (a.put o.dst (.slice p (L ++ [x]).length c)) w') :
    wpList Tryz.prog ops Q (o :: rest) a (W.alloc (.cells (enc x).toArray e)) := by
  obtain ⟨i0, hif, hz0, hz1, hz2⟩ := info_parts hinfo
  have ta : Turned (fun g => base ≤ g) W (W.alloc (.cells (enc x).toArray e)) := (Turned.refl _ _).alloc _
  have hmul : (L.length + 1) * bytes ≤ 100001 * 1000 := Nat.mul_le_mul (by omega) hby
  refine wpList_append_exact _ hg so xo t hop base e i0 z s bytes hund hif hz0 hz1 hz2 hz hs0 v L.length (L.flatMap enc) hs (ownsRow_turned ((Turned.refl (fun _ => False) W).alloc _) (fun k hk => hk.elim) hown) ⟨W.heap.size, 0, none⟩ 1 1 (enc x) hx (by rw [henc, Nat.one_mul]) (fun j u hj => ?_) (h1c x) (by unfold maxLen; omega) (by omega) (by simp; omega) ?_
  · have h0 := World.alloc_heap_new W (.cells (enc x).toArray e)
    have h2 : (⟨W.heap.size, 0, none⟩ : Addr).add j = ⟨W.heap.size, j, none⟩ := by
      unfold Addr.add
      split
      · rename_i h3
        rw [h3]
      · rw [Nat.zero_add]
    rw [h2]
    simp only [World.cell?, h0]
    simpa using hj
  · intro v' w' hown' hgrow hex
    have hg2 : Grown w' base e s enc v' (L ++ [x]) := by
      unfold Grown
      rw [List.length_append, List.flatMap_append, show [x].flatMap enc = enc x by simp]
      exact hown'
    obtain ⟨p, c, rfl⟩ := hg2.shape
    exact hK p c w' hg2 (ta.trans (Turned.of_grown hgrow fun k hk => (ownsRow_block hown k hk).1))
theorem infoOrder : (Tryz.prog.info? 70).map (fun i => (i.zero, i.size, i.bytes)) = some (some (.agg #[(.int .i64 0), .bool false, .string ⟨#[]⟩, .string ⟨#[]⟩]), 4, 48) := by kernel_rfl
theorem infoInt : (Tryz.prog.info? 3).map (fun i => (i.zero, i.size, i.bytes)) = some (some (.int .i64 0), 1, 8) := by kernel_rfl
theorem app_order (W : World) {ops : Array Oper} {rest : List Oper} {o : Oper} {a : Act} {Q : Exit → Act → World → Prop} (hg : o.guard = none) (so xo : Operand) (hop : o.op = Op.call { callee := Callee.builtin Builtin.append, args := #[so, xo], argTypes := #[27, 27] })
    (base : Nat) (v : Value) (x : Or) (L : List Or) (hs : a.eval so = v) (hx : a.eval xo = .slice (some ⟨W.heap.size, 0, none⟩) 1 1) (hown : Grown W base 70 4 orderCells v L) (hb : base ≤ W.heap.size) (hl : L.length ≤ 100000)
    (hK : ∀ p c w', Grown w' base 70 4 orderCells (.slice p (L ++ [x]).length c) (L ++ [x]) → Turned (fun g => base ≤ g) W w' → wpList Tryz.prog ops Q rest (a.put o.dst (.slice p (L ++ [x]).length c)) w') :
    wpList Tryz.prog ops Q (o :: rest) a (W.alloc (.cells #[(.int .i64 (x.claim)), .bool x.limit.neg, .string x.limit.num, .string x.limit.den] 70)) :=
  app_row orderCells 70 27 4 48 _ infoOrder Tryz.underlying27 rfl (by decide) (fun _ => rfl) (fun x u hu => by simp at hu; rcases hu with rfl | rfl | rfl | rfl <;> rfl) W hg so xo hop base v x L hs hx hown hb hl (by decide) hK
theorem app_int (W : World) {ops : Array Oper} {rest : List Oper} {o : Oper} {a : Act} {Q : Exit → Act → World → Prop} (hg : o.guard = none) (so xo : Operand) (hop : o.op = Op.call { callee := Callee.builtin Builtin.append, args := #[so, xo], argTypes := #[44, 44] })
    (base : Nat) (v : Value) (x : Int) (L : List Int) (hs : a.eval so = v) (hx : a.eval xo = .slice (some ⟨W.heap.size, 0, none⟩) 1 1) (hown : Grown W base 3 1 intCells v L) (hb : base ≤ W.heap.size) (hl : L.length ≤ 100000)
    (hK : ∀ p c w', Grown w' base 3 1 intCells (.slice p (L ++ [x]).length c) (L ++ [x]) → Turned (fun g => base ≤ g) W w' → wpList Tryz.prog ops Q rest (a.put o.dst (.slice p (L ++ [x]).length c)) w') :
    wpList Tryz.prog ops Q (o :: rest) a (W.alloc (.cells #[(.int .i64 x)] 3)) :=
  app_row intCells 3 44 1 8 _ infoInt Tryz.underlying44 rfl (by decide) (fun _ => rfl) (fun x u hu => by simp at hu; subst hu; rfl) W hg so xo hop base v x L hs hx hown hb hl (by decide) hK
theorem app_rat (W : World) {ops : Array Oper} {rest : List Oper} {o : Oper} {a : Act} {Q : Exit → Act → World → Prop} (hg : o.guard = none) (so xo : Operand) (hop : o.op = Op.call { callee := Callee.builtin Builtin.append, args := #[so, xo], argTypes := #[23, 23] })
    (base : Nat) (v : Value) (x : Rv) (L : List Rv) (hs : a.eval so = v) (hx : a.eval xo = .slice (some ⟨W.heap.size, 0, none⟩) 1 1) (hown : Grown W base 68 3 ratCells v L) (hb : base ≤ W.heap.size) (hl : L.length ≤ 100000)
    (hK : ∀ p c w', Grown w' base 68 3 ratCells (.slice p (L ++ [x]).length c) (L ++ [x]) → Turned (fun g => base ≤ g) W w' → wpList Tryz.prog ops Q rest (a.put o.dst (.slice p (L ++ [x]).length c)) w') :
    wpList Tryz.prog ops Q (o :: rest) a (W.alloc (.cells #[.bool x.neg, .string x.num, .string x.den] 68)) :=
  app_row ratCells 68 23 3 40 _ infoRat Tryz.underlying23 rfl (by decide) (fun _ => rfl) (fun x u hu => by simp at hu; rcases hu with rfl | rfl | rfl <;> rfl) W hg so xo hop base v x L hs hx hown hb hl (by decide) hK
end Go.Proofs.YtanhhdndgkhcfaaGreatDoor
