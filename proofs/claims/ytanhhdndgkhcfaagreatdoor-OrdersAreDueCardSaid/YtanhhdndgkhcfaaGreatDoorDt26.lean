/- Part 26 of the proof of lawDue.card: OrdLawA. Conditions: those of each theorem. -/
import Derived.Deep.CutBlock
import Derived.Deep.DeepCutAuto
import Derived.Test.YtanhhdndgkhcfaaGreatDoorDt01
import Derived.Test.YtanhhdndgkhcfaaGreatDoorDt21
import Derived.Test.YtanhhdndgkhcfaaGreatDoorDt25
namespace Go.Proofs.YtanhhdndgkhcfaaGreatDoor
open Go Go.Proofs Go.RowKit
attribute [local go_sem] Oper.semAt_some
attribute [local go_sem ↓] run_eql_rat' run_neq_rat'
theorem mvo3 {A B : World} (h : Turned (fun _ => False) A B) {q : Nat} {x y z : Value} (hs : A.cell? ⟨q, 1, none⟩ = some x ∧ A.cell? ⟨q, 2, none⟩ = some y ∧ A.cell? ⟨q, 3, none⟩ = some z) : B.cell? ⟨q, 1, none⟩ = some x ∧ B.cell? ⟨q, 2, none⟩ = some y ∧ B.cell? ⟨q, 3, none⟩ = some z :=
  ⟨cellT h id hs.1, cellT h id hs.2.1, cellT h id hs.2.2⟩
theorem set3_turned (W : World) (B : Nat) (x y z : Value) : Turned (fun k => k = B) W (((W.setCell ⟨B, 0, none⟩ x).setCell ⟨B, 1, none⟩ y).setCell ⟨B, 2, none⟩ z) :=
  (((Turned.refl (fun k => k = B) W).setCell (p := ⟨B, 0, none⟩) rfl x).setCell (p := ⟨B, 1, none⟩) rfl y).setCell (p := ⟨B, 2, none⟩) rfl z
theorem mvo3s {A : World} {q h : Nat} {x y z : Value} (u v w : Value) (hne : q ≠ h) (hs : A.cell? ⟨q, 1, none⟩ = some x ∧ A.cell? ⟨q, 2, none⟩ = some y ∧ A.cell? ⟨q, 3, none⟩ = some z) :
    (((A.setCell ⟨h, 0, none⟩ u).setCell ⟨h, 1, none⟩ v).setCell ⟨h, 2, none⟩ w).cell? ⟨q, 1, none⟩ = some x ∧ (((A.setCell ⟨h, 0, none⟩ u).setCell ⟨h, 1, none⟩ v).setCell ⟨h, 2, none⟩ w).cell? ⟨q, 2, none⟩ = some y ∧ (((A.setCell ⟨h, 0, none⟩ u).setCell ⟨h, 1, none⟩ v).setCell ⟨h, 2, none⟩ w).cell? ⟨q, 3, none⟩ = some z :=
  ⟨cellT (set3_turned A h u v w) hne hs.1, cellT (set3_turned A h u v w) hne hs.2.1, cellT (set3_turned A h u v w) hne hs.2.2⟩
theorem at_getD {l : List Rv} {k : Nat} (h : k < l.length) : l[k]? = some (l.getD k zeroR) := by
  rw [List.getD_eq_getElem?_getD, List.getElem?_eq_getElem h]
  rfl
set_option maxRecDepth 100000 in
set_option maxHeartbeats 8000000 in
theorem lawDue_any (rs : List Rc) (lo hi gs : List Rv) (cs : List Cl) (rp lp hp cp gp : Option Addr) (rc lc hc cc gc : Nat) (W : World) (hf : FcAt W.heap.size W rs lo hi rp lp hp rc lc hc) (hcl : At W.heap.size W 5 claimCells cs cp cc) (hg : At W.heap.size W 3 ratCells gs gp gc) :
    Calls Tryz.prog 4 #[.agg #[.slice rp rs.length rc, .slice lp lo.length lc, .slice hp hi.length hc], .slice cp cs.length cc, .slice gp gs.length gc] W fun e w' => e = .returned (.bool true) ∧ Turned (fun _ => False) W w' := by
  have HBR := Lib.hid (fun A (hA : Turned (fun _ => False) W A) => yBrief_any gs gp gc W.heap.size A (hg.turned hA))
  have HSM := Lib.hid (fun A (hA : Turned (fun _ => False) W A) => lawSmall_any rs lo hi cs rp lp hp cp rc lc hc cc A (hf.on hA) (hcl.on hA))
  have HIN := Lib.hid (And.intro hf (And.intro hcl hg))
  obtain ⟨nr, hnr⟩ : ∃ n, rs.length = n := ⟨_, rfl⟩
  obtain ⟨nl, hnl⟩ : ∃ n, lo.length = n := ⟨_, rfl⟩
  obtain ⟨nh, hnh⟩ : ∃ n, hi.length = n := ⟨_, rfl⟩
  obtain ⟨nc, hnc⟩ : ∃ n, cs.length = n := ⟨_, rfl⟩
  obtain ⟨ng, hng⟩ : ∃ n, gs.length = n := ⟨_, rfl⟩
  have HNN := Lib.hid (And.intro hnr (And.intro hnl (And.intro hnh (And.intro hnc hng))))
  rw [hng] at HBR
  rw [hnr, hnl, hnh, hnc] at HSM
  rw [hnr, hnl, hnh, hnc, hng]
  clear hnr hnl hnh hnc hng hf hcl hg
  have T0 := (Turned.refl (fun _ => False) W).alloc (.cells #[.slice rp nr rc, .slice lp nl lc, .slice hp nh hc] 25)
  have N0 := World.alloc_heap_new W (.cells #[.slice rp nr rc, .slice lp nl lc, .slice hp nh hc] 25)
  go_enter Tryz.func4, Tryz.ntmps4
  go_wp2_with fail
  obtain ⟨w0, hw0⟩ : ∃ w, w = W.alloc (.cells #[.slice rp nr rc, .slice lp nl lc, .slice hp nh hc] 25) := ⟨_, rfl⟩
  rw [← hw0] at T0 N0 ⊢
  obtain ⟨B, hB⟩ : ∃ o, W.heap.size = o := ⟨_, rfl⟩
  rw [hB] at N0 ⊢
  have HT0 := Lib.hid T0
  have HCE : Hid (∀ A, Turned (fun _ => False) w0 A → A.cell? ⟨B, 0, none⟩ = some (.slice rp nr rc) ∧ A.cell? ⟨B, 1, none⟩ = some (.slice lp nl lc) ∧ A.cell? ⟨B, 2, none⟩ = some (.slice hp nh hc)) := Lib.hid fun A hA => by
    have h0 := keepB hA N0
    exact ⟨by simp [World.cell?, h0], by simp [World.cell?, h0], by simp [World.cell?, h0]⟩
  clear hw0 hB T0 N0
  refine (HBR.out _ HT0.out).mono ?_
  rintro e w1 ⟨⟨b1, rfl, hb1⟩, t1⟩
  have HB1 := Lib.hid hb1
  have HT1 := Lib.hid t1
  obtain ⟨d0, d1, d2⟩ := HCE.out _ t1
  clear t1 hb1 HBR
  go_wp2_with fail
  refine (HSM.out _ (HT0.out.trans HT1.out)).mono ?_
  rintro e w2 ⟨⟨b2, rfl, hb2⟩, t2⟩
  have HB2 := Lib.hid hb2
  have HT2 := Lib.hid (HT1.out.trans t2)
  clear t2 hb2 HT1 d0 d1 d2 HSM
  by_cases hbb : b2 = true ∧ b1 = true
  · obtain ⟨rfl, rfl⟩ := hbb
    have hP : SmallP rs lo hi cs := HB2.out rfl
    have hS := HB1.out rfl
    have hE := ordE_zero hP.e
    have hG := clamp_in hE hP.sl hP.sh hS
    have hD := due_p hE hG
    have hO : OIn W rs lo hi cs rp lp hp cp rc lc hc cc := ⟨HIN.out.1, HIN.out.2.1, hP.sl, hP.sh, hP.sc⟩
    have HLM := Lib.hid (fun A (hA : Turned (fun _ => False) W A) => oLimits_ok (hO.on hA) hP.e hP.n8 hP.m12)
    have HOR := Lib.hid (fun A (hA : Turned (fun _ => False) W A) => oOrders_ok (hO.on hA) hP.e hP.n8 hP.m12)
    have HSU := Lib.hid (fun A (hA : Turned (fun _ => False) W A) => oSure_ok (hO.on hA) hP.e hP.n8 hP.m12)
    have HCL := Lib.hid (fun A (hA : Turned (fun _ => False) W A) => lawClamp_any gs lo hi gp lp hp gc lc hc A (HIN.out.2.2.on hA) (hO.on hA).fc.lo (hO.on hA).fc.hi (by rw [hE.high.len, hE.low.len]) (by rw [hE.low.len]; exact hP.n8) hS hP.sl hP.sh)
    have HTK := Lib.hid (fun A (hA : Turned (fun _ => False) W A) p c (h : At A.heap.size A 3 ratCells (clampL gs lo hi) p c) => hTakes_any rs (clampL gs lo hi) cs rp p cp rc c cc A (hO.on hA).fc.riv h (hO.on hA).cl (hG.sup hE) hP.n8 hP.m12 hG.sz hP.sc)
    have HDU := Lib.hid (fun A (hA : Turned (fun _ => False) W A) os po co (ho : At A.heap.size A 4 orderCells os po co) (so : ∀ o ∈ os, SzR o.limit 24000400) => oDue_ok (hO.on hA) hP.e hP.n8 hP.m12 os po co ho so)
    obtain ⟨us, hus⟩ : ∃ u, clampL gs lo hi = u := ⟨_, rfl⟩
    rw [hus] at HCL HTK hD
    obtain ⟨tl, htl⟩ : ∃ t, takesR rs cs lo = t := ⟨_, rfl⟩
    obtain ⟨th, hth⟩ : ∃ t, takesR rs cs hi = t := ⟨_, rfl⟩
    obtain ⟨tt, htt⟩ : ∃ t, takesR rs cs us = t := ⟨_, rfl⟩
    rw [htl, hth, htt] at hD
    rw [htl, hth] at HLM
    rw [hth] at HOR HDU
    rw [htl] at HSU
    rw [htt] at HTK
    obtain ⟨hnr, hnl, hnh, hnc, hng⟩ := HNN.out
    obtain ⟨nu, hnu⟩ : ∃ n, us.length = n := ⟨_, rfl⟩
    obtain ⟨ol, hol⟩ : ∃ o, ordersL cs th = o := ⟨_, rfl⟩
    obtain ⟨sl, hsl⟩ : ∃ o, sureL cs tl = o := ⟨_, rfl⟩
    obtain ⟨no, hno⟩ : ∃ o, ol.length = o := ⟨_, rfl⟩
    obtain ⟨ns, hns⟩ : ∃ o, sl.length = o := ⟨_, rfl⟩
    have hdue := hD.due
    rw [hnr, hnl, hnh, hnc] at HLM
    rw [hnr, hnl, hnh, hnc, hol, hno] at HOR
    rw [hnr, hnl, hnh, hnc, hsl, hns] at HSU
    rw [hnl, hnh, hng, hnu] at HCL
    rw [hnr, hnc, hnu] at HTK
    rw [hnr, hnl, hnh, hnc] at HDU
    rw [hol, hnc] at hdue
    have HD := Lib.hid hD
    have HDE := Lib.hid hdue
    have HQ := Lib.hid (And.intro hol (And.intro hsl (And.intro hno (And.intro hns (And.intro hP.m12 hP.sc)))))
    clear hus htl hth htt hnr hnl hnh hnc hng hnu hol hsl hno hns hdue hD hG hE hS hP hO
    obtain ⟨c0, c1, c2⟩ := HCE.out _ HT2.out
    go_wp2_with fail
    refine (HLM.out _ (HT0.out.trans HT2.out)).mono ?_
    rintro e w3 ⟨la, lb, rfl, -, hoa, hob, hsz, t3⟩
    have HT3 := Lib.hid (HT2.out.trans t3)
    have HOA := Lib.hid (And.intro hoa hsz.1)
    have HOB := Lib.hid (And.intro hob hsz.2)
    clear t3 hoa hob hsz HT2 HLM c0 c1 c2
    have HTD := Lib.hid (HT3.out.drew)
    have HRD := Lib.hid ((Turned.refl (fun _ => False) w3).drew)
    have HK0 : Hid _ := Lib.hid (HCE.out _ HTD.out)
    go_wp2_with fail
    go_region_held3 (fun V => V.cell? ⟨B, 0, none⟩ = some (.slice rp nr rc) ∧ V.cell? ⟨B, 1, none⟩ = some (.slice lp nl lc) ∧ V.cell? ⟨B, 2, none⟩ = some (.slice hp nh hc))
      (first | exact HK2.out | exact HK1.out | exact HK0.out | go_keep)
      (first
        | (have hq := HK1; clear hq; go_at_call 28; refine (HTK.out _ (HT0.out.trans HT4.out) _ _ HU.out).mono ?_; rintro e w5 ⟨tk, rfl, -, h2, h3, t5⟩; have HT5 := Lib.hid (HT4.out.trans t5); have HR5 := Lib.hid (HR4.out.trans t5); have HK2 : Hid _ := Lib.hid (HCE.out _ HT5.out); have HTT := Lib.hid (And.intro h2 h3); clear h2 h3 t5)
        | (have hq := HK0; clear hq; go_at_call 29; refine (HCL.out _ (HT0.out.trans HTD.out)).mono ?_; rintro e w4 ⟨up, uc, rfl, hgr, t4⟩; have HT4 := Lib.hid (HTD.out.trans t4); have HR4 := Lib.hid (HRD.out.trans t4); have HK1 : Hid _ := Lib.hid (HCE.out _ HT4.out); have HU := Lib.hid (hgr.at' (fun _ => rfl) (Nat.le_refl _)); clear hgr t4))
    have HL5 := Lib.hid (And.intro (HOA.out.1.turned HR5.out id) (And.intro (HOB.out.1.turned HR5.out id) HTT.out.1))
    obtain ⟨c0, c1, c2⟩ := HK2.out
    clear HRD HR4 HR5 HK0 HK1 HK2 HTD HT4 HU HTK HCL
    go_wp2_with fail
    refine (HOR.out _ (HT0.out.trans HT5.out)).mono ?_
    rintro e w6 ⟨opp, oc, rfl, hgo, hso, t6⟩
    have HT6 := Lib.hid (HT5.out.trans t6)
    have HL6 := Lib.hid (And.intro (HL5.out.1.turned t6 id) (And.intro (HL5.out.2.1.turned t6 id) (HL5.out.2.2.turned t6 id)))
    have HGO := Lib.hid (And.intro (hgo.at' (fun _ => rfl) (Nat.le_refl _)) hso)
    clear c0 c1 c2 hgo hso t6 HOR
    obtain ⟨c0, c1, c2⟩ := HCE.out _ HT6.out
    go_wp2_with fail
    refine (HSU.out _ (HT0.out.trans HT6.out)).mono ?_
    rintro e w7 ⟨spp, sc, rfl, hgs, t7⟩
    have HT7 := Lib.hid (HT6.out.trans t7)
    have HGS := Lib.hid (hgs.at' (fun _ => rfl) (Nat.le_refl _))
    have HT67 := Lib.hid t7
    have HL7 := Lib.hid (And.intro (HL6.out.1.turned t7 id) (And.intro (HL6.out.2.1.turned t7 id) (HL6.out.2.2.turned t7 id)))
    clear c0 c1 c2 hgs t7 HSU
    obtain ⟨c0, c1, c2⟩ := HCE.out _ HT7.out
    have hdu := HDU.out w7 (HT0.out.trans HT7.out) ol opp oc (HGO.out.1.on HT67.out) (fun o h => (HGO.out.2 o h).mono (by decide))
    rw [HQ.out.2.2.1, HDE.out] at hdu
    have HDO := Lib.hid hdu
    clear hdu
    go_wp2_with fail
    refine HDO.out.mono ?_
    rintro e w8 ⟨rfl, t8⟩
    have HT8 := Lib.hid (HT7.out.trans t8)
    have HO8 := Lib.hid (HGO.out.1.on (HT67.out.trans t8))
    have HS8 := Lib.hid (HGS.out.on t8)
    have HL8 := Lib.hid (And.intro (HL7.out.1.turned t8 id) (And.intro (HL7.out.2.1.turned t8 id) (HL7.out.2.2.turned t8 id)))
    have HSZ := Lib.hid (And.intro HOA.out.2 (And.intro HOB.out.2 (And.intro HTT.out.2 HGO.out.2)))
    have hmx : (nc : Int) ≤ 12 := by have := HQ.out.2.2.2.2.1; have := HNN.out.2.2.2.1; omega
    have hmo : (no : Int) ≤ 12 := by have h := ordersTo_len cs th cs.length; have h2 := HQ.out.1; unfold ordersL at h2; rw [h2, HQ.out.2.2.1] at h; have := HNN.out.2.2.2.1; omega
    have hms : (ns : Int) ≤ 12 := by have h := sureTo_len cs tl cs.length; have h2 := HQ.out.2.1; unfold sureL at h2; rw [h2, HQ.out.2.2.2.1] at h; have := HNN.out.2.2.2.1; omega
    clear c0 c1 c2 t8 HT7 HT67 HT6 HT5 HL7 HL6 HL5 HGO HGS HOA HOB HTT HDO HT3 HDE HB1 HB2
    go_wp2_with fail
    go_loopw [113] (fun i wr => ∃ k : Nat, k ≤ nc ∧ i = (.int .i64 k) ∧ Hid (Turned (fun _ => False) w8 wr)) (fun i _ => nc - (intOf i).toNat)
    case atStart => exact ⟨0, Nat.zero_le _, rfl, Lib.hid (Turned.refl _ _)⟩
    case round =>
      obtain ⟨k, hk, rfl, HI⟩ := hrel
      by_cases hlt : k < nc
      · have hx := at_getD (l := tt) (k := k) (by rw [HD.out.len.2.2, HNN.out.2.2.2.1]; exact hlt)
        have hy := at_getD (l := tl) (k := k) (by rw [HD.out.len.1, HNN.out.2.2.2.1]; exact hlt)
        have hz := at_getD (l := th) (k := k) (by rw [HD.out.len.2.1, HNN.out.2.2.2.1]; exact hlt)
        have hle1 := HD.out.low k (by rw [HNN.out.2.2.2.1]; exact hlt)
        have hle2 := HD.out.high k (by rw [HNN.out.2.2.2.1]; exact hlt)
        obtain ⟨⟨xn, xx, xd⟩, hxe⟩ : ∃ u, tt.getD k zeroR = u := ⟨_, rfl⟩
        obtain ⟨⟨yn, yx, yd⟩, hye⟩ : ∃ u, tl.getD k zeroR = u := ⟨_, rfl⟩
        obtain ⟨⟨zn, zx, zd⟩, hze⟩ : ∃ u, th.getD k zeroR = u := ⟨_, rfl⟩
        rw [hxe] at hx hle1 hle2
        rw [hye] at hy hle1
        rw [hze] at hz hle2
        have HCX : Hid (∀ A, Turned (fun _ => False) w8 A → (A.cell? ⟨tk, k * 3, none⟩ = some (.bool xn) ∧ A.cell? ⟨tk, k * 3 + 1, none⟩ = some (.string xx) ∧ A.cell? ⟨tk, k * 3 + 2, none⟩ = some (.string xd)) ∧ (A.cell? ⟨la, k * 3, none⟩ = some (.bool yn) ∧ A.cell? ⟨la, k * 3 + 1, none⟩ = some (.string yx) ∧ A.cell? ⟨la, k * 3 + 2, none⟩ = some (.string yd)) ∧ (A.cell? ⟨lb, k * 3, none⟩ = some (.bool zn) ∧ A.cell? ⟨lb, k * 3 + 1, none⟩ = some (.string zx) ∧ A.cell? ⟨lb, k * 3 + 2, none⟩ = some (.string zd))) := Lib.hid fun A hA => ⟨(HL8.out.2.2.turned hA id).cells hx, (HL8.out.1.turned hA id).cells hy, (HL8.out.2.1.turned hA id).cells hz⟩
        have HC1 := Lib.hid (fun W => qCmp_any ⟨xn, xx, xd⟩ ⟨yn, yx, yd⟩ 24000300 W (by decide) (by decide) (HSZ.out.2.2.1 _ (List.mem_of_getElem? hx)) (HSZ.out.1 _ (List.mem_of_getElem? hy)))
        have HC2 := Lib.hid (fun W => qCmp_any ⟨xn, xx, xd⟩ ⟨zn, zx, zd⟩ 24000300 W (by decide) (by decide) (HSZ.out.2.2.1 _ (List.mem_of_getElem? hx)) (HSZ.out.2.1 _ (List.mem_of_getElem? hz)))
        obtain ⟨g1, hg1⟩ : ∃ c, cmpQ (qR ⟨xn, xx, xd⟩) (qR ⟨yn, yx, yd⟩) = c := ⟨_, rfl⟩
        obtain ⟨g2, hg2⟩ : ∃ c, cmpQ (qR ⟨xn, xx, xd⟩) (qR ⟨zn, zx, zd⟩) = c := ⟨_, rfl⟩
        have f1 : decide (g1 < 0) = false := decide_eq_false fun h => Rat.not_lt.2 hle1 (cmpQ_neg hg1 h)
        have f2 : decide (0 < g2) = false := decide_eq_false fun h => by have h3 := (cmpQ_le (p := qR ⟨xn, xx, xd⟩) (q := qR ⟨zn, zx, zd⟩)).2 hle2; rw [hg2] at h3; omega
        rw [hg1] at HC1
        rw [hg2] at HC2
        have hk0 : (0 : Int) ≤ k := by omega
        have hk1 : (k : Int) < nc := by omega
        have HTD := Lib.hid (HI.out.drew)
        have HK0 := Lib.hid (HCX.out _ HTD.out)
        clear hx hy hz hxe hye hze hle1 hle2 hg1 hg2
        go_wp2_with fail
        go_region_held3 (fun A => (A.cell? ⟨tk, k * 3, none⟩ = some (.bool xn) ∧ A.cell? ⟨tk, k * 3 + 1, none⟩ = some (.string xx) ∧ A.cell? ⟨tk, k * 3 + 2, none⟩ = some (.string xd)) ∧ (A.cell? ⟨la, k * 3, none⟩ = some (.bool yn) ∧ A.cell? ⟨la, k * 3 + 1, none⟩ = some (.string yx) ∧ A.cell? ⟨la, k * 3 + 2, none⟩ = some (.string yd)) ∧ (A.cell? ⟨lb, k * 3, none⟩ = some (.bool zn) ∧ A.cell? ⟨lb, k * 3 + 1, none⟩ = some (.string zx) ∧ A.cell? ⟨lb, k * 3 + 2, none⟩ = some (.string zd)))
          (first | exact HK2.out | exact HK1.out | exact HK0.out | go_keep)
          (first
            | (have hq := HK1; clear hq; go_at_call 30; refine (HC2.out _).mono ?_; rintro e w10 ⟨rfl, t10⟩; have HTA := Lib.hid (HT9.out.trans t10); have HK2 : Hid _ := Lib.hid (HCX.out _ HTA.out); clear t10)
            | (have hq := HK0; clear hq; go_at_call 30; refine (HC1.out _).mono ?_; rintro e w9 ⟨rfl, t9⟩; have HT9 := Lib.hid (HTD.out.trans t9); have HK1 : Hid _ := Lib.hid (HCX.out _ HT9.out); clear t9))
        clear HK0 HK1 HK2
        go_wp2_with fail
        go_roundw
        case rel => exact ⟨k + 1, by omega, by go_num, HTA⟩
        case measure => simp [intOf]; omega
      · obtain rfl : nc = k := by omega
        obtain ⟨w9, rfl⟩ : ∃ w9, w9 = wr := ⟨_, rfl⟩
        have HT9 := HI
        clear HI hlt hk
        go_wp2_with fail
        go_loopw [141] (fun i wr => ∃ k : Nat, k ≤ no ∧ i = (.int .i64 k) ∧ Hid (Turned (fun _ => False) w8 wr)) (fun i _ => no - (intOf i).toNat)
        case atStart => exact ⟨0, Nat.zero_le _, rfl, HT9⟩
        case round =>
          obtain ⟨i, hi, rfl, HI⟩ := hrel
          by_cases hlt : i < no
          · have hx : ol[i]? = some (ol[i]'(by rw [HQ.out.2.2.1]; exact hlt)) := List.getElem?_eq_getElem _
            obtain ⟨⟨oc0, ⟨un, ux, ud⟩⟩, hxe⟩ : ∃ u, ol[i]'(by rw [HQ.out.2.2.1]; exact hlt) = u := ⟨_, rfl⟩
            rw [hxe] at hx
            have hmem := List.mem_of_getElem? hx
            obtain ⟨j, hjc, hj, hle⟩ := HD.out.order _ (by rw [HQ.out.1]; exact hmem)
            have hjc : oc0 = j := hjc
            subst hjc
            rw [HNN.out.2.2.2.1] at hj
            have hle : qR (tt.getD j zeroR) ≤ qR ⟨un, ux, ud⟩ := hle
            have hhalf := HD.out.half i ⟨j, ⟨un, ux, ud⟩⟩ (by rw [HQ.out.1]; exact hx)
            rw [HQ.out.1, HNN.out.2.2.2.1] at hhalf
            have hy := at_getD (l := tt) (k := j) (by rw [HD.out.len.2.2, HNN.out.2.2.2.1]; exact hj)
            obtain ⟨⟨yn, yx, yd⟩, hye⟩ : ∃ u, tt.getD j zeroR = u := ⟨_, rfl⟩
            rw [hye] at hy hle
            have hsz := HSZ.out.2.2.2 _ hmem
            obtain ⟨b, a, rfl, -, e0, e1, e2, e3⟩ := (HO8.out.turned HI.out).orders hx
            have HHA := Lib.hid hhalf
            have HOX := Lib.hid hx
            have HUS : Hid (SzR ⟨un, ux, ud⟩ 24000300) := Lib.hid hsz
            have HCM := Lib.hid (fun W => qCmp_any ⟨yn, yx, yd⟩ ⟨un, ux, ud⟩ 24000300 W (by decide) (by decide) (HSZ.out.2.2.1 _ (List.mem_of_getElem? hy)) hsz)
            obtain ⟨g1, hg1⟩ : ∃ c, cmpQ (qR ⟨yn, yx, yd⟩) (qR ⟨un, ux, ud⟩) = c := ⟨_, rfl⟩
            have f1 : decide (0 < g1) = false := decide_eq_false fun h => by have h3 := (cmpQ_le (p := qR ⟨yn, yx, yd⟩) (q := qR ⟨un, ux, ud⟩)).2 hle; rw [hg1] at h3; omega
            rw [hg1] at HCM
            have hi0 : (0 : Int) ≤ i := by omega
            have hi1 : (i : Int) < no := by omega
            have hj0 : (0 : Int) ≤ j := by omega
            have hj1 : (j : Int) < nc := by omega
            have f2 : decide ((j : Int) < 0) = false := decide_eq_false (by omega)
            have f3 : decide ((nc : Int) ≤ j) = false := decide_eq_false (by omega)
            have f4 : decide (nc ≤ j) = false := decide_eq_false (by omega)
            have TA := (Turned.refl (fun _ => False) wr).alloc (.cells #[(.int .i64 j), .bool un, .string ux, .string ud] 70)
            have z0 := World.alloc_heap_new wr (.cells #[(.int .i64 j), .bool un, .string ux, .string ud] 70)
            clear hx hxe hmem hle hhalf hye hsz hg1 hj hlt
            have HY := Lib.hid hy
            clear hy
            go_upto_region 19 with fail
            obtain ⟨w10, hw10⟩ : ∃ w, w = wr.alloc (.cells #[(.int .i64 j), .bool un, .string ux, .string ud] 70) := ⟨_, rfl⟩
            rw [← hw10] at TA z0 ⊢
            obtain ⟨q, hq⟩ : ∃ q, wr.heap.size = q := ⟨_, rfl⟩
            rw [hq] at z0 ⊢
            have HT10 := Lib.hid (HI.out.trans TA)
            have HCX : Hid (∀ A, Turned (fun _ => False) w10 A → (A.cell? ⟨q, 0, none⟩ = some (.int .i64 j) ∧ A.cell? ⟨q, 1, none⟩ = some (.bool un) ∧ A.cell? ⟨q, 2, none⟩ = some (.string ux) ∧ A.cell? ⟨q, 3, none⟩ = some (.string ud)) ∧ (A.cell? ⟨tk, j * 3, none⟩ = some (.bool yn) ∧ A.cell? ⟨tk, j * 3 + 1, none⟩ = some (.string yx) ∧ A.cell? ⟨tk, j * 3 + 2, none⟩ = some (.string yd))) := Lib.hid fun A hA => ⟨by
              have h0 := keepB hA z0
              exact ⟨by simp [World.cell?, h0], by simp [World.cell?, h0], by simp [World.cell?, h0], by simp [World.cell?, h0]⟩, (HL8.out.2.2.turned (HT10.out.trans hA) id).cells HY.out⟩
            have HLQ : Hid (q < w10.heap.size) := Lib.hid (getElem?_lt z0)
            clear hw10 TA z0 hq e0 e1 e2 e3
            have HTD := Lib.hid ((Turned.refl (fun _ => False) w10).drew)
            have HK0 := Lib.hid (HCX.out _ HTD.out)
            go_region_held3 (fun A => (A.cell? ⟨q, 0, none⟩ = some (.int .i64 j) ∧ A.cell? ⟨q, 1, none⟩ = some (.bool un) ∧ A.cell? ⟨q, 2, none⟩ = some (.string ux) ∧ A.cell? ⟨q, 3, none⟩ = some (.string ud)) ∧ (A.cell? ⟨tk, j * 3, none⟩ = some (.bool yn) ∧ A.cell? ⟨tk, j * 3 + 1, none⟩ = some (.string yx) ∧ A.cell? ⟨tk, j * 3 + 2, none⟩ = some (.string yd)))
              (first | exact HK1.out | exact HK0.out | go_keep)
              (first | (have hq := HK0; clear hq; go_at_call 30; refine (HCM.out _).mono ?_; rintro e w11 ⟨rfl, t11⟩; have HT11 := Lib.hid (HTD.out.trans t11); have HK1 : Hid _ := Lib.hid (HCX.out _ HT11.out); clear t11))
            clear HK0 HK1 HTD f1 f2 f3 f4 HCM
            go_upto_region 21 with fail
            obtain ⟨⟨vn, vx, vd⟩, hv⟩ : ∃ u, repR (qR ⟨un, ux, ud⟩ / 2) = u := ⟨_, rfl⟩
            have HHV : Hid (SzR ⟨vn, vx, vd⟩ 24000400) := Lib.hid (by
              rw [← hv]
              exact SzR.rep (((qR_bytes HUS.out.1 HUS.out.2).div (b := 1) ⟨by decide, by decide⟩).mono (by decide)))
            have HIN := Lib.hid (fun W => qInt_any 2 W (by decide))
            have hq2 : qR (repR ((2 : Nat) : Rat)) = 2 := qR_repR _
            have hs2 : SzR (repR ((2 : Nat) : Rat)) 24000300 := (SzR.rep (k := 1) ⟨by decide, by decide⟩).mono (by decide)
            have HDV := Lib.hid (fun W => qDiv_any ⟨un, ux, ud⟩ (repR ((2 : Nat) : Rat)) 24000300 W (by decide) (by decide) HUS.out hs2 (by rw [hq2]; decide))
            obtain ⟨⟨tn, tx, td⟩, htw⟩ : ∃ u, repR ((2 : Nat) : Rat) = u := ⟨_, rfl⟩
            rw [hq2, hv] at HDV
            rw [htw] at HDV HIN
            rw [hv] at HHA
            clear hv hq2 hs2 htw
            go_cut [20, 21] from 143 to 173 (fun v _ wx => ∃ h : Nat, v = .pointer (some ⟨h, 0, none⟩) ∧ Hid (Turned (fun _ => False) w10 wx ∧ q < h ∧ wx.heap[h]? = some (.cells #[.bool vn, .string vx, .string vd] 68 (0, 0))))
            case first =>
              have hS0 : w11.drew.cell? ⟨q, 1, none⟩ = some (.bool un) ∧ w11.drew.cell? ⟨q, 2, none⟩ = some (.string ux) ∧ w11.drew.cell? ⟨q, 3, none⟩ = some (.string ud) := by
                have h := (HCX.out _ HT11.out.drew).1
                exact ⟨h.2.1, h.2.2.1, h.2.2.2⟩
              have hqz : q < w11.heap.size := Nat.lt_of_lt_of_le HLQ.out HT11.out.size
              have hqy : q < w11.drew.heap.size := Nat.lt_of_lt_of_le HLQ.out HT11.out.drew.size
              have hz0 := HT11.out.size
              have hz1 := HT11.out.drew.size
              have HS0 := Lib.hid hS0
              clear hS0 HCX HDU HD HQ HSZ HL8 HO8 HS8 HNN HCE HHA HOX HY HT8 HT9 HHV HUS HLQ HI hmx hmo hms hj0 hj1 hi0 hi1
              go_region_held3 (fun A => A.cell? ⟨q, 1, none⟩ = some (.bool un) ∧ A.cell? ⟨q, 2, none⟩ = some (.string ux) ∧ A.cell? ⟨q, 3, none⟩ = some (.string ud))
                (first | exact HS0.out | exact mvo3 T2.out (by assumption) | exact mvo3 T1.out (by assumption) | exact mvo3 ((Turned.refl (fun _ => False) _).alloc _) (by assumption) | exact mvo3 ((Turned.refl (fun _ => False) _).alloc _) (mvo3 T2.out (mvo3 T1.out HS0.out)) | exact mvo3s _ _ _ (by omega) (by assumption))
                (first
                  | (have hq := T1; clear hq; go_at_call 31; refine (HDV.out _).mono ?_; rintro e w13 ⟨rfl, t2⟩; have T2 := Lib.hid t2; have z2 := t2.size; (try simp only [World.size_alloc] at z2); (first | (have e2 := keepB t2 e1) | (have e2 : w13.heap[w12.heap.size]? = some _ := keepB t2 (World.alloc_heap_new w12 _)) | skip); (first | (have e4 := box3 e2; obtain ⟨p0, p1, p2, p3, p4, p5⟩ := e4) | skip); clear t2)
                  | (go_at_call 32; refine (HIN.out _).mono ?_; rintro e w12 ⟨rfl, t1⟩; have T1 := Lib.hid t1; have z1 := t1.size; (try simp only [World.size_alloc] at z1); (first | (have e1 : w12.heap[w11.heap.size]? = some _ := keepB t1 (World.alloc_heap_new w11.drew _)) | skip); clear t1))
              · go_wp2_with fail
                go_meet
                case rel => exact ⟨w13.heap.size, rfl, Lib.hid ⟨((HT11.out.drew.trans T1.out).trans T2.out).alloc _, by omega, World.alloc_heap_new _ _⟩⟩
              · go_wp2_with fail
                go_meet
                case rel => exact ⟨w12.heap.size, rfl, Lib.hid ⟨((HT11.out.drew.trans T1.out).trans (((Turned.refl (fun _ => False) w12).alloc _).trans T2.out)).fresh (set3 e2 _ _ _).2 (fun k hk => by rw [hk]; omega), by omega, (set3 e2 _ _ _).1⟩⟩
              · go_wp2_with fail
                go_meet
                case rel => exact ⟨w11.heap.size, rfl, Lib.hid ⟨((HT11.out.drew.trans (((Turned.refl (fun _ => False) w11.drew).alloc _).trans T1.out)).trans T2.out).fresh (set3 e2 _ _ _).2 (fun k hk => by rw [hk]; omega), by omega, (set3 e2 _ _ _).1⟩⟩
            case rest =>
              obtain ⟨h, rfl, HH⟩ := hcut
              have HOC := Lib.hid ((HO8.out.turned (HT10.out.trans HH.out.1)).turned ((Turned.refl (fun _ => False) wc).alloc (.cells #[] 70)))
              have hlo : ol.length = no := HQ.out.2.2.1
              have HLO := Lib.hid hlo
              clear hlo
              go_upto_region 24 with (at_builtin; (refine app_orders (wc.alloc (.cells #[] 70)) rfl _ _ rfl wc.heap.size w8.heap.size no no (.slice (some ⟨wc.heap.size, 0, none⟩) 0 0) [] ol _ _ HLO.out HLO.out rfl rfl (Grown.hollow (World.alloc_heap_new _ _) (Nat.le_refl _)) HOC.out (by simp) (by omega) ?_); intro sp' sc' w14 hgr ht; obtain ⟨g, rfl, hgb, hfz⟩ := hgr.tip (by omega); have HGR := Lib.hid (And.intro hgb (And.intro hfz (And.intro ht (Grown.at' (l := ol) hgr (fun _ => rfl) (Nat.le_refl _))))); clear hgr ht hgb hfz; have hb14 := (HGR.out.2.2.1.block h (by have := getElem?_lt HH.out.2.2; simp; omega) (by have := getElem?_lt HH.out.2.2; omega)).trans (keepB ((Turned.refl (fun _ => False) wc).alloc (.cells #[] 70)) HH.out.2.2); obtain ⟨f0, f1, f2, -, -, -⟩ := box3 hb14; have hor := HGR.out.2.2.2.orders HOX.out; obtain ⟨bb, aa, hba, -, r0, r1, r2, r3⟩ := hor; cases hba; rw [Nat.zero_add] at r0 r1 r2 r3; have y1 := HGR.out.2.1 (i * 4 + 1); have y2 := HGR.out.2.1 (i * 4 + 2); have y3 := HGR.out.2.1 (i * 4 + 3); clear hb14)
              obtain ⟨w15, hw15⟩ : ∃ w, w = ((w14.setCell ⟨g, i * 4 + 1, none⟩ (.bool vn)).setCell ⟨g, i * 4 + 1 + 1, none⟩ (.string vx)).setCell ⟨g, i * 4 + 1 + 2, none⟩ (.string vd) := ⟨_, rfl⟩
              have TS : Turned (fun k => k = g) w14 w15 := by
                rw [hw15]
                exact (((Turned.refl (fun k => k = g) w14).setCell (p := ⟨g, i * 4 + 1, none⟩) rfl _).setCell (p := ⟨g, i * 4 + 1 + 1, none⟩) rfl _).setCell (p := ⟨g, i * 4 + 1 + 2, none⟩) rfl _
              have A15 : At w15.heap.size w15 4 orderCells (ol.set i ⟨j, ⟨vn, vx, vd⟩⟩) (some ⟨g, 0, none⟩) sc' := by
                have h1 := (HGR.out.2.2.2.limit HOX.out ⟨vn, vx, vd⟩).mono TS.size
                rw [hw15]
                rw [hw15] at h1
                exact h1
              have T15 : Turned (fun _ => False) w10 w15 := by
                have h1 := ((HH.out.1.alloc (.cells #[] 70)).fresh HGR.out.2.2.1 (fun k hk => Nat.le_trans HH.out.1.size hk)).fresh TS (fun k hk => by rw [hk]; exact Nat.le_trans HH.out.1.size HGR.out.1)
                exact h1
              rw [← hw15]
              have HA15 := Lib.hid A15
              have HT15 := Lib.hid (HT10.out.trans T15)
              obtain ⟨⟨m0, m1, m2, m3⟩, -⟩ := HCX.out _ T15
              clear hw15 TS A15 T15 f0 f1 f2 r0 r1 r2 r3 y1 y2 y3
              obtain ⟨s, hs⟩ : ∃ s, sameR ⟨un, ux, ud⟩ ⟨false, ⟨#[]⟩, ⟨#[]⟩⟩ = s := ⟨_, rfl⟩
              have HSS := Lib.hid hs
              cases s with
              | true =>
                go_wp2_with fail
                go_roundw
                case rel => exact ⟨i + 1, by omega, by go_num, HT15⟩
                case measure => simp [intOf]; omega
              | false =>
                have h22 : dueE nc th (ol.set i ⟨j, ⟨vn, vx, vd⟩⟩) = 22 := HHA.out fun e => by
                  have h1 := HSS.out
                  have e : (⟨un, ux, ud⟩ : Rv) = zeroR := e
                  rw [e] at h1
                  exact absurd h1 (by rw [show (⟨false, ⟨#[]⟩, ⟨#[]⟩⟩ : Rv) = zeroR from rfl, sameR_iff.2 rfl]; decide)
                have hdu := HDU.out w15 (HT0.out.trans (HT8.out.trans HT15.out)) _ _ _ HA15.out (fun o ho => by
                  rcases List.mem_or_eq_of_mem_set ho with ho | rfl
                  · exact (HSZ.out.2.2.2 o ho).mono (by decide)
                  · exact HHV.out)
                rw [List.length_set, HLO.out, h22] at hdu
                have HDV2 := Lib.hid hdu
                obtain ⟨c0, c1, c2⟩ := HCE.out _ (HT8.out.trans HT15.out)
                clear hdu h22
                go_wp2_with fail
                refine HDV2.out.mono ?_
                rintro e w16 ⟨rfl, t16⟩
                have HT16 := Lib.hid (HT15.out.trans t16)
                clear c0 c1 c2 t16
                go_wp2_with fail
                go_roundw
                case rel => exact ⟨i + 1, by omega, by go_num, HT16⟩
                case measure => simp [intOf]; omega
          · obtain rfl : no = i := by omega
            obtain ⟨w10, rfl⟩ : ∃ w10, w10 = wr := ⟨_, rfl⟩
            have HTA := HI
            clear HI hlt hi HT9
            go_wp2_with fail
            go_loopw [196] (fun i wr => ∃ k : Nat, k ≤ ns ∧ i = (.int .i64 k) ∧ Hid (Turned (fun _ => False) w8 wr)) (fun i _ => ns - (intOf i).toNat)
            case atStart => exact ⟨0, Nat.zero_le _, rfl, HTA⟩
            case round =>
              obtain ⟨i, hi, rfl, HI⟩ := hrel
              by_cases hlt : i < ns
              · have hx : sl[i]? = some (sl[i]'(by rw [HQ.out.2.2.2.1]; exact hlt)) := List.getElem?_eq_getElem _
                obtain ⟨x, hxe⟩ : ∃ u, sl[i]'(by rw [HQ.out.2.2.2.1]; exact hlt) = u := ⟨_, rfl⟩
                rw [hxe] at hx
                obtain ⟨j, rfl, hj, hej⟩ := HD.out.sure x (by rw [HQ.out.2.1]; exact List.mem_of_getElem? hx)
                have hy := at_getD (l := tt) (k := j) (by rw [HD.out.len.2.2]; exact hj)
                have hz : cs[j]? = some (cs.getD j noCl) := by
                  rw [List.getD_eq_getElem?_getD, List.getElem?_eq_getElem hj]
                  rfl
                rw [HNN.out.2.2.2.1] at hj
                rw [hej] at hy
                obtain ⟨⟨pl, rk, ⟨un, ux, ud⟩⟩, hce⟩ : ∃ c, cs.getD j noCl = c := ⟨_, rfl⟩
                rw [hce] at hy hz
                obtain ⟨e1, e2, e3⟩ := (HL8.out.2.2.turned HI.out id).cells hy
                obtain ⟨bs, az, rfl, -, e0⟩ := (HS8.out.turned HI.out).ints hx
                obtain ⟨bc, ac, rfl, -, k0, k1, k2, k3, k4⟩ := (HIN.out.2.1.turned (HT0.out.trans (HT8.out.trans HI.out))).claims hz
                have hss : sameR ⟨un, ux, ud⟩ ⟨un, ux, ud⟩ = true := sameR_iff.2 rfl
                have hi0 : (0 : Int) ≤ i := by omega
                have hi1 : (i : Int) < ns := by omega
                have hj0 : (0 : Int) ≤ j := by omega
                have hj1 : (j : Int) < nc := by omega
                have f2 : decide ((j : Int) < 0) = false := decide_eq_false (by omega)
                have f3 : decide ((nc : Int) ≤ j) = false := decide_eq_false (by omega)
                have f4 : decide (nc ≤ j) = false := decide_eq_false (by omega)
                clear hx hxe hej hy hz hce hj
                go_wp2_with fail
                go_quiet (fail)
                go_wp2_with fail
                go_roundw
                case rel => exact ⟨i + 1, by omega, by go_num, Lib.hid (HI.out.trans (drewN_turned _ _ nq))⟩
                case measure => simp [intOf]; omega
              · obtain rfl : ns = i := by omega
                go_wp2_with fail
                refine (lawSane_any _).mono ?_
                rintro e w11 ⟨rfl, t11⟩
                have HT11 := Lib.hid (HT8.out.trans (HI.out.trans t11))
                clear t11
                go_wp2_with fail
                go_ret
                exact ⟨rfl, HT0.out.trans HT11.out⟩
  · have hb : (b2 && b1) = false := by
      cases b2 <;> cases b1 <;> first | rfl | exact absurd ⟨rfl, rfl⟩ hbb
    cases b2 with
    | false =>
      go_wp2_with fail
      refine (lawSane_any _).mono ?_
      rintro e w3 ⟨rfl, t3⟩
      have HT3 := Lib.hid (HT2.out.trans t3)
      clear t3
      go_wp2_with fail
      go_ret
      exact ⟨rfl, HT0.out.trans HT3.out⟩
    | true =>
      obtain rfl : b1 = false := by simpa using hb
      go_wp2_with fail
      refine (lawSane_any _).mono ?_
      rintro e w3 ⟨rfl, t3⟩
      have HT3 := Lib.hid (HT2.out.trans t3)
      clear t3
      go_wp2_with fail
      go_ret
      exact ⟨rfl, HT0.out.trans HT3.out⟩
end Go.Proofs.YtanhhdndgkhcfaaGreatDoor
