/- OrdLawB. Conditions: those of each theorem. -/
import Derived.Test.YtanhhdndgkhcfaaGreatDoorDt21
import Derived.Test.YtanhhdndgkhcfaaGreatDoorDt25
import Derived.Test.YtanhhdndgkhcfaaGreatDoorSt01
import Derived.Deep.CutBlock
import Derived.Deep.DeepCutAuto
namespace Go.Proofs.YtanhhdndgkhcfaaGreatDoor
open Go Go.Proofs Go.RowKit
attribute [local go_sem] Oper.semAt_some
attribute [local go_sem ↓] run_eql_rat' run_neq_rat'

set_option maxRecDepth 100000 in
set_option maxHeartbeats 16000000 in
set_option linter.unusedSimpArgs false in
theorem lawStay_any (rs : List Rc) (lo hi g1 g2 : List Rv) (cs : List Cl) (rp lp hp cp p1 p2 : Option Addr) (rc lc hc cc k1 k2 : Nat) (W : World) (hf : FcAt W.heap.size W rs lo hi rp lp hp rc lc hc) (hcl : At W.heap.size W 5 claimCells cs cp cc) (hg1 : At W.heap.size W 3 ratCells g1 p1 k1) (hg2 : At W.heap.size W 3 ratCells g2 p2 k2) :
    Calls Tryz.prog 5 #[.agg #[.slice rp rs.length rc, .slice lp lo.length lc, .slice hp hi.length hc], .slice cp cs.length cc, .agg #[.slice p1 g1.length k1, .slice p2 g2.length k2]] W fun e w' => e = .returned (.bool true) ∧ Turned (fun _ => False) W w' := by
  have HBR1 := Lib.hid (fun A (hA : Turned (fun _ => False) W A) => yBrief_any g1 p1 k1 W.heap.size A (hg1.turned hA))
  have HBR2 := Lib.hid (fun A (hA : Turned (fun _ => False) W A) => yBrief_any g2 p2 k2 W.heap.size A (hg2.turned hA))
  have HSM := Lib.hid (fun A (hA : Turned (fun _ => False) W A) => lawSmall_any rs lo hi cs rp lp hp cp rc lc hc cc A (hf.on hA) (hcl.on hA))
  have HIN := Lib.hid (And.intro hf (And.intro hcl (And.intro hg1 hg2)))
  obtain ⟨nr, hnr⟩ : ∃ n, rs.length = n := ⟨_, rfl⟩
  obtain ⟨nl, hnl⟩ : ∃ n, lo.length = n := ⟨_, rfl⟩
  obtain ⟨nh, hnh⟩ : ∃ n, hi.length = n := ⟨_, rfl⟩
  obtain ⟨nc, hnc⟩ : ∃ n, cs.length = n := ⟨_, rfl⟩
  obtain ⟨m1, hm1⟩ : ∃ n, g1.length = n := ⟨_, rfl⟩
  obtain ⟨m2, hm2⟩ : ∃ n, g2.length = n := ⟨_, rfl⟩
  have HNN := Lib.hid (And.intro hnr (And.intro hnl (And.intro hnh (And.intro hnc (And.intro hm1 hm2)))))
  rw [hm1] at HBR1
  rw [hm2] at HBR2
  rw [hnr, hnl, hnh, hnc] at HSM
  rw [hnr, hnl, hnh, hnc, hm1, hm2]
  clear hnr hnl hnh hnc hm1 hm2 hf hcl hg1 hg2
  have T0 := ((Turned.refl (fun _ => False) W).alloc (.cells #[.slice rp nr rc, .slice lp nl lc, .slice hp nh hc] 25)).alloc (.cells #[.slice p1 m1 k1, .slice p2 m2 k2] 77)
  have N0 := new_first W (.cells #[.slice rp nr rc, .slice lp nl lc, .slice hp nh hc] 25) (.cells #[.slice p1 m1 k1, .slice p2 m2 k2] 77)
  have N1 := new_second W (.cells #[.slice rp nr rc, .slice lp nl lc, .slice hp nh hc] 25) (.cells #[.slice p1 m1 k1, .slice p2 m2 k2] 77)
  go_enter Tryz.func5, Tryz.ntmps5
  go_upto_region 1 with fail
  obtain ⟨w0, hw0⟩ : ∃ w, w = (W.alloc (.cells #[.slice rp nr rc, .slice lp nl lc, .slice hp nh hc] 25)).alloc (.cells #[.slice p1 m1 k1, .slice p2 m2 k2] 77) := ⟨_, rfl⟩
  rw [← hw0] at T0 N0 N1 ⊢
  obtain ⟨B, hB⟩ : ∃ o, W.heap.size = o := ⟨_, rfl⟩
  rw [hB] at N0 N1 ⊢
  have HT0 := Lib.hid T0
  have HCE : Hid (∀ A, Turned (fun _ => False) w0 A → (A.cell? ⟨B, 0, none⟩ = some (.slice rp nr rc) ∧ A.cell? ⟨B, 1, none⟩ = some (.slice lp nl lc) ∧ A.cell? ⟨B, 2, none⟩ = some (.slice hp nh hc)) ∧ A.cell? ⟨B + 1, 0, none⟩ = some (.slice p1 m1 k1) ∧ A.cell? ⟨B + 1, 1, none⟩ = some (.slice p2 m2 k2)) := Lib.hid fun A hA => by
    have h0 := keepB hA N0
    have h1 := keepB hA N1
    exact ⟨⟨by simp [World.cell?, h0], by simp [World.cell?, h0], by simp [World.cell?, h0]⟩, by simp [World.cell?, h1], by simp [World.cell?, h1]⟩
  clear hw0 hB T0 N0 N1
  obtain ⟨⟨c0, c1, c2⟩, c3, c4⟩ := HCE.out _ (Turned.refl _ _)
  go_wp2_with fail
  refine (HBR1.out _ HT0.out).mono ?_
  rintro e w1 ⟨⟨b1, rfl, hb1⟩, t1⟩
  have HB1 := Lib.hid hb1
  have HT1 := Lib.hid t1
  clear t1 hb1 HBR1 c0 c1 c2 c3 c4
  obtain ⟨⟨c0, c1, c2⟩, c3, c4⟩ := HCE.out _ HT1.out
  go_wp2_with fail
  refine (HBR2.out _ (HT0.out.trans HT1.out)).mono ?_
  rintro e w2 ⟨⟨b2, rfl, hb2⟩, t1⟩
  have HB2 := Lib.hid hb2
  have HT2 := Lib.hid (HT1.out.trans t1)
  clear t1 hb2 HBR2 HT1 c0 c1 c2 c3 c4
  obtain ⟨⟨c0, c1, c2⟩, c3, c4⟩ := HCE.out _ HT2.out
  go_wp2_with fail
  refine (HSM.out _ (HT0.out.trans HT2.out)).mono ?_
  rintro e w3 ⟨⟨b3, rfl, hb3⟩, t1⟩
  have HB3 := Lib.hid hb3
  have HT3 := Lib.hid (HT2.out.trans t1)
  clear t1 hb3 HT2 HSM c0 c1 c2 c3 c4
  by_cases hbb : b3 = true ∧ b1 = true ∧ b2 = true
  · obtain ⟨rfl, rfl, rfl⟩ := hbb
    have hP : SmallP rs lo hi cs := HB3.out rfl
    have hS1 := HB1.out rfl
    have hS2 := HB2.out rfl
    have hE := ordE_zero hP.e
    have hG1 := clamp_in hE hP.sl hP.sh hS1
    have hG2 := clamp_in hE hP.sl hP.sh hS2
    have hO : OIn W rs lo hi cs rp lp hp cp rc lc hc cc := ⟨HIN.out.1, HIN.out.2.1, hP.sl, hP.sh, hP.sc⟩
    have HCL := Lib.hid (fun g p c (hg : At W.heap.size W 3 ratCells g p c) (hs : ∀ u ∈ g, SzR u 20) A (hA : Turned (fun _ => False) W A) => lawClamp_any g lo hi p lp hp c lc hc A (hg.on hA) (hO.on hA).fc.lo (hO.on hA).fc.hi (by rw [hE.high.len, hE.low.len]) (by rw [hE.low.len]; exact hP.n8) hs hP.sl hP.sh)
    have HCL1 := Lib.hid (HCL.out g1 p1 k1 HIN.out.2.2.1 hS1)
    have HCL2 := Lib.hid (HCL.out g2 p2 k2 HIN.out.2.2.2 hS2)
    clear HCL
    obtain ⟨la, hla⟩ : ∃ u, clampL g1 lo hi = u := ⟨_, rfl⟩
    obtain ⟨lb, hlb⟩ : ∃ u, clampL g2 lo hi = u := ⟨_, rfl⟩
    rw [hla] at HCL1 hG1
    rw [hlb] at HCL2 hG2
    have hX1 := mix_in hG1 hG2 minR_or
    have hX2 := mix_in hG1 hG2 maxR_or
    have hXX : ∀ p, p < rs.length → gainQ (mixTo minR la lb rs.length) p ≤ gainQ (mixTo maxR la lb rs.length) p := fun p hp => mix_le hp
    have hSP := stay_p hE hX1 hX2 hXX
    have hE2 := ordE_gains hE hX1.len hX2.len hX1.nat hX2.nat hXX
    obtain ⟨hnr, hnl, hnh, hnc, hm1, hm2⟩ := HNN.out
    have hna : la.length = nr := by rw [hG1.len, hnr]
    have hnb : lb.length = nr := by rw [hG2.len, hnr]
    have hal : lo.length = nr := by rw [hE.low.len, hnr]
    rw [hnl] at hal
    have hah : hi.length = nr := by rw [hE.high.len, hnr]
    rw [hnh] at hah
    rw [hnr] at hX1 hX2 hSP hE2
    have hx1 : (mixTo minR la lb nr).length = nr := mixTo_len _ _ _ _
    have hx2 : (mixTo maxR la lb nr).length = nr := mixTo_len _ _ _ _
    have HOI := Lib.hid (fun A (hA : Turned (fun _ => False) W A) q1 d1 q2 d2 (h1 : At A.heap.size A 3 ratCells (mixTo minR la lb nr) q1 d1) (h2 : At A.heap.size A 3 ratCells (mixTo maxR la lb nr) q2 d2) => (OIn.mk ⟨(hO.on hA).fc.riv, h1, h2⟩ (hO.on hA).cl hX1.sz hX2.sz hP.sc : OIn A rs (mixTo minR la lb nr) (mixTo maxR la lb nr) cs rp q1 q2 cp rc d1 d2 cc))
    have HLM := Lib.hid (fun A (hA : Turned (fun _ => False) W A) => oLimits_ok (hO.on hA) hP.e hP.n8 hP.m12)
    have HOR := Lib.hid (fun A (hA : Turned (fun _ => False) W A) => oOrders_ok (hO.on hA) hP.e hP.n8 hP.m12)
    have HSU := Lib.hid (fun A (hA : Turned (fun _ => False) W A) => oSure_ok (hO.on hA) hP.e hP.n8 hP.m12)
    have HLM2 := Lib.hid (fun A q1 q2 d1 d2 (h : OIn A rs (mixTo minR la lb nr) (mixTo maxR la lb nr) cs rp q1 q2 cp rc d1 d2 cc) => oLimits_ok h hE2 hP.n8 hP.m12)
    have HOR2 := Lib.hid (fun A q1 q2 d1 d2 (h : OIn A rs (mixTo minR la lb nr) (mixTo maxR la lb nr) cs rp q1 q2 cp rc d1 d2 cc) => oOrders_ok h hE2 hP.n8 hP.m12)
    have HSU2 := Lib.hid (fun A q1 q2 d1 d2 (h : OIn A rs (mixTo minR la lb nr) (mixTo maxR la lb nr) cs rp q1 q2 cp rc d1 d2 cc) => oSure_ok h hE2 hP.n8 hP.m12)
    have HDU2 := Lib.hid (fun A q1 q2 d1 d2 (h : OIn A rs (mixTo minR la lb nr) (mixTo maxR la lb nr) cs rp q1 q2 cp rc d1 d2 cc) os po co (ho : At A.heap.size A 4 orderCells os po co) so => oDue_ok h hE2 hP.n8 hP.m12 os po co ho so)
    have HRN2 := Lib.hid (fun A q1 q2 d1 d2 (h : OIn A rs (mixTo minR la lb nr) (mixTo maxR la lb nr) cs rp q1 q2 cp rc d1 d2 cc) os po co (ho : At A.heap.size A 4 orderCells os po co) so hd hl => oRenew_ok h hE2 hP.n8 hP.m12 os po co ho so hd hl)
    obtain ⟨tl, htl⟩ : ∃ t, takesR rs cs lo = t := ⟨_, rfl⟩
    obtain ⟨th, hth⟩ : ∃ t, takesR rs cs hi = t := ⟨_, rfl⟩
    obtain ⟨sl, hsl⟩ : ∃ t, takesR rs cs (mixTo minR la lb nr) = t := ⟨_, rfl⟩
    obtain ⟨sh, hsh⟩ : ∃ t, takesR rs cs (mixTo maxR la lb nr) = t := ⟨_, rfl⟩
    rw [htl, hth, hsl, hsh] at hSP
    rw [htl, hth] at HLM
    rw [hth] at HOR
    rw [htl] at HSU
    rw [hsl, hsh] at HLM2
    rw [hsh] at HOR2 HDU2 HRN2
    rw [hsl] at HSU2
    obtain ⟨ob, hob⟩ : ∃ o, ordersL cs th = o := ⟨_, rfl⟩
    obtain ⟨oa, hoa⟩ : ∃ o, ordersL cs sh = o := ⟨_, rfl⟩
    obtain ⟨om, hom⟩ : ∃ o, renewL ob oa = o := ⟨_, rfl⟩
    obtain ⟨ub, hub⟩ : ∃ o, sureL cs tl = o := ⟨_, rfl⟩
    obtain ⟨ua, hua⟩ : ∃ o, sureL cs sl = o := ⟨_, rfl⟩
    obtain ⟨nob, hnob⟩ : ∃ o, ob.length = o := ⟨_, rfl⟩
    obtain ⟨noa, hnoa⟩ : ∃ o, oa.length = o := ⟨_, rfl⟩
    obtain ⟨nom, hnom⟩ : ∃ o, om.length = o := ⟨_, rfl⟩
    obtain ⟨nub, hnub⟩ : ∃ o, ub.length = o := ⟨_, rfl⟩
    obtain ⟨nua, hnua⟩ : ∃ o, ua.length = o := ⟨_, rfl⟩
    have hzb : nob ≤ 12 := by rw [← hnob, ← hob]; exact Nat.le_trans (ordersTo_len _ _ _) hP.m12
    have hza : noa ≤ 12 := by rw [← hnoa, ← hoa]; exact Nat.le_trans (ordersTo_len _ _ _) hP.m12
    have hzm : nom ≤ 12 := by rw [← hnom, ← hom]; exact Nat.le_trans (List.length_filter_le _ _) (by rw [hnoa]; exact hza)
    have hyb : nub ≤ 12 := by rw [← hnub, ← hub]; exact Nat.le_trans (sureTo_len _ _ _) hP.m12
    have hya : nua ≤ 12 := by rw [← hnua, ← hua]; exact Nat.le_trans (sureTo_len _ _ _) hP.m12
    have hdue := hSP.due
    have hgiv := hSP.given
    have hmany := hSP.many
    have hsur := hSP.sure
    rw [hob, hoa, hom] at hgiv hmany
    rw [hub, hua] at hsur
    rw [hob, hnc] at hdue
    rw [hnoa] at hmany
    have hcb : ∀ o ∈ ob ++ om, -9223372036854775808 ≤ o.claim ∧ o.claim ≤ 9223372036854775807 := fun o ho => by
      have hm := hP.m12
      rcases List.mem_append.1 ho with ho | ho
      · rw [← hob] at ho
        have := orders_claim ho
        omega
      · rw [← hom] at ho
        have ho := (List.mem_filter.1 ho).1
        rw [← hoa] at ho
        have := orders_claim ho
        omega
    have hca : ∀ o ∈ oa, -9223372036854775808 ≤ o.claim ∧ o.claim ≤ 9223372036854775807 := fun o ho => by
      have hm := hP.m12
      rw [← hoa] at ho
      have := orders_claim ho
      omega
    rw [hnr, hnl, hnh, hnc] at HLM
    rw [hnr, hnl, hnh, hnc, hob, hnob] at HOR
    rw [hnr, hnl, hnh, hnc, hub, hnub] at HSU
    rw [hnr, hx1, hx2, hnc] at HLM2 HDU2 HRN2
    rw [hoa] at HRN2
    rw [hnr, hx1, hx2, hnc, hoa, hnoa] at HOR2
    rw [hnr, hx1, hx2, hnc, hua, hnua] at HSU2
    rw [hnl, hnh, hm1, hna] at HCL1
    rw [hnl, hnh, hm2, hnb] at HCL2
    have HNA := Lib.hid (And.intro hna (And.intro hnb (And.intro hX1.len hX2.len)))
    have HSZ := Lib.hid (And.intro hG1.sz hG2.sz)
    have HSP := Lib.hid (And.intro hSP.len (And.intro hSP.le1 (And.intro hSP.le2 hSP.le3)))
    have HDUE := Lib.hid hdue
    have HGIV := Lib.hid hgiv
    have HMANY := Lib.hid hmany
    have HSUR := Lib.hid hsur
    have HLEN := Lib.hid (And.intro hnob (And.intro hnoa (And.intro hnom (And.intro hnub hnua))))
    have HOM := Lib.hid hom
    have HCB := Lib.hid hcb
    have HCA := Lib.hid hca
    have hn8 : nr ≤ 8 := by have := hP.n8; omega
    have hn12 : nc ≤ 12 := by have := hP.m12; omega
    have hn8' : (nr : Int) ≤ 8 := by omega
    have hn12' : (nc : Int) ≤ 12 := by omega
    have hzb' : (nob : Int) ≤ 12 := by omega
    have hza' : (noa : Int) ≤ 12 := by omega
    have hzm' : (nom : Int) ≤ 12 := by omega
    have hyb' : (nub : Int) ≤ 12 := by omega
    have hya' : (nua : Int) ≤ 12 := by omega
    clear hla hlb hG1 hG2 hX1 hX2 hXX hSP hE2 hE hP hS1 hS2 hO hnr hnl hnh hnc hm1 hm2 hna hnb hx1 hx2 htl hth hsl hsh hob hoa hom hub hua hnob hnoa hnom hnub hnua hdue hgiv hmany hsur hcb hca
    replace hal := hal.symm
    replace hah := hah.symm
    subst hal
    subst hah
    have HTD := Lib.hid (HT3.out.drew)
    have HK0 : Hid _ := Lib.hid (HCE.out _ HTD.out)
    obtain ⟨⟨c0, c1, c2⟩, c3, c4⟩ := HCE.out _ HT3.out
    go_wp2_with fail
    clear c0 c1 c2 c3 c4
    go_region_held3 (fun A => (A.cell? ⟨B, 0, none⟩ = some (.slice rp nr rc) ∧ A.cell? ⟨B, 1, none⟩ = some (.slice lp nr lc) ∧ A.cell? ⟨B, 2, none⟩ = some (.slice hp nr hc)) ∧ A.cell? ⟨B + 1, 0, none⟩ = some (.slice p1 m1 k1) ∧ A.cell? ⟨B + 1, 1, none⟩ = some (.slice p2 m2 k2))
      (first | exact HK2.out | exact HK1.out | exact HK0.out | go_keep)
      (first
        | (have hq := HK1; clear hq; go_at_call 29; refine (HCL2.out _ (HT0.out.trans HT4.out)).mono ?_; rintro e w5 ⟨bp, bc, rfl, hgr, t5⟩; have HT5 := Lib.hid (HT4.out.trans t5); have HK2 : Hid _ := Lib.hid (HCE.out _ HT5.out); have HLB := Lib.hid (hgr.at' (fun _ => rfl) (Nat.le_refl _)); have HLA5 := Lib.hid (HLA.out.on t5); clear hgr t5)
        | (have hq := HK0; clear hq; go_at_call 29; refine (HCL1.out _ (HT0.out.trans HTD.out)).mono ?_; rintro e w4 ⟨ap, ac, rfl, hgr, t4⟩; have HT4 := Lib.hid (HTD.out.trans t4); have HK1 : Hid _ := Lib.hid (HCE.out _ HT4.out); have HLA := Lib.hid (hgr.at' (fun _ => rfl) (Nat.le_refl _)); clear hgr t4))
    have HLD := Lib.hid (And.intro HLA5.out HLB.out)
    clear HK0 HK1 HK2 HTD HT4 HLA HCL1 HCL2 HT3 HLD
    obtain ⟨⟨c0, c1, c2⟩, -, -⟩ := HCE.out _ HT5.out
    have TD := (Turned.refl (fun _ => False) w5).alloc (.cells #[.slice rp nr rc, .slice none 0 0, .slice none 0 0] 25)
    have ND := World.alloc_heap_new w5 (.cells #[.slice rp nr rc, .slice none 0 0, .slice none 0 0] 25)
    go_wp2_with fail
    obtain ⟨w6, hw6⟩ : ∃ w, w = w5.alloc (.cells #[.slice rp nr rc, .slice none 0 0, .slice none 0 0] 25) := ⟨_, rfl⟩
    rw [← hw6] at TD ND ⊢
    obtain ⟨D, hD⟩ : ∃ o, w5.heap.size = o := ⟨_, rfl⟩
    rw [hD] at ND ⊢
    have HD5 := Lib.hid hD
    have HST := Lib.hid (bt_start la lb ND TD)
    clear c0 c1 c2 TD ND hw6 hD
    go_loopw [80] (fun i wr => ∃ k : Nat, k ≤ nr ∧ i = (.int .i64 k) ∧ Hid (BT D nr k rp rc la lb w5 wr)) (fun i _ => nr - (intOf i).toNat)
    case atStart => exact ⟨0, Nat.zero_le _, rfl, HST⟩
    case round =>
      obtain ⟨k, hk, rfl, HI⟩ := hrel
      by_cases hlt : k < nr
      · obtain ⟨q1, d1, q2, d2, hbox, G1, G2, hsep, hT⟩ := HI.out
        have hx := at_getR (l := la) (k := k) (by rw [HNA.out.1]; exact hlt)
        have hy := at_getR (l := lb) (k := k) (by rw [HNA.out.2.1]; exact hlt)
        have hmx := mixTo_succ minR la lb k
        have hmy := mixTo_succ maxR la lb k
        obtain ⟨⟨xn, xx, xd⟩, hxe⟩ : ∃ u, la.getD k zeroR = u := ⟨_, rfl⟩
        obtain ⟨⟨yn, yx, yd⟩, hye⟩ : ∃ u, lb.getD k zeroR = u := ⟨_, rfl⟩
        rw [hxe] at hx
        rw [hye] at hy
        rw [hxe, hye] at hmx hmy
        obtain ⟨ab, aa, rfl, hab, e0, e1, e2⟩ := (HLA5.out.turned hT).rats hx
        obtain ⟨bb, ba, rfl, hbb2, i0, i1, i2⟩ := (HLB.out.turned hT).rats hy
        have hlD := getElem?_lt hbox
        rw [HD5.out] at hab hbb2
        have HMN := Lib.hid (fun W => qMin_any ⟨xn, xx, xd⟩ ⟨yn, yx, yd⟩ 20 W (by decide) (by decide) (HSZ.out.1 _ (List.mem_of_getElem? hx)) (HSZ.out.2 _ (List.mem_of_getElem? hy)))
        have HMX := Lib.hid (fun W => qMax_any ⟨xn, xx, xd⟩ ⟨yn, yx, yd⟩ 20 W (by decide) (by decide) (HSZ.out.1 _ (List.mem_of_getElem? hx)) (HSZ.out.2 _ (List.mem_of_getElem? hy)))
        obtain ⟨⟨un, ux, ud⟩, hu⟩ : ∃ u, repR (minR (qR ⟨xn, xx, xd⟩) (qR ⟨yn, yx, yd⟩)) = u := ⟨_, rfl⟩
        obtain ⟨⟨vn, vx, vd⟩, hv⟩ : ∃ u, repR (maxR (qR ⟨xn, xx, xd⟩) (qR ⟨yn, yx, yd⟩)) = u := ⟨_, rfl⟩
        rw [hu] at HMN hmx
        rw [hv] at HMX hmy
        have HCX : Hid (∀ A, Turned (fun i => D + 1 ≤ i) wr A → (A.cell? ⟨D, 1, none⟩ = some (.slice q1 k d1) ∧ A.cell? ⟨D, 2, none⟩ = some (.slice q2 k d2)) ∧ (A.cell? ⟨ab, aa + k * 3, none⟩ = some (.bool xn) ∧ A.cell? ⟨ab, aa + k * 3 + 1, none⟩ = some (.string xx) ∧ A.cell? ⟨ab, aa + k * 3 + 2, none⟩ = some (.string xd)) ∧ (A.cell? ⟨bb, ba + k * 3, none⟩ = some (.bool yn) ∧ A.cell? ⟨bb, ba + k * 3 + 1, none⟩ = some (.string yx) ∧ A.cell? ⟨bb, ba + k * 3 + 2, none⟩ = some (.string yd))) := Lib.hid fun A hA =>
          have h0 := (hA.block D hlD (by omega)).trans hbox
          have ha : ¬ (D + 1 ≤ ab) := by omega
          have hb : ¬ (D + 1 ≤ bb) := by omega
          ⟨⟨by simp [World.cell?, h0], by simp [World.cell?, h0]⟩, ⟨cellT hA ha e0, cellT hA ha e1, cellT hA ha e2⟩, cellT hA hb i0, cellT hA hb i1, cellT hA hb i2⟩
        have HRX : Hid (∀ A, Turned (fun i => D ≤ i) wr A → (A.cell? ⟨ab, aa + k * 3, none⟩ = some (.bool xn) ∧ A.cell? ⟨ab, aa + k * 3 + 1, none⟩ = some (.string xx) ∧ A.cell? ⟨ab, aa + k * 3 + 2, none⟩ = some (.string xd)) ∧ (A.cell? ⟨bb, ba + k * 3, none⟩ = some (.bool yn) ∧ A.cell? ⟨bb, ba + k * 3 + 1, none⟩ = some (.string yx) ∧ A.cell? ⟨bb, ba + k * 3 + 2, none⟩ = some (.string yd))) := Lib.hid fun A hA =>
          have ha : ¬ (D ≤ ab) := by omega
          have hb : ¬ (D ≤ bb) := by omega
          ⟨⟨cellT hA ha e0, cellT hA ha e1, cellT hA ha e2⟩, cellT hA hb i0, cellT hA hb i1, cellT hA hb i2⟩
        have HBX := Lib.hid (And.intro hbox (And.intro G1 (And.intro G2 (And.intro hsep (And.intro hT hlD)))))
        have HMM := Lib.hid (And.intro hmx hmy)
        have hk0 : (0 : Int) ≤ k := by omega
        have hk1 : (k : Int) < nr := by omega
        clear hx hy hxe hye hab hbb2 e0 e1 e2 i0 i1 i2 hu hv hbox G1 G2 hsep hT hmx hmy hlD HI
        go_wp2_with fail
        refine wp_region_heldL (fun A => (A.cell? ⟨ab, aa + k * 3, none⟩ = some (.bool xn) ∧ A.cell? ⟨ab, aa + k * 3 + 1, none⟩ = some (.string xx) ∧ A.cell? ⟨ab, aa + k * 3 + 2, none⟩ = some (.string xd)) ∧ (A.cell? ⟨bb, ba + k * 3, none⟩ = some (.bool yn) ∧ A.cell? ⟨bb, ba + k * 3 + 1, none⟩ = some (.string yx) ∧ A.cell? ⟨bb, ba + k * 3 + 2, none⟩ = some (.string yd))) (fun A => A.cell? ⟨D, 1, none⟩ = some (.slice q1 k d1) ∧ A.cell? ⟨D, 2, none⟩ = some (.slice q2 k d2)) 27 (by kernel_rfl) ?_
        have HS0 : Hid ((wr.drew.cell? ⟨D, 1, none⟩ = some (.slice q1 k d1) ∧ wr.drew.cell? ⟨D, 2, none⟩ = some (.slice q2 k d2)) ∧ (wr.drew.cell? ⟨ab, aa + k * 3, none⟩ = some (.bool xn) ∧ wr.drew.cell? ⟨ab, aa + k * 3 + 1, none⟩ = some (.string xx) ∧ wr.drew.cell? ⟨ab, aa + k * 3 + 2, none⟩ = some (.string xd)) ∧ (wr.drew.cell? ⟨bb, ba + k * 3, none⟩ = some (.bool yn) ∧ wr.drew.cell? ⟨bb, ba + k * 3 + 1, none⟩ = some (.string yx) ∧ wr.drew.cell? ⟨bb, ba + k * 3 + 2, none⟩ = some (.string yd))) := Lib.hid (HCX.out _ (Turned.refl _ wr).drew)
        refine wpAnyL_takeR (i := 0) (oi := _) (v := .pointer (some ⟨D, 1, none⟩)) rfl (by kernel_rfl) (by kernel_rfl) (fun _ _ _ h => h) (Or.inl ⟨by kernel_rfl, fun V _ => ?_⟩) HS0.out.2 (fun _ => HS0.out.1) ?_
        · go_simp
        try simp only [List.getElem_toArray, List.getElem_cons_zero, List.getElem_cons_succ, Act.put, List.setIfInBounds_toArray, List.set_cons_zero, List.set_cons_succ]
        refine wpAnyL_take (i := 1) (oi := _) (v := .slice q1 k d1) rfl (by kernel_rfl) (by kernel_rfl) (fun _ _ _ h => h) (Or.inl ⟨by kernel_rfl, fun V hV => ?_⟩) HS0.out.2 HS0.out.1 ?_
        · obtain ⟨-, f0, f1⟩ := hV
          go_simp
        try simp only [List.getElem_toArray, List.getElem_cons_zero, List.getElem_cons_succ, Act.put, List.setIfInBounds_toArray, List.set_cons_zero, List.set_cons_succ]
        refine wpAnyL_takeR (i := 2) (oi := _) (v := .slice (some ⟨ab, aa, none⟩) nr ac) rfl (by kernel_rfl) (by kernel_rfl) (fun _ _ _ h => h) (Or.inl ⟨by kernel_rfl, fun V _ => ?_⟩) HS0.out.2 (fun _ => HS0.out.1) ?_
        · go_simp
        try simp only [List.getElem_toArray, List.getElem_cons_zero, List.getElem_cons_succ, Act.put, List.setIfInBounds_toArray, List.set_cons_zero, List.set_cons_succ]
        refine wpAnyL_takeR (i := 3) (oi := _) (v := (.int .i64 k)) rfl (by kernel_rfl) (by kernel_rfl) (fun _ _ _ h => h) (Or.inl ⟨by kernel_rfl, fun V _ => ?_⟩) HS0.out.2 (fun _ => HS0.out.1) ?_
        · go_simp
        try simp only [List.getElem_toArray, List.getElem_cons_zero, List.getElem_cons_succ, Act.put, List.setIfInBounds_toArray, List.set_cons_zero, List.set_cons_succ]
        refine wpAnyL_takeR (i := 4) (oi := _) (v := .pointer (some ⟨ab, aa + k * 3, none⟩)) rfl (by kernel_rfl) (by kernel_rfl) (fun _ _ _ h => h) (Or.inl ⟨by kernel_rfl, fun V _ => ?_⟩) HS0.out.2 (fun _ => HS0.out.1) ?_
        · go_simp
        try simp only [List.getElem_toArray, List.getElem_cons_zero, List.getElem_cons_succ, Act.put, List.setIfInBounds_toArray, List.set_cons_zero, List.set_cons_succ]
        refine wpAnyL_takeR (i := 5) (oi := _) (v := .agg #[.bool xn, .string xx, .string xd]) rfl (by kernel_rfl) (by kernel_rfl) (fun _ _ _ h => h) (Or.inl ⟨by kernel_rfl, fun V hV => ?_⟩) HS0.out.2 (fun _ => HS0.out.1) ?_
        · obtain ⟨⟨f2, f3, f4⟩, f5, f6, f7⟩ := hV
          go_simp
        try simp only [List.getElem_toArray, List.getElem_cons_zero, List.getElem_cons_succ, Act.put, List.setIfInBounds_toArray, List.set_cons_zero, List.set_cons_succ]
        refine wpAnyL_takeR (i := 6) (oi := _) (v := .slice (some ⟨bb, ba, none⟩) nr bc) rfl (by kernel_rfl) (by kernel_rfl) (fun _ _ _ h => h) (Or.inl ⟨by kernel_rfl, fun V _ => ?_⟩) HS0.out.2 (fun _ => HS0.out.1) ?_
        · go_simp
        try simp only [List.getElem_toArray, List.getElem_cons_zero, List.getElem_cons_succ, Act.put, List.setIfInBounds_toArray, List.set_cons_zero, List.set_cons_succ]
        refine wpAnyL_takeR (i := 7) (oi := _) (v := (.int .i64 k)) rfl (by kernel_rfl) (by kernel_rfl) (fun _ _ _ h => h) (Or.inl ⟨by kernel_rfl, fun V _ => ?_⟩) HS0.out.2 (fun _ => HS0.out.1) ?_
        · go_simp
        try simp only [List.getElem_toArray, List.getElem_cons_zero, List.getElem_cons_succ, Act.put, List.setIfInBounds_toArray, List.set_cons_zero, List.set_cons_succ]
        refine wpAnyL_takeR (i := 8) (oi := _) (v := .pointer (some ⟨bb, ba + k * 3, none⟩)) rfl (by kernel_rfl) (by kernel_rfl) (fun _ _ _ h => h) (Or.inl ⟨by kernel_rfl, fun V _ => ?_⟩) HS0.out.2 (fun _ => HS0.out.1) ?_
        · go_simp
        try simp only [List.getElem_toArray, List.getElem_cons_zero, List.getElem_cons_succ, Act.put, List.setIfInBounds_toArray, List.set_cons_zero, List.set_cons_succ]
        refine wpAnyL_takeR (i := 9) (oi := _) (v := .agg #[.bool yn, .string yx, .string yd]) rfl (by kernel_rfl) (by kernel_rfl) (fun _ _ _ h => h) (Or.inl ⟨by kernel_rfl, fun V hV => ?_⟩) HS0.out.2 (fun _ => HS0.out.1) ?_
        · obtain ⟨⟨f2, f3, f4⟩, f5, f6, f7⟩ := hV
          go_simp
        try simp only [List.getElem_toArray, List.getElem_cons_zero, List.getElem_cons_succ, Act.put, List.setIfInBounds_toArray, List.set_cons_zero, List.set_cons_succ]
        refine wpAnyL_takeR (i := 13) (oi := _) (v := .pointer (some ⟨D, 2, none⟩)) rfl (by kernel_rfl) (by kernel_rfl) (fun _ _ _ h => h) (Or.inl ⟨by kernel_rfl, fun V _ => ?_⟩) HS0.out.2 (fun _ => HS0.out.1) ?_
        · go_simp
        try simp only [List.getElem_toArray, List.getElem_cons_zero, List.getElem_cons_succ, Act.put, List.setIfInBounds_toArray, List.set_cons_zero, List.set_cons_succ]
        refine wpAnyL_take (i := 14) (oi := _) (v := .slice q2 k d2) rfl (by kernel_rfl) (by kernel_rfl) (fun _ _ _ h => h) (Or.inl ⟨by kernel_rfl, fun V hV => ?_⟩) HS0.out.2 HS0.out.1 ?_
        · obtain ⟨-, f0, f1⟩ := hV
          go_simp
        try simp only [List.getElem_toArray, List.getElem_cons_zero, List.getElem_cons_succ, Act.put, List.setIfInBounds_toArray, List.set_cons_zero, List.set_cons_succ]
        refine wpAnyL_takeR (i := 15) (oi := _) (v := .slice (some ⟨ab, aa, none⟩) nr ac) rfl (by kernel_rfl) (by kernel_rfl) (fun _ _ _ h => h) (Or.inl ⟨by kernel_rfl, fun V _ => ?_⟩) HS0.out.2 (fun _ => HS0.out.1) ?_
        · go_simp
        try simp only [List.getElem_toArray, List.getElem_cons_zero, List.getElem_cons_succ, Act.put, List.setIfInBounds_toArray, List.set_cons_zero, List.set_cons_succ]
        refine wpAnyL_takeR (i := 16) (oi := _) (v := (.int .i64 k)) rfl (by kernel_rfl) (by kernel_rfl) (fun _ _ _ h => h) (Or.inl ⟨by kernel_rfl, fun V _ => ?_⟩) HS0.out.2 (fun _ => HS0.out.1) ?_
        · go_simp
        try simp only [List.getElem_toArray, List.getElem_cons_zero, List.getElem_cons_succ, Act.put, List.setIfInBounds_toArray, List.set_cons_zero, List.set_cons_succ]
        refine wpAnyL_takeR (i := 17) (oi := _) (v := .pointer (some ⟨ab, aa + k * 3, none⟩)) rfl (by kernel_rfl) (by kernel_rfl) (fun _ _ _ h => h) (Or.inl ⟨by kernel_rfl, fun V _ => ?_⟩) HS0.out.2 (fun _ => HS0.out.1) ?_
        · go_simp
        try simp only [List.getElem_toArray, List.getElem_cons_zero, List.getElem_cons_succ, Act.put, List.setIfInBounds_toArray, List.set_cons_zero, List.set_cons_succ]
        refine wpAnyL_takeR (i := 18) (oi := _) (v := .agg #[.bool xn, .string xx, .string xd]) rfl (by kernel_rfl) (by kernel_rfl) (fun _ _ _ h => h) (Or.inl ⟨by kernel_rfl, fun V hV => ?_⟩) HS0.out.2 (fun _ => HS0.out.1) ?_
        · obtain ⟨⟨f2, f3, f4⟩, f5, f6, f7⟩ := hV
          go_simp
        try simp only [List.getElem_toArray, List.getElem_cons_zero, List.getElem_cons_succ, Act.put, List.setIfInBounds_toArray, List.set_cons_zero, List.set_cons_succ]
        refine wpAnyL_takeR (i := 19) (oi := _) (v := .slice (some ⟨bb, ba, none⟩) nr bc) rfl (by kernel_rfl) (by kernel_rfl) (fun _ _ _ h => h) (Or.inl ⟨by kernel_rfl, fun V _ => ?_⟩) HS0.out.2 (fun _ => HS0.out.1) ?_
        · go_simp
        try simp only [List.getElem_toArray, List.getElem_cons_zero, List.getElem_cons_succ, Act.put, List.setIfInBounds_toArray, List.set_cons_zero, List.set_cons_succ]
        refine wpAnyL_takeR (i := 20) (oi := _) (v := (.int .i64 k)) rfl (by kernel_rfl) (by kernel_rfl) (fun _ _ _ h => h) (Or.inl ⟨by kernel_rfl, fun V _ => ?_⟩) HS0.out.2 (fun _ => HS0.out.1) ?_
        · go_simp
        try simp only [List.getElem_toArray, List.getElem_cons_zero, List.getElem_cons_succ, Act.put, List.setIfInBounds_toArray, List.set_cons_zero, List.set_cons_succ]
        refine wpAnyL_takeR (i := 21) (oi := _) (v := .pointer (some ⟨bb, ba + k * 3, none⟩)) rfl (by kernel_rfl) (by kernel_rfl) (fun _ _ _ h => h) (Or.inl ⟨by kernel_rfl, fun V _ => ?_⟩) HS0.out.2 (fun _ => HS0.out.1) ?_
        · go_simp
        try simp only [List.getElem_toArray, List.getElem_cons_zero, List.getElem_cons_succ, Act.put, List.setIfInBounds_toArray, List.set_cons_zero, List.set_cons_succ]
        refine wpAnyL_takeR (i := 22) (oi := _) (v := .agg #[.bool yn, .string yx, .string yd]) rfl (by kernel_rfl) (by kernel_rfl) (fun _ _ _ h => h) (Or.inl ⟨by kernel_rfl, fun V hV => ?_⟩) HS0.out.2 (fun _ => HS0.out.1) ?_
        · obtain ⟨⟨f2, f3, f4⟩, f5, f6, f7⟩ := hV
          go_simp
        try simp only [List.getElem_toArray, List.getElem_cons_zero, List.getElem_cons_succ, Act.put, List.setIfInBounds_toArray, List.set_cons_zero, List.set_cons_succ]
        refine wpAnyL_one (i := 10) (o := _) rfl (by kernel_rfl) (fun K hK => ?_)
        go_simp
        refine (HMN.out _).mono ?_
        rintro e w7 ⟨rfl, t7⟩
        have T7 := Lib.hid ((Turned.refl (fun _ => False) wr).drew.trans t7)
        clear t7
        refine hK.out _ _ (HCX.out _ (T7.out.mono fun _ h => h.elim)).2 (fun _ => (HCX.out _ (T7.out.mono fun _ h => h.elim)).1) ?_
        clear hK K
        try simp only [List.getElem_toArray, List.getElem_cons_zero, List.getElem_cons_succ, Act.put, List.setIfInBounds_toArray, List.set_cons_zero, List.set_cons_succ]
        refine wpAnyL_one (i := 11) (o := _) rfl (by kernel_rfl) (fun K hK => ?_)
        go_simp
        refine hK.out _ _ (HCX.out _ ((T7.out.alloc _).mono fun _ h => h.elim)).2 (fun _ => (HCX.out _ ((T7.out.alloc _).mono fun _ h => h.elim)).1) ?_
        clear hK K
        try simp only [List.getElem_toArray, List.getElem_cons_zero, List.getElem_cons_succ, Act.put, List.setIfInBounds_toArray, List.set_cons_zero, List.set_cons_succ]
        refine wpAnyL_one (i := 12) (o := _) rfl (by kernel_rfl) (fun K hK => ?_)
        refine step_rat w7 (D + 1) k (.slice q1 k d1) ⟨un, ux, ud⟩ (mixTo minR la lb k) (mixTo_len _ _ _ _) (HBX.out.2.1.turned T7.out fun _ h => h.elim) (Nat.le_trans HBX.out.2.2.2.2.2 T7.out.size) (by omega) rfl _ _ rfl rfl rfl ?_
        intro a1 c1 w8 hg8 t8 hor
        have HG8 := Lib.hid (And.intro hg8 (And.intro t8 hor))
        have T8 := Lib.hid (((T7.out.alloc (.cells #[.bool un, .string ux, .string ud] 68)).mono fun _ h => h.elim).trans (t8.mono fun i h => (HBX.out.2.1.own_lt h).1) : Turned (fun i => D + 1 ≤ i) wr w8)
        clear hg8 t8 hor
        refine hK.out _ _ (HCX.out _ T8.out).2 (fun _ => (HCX.out _ T8.out).1) ?_
        clear hK K
        try simp only [List.getElem_toArray, List.getElem_cons_zero, List.getElem_cons_succ, Act.put, List.setIfInBounds_toArray, List.set_cons_zero, List.set_cons_succ]
        refine wpAnyL_takeR (i := 26) (oi := _) (v := .pointer (some ⟨D, 1, none⟩)) rfl (by kernel_rfl) (by kernel_rfl) (fun _ _ _ h => h) (Or.inl ⟨by kernel_rfl, fun V _ => ?_⟩) (HCX.out _ T8.out).2 (fun _ => (HCX.out _ T8.out).1) ?_
        · go_simp
        try simp only [List.getElem_toArray, List.getElem_cons_zero, List.getElem_cons_succ, Act.put, List.setIfInBounds_toArray, List.set_cons_zero, List.set_cons_succ]
        refine wpAnyL_one (i := 23) (o := _) rfl (by kernel_rfl) (fun K hK => ?_)
        go_simp
        refine (HMX.out _).mono ?_
        rintro e w9 ⟨rfl, t9⟩
        have T9 := Lib.hid t9
        have T89 := Lib.hid (T8.out.trans (t9.mono fun _ h => h.elim))
        clear t9
        refine hK.out _ _ (HCX.out _ T89.out).2 (fun _ => (HCX.out _ T89.out).1) ?_
        clear hK K
        try simp only [List.getElem_toArray, List.getElem_cons_zero, List.getElem_cons_succ, Act.put, List.setIfInBounds_toArray, List.set_cons_zero, List.set_cons_succ]
        refine wpAnyL_one (i := 24) (o := _) rfl (by kernel_rfl) (fun K hK => ?_)
        go_simp
        refine hK.out _ _ (HCX.out _ (T89.out.alloc _)).2 (fun _ => (HCX.out _ (T89.out.alloc _)).1) ?_
        clear hK K
        try simp only [List.getElem_toArray, List.getElem_cons_zero, List.getElem_cons_succ, Act.put, List.setIfInBounds_toArray, List.set_cons_zero, List.set_cons_succ]
        have G2a : Grown w9 (D + 1) 68 3 ratCells (.slice q2 k d2) (mixTo maxR la lb k) := by
          have ta : Turned (fun i => (Value.slice q1 k d1).ownBlock = some i) wr w9 := (((T7.out.alloc (.cells #[.bool un, .string ux, .string ud] 68)).mono fun _ h => h.elim).trans HG8.out.2.1).trans (T9.out.mono fun _ h => h.elim)
          exact HBX.out.2.2.1.apart ta fun g hg h => HBX.out.2.2.2.1 g h hg
        have HG2A := Lib.hid G2a
        clear G2a
        refine wpAnyL_one (i := 25) (o := _) rfl (by kernel_rfl) (fun K hK => ?_)
        refine step_rat w9 (D + 1) k (.slice q2 k d2) ⟨vn, vx, vd⟩ (mixTo maxR la lb k) (mixTo_len _ _ _ _) HG2A.out (Nat.le_trans HBX.out.2.2.2.2.2 T89.out.size) (by omega) rfl _ _ rfl rfl rfl ?_
        intro a2 c2 w10 hg10 t10 hor
        have HG10 := Lib.hid (And.intro hg10 (And.intro t10 hor))
        have T10 := Lib.hid ((T89.out.alloc (.cells #[.bool vn, .string vx, .string vd] 68)).trans (t10.mono fun i h => (HBX.out.2.2.1.own_lt h).1) : Turned (fun i => D + 1 ≤ i) wr w10)
        clear hg10 t10 hor
        refine hK.out _ _ (HCX.out _ T10.out).2 (fun _ => (HCX.out _ T10.out).1) ?_
        clear hK K
        try simp only [List.getElem_toArray, List.getElem_cons_zero, List.getElem_cons_succ, Act.put, List.setIfInBounds_toArray, List.set_cons_zero, List.set_cons_succ]
        have hbD := (T10.out.block D HBX.out.2.2.2.2.2 (by omega)).trans HBX.out.1
        obtain ⟨k0, k1, k2, k3, k4, k5⟩ := box3 hbD
        have HRA := Lib.hid (HRX.out _ ((T10.out.mono fun i h => Nat.le_of_succ_le h).setCell (p := ⟨D, 1, none⟩) (Nat.le_refl _) (.slice (some ⟨a1, 0, none⟩) (k + 1) c1)))
        have HRB := Lib.hid (HRX.out _ (((T10.out.mono fun i h => Nat.le_of_succ_le h).setCell (p := ⟨D, 1, none⟩) (Nat.le_refl _) (.slice (some ⟨a1, 0, none⟩) (k + 1) c1)).setCell (p := ⟨D, 2, none⟩) (Nat.le_refl _) (.slice (some ⟨a2, 0, none⟩) (k + 1) c2)))
        refine wpAnyL_one (i := 27) (o := _) rfl (by kernel_rfl) (fun K hK => ?_)
        go_simp
        refine hK.out _ _ HRA.out (fun h => absurd h (by decide)) ?_
        clear hK K
        try simp only [List.getElem_toArray, List.getElem_cons_zero, List.getElem_cons_succ, Act.put, List.setIfInBounds_toArray, List.set_cons_zero, List.set_cons_succ]
        refine wpAnyL_takeR (i := 28) (oi := _) (v := .pointer (some ⟨D, 2, none⟩)) rfl (by kernel_rfl) (by kernel_rfl) (fun _ _ _ h => h) (Or.inl ⟨by kernel_rfl, fun V _ => ?_⟩) HRA.out (fun h => absurd h (by decide)) ?_
        · go_simp
        try simp only [List.getElem_toArray, List.getElem_cons_zero, List.getElem_cons_succ, Act.put, List.setIfInBounds_toArray, List.set_cons_zero, List.set_cons_succ]
        refine wpAnyL_one (i := 29) (o := _) rfl (by kernel_rfl) (fun K hK => ?_)
        go_simp
        refine hK.out _ _ HRB.out (fun h => absurd h (by decide)) ?_
        clear hK K
        refine wpAnyL_done (by kernel_rfl) ?_ _
        go_wp2_with fail
        go_roundw
        case rel => exact ⟨k + 1, by omega, by go_num, Lib.hid (bt_step HBX.out.1 HBX.out.2.1 HBX.out.2.2.1 HBX.out.2.2.2.1 HBX.out.2.2.2.2.1 (Nat.le_of_eq HD5.out) T7.out HG8.out.1 HG8.out.2.1 HG8.out.2.2 T9.out HG10.out.1 HG10.out.2.1 HG10.out.2.2 HMM.out.1 HMM.out.2)⟩
        case measure => simp [intOf]; omega
      · obtain rfl : nr = k := by omega
        obtain ⟨w7, rfl⟩ : ∃ w7, w7 = wr := ⟨_, rfl⟩
        obtain ⟨q1, d1, q2, d2, hbox, G1, G2, -, hT⟩ := HI.out
        have HT7 := Lib.hid (HT5.out.trans hT)
        have HDE : Hid (∀ A, Turned (fun _ => False) w7 A → A.cell? ⟨D, 0, none⟩ = some (.slice rp nr rc) ∧ A.cell? ⟨D, 1, none⟩ = some (.slice q1 nr d1) ∧ A.cell? ⟨D, 2, none⟩ = some (.slice q2 nr d2)) := Lib.hid fun A hA => by
          have h0 := keepB hA hbox
          exact ⟨by simp [World.cell?, h0], by simp [World.cell?, h0], by simp [World.cell?, h0]⟩
        have HB7 : Hid (∀ A, Turned (fun _ => False) w7 A → OIn A rs (mixTo minR la lb nr) (mixTo maxR la lb nr) cs rp q1 q2 cp rc d1 d2 cc) := Lib.hid fun A hA => HOI.out A (HT0.out.trans (HT7.out.trans hA)) q1 d1 q2 d2 ((G1.at' (fun _ => rfl) (Nat.le_refl _)).on hA) ((G2.at' (fun _ => rfl) (Nat.le_refl _)).on hA)
        have hobl : ob.length ≤ 1000 := by rw [HLEN.out.1]; omega
        have HOBL := Lib.hid hobl
        clear hbox G1 G2 hT HI hlt hk hobl HST HOI HD5 HLA5 HLB HSZ HT5
        obtain ⟨⟨c0, c1, c2⟩, -, -⟩ := HCE.out _ HT7.out
        go_wp2_with fail
        refine (HOR.out _ (HT0.out.trans HT7.out)).mono ?_
        rintro e w8 ⟨xp, xc, rfl, hgo, hso, t8⟩
        have HS8 := Lib.hid t8
        have HO8 := Lib.hid (hgo.at' (fun _ => rfl) (Nat.le_refl _))
        have HSO := Lib.hid hso
        clear c0 c1 c2 hgo hso t8 HOR
        obtain ⟨c0, c1, c2⟩ := HDE.out _ HS8.out
        go_wp2_with fail
        refine (HOR2.out _ _ _ _ _ (HB7.out _ HS8.out)).mono ?_
        rintro e w9 ⟨yp, yc, rfl, hgo, -, t9⟩
        have HS9 := Lib.hid (HS8.out.trans t9)
        have HO9 := Lib.hid (And.intro (HO8.out.on t9) (hgo.at' (fun _ => rfl) (Nat.le_refl _)))
        clear c0 c1 c2 hgo t9 HOR2 HO8 HS8
        obtain ⟨c0, c1, c2⟩ := HDE.out _ HS9.out
        have hrn := HRN2.out _ _ _ _ _ (HB7.out _ HS9.out) ob xp xc HO9.out.1 HSO.out HDUE.out HOBL.out
        rw [HLEN.out.1, HOM.out, HLEN.out.2.2.1] at hrn
        have HRNX := Lib.hid hrn
        clear hrn
        go_wp2_with fail
        refine HRNX.out.mono ?_
        rintro e w10 ⟨zp, zc, rfl, hgo, t10⟩
        have HS10 := Lib.hid (HS9.out.trans t10)
        have HO10 := Lib.hid (And.intro (HO9.out.1.on t10) (And.intro (HO9.out.2.on t10) (hgo.at' (fun _ => rfl) (Nat.le_refl _))))
        clear c0 c1 c2 hgo t10 HRNX HRN2 HO9 HS9
        obtain ⟨⟨c0, c1, c2⟩, -, -⟩ := HCE.out _ (HT7.out.trans HS10.out)
        go_wp2_with fail
        refine (HLM.out _ (HT0.out.trans (HT7.out.trans HS10.out))).mono ?_
        rintro e w11 ⟨l1, l2, rfl, -, ho1, ho2, hsz, t11⟩
        have HS11 := Lib.hid (HS10.out.trans t11)
        have HO11 := Lib.hid (And.intro (HO10.out.1.on t11) (And.intro (HO10.out.2.1.on t11) (HO10.out.2.2.on t11)))
        have HL11 := Lib.hid (And.intro ho1 ho2)
        have HZ11 := Lib.hid hsz
        clear c0 c1 c2 ho1 ho2 hsz t11 HLM HO10 HS10
        obtain ⟨c0, c1, c2⟩ := HDE.out _ HS11.out
        go_wp2_with fail
        refine (HLM2.out _ _ _ _ _ (HB7.out _ HS11.out)).mono ?_
        rintro e w12 ⟨s1, s2, rfl, -, ho1, ho2, hsz, t12⟩
        have HS12 := Lib.hid (HS11.out.trans t12)
        have HO12 := Lib.hid (And.intro (HO11.out.1.on t12) (And.intro (HO11.out.2.1.on t12) (HO11.out.2.2.on t12)))
        have HL12 := Lib.hid (And.intro (HL11.out.1.turned t12 id) (And.intro (HL11.out.2.turned t12 id) (And.intro ho1 ho2)))
        have HZ12 := Lib.hid hsz
        clear c0 c1 c2 ho1 ho2 hsz t12 HLM2 HO11 HS11 HL11
        obtain ⟨c0, c1, c2⟩ := HDE.out _ HS12.out
        have hdu := HDU2.out _ _ _ _ _ (HB7.out _ HS12.out) ob xp xc HO12.out.1 (fun o h => (HSO.out o h).mono (by decide))
        rw [HLEN.out.1, HDUE.out] at hdu
        have HDUX := Lib.hid hdu
        clear hdu
        go_wp2_with fail
        refine HDUX.out.mono ?_
        rintro e w13 ⟨rfl, t13⟩
        have HS13 := Lib.hid (HS12.out.trans t13)
        have HO13 := Lib.hid (And.intro (HO12.out.1.on t13) (And.intro (HO12.out.2.1.on t13) (HO12.out.2.2.on t13)))
        have HL13 := Lib.hid (And.intro (HL12.out.1.turned t13 id) (And.intro (HL12.out.2.1.turned t13 id) (And.intro (HL12.out.2.2.1.turned t13 id) (HL12.out.2.2.2.turned t13 id))))
        clear c0 c1 c2 t13 HDUX HDU2 HO12 HS12 HL12 HSO HDUE HOBL
        go_wp2_with fail
        go_loopw [172] (fun i wr => ∃ k : Nat, k ≤ nc ∧ i = (.int .i64 k) ∧ Hid (Turned (fun _ => False) w13 wr)) (fun i _ => nc - (intOf i).toNat)
        case atStart => exact ⟨0, Nat.zero_le _, rfl, Lib.hid (Turned.refl _ _)⟩
        case round =>
          obtain ⟨k, hk, rfl, HI⟩ := hrel
          by_cases hlt : k < nc
          · have hw := at_getR (l := tl) (k := k) (by rw [HSP.out.1.1, HNN.out.2.2.2.1]; exact hlt)
            have hx := at_getR (l := sl) (k := k) (by rw [HSP.out.1.2.2.1, HNN.out.2.2.2.1]; exact hlt)
            have hy := at_getR (l := sh) (k := k) (by rw [HSP.out.1.2.2.2, HNN.out.2.2.2.1]; exact hlt)
            have hz := at_getR (l := th) (k := k) (by rw [HSP.out.1.2.1, HNN.out.2.2.2.1]; exact hlt)
            have hle1 := HSP.out.2.1 k (by rw [HNN.out.2.2.2.1]; exact hlt)
            have hle2 := HSP.out.2.2.1 k (by rw [HNN.out.2.2.2.1]; exact hlt)
            have hle3 := HSP.out.2.2.2 k (by rw [HNN.out.2.2.2.1]; exact hlt)
            obtain ⟨⟨on, ox, od⟩, hwe⟩ : ∃ u, tl.getD k zeroR = u := ⟨_, rfl⟩
            obtain ⟨⟨xn, xx, xd⟩, hxe⟩ : ∃ u, sl.getD k zeroR = u := ⟨_, rfl⟩
            obtain ⟨⟨yn, yx, yd⟩, hye⟩ : ∃ u, sh.getD k zeroR = u := ⟨_, rfl⟩
            obtain ⟨⟨zn, zx, zd⟩, hze⟩ : ∃ u, th.getD k zeroR = u := ⟨_, rfl⟩
            rw [hwe] at hw hle1
            rw [hxe] at hx hle1 hle2
            rw [hye] at hy hle2 hle3
            rw [hze] at hz hle3
            have HCX : Hid (∀ A, Turned (fun _ => False) w13 A → (A.cell? ⟨l1, k * 3, none⟩ = some (.bool on) ∧ A.cell? ⟨l1, k * 3 + 1, none⟩ = some (.string ox) ∧ A.cell? ⟨l1, k * 3 + 2, none⟩ = some (.string od)) ∧ (A.cell? ⟨s1, k * 3, none⟩ = some (.bool xn) ∧ A.cell? ⟨s1, k * 3 + 1, none⟩ = some (.string xx) ∧ A.cell? ⟨s1, k * 3 + 2, none⟩ = some (.string xd)) ∧ (A.cell? ⟨s2, k * 3, none⟩ = some (.bool yn) ∧ A.cell? ⟨s2, k * 3 + 1, none⟩ = some (.string yx) ∧ A.cell? ⟨s2, k * 3 + 2, none⟩ = some (.string yd)) ∧ (A.cell? ⟨l2, k * 3, none⟩ = some (.bool zn) ∧ A.cell? ⟨l2, k * 3 + 1, none⟩ = some (.string zx) ∧ A.cell? ⟨l2, k * 3 + 2, none⟩ = some (.string zd))) := Lib.hid fun A hA =>
              ⟨(HL13.out.1.turned hA id).cells hw, (HL13.out.2.2.1.turned hA id).cells hx, (HL13.out.2.2.2.turned hA id).cells hy, (HL13.out.2.1.turned hA id).cells hz⟩
            have HC1 := Lib.hid (fun W => qCmp_any ⟨on, ox, od⟩ ⟨xn, xx, xd⟩ 24000300 W (by decide) (by decide) (HZ11.out.1 _ (List.mem_of_getElem? hw)) (HZ12.out.1 _ (List.mem_of_getElem? hx)))
            have HC2 := Lib.hid (fun W => qCmp_any ⟨xn, xx, xd⟩ ⟨yn, yx, yd⟩ 24000300 W (by decide) (by decide) (HZ12.out.1 _ (List.mem_of_getElem? hx)) (HZ12.out.2 _ (List.mem_of_getElem? hy)))
            have HC3 := Lib.hid (fun W => qCmp_any ⟨yn, yx, yd⟩ ⟨zn, zx, zd⟩ 24000300 W (by decide) (by decide) (HZ12.out.2 _ (List.mem_of_getElem? hy)) (HZ11.out.2 _ (List.mem_of_getElem? hz)))
            obtain ⟨v1, hv1⟩ : ∃ c, cmpQ (qR ⟨on, ox, od⟩) (qR ⟨xn, xx, xd⟩) = c := ⟨_, rfl⟩
            obtain ⟨v2, hv2⟩ : ∃ c, cmpQ (qR ⟨xn, xx, xd⟩) (qR ⟨yn, yx, yd⟩) = c := ⟨_, rfl⟩
            obtain ⟨v3, hv3⟩ : ∃ c, cmpQ (qR ⟨yn, yx, yd⟩) (qR ⟨zn, zx, zd⟩) = c := ⟨_, rfl⟩
            have f1 : decide (0 < v1) = false := decide_eq_false fun h => by have h3 := (cmpQ_le (p := qR ⟨on, ox, od⟩) (q := qR ⟨xn, xx, xd⟩)).2 hle1; rw [hv1] at h3; omega
            have f2 : decide (0 < v2) = false := decide_eq_false fun h => by have h3 := (cmpQ_le (p := qR ⟨xn, xx, xd⟩) (q := qR ⟨yn, yx, yd⟩)).2 hle2; rw [hv2] at h3; omega
            have f3 : decide (0 < v3) = false := decide_eq_false fun h => by have h3 := (cmpQ_le (p := qR ⟨yn, yx, yd⟩) (q := qR ⟨zn, zx, zd⟩)).2 hle3; rw [hv3] at h3; omega
            have f4 : decide (nc ≤ k) = false := decide_eq_false (by omega)
            have f5 : decide ((nc : Int) ≤ k) = false := decide_eq_false (by omega)
            rw [hv1] at HC1
            rw [hv2] at HC2
            rw [hv3] at HC3
            have hk0 : (0 : Int) ≤ k := by omega
            have hk1 : (k : Int) < nc := by omega
            have HTD := Lib.hid (HI.out.drew)
            have HK0 := Lib.hid (HCX.out _ HTD.out)
            clear hw hx hy hz hwe hxe hye hze hle1 hle2 hle3 hv1 hv2 hv3
            go_wp2_with fail
            go_region_held3 (fun A => (A.cell? ⟨l1, k * 3, none⟩ = some (.bool on) ∧ A.cell? ⟨l1, k * 3 + 1, none⟩ = some (.string ox) ∧ A.cell? ⟨l1, k * 3 + 2, none⟩ = some (.string od)) ∧ (A.cell? ⟨s1, k * 3, none⟩ = some (.bool xn) ∧ A.cell? ⟨s1, k * 3 + 1, none⟩ = some (.string xx) ∧ A.cell? ⟨s1, k * 3 + 2, none⟩ = some (.string xd)) ∧ (A.cell? ⟨s2, k * 3, none⟩ = some (.bool yn) ∧ A.cell? ⟨s2, k * 3 + 1, none⟩ = some (.string yx) ∧ A.cell? ⟨s2, k * 3 + 2, none⟩ = some (.string yd)) ∧ (A.cell? ⟨l2, k * 3, none⟩ = some (.bool zn) ∧ A.cell? ⟨l2, k * 3 + 1, none⟩ = some (.string zx) ∧ A.cell? ⟨l2, k * 3 + 2, none⟩ = some (.string zd)))
              (first | exact HK3.out | exact HK2.out | exact HK1.out | exact HK0.out | go_keep)
              (first
                | (have hq := HK2; clear hq; go_at_call 30; refine (HC3.out _).mono ?_; rintro e w16 ⟨rfl, t16⟩; have HTC := Lib.hid (HTB.out.trans t16); have HK3 : Hid _ := Lib.hid (HCX.out _ HTC.out); clear t16)
                | (have hq := HK1; clear hq; go_at_call 30; refine (HC2.out _).mono ?_; rintro e w15 ⟨rfl, t15⟩; have HTB := Lib.hid (HTA.out.trans t15); have HK2 : Hid _ := Lib.hid (HCX.out _ HTB.out); clear t15)
                | (have hq := HK0; clear hq; go_at_call 30; refine (HC1.out _).mono ?_; rintro e w14 ⟨rfl, t14⟩; have HTA := Lib.hid (HTD.out.trans t14); have HK1 : Hid _ := Lib.hid (HCX.out _ HTA.out); clear t14))
            clear HK0 HK1 HK2 HK3
            go_wp2_with fail
            go_roundw
            case rel => exact ⟨k + 1, by omega, by go_num, HTC⟩
            case measure => simp [intOf]; omega
          · obtain rfl : nc = k := by omega
            obtain ⟨w17, rfl⟩ : ∃ w17, w17 = wr := ⟨_, rfl⟩
            have HS17 := Lib.hid (HS13.out.trans HI.out)
            have HO17 := Lib.hid (And.intro (HO13.out.1.on HI.out) (And.intro (HO13.out.2.1.on HI.out) (HO13.out.2.2.on HI.out)))
            clear HI hlt hk HS13 HO13 HL13 HZ11 HZ12 HSP
            obtain ⟨⟨c0, c1, c2⟩, -, -⟩ := HCE.out _ (HT7.out.trans HS17.out)
            go_wp2_with fail
            refine (HSU.out _ (HT0.out.trans (HT7.out.trans HS17.out))).mono ?_
            rintro e w18 ⟨up, uc, rfl, hgo, t18⟩
            have HS18 := Lib.hid (HS17.out.trans t18)
            have HU18 := Lib.hid (hgo.at' (fun _ => rfl) (Nat.le_refl _))
            have HO18 := Lib.hid (And.intro (HO17.out.1.on t18) (And.intro (HO17.out.2.1.on t18) (HO17.out.2.2.on t18)))
            clear c0 c1 c2 hgo t18 HSU HO17 HS17
            obtain ⟨c0, c1, c2⟩ := HDE.out _ HS18.out
            go_wp2_with fail
            refine (HSU2.out _ _ _ _ _ (HB7.out _ HS18.out)).mono ?_
            rintro e w19 ⟨vp, vc, rfl, hgo, t19⟩
            have HT19 := Lib.hid (HT7.out.trans (HS18.out.trans t19))
            have HU19 := Lib.hid (And.intro (HU18.out.on t19) (hgo.at' (fun _ => rfl) (Nat.le_refl _)))
            have HO19 := Lib.hid (And.intro (HO18.out.1.on t19) (And.intro (HO18.out.2.1.on t19) (HO18.out.2.2.on t19)))
            clear c0 c1 c2 hgo t19 HSU2 HO18 HS18 HU18 HB7 HDE HCE HT7
            go_wp2_with fail
            go_loopw [254] (fun i wr => ∃ k : Nat, k ≤ nub ∧ i = (.int .i64 k) ∧ Hid (Turned (fun _ => False) w19 wr)) (fun i _ => nub - (intOf i).toNat)
            case atStart => exact ⟨0, Nat.zero_le _, rfl, Lib.hid (Turned.refl _ _)⟩
            case round =>
              obtain ⟨k, hk, rfl, HI⟩ := hrel
              by_cases hlt : k < nub
              · have hx : ub[k]? = some (ub[k]'(by rw [HLEN.out.2.2.2.1]; exact hlt)) := List.getElem?_eq_getElem _
                obtain ⟨x, hxe⟩ : ∃ u, ub[k]'(by rw [HLEN.out.2.2.2.1]; exact hlt) = u := ⟨_, rfl⟩
                rw [hxe] at hx
                have HFA := Lib.hid (foundTo_all (HSUR.out x (List.mem_of_getElem? hx)) HLEN.out.2.2.2.2)
                obtain ⟨bs, az, rfl, -, e0⟩ := (HU19.out.1.turned HI.out).ints hx
                have hk0 : (0 : Int) ≤ k := by omega
                have hk1 : (k : Int) < nub := by omega
                obtain ⟨wo, rfl⟩ : ∃ wo, wo = wr := ⟨_, rfl⟩
                clear hx hxe
                go_wp2_with fail
                clear e0
                go_loopw [32, 260] (fun v i wv => ∃ j : Nat, j ≤ nua ∧ i = (.int .i64 j) ∧ v = .bool (foundTo ua x j) ∧ Hid (Turned (fun _ => False) w19 wv)) (fun _ i _ => nua - (intOf i).toNat)
                case atStart => exact ⟨0, Nat.zero_le _, rfl, rfl, HI⟩
                case round =>
                  obtain ⟨j, hj, rfl, rfl, HJ⟩ := hrel
                  by_cases hjl : j < nua
                  · have hy : ua[j]? = some (ua[j]'(by rw [HLEN.out.2.2.2.2]; exact hjl)) := List.getElem?_eq_getElem _
                    obtain ⟨y, hye⟩ : ∃ u, ua[j]'(by rw [HLEN.out.2.2.2.2]; exact hjl) = u := ⟨_, rfl⟩
                    rw [hye] at hy
                    have HFS := Lib.hid (foundTo_succ (x := x) hy)
                    obtain ⟨bv, av, rfl, -, e0⟩ := (HU19.out.2.turned HJ.out).ints hy
                    have hj0 : (0 : Int) ≤ j := by omega
                    have hj1 : (j : Int) < nua := by omega
                    obtain ⟨f, hf⟩ : ∃ f, foundTo ua x j = f := ⟨_, rfl⟩
                    rw [hf] at HFS ⊢
                    clear hy hye hf
                    cases f with
                    | true =>
                      go_wp2_with fail
                      go_roundw
                      case rel => exact ⟨j + 1, by omega, by go_num, by rw [HFS.out]; rfl, HJ⟩
                      case measure => simp [intOf]; omega
                    | false =>
                      go_wp2_with fail
                      go_roundw
                      case rel => exact ⟨j + 1, by omega, by go_num, by rw [HFS.out, Bool.false_or], HJ⟩
                      case measure => simp [intOf]; omega
                  · obtain rfl : nua = j := by omega
                    rw [HFA.out]
                    go_wp2_with fail
                    go_roundw
                    case rel => exact ⟨k + 1, by omega, by go_num, HJ⟩
                    case measure => simp [intOf]; omega
              · obtain rfl : nub = k := by omega
                obtain ⟨w20, rfl⟩ : ∃ w20, w20 = wr := ⟨_, rfl⟩
                have HI20 := HI
                clear HI hlt hk
                have hmm : ∀ w : World, (Instr.makeMap 79 none).run Tryz.prog w = .ok (.map (some w.heap.size)) (w.alloc (.map #[] 0)) := fun w => rfl
                go_upto_region 42 with fail
                have hmr := MapR.made w20
                have T21 := (Turned.refl (fun _ => False) w20).alloc (.map #[] 0)
                have hsz : (w20.alloc (.map #[] 0)).heap.size = w20.heap.size + 1 := by simp
                obtain ⟨w21, hw21⟩ : ∃ w, w = w20.alloc (.map #[] 0) := ⟨_, rfl⟩
                obtain ⟨M, hM⟩ : ∃ m, w20.heap.size = m := ⟨_, rfl⟩
                rw [← hw21] at hmr T21 hsz ⊢
                rw [hM] at hmr hsz ⊢
                have HMR := Lib.hid hmr
                have HT21 := Lib.hid (HI20.out.trans T21)
                have HSM := Lib.hid (And.intro hsz (Nat.le_trans HI20.out.size (Nat.le_of_eq hM)))
                obtain ⟨nt, hnt⟩ : ∃ n, nob + nom = n := ⟨_, rfl⟩
                have hlt2 : (ob ++ om).length = nt := by rw [List.length_append, HLEN.out.1, HLEN.out.2.2.1, hnt]
                have hnt' : nt ≤ 24 := by omega
                have HNT := Lib.hid hlt2
                clear hmm hmr T21 hsz hw21 hM hlt2 hnt HI20
                go_wp2_with (at_builtin; (first
                  | (have hq := HG1; clear hq; (refine app_orders w22 rfl _ _ rfl w21.heap.size w19.heap.size nom nt (.slice sp1 nob sc1) ob om _ _ HLEN.out.2.2.1 HNT.out rfl rfl HG1.out.1 HG1.out.2.1 HG1.out.2.2.1 (by omega) ?_); intro sp2 sc2 w23 hgr ht; have HG2 := Lib.hid (And.intro hgr (HG1.out.2.2.2.trans ht)); clear hgr ht)
                  | ((refine app_orders (w21.alloc (.cells #[] 70)) rfl _ _ rfl w21.heap.size w19.heap.size nob nob (.slice (some ⟨w21.heap.size, 0, none⟩) 0 0) [] ob _ _ HLEN.out.1 HLEN.out.1 rfl rfl (Grown.hollow (World.alloc_heap_new _ _) (Nat.le_refl _)) ((HO19.out.1.turned HT21.out).turned ((Turned.refl (fun _ => False) w21).alloc _)) (by simp) (by omega) ?_); intro sp1 sc1 w22 hgr ht; have TX := (((Turned.refl (fun g => w21.heap.size ≤ g) w21).alloc (.cells #[] 70)).trans ht); have HG1 := Lib.hid (And.intro hgr (And.intro ((HO19.out.2.2.turned HT21.out).same (TX.same HT21.out.size (fun k hk h => by have := HT21.out.size; omega))) (And.intro TX.size TX))); clear hgr ht TX)))
                have HMR23 := Lib.hid (HMR.out.turned HG2.out.2 (fun h => by have := HSM.out.1; omega))
                have HT23 := Lib.hid (HT21.out.fresh HG2.out.2 fun g hg => Nat.le_trans HT21.out.size hg)
                obtain ⟨al, hal⟩ : ∃ l, ob ++ om = l := ⟨_, rfl⟩
                have hga := HG2.out.1
                rw [hal] at hga HNT HGIV HMANY HCB
                have HGA := Lib.hid hga
                clear hga hal HG1 HG2 HMR HT21 HOM
                go_loopw [281] (fun i wr => ∃ j : Nat, j ≤ nt ∧ i = (.int .i64 j) ∧ Hid (MapR wr M j (givenK (al.take j)) (givenF (al.take j)) ∧ Turned (fun i => i = M) w23 wr)) (fun i _ => nt - (intOf i).toNat)
                case atStart => exact ⟨0, Nat.zero_le _, rfl, Lib.hid ⟨HMR23.out, Turned.refl _ _⟩⟩
                case round =>
                  obtain ⟨j, hj, rfl, HI⟩ := hrel
                  by_cases hlt : j < nt
                  · have hx : al[j]? = some (al[j]'(by rw [HNT.out]; exact hlt)) := List.getElem?_eq_getElem _
                    obtain ⟨⟨ok, ⟨un, ux, ud⟩⟩, hxe⟩ : ∃ u, al[j]'(by rw [HNT.out]; exact hlt) = u := ⟨_, rfl⟩
                    rw [hxe] at hx
                    have hst : al.take (j + 1) = al.take j ++ [⟨ok, ⟨un, ux, ud⟩⟩] := by
                      obtain ⟨h1, h2⟩ := List.getElem?_eq_some_iff.1 hx
                      rw [List.take_succ_eq_append_getElem h1, h2]
                    have HST := Lib.hid hst
                    have HOB := Lib.hid (HCB.out _ (List.mem_of_getElem? hx))
                    obtain ⟨b, a, rfl, -, e0, e1, e2, e3⟩ := ((HGA.out.apart HI.out.2 fun g hg h => by have := (HGA.out.own_lt hg).1; have := HSM.out.1; omega).at' (fun _ => rfl) (Nat.le_refl _)).orders hx
                    have TA := (Turned.refl (fun _ => False) wr).alloc (.cells #[(.int .i64 ok), .bool un, .string ux, .string ud] 70)
                    have HMA := Lib.hid (HI.out.1.turned TA id)
                    have HTA := Lib.hid (HI.out.2.trans (TA.mono fun _ h => h.elim))
                    have hk0 : (0 : Int) ≤ j := by omega
                    have hk1 : (j : Int) < nt := by omega
                    clear hx hxe hst TA
                    go_wp2_with (at_mapUpdate; refine put_mapR _ rfl _ _ _ rfl M j _ _ rfl HMA.out (by unfold maxLen; omega) ok HOB.out ⟨un, ux, ud⟩ rfl rfl ?_; intro w24 hm4 ht4; have HS := Lib.hid (And.intro hm4 ht4); clear hm4 ht4)
                    go_roundw
                    case rel => exact ⟨j + 1, by omega, by go_num, Lib.hid ⟨by rw [HST.out, givenF_snoc, givenK_snoc]; exact HS.out.1, HTA.out.trans HS.out.2⟩⟩
                    case measure => simp [intOf]; omega
                  · obtain rfl : nt = j := by omega
                    obtain ⟨w24, rfl⟩ : ∃ w24, w24 = wr := ⟨_, rfl⟩
                    have hmr := HI.out.1
                    rw [List.take_of_length_le (Nat.le_of_eq HNT.out)] at hmr
                    have hkl : (givenK al).length = noa := HMANY.out _ hmr.keys.1 hmr.keys.2
                    have hlen := hmr.len
                    rw [hkl] at hlen
                    have HMR24 := Lib.hid hmr
                    have HT24 := Lib.hid (HT23.out.fresh HI.out.2 fun g hg => by have := HSM.out.2; omega)
                    have HO24 := Lib.hid (HO19.out.2.1.turned HT24.out)
                    clear hmr hkl HI hlt hj HMR23
                    go_wp2_with fail
                    clear hlen
                    go_loopw [298] (fun i wr => ∃ k : Nat, k ≤ noa ∧ i = (.int .i64 k) ∧ Hid (Turned (fun _ => False) w24 wr)) (fun i _ => noa - (intOf i).toNat)
                    case atStart => exact ⟨0, Nat.zero_le _, rfl, Lib.hid (Turned.refl _ _)⟩
                    case round =>
                      obtain ⟨k, hk, rfl, HI⟩ := hrel
                      by_cases hlt : k < noa
                      · have hx : oa[k]? = some (oa[k]'(by rw [HLEN.out.2.1]; exact hlt)) := List.getElem?_eq_getElem _
                        obtain ⟨⟨ok, ⟨un, ux, ud⟩⟩, hxe⟩ : ∃ u, oa[k]'(by rw [HLEN.out.2.1]; exact hlt) = u := ⟨_, rfl⟩
                        rw [hxe] at hx
                        have hmem := List.mem_of_getElem? hx
                        have hgv := HGIV.out _ hmem
                        obtain ⟨b, a, rfl, -, e0, e1, e2, e3⟩ := (HO24.out.turned HI.out).orders hx
                        have TA := (Turned.refl (fun _ => False) wr).alloc (.cells #[(.int .i64 ok), .bool un, .string ux, .string ud] 70)
                        have hrun := ((HMR24.out.turned HI.out id).turned TA id).look (HCA.out _ hmem)
                        rw [show (⟨ok, ⟨un, ux, ud⟩⟩ : Or).claim = ok from rfl] at hrun hgv
                        rw [hgv] at hrun
                        have hss : sameR ⟨un, ux, ud⟩ ⟨un, ux, ud⟩ = true := sameR_iff.2 rfl
                        have hk0 : (0 : Int) ≤ k := by omega
                        have hk1 : (k : Int) < noa := by omega
                        have HTA := Lib.hid (HI.out.trans TA)
                        clear hx hxe hmem hgv TA
                        go_wp2_with fail
                        go_roundw
                        case rel => exact ⟨k + 1, by omega, by go_num, Lib.hid (HTA.out.alloc _)⟩
                        case measure => simp [intOf]; omega
                      · obtain rfl : noa = k := by omega
                        have HTE := Lib.hid (HT24.out.trans HI.out)
                        clear HI hlt hk
                        go_wp2_with fail
                        refine (lawSane_any _).mono ?_
                        rintro e w25 ⟨rfl, t25⟩
                        have HT25 := Lib.hid (HT19.out.trans (HTE.out.trans t25))
                        clear t25
                        go_wp2_with fail
                        go_ret
                        exact ⟨rfl, HT0.out.trans HT25.out⟩
  · have hb : (b3 && b1 && b2) = false := by
      cases b3 <;> cases b1 <;> cases b2 <;> first | rfl | exact absurd ⟨rfl, rfl, rfl⟩ hbb
    cases b3 <;> cases b1 <;> cases b2
    all_goals first | (exfalso; revert hb; decide) | skip
    all_goals
      go_wp2_with fail
      refine (lawSane_any _).mono ?_
      rintro e w4 ⟨rfl, t3⟩
      have HT4 := Lib.hid (HT3.out.trans t3)
      clear t3
      go_wp2_with fail
      go_ret
      exact ⟨rfl, HT0.out.trans HT4.out⟩
end Go.Proofs.YtanhhdndgkhcfaaGreatDoor
