/- Part 24 of the proof of lawDue.card: OrdMatters, OrdSaneA. Conditions: those of each theorem. -/
import Derived.Test.YtanhhdndgkhcfaaGreatDoorDt01
import Derived.Test.YtanhhdndgkhcfaaGreatDoorDt20
import Derived.Test.YtanhhdndgkhcfaaGreatDoorDt23
namespace Go.Proofs.YtanhhdndgkhcfaaGreatDoor
open Go Go.Proofs Go.RowKit
attribute [local go_sem] Oper.semAt_some
attribute [local go_sem ↓] run_eql_rat' run_neq_rat'
set_option maxRecDepth 20000 in
set_option maxHeartbeats 4000000 in
theorem oMattersE_any (rs : List Rc) (us : List Rv) (cs : List Cl) (rp gp cp lp hp : Option Addr) (rc gc cc nl lc nh hc fb cb kb g k n m : Nat) (bn tn : Bool) (bx bd tx td : ByteArray) (W : World) (hr : RivAt W.heap.size W rs rp rc) (hg : At W.heap.size W 3 ratCells us gp gc) (hcl : At W.heap.size W 5 claimCells cs cp cc)
    (hfb : W.heap[fb]? = some (.cells #[.slice rp n rc, .slice lp nl lc, .slice hp nh hc] 25 (0, 0))) (hcb : W.heap[cb]? = some (.cells #[.slice cp m cc] 26 (0, 0))) (hkb : W.heap[kb]? = some (.cells #[(.int .i64 k)] 3 (0, 0)))
    (hn : rs.length = n) (hm : cs.length = m) (hul : us.length = n) (hgn : g < n) (hkm : k < m)
    (hok : supE rs (us.set g ⟨bn, bx, bd⟩) cs = 0) (hn8 : n ≤ 8) (hm12 : m ≤ 12) (su : ∀ u ∈ us, SzR u 20) (sb : SzR ⟨bn, bx, bd⟩ 20) (sc : ∀ c ∈ cs, SzR c.amt 20) :
    Calls Tryz.prog 47 #[.slice gp n gc, (.int .i64 g), .agg #[.bool bn, .string bx, .string bd], .agg #[.bool tn, .string tx, .string td], .pointer (some ⟨fb, 0, none⟩), .pointer (some ⟨cb, 0, none⟩), .pointer (some ⟨kb, 0, none⟩)] W fun e w' =>
      e = .returned (.bool (!sameR ((takesR rs cs (us.set g ⟨bn, bx, bd⟩)).getD k zeroR) ⟨tn, tx, td⟩)) ∧ Turned (fun _ => False) W w' := by
  have HT := Lib.hid (fun A (hA : Turned (fun _ => False) W A) (op : Option Addr) (oc : Nat) (ho : At A.heap.size A 3 ratCells (us.set g ⟨bn, bx, bd⟩) op oc) => hTakes_any rs (us.set g ⟨bn, bx, bd⟩) cs rp op cp rc oc cc A ((hr.turned hA).mono hA.size) ho (hcl.on hA) hok (by rw [hn]; exact hn8) (by rw [hm]; exact hm12)
    (fun u hu => by
      rcases List.mem_or_eq_of_mem_set hu with h | h
      · exact su u h
      · rw [h]; exact sb) sc)
  rw [List.length_set, hn, hm, hul] at HT
  have htl : (takesR rs cs (us.set g ⟨bn, bx, bd⟩)).length = m := by rw [← hm]; exact repL_len _ _
  obtain ⟨tl, htq⟩ : ∃ t, takesR rs cs (us.set g ⟨bn, bx, bd⟩) = t := ⟨_, rfl⟩
  rw [htq] at HT htl ⊢
  have hy : tl[k]? = some (tl[k]'(by rw [htl]; exact hkm)) := List.getElem?_eq_getElem _
  obtain ⟨⟨yn, yx, yd⟩, hye⟩ : ∃ u, tl[k]'(by rw [htl]; exact hkm) = u := ⟨_, rfl⟩
  rw [hye] at hy
  rw [getD_of hy]
  obtain ⟨s, hs⟩ : ∃ s, sameR ⟨yn, yx, yd⟩ ⟨tn, tx, td⟩ = s := ⟨_, rfl⟩
  rw [hs]
  have HY := Lib.hid hy
  have HUL := Lib.hid hul
  have HGA := Lib.hid hg
  have HBX := Lib.hid (And.intro hfb (And.intro hcb hkb))
  have hmk : ∀ w : World, (Instr.makeSlice 23 (.int .i64 n) (.int .i64 n)).run Tryz.prog w = .ok (.slice (some ⟨w.heap.size, 0, none⟩) n n) (w.alloc (.cells (madeCells #[.bool false, .string ⟨#[]⟩, .string ⟨#[]⟩] (n * 3)) 68)) := fun w => make_rats w n (by omega)
  have T3 := (((Turned.refl (fun _ => False) W).alloc (.cells #[.bool bn, .string bx, .string bd] 68)).alloc (.cells #[.bool tn, .string tx, .string td] 68)).alloc (.cells (madeCells #[.bool false, .string ⟨#[]⟩, .string ⟨#[]⟩] (n * 3)) 68)
  have q0 := keepB ((Turned.refl (fun _ => False) _).alloc (.cells (madeCells #[.bool false, .string ⟨#[]⟩, .string ⟨#[]⟩] (n * 3)) 68)) (new_first W (.cells #[.bool bn, .string bx, .string bd] 68) (.cells #[.bool tn, .string tx, .string td] 68))
  have q1 := keepB ((Turned.refl (fun _ => False) _).alloc (.cells (madeCells #[.bool false, .string ⟨#[]⟩, .string ⟨#[]⟩] (n * 3)) 68)) (new_second W (.cells #[.bool bn, .string bx, .string bd] 68) (.cells #[.bool tn, .string tx, .string td] 68))
  have q2 := OwnR.made ((W.alloc (.cells #[.bool bn, .string bx, .string bd] 68)).alloc (.cells #[.bool tn, .string tx, .string td] 68)) n
  have q3 : ((W.alloc (.cells #[.bool bn, .string bx, .string bd] 68)).alloc (.cells #[.bool tn, .string tx, .string td] 68)).heap.size = W.heap.size + 1 + 1 := by simp
  rw [q3] at q2
  obtain ⟨w3, hw3⟩ : ∃ w, w = (((W.alloc (.cells #[.bool bn, .string bx, .string bd] 68)).alloc (.cells #[.bool tn, .string tx, .string td] 68)).alloc (.cells (madeCells #[.bool false, .string ⟨#[]⟩, .string ⟨#[]⟩] (n * 3)) 68)) := ⟨_, rfl⟩
  rw [← hw3] at T3 q0 q1 q2
  have HQ := Lib.hid (And.intro q0 (And.intro q1 (And.intro q2 T3)))
  obtain ⟨w4, hrun, ho4, ht4⟩ := run_copy_rats (ty := 3) w3 q2 (by rw [List.length_replicate, hul]) (hg.turned T3)
  rw [hul, hw3] at hrun
  have hst := OwnR.set ho4 (i := g) (by rw [hul]; exact hgn) ⟨bn, bx, bd⟩
  obtain ⟨⟨zn, zx, zd⟩, hz⟩ : ∃ u, us[g]? = some u := ⟨_, List.getElem?_eq_getElem (by rw [hul]; exact hgn)⟩
  obtain ⟨p0, p1, p2⟩ := OwnR.cells ho4 hz
  have p3 := OwnR.free ho4 (g * 3)
  have p4 := OwnR.free ho4 (g * 3 + 1)
  have p5 := OwnR.free ho4 (g * 3 + 2)
  have hbw : ¬ W.heap.size = W.heap.size + 1 + 1 := by omega
  obtain ⟨r0, r1, r2, -, -, -⟩ := box3 ((ht4.block W.heap.size (getElem?_lt q0) hbw).trans q0)
  have HS4 := Lib.hid (And.intro ht4 hst)
  have hg0 : (0 : Int) ≤ g := by omega
  have hg1 : (g : Int) < n := by omega
  have hk0 : (0 : Int) ≤ k := by omega
  have hk1 : (k : Int) < m := by omega
  have hnm : (n : Int) ≤ 8 := by omega
  clear hr hg hcl hfb hcb hkb hn hm hul hok hn8 hm12 su sb sc htl htq hy hye q0 q1 q2 q3 T3 hst ho4 ht4 hbw hw3 hz
  go_enter Tryz.func47, Tryz.ntmps47
  go_wp2_with fail
  obtain ⟨w5, hw5⟩ : ∃ w, w = ((w4.setCell ⟨W.heap.size + 1 + 1, g * 3, none⟩ (.bool bn)).setCell ⟨W.heap.size + 1 + 1, g * 3 + 1, none⟩ (.string bx)).setCell ⟨W.heap.size + 1 + 1, g * 3 + 2, none⟩ (.string bd) := ⟨_, rfl⟩
  rw [← hw5]
  have HS5 : Hid (OwnR w5 (W.heap.size + 1 + 1) (us.set g ⟨bn, bx, bd⟩) ∧ Turned (fun i => i = W.heap.size + 1 + 1) w3 w5) := Lib.hid (by
    rw [hw5]
    exact ⟨HS4.out.2.1, HS4.out.1.trans HS4.out.2.2⟩)
  have HT5 : Hid (Turned (fun _ => False) W w5) := Lib.hid (HQ.out.2.2.2.fresh HS5.out.2 fun g hg => by omega)
  have HBT : Hid (w5.heap[W.heap.size + 1]? = some (.cells #[.bool tn, .string tx, .string td] 68 (0, 0))) := Lib.hid ((HS5.out.2.block (W.heap.size + 1) (getElem?_lt HQ.out.2.1) (by omega)).trans HQ.out.2.1)
  have HAT := Lib.hid (HS5.out.1.at_ HS5.out.1.lt (by rw [List.length_set, HUL.out]; unfold maxLen; omega))
  have CE : ∀ A, Turned (fun _ => False) w5 A → (A.cell? ⟨fb, 0, none⟩ = some (.slice rp n rc) ∧ A.cell? ⟨fb, 1, none⟩ = some (.slice lp nl lc) ∧ A.cell? ⟨fb, 2, none⟩ = some (.slice hp nh hc)) ∧ A.cell? ⟨cb, 0, none⟩ = some (.slice cp m cc) := fun A hA => by
    have h0 := keepB hA (keepB HT5.out HBX.out.1)
    have h1 := keepB hA (keepB HT5.out HBX.out.2.1)
    exact ⟨⟨by simp [World.cell?, h0], by simp [World.cell?, h0], by simp [World.cell?, h0]⟩, by simp [World.cell?, h1]⟩
  have HCE := Lib.hid CE
  have HD := Lib.hid ((Turned.refl (fun _ => False) w5).drew)
  have HK0 := Lib.hid (CE _ (Turned.refl (fun _ => False) w5).drew)
  have hal : (us.set g ⟨bn, bx, bd⟩).length = n := by rw [List.length_set, HUL.out]
  rw [hal] at HAT
  have HTK := Lib.hid (fun A (hA : Turned (fun _ => False) w5 A) => HT.out A (HT5.out.trans hA) _ _ (HAT.out.on hA))
  clear CE hw5 p0 p1 p2 p3 p4 p5 r0 r1 r2 hmk hrun hal
  go_region_held3 (fun V => (V.cell? ⟨fb, 0, none⟩ = some (.slice rp n rc) ∧ V.cell? ⟨fb, 1, none⟩ = some (.slice lp nl lc) ∧ V.cell? ⟨fb, 2, none⟩ = some (.slice hp nh hc)) ∧ V.cell? ⟨cb, 0, none⟩ = some (.slice cp m cc))
    (first | exact HK2.out | exact HK1.out | exact HK0.out | go_keep)
    (first
      | (have hq := HK1; clear hq; go_at_call 28; refine (HTK.out _ HT1.out).mono ?_; rintro e w7 ⟨tk, rfl, h1, h2, -, t2⟩; have HT2 := Lib.hid (HT1.out.trans t2); have HK2 : Hid _ := Lib.hid (HCE.out _ HT2.out); have HR := Lib.hid h2; clear h1 h2 t2)
      | (go_at_call 41; refine (oSupply_any rp lp hp (some ⟨W.heap.size + 1 + 1, 0, none⟩) n nl nh n rc lc hc n _).mono ?_; rintro e w6 ⟨rfl, t1⟩; have HT1 := Lib.hid (HD.out.trans t1); have HK1 : Hid _ := Lib.hid (HCE.out _ HT1.out); clear t1))
  have hkc := cell_of_box (keepB HT2.out (keepB HT5.out HBX.out.2.2))
  obtain ⟨r0, r1, r2, -, -, -⟩ := box3 (keepB HT2.out HBT.out)
  obtain ⟨g0, g1, g2⟩ := HR.out.cells HY.out
  go_wp2_with fail
  go_quiet (fail)
  go_wp2_with fail
  go_ret
  exact ⟨rfl, (HT5.out.trans HT2.out).trans (drewN_turned _ _ nq)⟩
theorem supE_set {rs : List Rc} {us vs : List Rv} {cs : List Cl} (h1 : supE rs us cs = 0) (h2 : supE rs vs cs = 0) {g : Nat} {v : Rv} (hv : v ∈ vs) : supE rs (us.set g v) cs = 0 := by
  have s2 := (supE_zero h2).nat v hv
  have s1 := (supE_zero h1).nat
  have hl := (supE_zero h1).len
  have hall : ((us.set g v).any fun u => !natR u) = false := by
    rw [List.any_eq_false]
    intro u hu
    rcases List.mem_or_eq_of_mem_set hu with h | h
    · rw [s1 u h]; simp
    · rw [h, s2]; simp
  unfold supE at h1 ⊢
  split at h1
  · rename_i h3; exact absurd h1 h3
  rename_i h3
  rw [if_neg h3]
  split at h1
  · cases h1
  rw [if_neg (by rw [List.length_set, hall, hl]; simp)]
  exact h1
def changeB (rs : List Rc) (cs : List Cl) (us vs : List Rv) (k g : Nat) : Bool := !sameR ((takesR rs cs (us.set g (vs.getD g zeroR))).getD k zeroR) ((takesR rs cs us).getD k zeroR)
def matB (rs : List Rc) (cs : List Cl) (lo hi : List Rv) (k g : Nat) : Bool := changeB rs cs hi lo k g || changeB rs cs lo hi k g
def matTo (rs : List Rc) (cs : List Cl) (lo hi : List Rv) (k j : Nat) : List Int := ((List.range j).filter (matB rs cs lo hi k)).map fun (i : Nat) => (i : Int)
theorem matTo_succ (rs : List Rc) (cs : List Cl) (lo hi : List Rv) (k j : Nat) : matTo rs cs lo hi k (j + 1) = if matB rs cs lo hi k j = true then matTo rs cs lo hi k j ++ [(j : Int)] else matTo rs cs lo hi k j := by
  unfold matTo
  rw [List.range_succ, List.filter_append, List.map_append, List.filter_cons, List.filter_nil]
  split <;> simp
theorem matTo_len (rs : List Rc) (cs : List Cl) (lo hi : List Rv) (k j : Nat) : (matTo rs cs lo hi k j).length ≤ j := by
  unfold matTo
  rw [List.length_map]
  exact Nat.le_trans (List.length_filter_le _ _) (Nat.le_of_eq List.length_range)
section
variable {rs : List Rc} {lo hi : List Rv} {cs : List Cl} {rp lp hp cp : Option Addr} {rc lc hc cc : Nat} {W : World}
set_option maxRecDepth 20000 in
set_option maxHeartbeats 8000000 in
theorem oMatters_ok (h : OIn W rs lo hi cs rp lp hp cp rc lc hc cc) (he : ordE rs lo hi cs = 0) (hn8 : rs.length ≤ 8) (hm12 : cs.length ≤ 12) (k : Int) :
    Calls Tryz.prog 17 #[.agg #[.slice rp rs.length rc, .slice lp lo.length lc, .slice hp hi.length hc], .slice cp cs.length cc, (.int .i64 k)] W fun e w' => ((k < 0 ∨ (cs.length : Int) ≤ k) → e = .returned (.tuple #[.slice none 0 0, (.int .i64 8)])) ∧
      (∀ q : Nat, k = q → q < cs.length → ∃ p c, e = .returned (.tuple #[.slice p (matTo rs cs lo hi q rs.length).length c, (.int .i64 0)]) ∧ Grown w' W.heap.size 3 1 intCells (.slice p (matTo rs cs lo hi q rs.length).length c) (matTo rs cs lo hi q rs.length)) ∧ Turned (fun _ => False) W w' := by
  have hO := ordE_zero he
  have HC := Lib.hid (fun A (hA : Turned (fun _ => False) W A) => oLimits_ok (h.on hA) he hn8 hm12)
  have HIN := Lib.hid h
  have HO := Lib.hid hO
  have HRL := Lib.hid hn8
  have HML := Lib.hid hm12
  have hll := hO.low.len
  have hhl := hO.high.len
  obtain ⟨t1, ht1⟩ : ∃ t, takesR rs cs lo = t := ⟨_, rfl⟩
  obtain ⟨t2, ht2⟩ : ∃ t, takesR rs cs hi = t := ⟨_, rfl⟩
  have HTT := Lib.hid (And.intro ht1 ht2)
  have hl1 : t1.length = cs.length := by rw [← ht1]; exact repL_len _ _
  have hl2 : t2.length = cs.length := by rw [← ht2]; exact repL_len _ _
  obtain ⟨n, hnr⟩ : ∃ n, rs.length = n := ⟨_, rfl⟩
  obtain ⟨m, hnc⟩ : ∃ n, cs.length = n := ⟨_, rfl⟩
  rw [hnr] at hll hhl hn8
  rw [hnc] at hl1 hl2 hm12
  rw [hnr, hll, hhl, hnc, ht1, ht2] at HC
  rw [hnr, hll, hhl, hnc]
  have HRS := Lib.hid (And.intro hnr (And.intro hnc (And.intro hll (And.intro hhl (And.intro hl1 hl2)))))
  have hT := (((Turned.refl (fun _ => False) W).alloc (.cells #[.slice rp n rc, .slice lp n lc, .slice hp n hc] 25)).alloc (.cells #[.slice cp m cc] 26)).alloc (.cells #[(.int .i64 k)] 3)
  have d2 := World.alloc_heap_new ((W.alloc (.cells #[.slice rp n rc, .slice lp n lc, .slice hp n hc] 25)).alloc (.cells #[.slice cp m cc] 26)) (.cells #[(.int .i64 k)] 3)
  have d1 := keepB ((Turned.refl (fun _ => False) _).alloc (.cells #[(.int .i64 k)] 3)) (new_second W (.cells #[.slice rp n rc, .slice lp n lc, .slice hp n hc] 25) (.cells #[.slice cp m cc] 26))
  have d0 := keepB ((Turned.refl (fun _ => False) _).alloc (.cells #[(.int .i64 k)] 3)) (new_first W (.cells #[.slice rp n rc, .slice lp n lc, .slice hp n hc] 25) (.cells #[.slice cp m cc] 26))
  have d3 : ((W.alloc (.cells #[.slice rp n rc, .slice lp n lc, .slice hp n hc] 25)).alloc (.cells #[.slice cp m cc] 26)).heap.size = W.heap.size + 1 + 1 := by simp
  rw [d3] at d2
  obtain ⟨w0, hw0⟩ : ∃ w, w = (((W.alloc (.cells #[.slice rp n rc, .slice lp n lc, .slice hp n hc] 25)).alloc (.cells #[.slice cp m cc] 26)).alloc (.cells #[(.int .i64 k)] 3)) := ⟨_, rfl⟩
  rw [← hw0] at hT d0 d1 d2
  have CE : ∀ A, Turned (fun _ => False) w0 A → (A.cell? ⟨W.heap.size, 0, none⟩ = some (.slice rp n rc) ∧ A.cell? ⟨W.heap.size, 1, none⟩ = some (.slice lp n lc) ∧ A.cell? ⟨W.heap.size, 2, none⟩ = some (.slice hp n hc)) ∧ A.cell? ⟨W.heap.size + 1, 0, none⟩ = some (.slice cp m cc) ∧ A.cell? ⟨W.heap.size + 1 + 1, 0, none⟩ = some (.int .i64 k) := fun A hA => by
    have h0 := keepB hA d0
    have h1 := keepB hA d1
    have h2 := keepB hA d2
    exact ⟨⟨by simp [World.cell?, h0], by simp [World.cell?, h0], by simp [World.cell?, h0]⟩, by simp [World.cell?, h1], by simp [World.cell?, h2]⟩
  have HCE := Lib.hid CE
  have HDD := Lib.hid (And.intro d0 (And.intro d1 d2))
  have HT := Lib.hid hT
  obtain ⟨⟨c0, c1, c2⟩, c3, c4⟩ := CE w0 (Turned.refl _ _)
  rw [hw0] at c0 c1 c2 c3 c4
  have hmi : (m : Int) ≤ 12 := by omega
  have hni : (n : Int) ≤ 8 := by omega
  clear h he hO hnr hnc hn8 hm12 hll hhl hl1 hl2 ht1 ht2 hT d0 d1 d2 d3 CE
  go_enter Tryz.func17, Tryz.ntmps17
  go_wp2_with fail
  rw [← hw0]
  refine (HC.out _ HT.out).mono ?_
  rintro e w1 ⟨ta, tb, rfl, hab, hoa, hob, -, tt⟩
  have HT1 := Lib.hid tt
  have HOA := Lib.hid (And.intro hoa hob)
  obtain ⟨⟨f0, f1, f2⟩, f3, f4⟩ := HCE.out w1 tt
  clear hab hoa hob tt hw0 c0 c1 c2 c3 c4 HC
  by_cases g1 : k < 0
  · go_wp2_with fail
    go_ret2
    exact ⟨fun _ => rfl, fun q hq _ => by omega, HT.out.trans HT1.out⟩
  by_cases g2 : (m : Int) ≤ k
  · go_wp2_with fail
    go_ret2
    exact ⟨fun _ => rfl, fun q hq hq2 => by omega, HT.out.trans HT1.out⟩
  obtain ⟨q, rfl⟩ : ∃ q : Nat, k = q := ⟨k.toNat, by omega⟩
  have gq : decide ((q : Int) < 0) = false := decide_eq_false g1
  have gm : decide (m ≤ q) = false := decide_eq_false (by omega)
  go_wp2_with fail
  have HQM : Hid (q < m) := Lib.hid (by omega)
  go_loopw [12, 36] (fun v i wr => ∃ (j : Nat) (p : Option Addr) (c : Nat), j ≤ n ∧ i = (.int .i64 j) ∧ v = .slice p (matTo rs cs lo hi q j).length c ∧ Hid (Grown wr w1.heap.size 3 1 intCells (.slice p (matTo rs cs lo hi q j).length c) (matTo rs cs lo hi q j) ∧ Turned (fun _ => False) w1 wr)) (fun _ i _ => n - (intOf i).toNat)
  case atStart => exact ⟨0, none, 0, Nat.zero_le _, rfl, rfl, Lib.hid ⟨Grown.nil _ _ _ _ _, Turned.refl _ _⟩⟩
  case round =>
    clear f0 f1 f2 f3 f4 gq gm
    obtain ⟨j, p, c, hj, rfl, rfl, HI⟩ := hrel
    by_cases hlt : j < n
    · have hx : lo[j]? = some (lo[j]'(by rw [HRS.out.2.2.1]; exact hlt)) := List.getElem?_eq_getElem _
      obtain ⟨⟨xn, xx, xd⟩, hxe⟩ : ∃ u, lo[j]'(by rw [HRS.out.2.2.1]; exact hlt) = u := ⟨_, rfl⟩
      rw [hxe] at hx
      have hy : hi[j]? = some (hi[j]'(by rw [HRS.out.2.2.2.1]; exact hlt)) := List.getElem?_eq_getElem _
      obtain ⟨⟨yn, yx, yd⟩, hye⟩ : ∃ u, hi[j]'(by rw [HRS.out.2.2.2.1]; exact hlt) = u := ⟨_, rfl⟩
      rw [hye] at hy
      have hsq : t1[q]? = some (t1[q]'(by rw [HRS.out.2.2.2.2.1]; exact HQM.out)) := List.getElem?_eq_getElem _
      obtain ⟨⟨sn, sx, sd⟩, hse⟩ : ∃ u, t1[q]'(by rw [HRS.out.2.2.2.2.1]; exact HQM.out) = u := ⟨_, rfl⟩
      rw [hse] at hsq
      have hzq : t2[q]? = some (t2[q]'(by rw [HRS.out.2.2.2.2.2]; exact HQM.out)) := List.getElem?_eq_getElem _
      obtain ⟨⟨zn, zx, zd⟩, hze⟩ : ∃ u, t2[q]'(by rw [HRS.out.2.2.2.2.2]; exact HQM.out) = u := ⟨_, rfl⟩
      rw [hze] at hzq
      have hTW : Turned (fun _ => False) W wr := HT.out.trans (HT1.out.trans HI.out.2)
      have HTW := Lib.hid hTW
      have hin := HIN.out.on hTW
      obtain ⟨b, a, hlp, -, e0, e1, e2⟩ := hin.fc.lo.rats hx
      obtain ⟨b', a', hhp, -, k0, k1, k2⟩ := hin.fc.hi.rats hy
      obtain ⟨l0, l1, l2⟩ := (HOA.out.1.turned HI.out.2 id).cells hsq
      obtain ⟨j0, j1, j2⟩ := (HOA.out.2.turned HI.out.2 id).cells hzq
      obtain ⟨c1, hc1⟩ : ∃ b, changeB rs cs hi lo q j = b := ⟨_, rfl⟩
      obtain ⟨c2, hc2⟩ : ∃ b, changeB rs cs lo hi q j = b := ⟨_, rfl⟩
      have HCH1 := Lib.hid (fun A (hA : Turned (fun _ => False) wr A) => by
        have hin2 := HIN.out.on (hTW.trans hA)
        have hK := fun b o hb => keepB (HT1.out.trans (HI.out.2.trans hA)) (b := b) (o := o) hb
        have h := oMattersE_any rs hi cs rp hp cp lp hp rc hc cc n lc n hc W.heap.size (W.heap.size + 1) (W.heap.size + 1 + 1) j q n m xn zn xx xd zx zd A hin2.fc.riv hin2.fc.hi hin2.cl (hK _ _ HDD.out.1) (hK _ _ HDD.out.2.1) (hK _ _ HDD.out.2.2) HRS.out.1 HRS.out.2.1 HRS.out.2.2.2.1 hlt HQM.out
          (supE_set HO.out.e2 HO.out.e1 (List.mem_of_getElem? hx)) (by have := HRL.out; rw [HRS.out.1] at this; exact this) (by have := HML.out; rw [HRS.out.2.1] at this; exact this) hin2.sh (hin2.sl _ (List.mem_of_getElem? hx)) hin2.sc
        rw [show (!sameR ((takesR rs cs (hi.set j ⟨xn, xx, xd⟩)).getD q zeroR) ⟨zn, zx, zd⟩) = c1 by rw [← hc1]; unfold changeB; rw [getD_of hx, HTT.out.2, getD_of hzq]] at h
        exact h)
      have HCH2 := Lib.hid (fun A (hA : Turned (fun _ => False) wr A) => by
        have hin2 := HIN.out.on (hTW.trans hA)
        have hK := fun b o hb => keepB (HT1.out.trans (HI.out.2.trans hA)) (b := b) (o := o) hb
        have h := oMattersE_any rs lo cs rp lp cp lp hp rc lc cc n lc n hc W.heap.size (W.heap.size + 1) (W.heap.size + 1 + 1) j q n m yn sn yx yd sx sd A hin2.fc.riv hin2.fc.lo hin2.cl (hK _ _ HDD.out.1) (hK _ _ HDD.out.2.1) (hK _ _ HDD.out.2.2) HRS.out.1 HRS.out.2.1 HRS.out.2.2.1 hlt HQM.out
          (supE_set HO.out.e1 HO.out.e2 (List.mem_of_getElem? hy)) (by have := HRL.out; rw [HRS.out.1] at this; exact this) (by have := HML.out; rw [HRS.out.2.1] at this; exact this) hin2.sl (hin2.sh _ (List.mem_of_getElem? hy)) hin2.sc
        rw [show (!sameR ((takesR rs cs (lo.set j ⟨yn, yx, yd⟩)).getD q zeroR) ⟨sn, sx, sd⟩) = c2 by rw [← hc2]; unfold changeB; rw [getD_of hy, HTT.out.1, getD_of hsq]] at h
        exact h)
      rw [hlp] at HCH2
      rw [hhp] at HCH1
      subst hlp
      subst hhp
      have HMT := Lib.hid (matTo_succ rs cs lo hi q j)
      rw [show matB rs cs lo hi q j = (c1 || c2) by unfold matB; rw [hc1, hc2]] at HMT
      have hlen := matTo_len rs cs lo hi q j
      obtain ⟨⟨f0, f1, f2⟩, f3, f4⟩ := HCE.out wr (HT1.out.trans HI.out.2)
      have TD := (Turned.refl (fun _ => False) wr).drew
      have HK0 : Hid ((wr.drew.cell? ⟨W.heap.size, 1, none⟩ = some (.slice (some ⟨b, a, none⟩) n lc) ∧ wr.drew.cell? ⟨W.heap.size, 2, none⟩ = some (.slice (some ⟨b', a', none⟩) n hc) ∧ wr.drew.cell? ⟨W.heap.size + 1 + 1, 0, none⟩ = some (.int .i64 q)) ∧ (wr.drew.cell? ⟨b, a + j * 3, none⟩ = some (.bool xn) ∧ wr.drew.cell? ⟨b, a + j * 3 + 1, none⟩ = some (.string xx) ∧ wr.drew.cell? ⟨b, a + j * 3 + 2, none⟩ = some (.string xd)) ∧ (wr.drew.cell? ⟨b', a' + j * 3, none⟩ = some (.bool yn) ∧ wr.drew.cell? ⟨b', a' + j * 3 + 1, none⟩ = some (.string yx) ∧ wr.drew.cell? ⟨b', a' + j * 3 + 2, none⟩ = some (.string yd)) ∧ (wr.drew.cell? ⟨ta, q * 3, none⟩ = some (.bool sn) ∧ wr.drew.cell? ⟨ta, q * 3 + 1, none⟩ = some (.string sx) ∧ wr.drew.cell? ⟨ta, q * 3 + 2, none⟩ = some (.string sd)) ∧ (wr.drew.cell? ⟨tb, q * 3, none⟩ = some (.bool zn) ∧ wr.drew.cell? ⟨tb, q * 3 + 1, none⟩ = some (.string zx) ∧ wr.drew.cell? ⟨tb, q * 3 + 2, none⟩ = some (.string zd))) := Lib.hid ⟨⟨cellT TD id f1, cellT TD id f2, cellT TD id f4⟩, ⟨cellT TD id e0, cellT TD id e1, cellT TD id e2⟩, ⟨cellT TD id k0, cellT TD id k1, cellT TD id k2⟩, ⟨cellT TD id l0, cellT TD id l1, cellT TD id l2⟩, cellT TD id j0, cellT TD id j1, cellT TD id j2⟩
      have HD := Lib.hid TD
      have CS : ∀ A, Turned (fun _ => False) wr.drew A → ((A.cell? ⟨W.heap.size, 1, none⟩ = some (.slice (some ⟨b, a, none⟩) n lc) ∧ A.cell? ⟨W.heap.size, 2, none⟩ = some (.slice (some ⟨b', a', none⟩) n hc) ∧ A.cell? ⟨W.heap.size + 1 + 1, 0, none⟩ = some (.int .i64 q)) ∧ (A.cell? ⟨b, a + j * 3, none⟩ = some (.bool xn) ∧ A.cell? ⟨b, a + j * 3 + 1, none⟩ = some (.string xx) ∧ A.cell? ⟨b, a + j * 3 + 2, none⟩ = some (.string xd)) ∧ (A.cell? ⟨b', a' + j * 3, none⟩ = some (.bool yn) ∧ A.cell? ⟨b', a' + j * 3 + 1, none⟩ = some (.string yx) ∧ A.cell? ⟨b', a' + j * 3 + 2, none⟩ = some (.string yd)) ∧ (A.cell? ⟨ta, q * 3, none⟩ = some (.bool sn) ∧ A.cell? ⟨ta, q * 3 + 1, none⟩ = some (.string sx) ∧ A.cell? ⟨ta, q * 3 + 2, none⟩ = some (.string sd)) ∧ (A.cell? ⟨tb, q * 3, none⟩ = some (.bool zn) ∧ A.cell? ⟨tb, q * 3 + 1, none⟩ = some (.string zx) ∧ A.cell? ⟨tb, q * 3 + 2, none⟩ = some (.string zd))) := fun A hA => by
        obtain ⟨⟨a1, a2, a3⟩, ⟨a4, a5, a6⟩, ⟨a7, a8, a9⟩, ⟨b1, b2, b3⟩, b4, b5, b6⟩ := HK0.out
        exact ⟨⟨cellT hA id a1, cellT hA id a2, cellT hA id a3⟩, ⟨cellT hA id a4, cellT hA id a5, cellT hA id a6⟩, ⟨cellT hA id a7, cellT hA id a8, cellT hA id a9⟩, ⟨cellT hA id b1, cellT hA id b2, cellT hA id b3⟩, cellT hA id b4, cellT hA id b5, cellT hA id b6⟩
      have HCS := Lib.hid CS
      have jj0 : (0 : Int) ≤ j := by omega
      have jj1 : (j : Int) < n := by omega
      have qq0 : (0 : Int) ≤ q := by omega
      have qq1 : (q : Int) < m := by omega
      clear hx hxe hy hye hsq hse hzq hze hin e0 e1 e2 k0 k1 k2 l0 l1 l2 j0 j1 j2 hc1 hc2 f0 f1 f2 f3 f4 TD CS hTW g1 g2
      cases c1
      · go_wp2_with fail
        go_region_held3 (fun V => (V.cell? ⟨W.heap.size, 1, none⟩ = some (.slice (some ⟨b, a, none⟩) n lc) ∧ V.cell? ⟨W.heap.size, 2, none⟩ = some (.slice (some ⟨b', a', none⟩) n hc) ∧ V.cell? ⟨W.heap.size + 1 + 1, 0, none⟩ = some (.int .i64 q)) ∧ (V.cell? ⟨b, a + j * 3, none⟩ = some (.bool xn) ∧ V.cell? ⟨b, a + j * 3 + 1, none⟩ = some (.string xx) ∧ V.cell? ⟨b, a + j * 3 + 2, none⟩ = some (.string xd)) ∧ (V.cell? ⟨b', a' + j * 3, none⟩ = some (.bool yn) ∧ V.cell? ⟨b', a' + j * 3 + 1, none⟩ = some (.string yx) ∧ V.cell? ⟨b', a' + j * 3 + 2, none⟩ = some (.string yd)) ∧ (V.cell? ⟨ta, q * 3, none⟩ = some (.bool sn) ∧ V.cell? ⟨ta, q * 3 + 1, none⟩ = some (.string sx) ∧ V.cell? ⟨ta, q * 3 + 2, none⟩ = some (.string sd)) ∧ (V.cell? ⟨tb, q * 3, none⟩ = some (.bool zn) ∧ V.cell? ⟨tb, q * 3 + 1, none⟩ = some (.string zx) ∧ V.cell? ⟨tb, q * 3 + 2, none⟩ = some (.string zd)))
          (first | exact HK2.out | exact HK1.out | exact HK0.out | go_keep)
          (first
            | (have hq := HK1; clear hq; go_at_call 47; refine (HCH2.out _ HU1.out).mono ?_; rintro e w3 ⟨rfl, t3⟩; have HU2 := Lib.hid (HU1.out.trans t3); have HK2 : Hid _ := Lib.hid (HCS.out _ (HV1.out.trans t3)); clear t3)
            | (go_at_call 47; refine (HCH1.out _ HD.out).mono ?_; rintro e w2 ⟨rfl, t3⟩; have HU1 := Lib.hid (HD.out.trans t3); have HV1 := Lib.hid t3; have HK1 : Hid _ := Lib.hid (HCS.out _ t3); clear t3))
        cases c2
        · replace HMT := Lib.hid (HMT.out.trans (if_neg (by simp)))
          go_wp2_with fail
          go_roundw
          case rel => exact ⟨j + 1, p, c, by omega, by go_num, by rw [HMT.out], Lib.hid ⟨by rw [HMT.out]; exact HI.out.1.turned HU2.out fun _ h => h.elim, HI.out.2.trans HU2.out⟩⟩
          case measure => simp [intOf]; omega
        · replace HMT := Lib.hid (HMT.out.trans (if_pos rfl))
          have HG := Lib.hid (HI.out.1.turned HU2.out fun _ h => h.elim)
          have HZ := Lib.hid (Nat.le_trans HI.out.2.size HU2.out.size)
          go_wp2_with (at_builtin; (refine app_int w3 rfl _ _ rfl w1.heap.size (.slice p (matTo rs cs lo hi q j).length c) (j : Int) (matTo rs cs lo hi q j) rfl rfl HG.out HZ.out (by omega) ?_); intro p' c' w9 ho4 ht4; have HS := Lib.hid (And.intro ho4 ht4); clear ho4 ht4)
          go_roundw
          case rel => exact ⟨j + 1, p', c', by omega, by go_num, by rw [HMT.out]; simp, Lib.hid ⟨by rw [HMT.out]; exact HS.out.1, (HI.out.2.trans HU2.out).fresh HS.out.2 fun _ => id⟩⟩
          case measure => simp [intOf]; omega
      · replace HMT := Lib.hid (HMT.out.trans (if_pos rfl))
        go_wp2_with fail
        refine wp_region_plain (S := fun V => (V.cell? ⟨W.heap.size, 1, none⟩ = some (.slice (some ⟨b, a, none⟩) n lc) ∧ V.cell? ⟨W.heap.size, 2, none⟩ = some (.slice (some ⟨b', a', none⟩) n hc) ∧ V.cell? ⟨W.heap.size + 1 + 1, 0, none⟩ = some (.int .i64 q)) ∧ (V.cell? ⟨b, a + j * 3, none⟩ = some (.bool xn) ∧ V.cell? ⟨b, a + j * 3 + 1, none⟩ = some (.string xx) ∧ V.cell? ⟨b, a + j * 3 + 2, none⟩ = some (.string xd)) ∧ (V.cell? ⟨b', a' + j * 3, none⟩ = some (.bool yn) ∧ V.cell? ⟨b', a' + j * 3 + 1, none⟩ = some (.string yx) ∧ V.cell? ⟨b', a' + j * 3 + 2, none⟩ = some (.string yd)) ∧ (V.cell? ⟨ta, q * 3, none⟩ = some (.bool sn) ∧ V.cell? ⟨ta, q * 3 + 1, none⟩ = some (.string sx) ∧ V.cell? ⟨ta, q * 3 + 2, none⟩ = some (.string sd)) ∧ (V.cell? ⟨tb, q * 3, none⟩ = some (.bool zn) ∧ V.cell? ⟨tb, q * 3 + 1, none⟩ = some (.string zx) ∧ V.cell? ⟨tb, q * 3 + 2, none⟩ = some (.string zd))) (by kernel_rfl) ?_
        have hS0 := HK0.out
        refine wpAnyH_take (i := 0) (oi := _) (v := .func (.func 47) #[] #[.pointer (some ⟨W.heap.size, 0, none⟩), .pointer (some ⟨W.heap.size + 1, 0, none⟩), .pointer (some ⟨W.heap.size + 1 + 1, 0, none⟩)]) rfl (by kernel_rfl) (by kernel_rfl) (by kernel_rfl) (fun _ _ _ h => h) (Or.inl ⟨by kernel_rfl, fun V hV => ?_⟩) hS0 ?_
        · obtain ⟨⟨a1, a2, a3⟩, ⟨a4, a5, a6⟩, ⟨a7, a8, a9⟩, ⟨b1, b2, b3⟩, b4, b5, b6⟩ := hV
          go_simp
        refine wpAnyH_take (i := 1) (oi := _) (v := .pointer (some ⟨W.heap.size, 2, none⟩)) rfl (by kernel_rfl) (by kernel_rfl) (by kernel_rfl) (fun _ _ _ h => h) (Or.inl ⟨by kernel_rfl, fun V hV => ?_⟩) hS0 ?_
        · obtain ⟨⟨a1, a2, a3⟩, ⟨a4, a5, a6⟩, ⟨a7, a8, a9⟩, ⟨b1, b2, b3⟩, b4, b5, b6⟩ := hV
          go_simp
        refine wpAnyH_take (i := 2) (oi := _) (v := .slice (some ⟨b', a', none⟩) n hc) rfl (by kernel_rfl) (by kernel_rfl) (by kernel_rfl) (fun _ _ _ h => h) (Or.inl ⟨by kernel_rfl, fun V hV => ?_⟩) hS0 ?_
        · obtain ⟨⟨a1, a2, a3⟩, ⟨a4, a5, a6⟩, ⟨a7, a8, a9⟩, ⟨b1, b2, b3⟩, b4, b5, b6⟩ := hV
          go_simp
        refine wpAnyH_take (i := 3) (oi := _) (v := (.int .i64 j)) rfl (by kernel_rfl) (by kernel_rfl) (by kernel_rfl) (fun _ _ _ h => h) (Or.inl ⟨by kernel_rfl, fun V hV => ?_⟩) hS0 ?_
        · obtain ⟨⟨a1, a2, a3⟩, ⟨a4, a5, a6⟩, ⟨a7, a8, a9⟩, ⟨b1, b2, b3⟩, b4, b5, b6⟩ := hV
          go_simp
        refine wpAnyH_take (i := 4) (oi := _) (v := .pointer (some ⟨W.heap.size, 1, none⟩)) rfl (by kernel_rfl) (by kernel_rfl) (by kernel_rfl) (fun _ _ _ h => h) (Or.inl ⟨by kernel_rfl, fun V hV => ?_⟩) hS0 ?_
        · obtain ⟨⟨a1, a2, a3⟩, ⟨a4, a5, a6⟩, ⟨a7, a8, a9⟩, ⟨b1, b2, b3⟩, b4, b5, b6⟩ := hV
          go_simp
        refine wpAnyH_take (i := 5) (oi := _) (v := .slice (some ⟨b, a, none⟩) n lc) rfl (by kernel_rfl) (by kernel_rfl) (by kernel_rfl) (fun _ _ _ h => h) (Or.inl ⟨by kernel_rfl, fun V hV => ?_⟩) hS0 ?_
        · obtain ⟨⟨a1, a2, a3⟩, ⟨a4, a5, a6⟩, ⟨a7, a8, a9⟩, ⟨b1, b2, b3⟩, b4, b5, b6⟩ := hV
          go_simp
        refine wpAnyH_take (i := 6) (oi := _) (v := (.int .i64 j)) rfl (by kernel_rfl) (by kernel_rfl) (by kernel_rfl) (fun _ _ _ h => h) (Or.inl ⟨by kernel_rfl, fun V hV => ?_⟩) hS0 ?_
        · obtain ⟨⟨a1, a2, a3⟩, ⟨a4, a5, a6⟩, ⟨a7, a8, a9⟩, ⟨b1, b2, b3⟩, b4, b5, b6⟩ := hV
          go_simp
        refine wpAnyH_take (i := 7) (oi := _) (v := .pointer (some ⟨b, a + j * 3, none⟩)) rfl (by kernel_rfl) (by kernel_rfl) (by kernel_rfl) (fun _ _ _ h => h) (Or.inl ⟨by kernel_rfl, fun V hV => ?_⟩) hS0 ?_
        · obtain ⟨⟨a1, a2, a3⟩, ⟨a4, a5, a6⟩, ⟨a7, a8, a9⟩, ⟨b1, b2, b3⟩, b4, b5, b6⟩ := hV
          go_simp
        refine wpAnyH_take (i := 8) (oi := _) (v := .agg #[.bool xn, .string xx, .string xd]) rfl (by kernel_rfl) (by kernel_rfl) (by kernel_rfl) (fun _ _ _ h => h) (Or.inl ⟨by kernel_rfl, fun V hV => ?_⟩) hS0 ?_
        · obtain ⟨⟨a1, a2, a3⟩, ⟨a4, a5, a6⟩, ⟨a7, a8, a9⟩, ⟨b1, b2, b3⟩, b4, b5, b6⟩ := hV
          go_simp
        refine wpAnyH_take (i := 9) (oi := _) (v := .slice (some ⟨tb, 0, none⟩) m m) rfl (by kernel_rfl) (by kernel_rfl) (by kernel_rfl) (fun _ _ _ h => h) (Or.inl ⟨by kernel_rfl, fun V hV => ?_⟩) hS0 ?_
        · obtain ⟨⟨a1, a2, a3⟩, ⟨a4, a5, a6⟩, ⟨a7, a8, a9⟩, ⟨b1, b2, b3⟩, b4, b5, b6⟩ := hV
          go_simp
        refine wpAnyH_take (i := 10) (oi := _) (v := (.int .i64 q)) rfl (by kernel_rfl) (by kernel_rfl) (by kernel_rfl) (fun _ _ _ h => h) (Or.inl ⟨by kernel_rfl, fun V hV => ?_⟩) hS0 ?_
        · obtain ⟨⟨a1, a2, a3⟩, ⟨a4, a5, a6⟩, ⟨a7, a8, a9⟩, ⟨b1, b2, b3⟩, b4, b5, b6⟩ := hV
          go_simp
        refine wpAnyH_take (i := 11) (oi := _) (v := .pointer (some ⟨tb, q * 3, none⟩)) rfl (by kernel_rfl) (by kernel_rfl) (by kernel_rfl) (fun _ _ _ h => h) (Or.inl ⟨by kernel_rfl, fun V hV => ?_⟩) hS0 ?_
        · obtain ⟨⟨a1, a2, a3⟩, ⟨a4, a5, a6⟩, ⟨a7, a8, a9⟩, ⟨b1, b2, b3⟩, b4, b5, b6⟩ := hV
          go_simp
        refine wpAnyH_take (i := 12) (oi := _) (v := .agg #[.bool zn, .string zx, .string zd]) rfl (by kernel_rfl) (by kernel_rfl) (by kernel_rfl) (fun _ _ _ h => h) (Or.inl ⟨by kernel_rfl, fun V hV => ?_⟩) hS0 ?_
        · obtain ⟨⟨a1, a2, a3⟩, ⟨a4, a5, a6⟩, ⟨a7, a8, a9⟩, ⟨b1, b2, b3⟩, b4, b5, b6⟩ := hV
          go_simp
        simp only [List.getElem_toArray, List.getElem_cons_zero, List.getElem_cons_succ, Act.put, List.setIfInBounds_toArray, List.set_cons_zero, List.set_cons_succ]
        refine wpAnyH_ready (rs := [13]) (by kernel_rfl) (by simp) ?_
        refine AllReadyH.cons (o := _) rfl (fun K hK => ?_) AllReadyH.nil
        go_simp
        refine (HCH1.out _ HD.out).mono ?_
        rintro e w2 ⟨rfl, t3⟩
        have HU1 := Lib.hid (HD.out.trans t3)
        have hS1 := HCS.out _ t3
        refine hK.out _ _ hS1 (fun _ => ?_)
        clear hK t3 hS0
        refine wpAnyH_take (i := 14) (oi := _) (v := .bool true) rfl (by kernel_rfl) (by kernel_rfl) (by kernel_rfl) (fun _ _ _ h => h) (Or.inl ⟨by kernel_rfl, fun V hV => ?_⟩) hS1 ?_
        · obtain ⟨⟨a1, a2, a3⟩, ⟨a4, a5, a6⟩, ⟨a7, a8, a9⟩, ⟨b1, b2, b3⟩, b4, b5, b6⟩ := hV
          go_simp
        simp only [List.getElem_toArray, List.getElem_cons_zero, List.getElem_cons_succ, Act.put, List.setIfInBounds_toArray, List.set_cons_zero, List.set_cons_succ]
        refine wpAnyH_take (i := 15) (oi := _) (v := undef) rfl (by kernel_rfl) (by kernel_rfl) (by kernel_rfl) (fun _ _ _ h => h) (Or.inr ⟨by kernel_rfl, rfl⟩) hS1 ?_
        refine wpAnyH_take (i := 16) (oi := _) (v := undef) rfl (by kernel_rfl) (by kernel_rfl) (by kernel_rfl) (fun _ _ _ h => h) (Or.inr ⟨by kernel_rfl, rfl⟩) hS1 ?_
        refine wpAnyH_take (i := 17) (oi := _) (v := undef) rfl (by kernel_rfl) (by kernel_rfl) (by kernel_rfl) (fun _ _ _ h => h) (Or.inr ⟨by kernel_rfl, rfl⟩) hS1 ?_
        refine wpAnyH_take (i := 18) (oi := _) (v := undef) rfl (by kernel_rfl) (by kernel_rfl) (by kernel_rfl) (fun _ _ _ h => h) (Or.inr ⟨by kernel_rfl, rfl⟩) hS1 ?_
        refine wpAnyH_take (i := 19) (oi := _) (v := undef) rfl (by kernel_rfl) (by kernel_rfl) (by kernel_rfl) (fun _ _ _ h => h) (Or.inr ⟨by kernel_rfl, rfl⟩) hS1 ?_
        refine wpAnyH_take (i := 20) (oi := _) (v := undef) rfl (by kernel_rfl) (by kernel_rfl) (by kernel_rfl) (fun _ _ _ h => h) (Or.inr ⟨by kernel_rfl, rfl⟩) hS1 ?_
        refine wpAnyH_take (i := 21) (oi := _) (v := undef) rfl (by kernel_rfl) (by kernel_rfl) (by kernel_rfl) (fun _ _ _ h => h) (Or.inr ⟨by kernel_rfl, rfl⟩) hS1 ?_
        refine wpAnyH_take (i := 22) (oi := _) (v := undef) rfl (by kernel_rfl) (by kernel_rfl) (by kernel_rfl) (fun _ _ _ h => h) (Or.inr ⟨by kernel_rfl, rfl⟩) hS1 ?_
        refine wpAnyH_take (i := 23) (oi := _) (v := undef) rfl (by kernel_rfl) (by kernel_rfl) (by kernel_rfl) (fun _ _ _ h => h) (Or.inr ⟨by kernel_rfl, rfl⟩) hS1 ?_
        refine wpAnyH_take (i := 24) (oi := _) (v := undef) rfl (by kernel_rfl) (by kernel_rfl) (by kernel_rfl) (fun _ _ _ h => h) (Or.inr ⟨by kernel_rfl, rfl⟩) hS1 ?_
        refine wpAnyH_take (i := 25) (oi := _) (v := undef) rfl (by kernel_rfl) (by kernel_rfl) (by kernel_rfl) (fun _ _ _ h => h) (Or.inr ⟨by kernel_rfl, rfl⟩) hS1 ?_
        refine wpAnyH_take (i := 26) (oi := _) (v := undef) rfl (by kernel_rfl) (by kernel_rfl) (by kernel_rfl) (fun _ _ _ h => h) (Or.inr ⟨by kernel_rfl, rfl⟩) hS1 ?_
        refine wpAnyH_take (i := 27) (oi := _) (v := undef) rfl (by kernel_rfl) (by kernel_rfl) (by kernel_rfl) (fun _ _ _ h => h) (Or.inr ⟨by kernel_rfl, rfl⟩) hS1 ?_
        refine wpAnyH_take (i := 28) (oi := _) (v := undef) rfl (by kernel_rfl) (by kernel_rfl) (by kernel_rfl) (fun _ _ _ h => h) (Or.inr ⟨by kernel_rfl, rfl⟩) hS1 ?_
        simp only [List.getElem_toArray, List.getElem_cons_zero, List.getElem_cons_succ, Act.put, List.setIfInBounds_toArray, List.set_cons_zero, List.set_cons_succ]
        refine wpAnyH_take (i := 29) (oi := _) (v := .bool true) rfl (by kernel_rfl) (by kernel_rfl) (by kernel_rfl) (fun _ _ _ h => h) (Or.inl ⟨by kernel_rfl, fun V hV => ?_⟩) hS1 ?_
        · obtain ⟨⟨a1, a2, a3⟩, ⟨a4, a5, a6⟩, ⟨a7, a8, a9⟩, ⟨b1, b2, b3⟩, b4, b5, b6⟩ := hV
          go_simp
        simp only [List.getElem_toArray, List.getElem_cons_zero, List.getElem_cons_succ, Act.put, List.setIfInBounds_toArray, List.set_cons_zero, List.set_cons_succ]
        refine wpAnyH_done (by kernel_rfl) ?_ _
        unfold OnlyN
        have HG := Lib.hid (HI.out.1.turned HU1.out fun _ h => h.elim)
        have HZ := Lib.hid (Nat.le_trans HI.out.2.size HU1.out.size)
        go_wp2_with (at_builtin; (refine app_int w2 rfl _ _ rfl w1.heap.size (.slice p (matTo rs cs lo hi q j).length c) (j : Int) (matTo rs cs lo hi q j) rfl rfl HG.out HZ.out (by omega) ?_); intro p' c' w9 ho4 ht4; have HS := Lib.hid (And.intro ho4 ht4); clear ho4 ht4)
        go_roundw
        case rel => exact ⟨j + 1, p', c', by omega, by go_num, by rw [HMT.out]; simp, Lib.hid ⟨by rw [HMT.out]; exact HS.out.1, (HI.out.2.trans HU1.out).fresh HS.out.2 fun _ => id⟩⟩
        case measure => simp [intOf]; omega
    · obtain rfl : j = n := by omega
      go_wp2_with fail
      go_ret2
      refine ⟨fun hh => by have := HQM.out; omega, fun q' hq' _ => ?_, HT.out.trans (HT1.out.trans HI.out.2)⟩
      obtain rfl : q = q' := by omega
      exact ⟨p, c, rfl, HI.out.1.low (HT.out.trans HT1.out).size⟩
end
end Go.Proofs.YtanhhdndgkhcfaaGreatDoor
namespace Go.Proofs.YtanhhdndgkhcfaaGreatDoor
open Go Go.Proofs Go.RowKit
def exO : List Or := [⟨2, exN 2⟩, ⟨3, exN 2⟩]
def exO7 : List Or := [⟨1, exN 3⟩, ⟨3, exN 0⟩]
structure ExAt (W : World) (mo : Nat) (rp lp hp cp : Option Addr) (rc lc hc cc w1 : Nat) : Prop where
  h : OIn W (exR (some ⟨w1, 0, none⟩) (some ⟨w1, 0, none⟩) none 1 1 0) (exU 6) (exU mo) exC rp lp hp cp rc lc hc cc
section
variable {W W' : World} {mo : Nat} {rp lp hp cp : Option Addr} {rc lc hc cc w1 : Nat}
theorem ExAt.on (h : ExAt W mo rp lp hp cp rc lc hc cc w1) (ht : Turned (fun _ => False) W W') : ExAt W' mo rp lp hp cp rc lc hc cc w1 := ⟨h.h.on ht⟩
theorem ex_ord (w1 w2 w3 : Option Addr) (c1 c2 c3 n : Nat) (hn : n = 7 ∨ n = 10) : ordE (exR w1 w2 w3 c1 c2 c3) (exU 6) (exU n) exC = 0 := by
  rcases hn with rfl | rfl <;> kernel_rfl
theorem exLimits (h : ExAt W 10 rp lp hp cp rc lc hc cc w1) :
    Calls Tryz.prog 9 #[.agg #[.slice rp 3 rc, .slice lp 3 lc, .slice hp 3 hc], .slice cp 4 cc] W fun e w' => ∃ a b, e = .returned (.tuple #[.slice (some ⟨a, 0, none⟩) 4 4, .slice (some ⟨b, 0, none⟩) 4 4, (.int .i64 0)]) ∧
      At w'.heap.size w' 3 ratCells [exN 5, exN 2, exN 2, exN 0] (some ⟨a, 0, none⟩) 4 ∧ At w'.heap.size w' 3 ratCells [exN 5, exN 4, exN 2, exN 2] (some ⟨b, 0, none⟩) 4 ∧ Turned (fun _ => False) W w' := by
  have H := oLimits_ok h.h (ex_ord _ _ _ _ _ _ _ (Or.inr rfl)) (show 3 ≤ 8 by decide) (by decide)
  rw [ex6, ex10] at H
  refine H.mono ?_
  rintro e w' ⟨a, b, rfl, -, h1, h2, -, ht⟩
  exact ⟨a, b, rfl, h1.at_ h1.lt (by decide), h2.at_ h2.lt (by decide), ht⟩
theorem exOrders (h : ExAt W 10 rp lp hp cp rc lc hc cc w1) :
    Calls Tryz.prog 11 #[.agg #[.slice rp 3 rc, .slice lp 3 lc, .slice hp 3 hc], .slice cp 4 cc] W fun e w' => ∃ p c, e = .returned (.tuple #[.slice p 2 c, (.int .i64 0)]) ∧ At w'.heap.size w' 4 orderCells exO p c ∧ (∀ o ∈ exO, SzR o.limit 24000300) ∧ Turned (fun _ => False) W w' := by
  have H := oOrders_ok h.h (ex_ord _ _ _ _ _ _ _ (Or.inr rfl)) (show 3 ≤ 8 by decide) (by decide)
  rw [ex10, show ordersL exC [exN 5, exN 4, exN 2, exN 2] = exO by kernel_rfl] at H
  refine H.mono ?_
  rintro e w' ⟨p, c, rfl, h1, h2, ht⟩
  exact ⟨p, c, rfl, h1.at_ (fun _ => rfl) (Nat.le_refl _), h2, ht⟩
theorem exSure (h : ExAt W 10 rp lp hp cp rc lc hc cc w1) :
    Calls Tryz.prog 13 #[.agg #[.slice rp 3 rc, .slice lp 3 lc, .slice hp 3 hc], .slice cp 4 cc] W fun e w' => ∃ p c, e = .returned (.tuple #[.slice p 1 c, (.int .i64 0)]) ∧ At w'.heap.size w' 1 intCells [0] p c ∧ Turned (fun _ => False) W w' := by
  have H := oSure_ok h.h (ex_ord _ _ _ _ _ _ _ (Or.inr rfl)) (show 3 ≤ 8 by decide) (by decide)
  rw [ex6, show sureL exC [exN 5, exN 2, exN 2, exN 0] = [0] by kernel_rfl] at H
  refine H.mono ?_
  rintro e w' ⟨p, c, rfl, h1, ht⟩
  exact ⟨p, c, rfl, h1.at_ (fun _ => rfl) (Nat.le_refl _), ht⟩
theorem exRenew (h : ExAt W 7 rp lp hp cp rc lc hc cc w1) (po : Option Addr) (co : Nat) (ho : At W.heap.size W 4 orderCells exO po co) (so : ∀ o ∈ exO, SzR o.limit 24000300) :
    Calls Tryz.prog 15 #[.agg #[.slice rp 3 rc, .slice lp 3 lc, .slice hp 3 hc], .slice cp 4 cc, .slice po 2 co] W fun e w' => ∃ p c, e = .returned (.tuple #[.slice p 2 c, (.int .i64 0)]) ∧ At w'.heap.size w' 4 orderCells exO7 p c ∧ Turned (fun _ => False) W w' := by
  have H := oRenew_ok h.h (ex_ord _ _ _ _ _ _ _ (Or.inl rfl)) (show 3 ≤ 8 by decide) (by decide) exO po co ho so (by rw [ex7]; kernel_rfl) (by decide)
  rw [ex7, show renewL exO (ordersL exC [exN 5, exN 3, exN 2, exN 0]) = exO7 by kernel_rfl] at H
  refine H.mono ?_
  rintro e w' ⟨p, c, rfl, h1, ht⟩
  exact ⟨p, c, rfl, h1.at_ (fun _ => rfl) (Nat.le_refl _), ht⟩
theorem exMatters (h : ExAt W 10 rp lp hp cp rc lc hc cc w1) {q : Nat} (hq : q < 4) {l : List Int} (hl : matTo (exR (some ⟨w1, 0, none⟩) (some ⟨w1, 0, none⟩) none 1 1 0) exC (exU 6) (exU 10) q 3 = l) :
    Calls Tryz.prog 17 #[.agg #[.slice rp 3 rc, .slice lp 3 lc, .slice hp 3 hc], .slice cp 4 cc, (.int .i64 q)] W fun e w' => ∃ p c, e = .returned (.tuple #[.slice p l.length c, (.int .i64 0)]) ∧ At w'.heap.size w' 1 intCells l p c ∧ Turned (fun _ => False) W w' := by
  have H := oMatters_ok h.h (ex_ord _ _ _ _ _ _ _ (Or.inr rfl)) (show 3 ≤ 8 by decide) (by decide) q
  refine H.mono ?_
  rintro e w' ⟨-, h1, ht⟩
  obtain ⟨p, c, rfl, h2⟩ := h1 q rfl hq
  rw [show (exR (some ⟨w1, 0, none⟩) (some ⟨w1, 0, none⟩) none 1 1 0).length = 3 from rfl, hl] at h2
  exact ⟨p, c, by rw [show (exR (some ⟨w1, 0, none⟩) (some ⟨w1, 0, none⟩) none 1 1 0).length = 3 from rfl, hl], h2.at_ (fun _ => rfl) (Nat.le_refl _), ht⟩
theorem exMatters4 (h : ExAt W 10 rp lp hp cp rc lc hc cc w1) :
    Calls Tryz.prog 17 #[.agg #[.slice rp 3 rc, .slice lp 3 lc, .slice hp 3 hc], .slice cp 4 cc, (.int .i64 4)] W fun e w' => e = .returned (.tuple #[.slice none 0 0, (.int .i64 8)]) ∧ Turned (fun _ => False) W w' := by
  have H := oMatters_ok h.h (ex_ord _ _ _ _ _ _ _ (Or.inr rfl)) (show 3 ≤ 8 by decide) (by decide) 4
  refine H.mono ?_
  rintro e w' ⟨h1, -, ht⟩
  exact ⟨h1 (Or.inr (by decide)), ht⟩
theorem exDue (h : ExAt W 10 rp lp hp cp rc lc hc cc w1) (o : Or) (po : Option Addr) (co : Nat) (ho : At W.heap.size W 4 orderCells [o] po co) (so : SzR o.limit 24000300) {v : Int} (hv : dueE 4 [exN 5, exN 4, exN 2, exN 2] [o] = v) :
    Calls Tryz.prog 24 #[.agg #[.slice rp 3 rc, .slice lp 3 lc, .slice hp 3 hc], .slice cp 4 cc, .slice po 1 co] W fun e w' => e = .returned (.int .i64 v) ∧ Turned (fun _ => False) W w' := by
  have H := oDue_ok h.h (ex_ord _ _ _ _ _ _ _ (Or.inr rfl)) (show 3 ≤ 8 by decide) (by decide) [o] po co ho (by intro x hx; simp only [List.mem_singleton] at hx; subst hx; exact so.mono (by decide))
  rw [ex10, show exC.length = 4 from rfl, hv] at H
  exact H
end
theorem exMat3 (w1 w2 w3 : Option Addr) (c1 c2 c3 : Nat) : matTo (exR w1 w2 w3 c1 c2 c3) exC (exU 6) (exU 10) 3 3 = [0] := by
  have h0 : (exU 6).set 0 ((exU 10).getD 0 zeroR) = exU 10 := rfl
  have h1 : (exU 6).set 1 ((exU 10).getD 1 zeroR) = exU 6 := rfl
  have h2 : (exU 6).set 2 ((exU 10).getD 2 zeroR) = exU 6 := rfl
  have g0 : (exU 10).set 0 ((exU 6).getD 0 zeroR) = exU 6 := rfl
  have g1 : (exU 10).set 1 ((exU 6).getD 1 zeroR) = exU 10 := rfl
  have g2 : (exU 10).set 2 ((exU 6).getD 2 zeroR) = exU 10 := rfl
  have e : List.range 3 = [0, 1, 2] := rfl
  unfold matTo
  rw [e]
  have f : ∀ (p : Nat → Bool) (a b c : Bool) (l : List Int), p 0 = a → p 1 = b → p 2 = c → (((if a then [0] else []) ++ (if b then [1] else []) ++ (if c then [2] else []) : List Int) = l) → ([0, 1, 2].filter p).map (fun (i : Nat) => (i : Int)) = l := by
    intro p a b c l ha hb hc hl
    rw [← hl]
    simp only [List.filter_cons, List.filter_nil, ha, hb, hc]
    cases a <;> cases b <;> cases c <;> rfl
  refine f _ true false false _ ?_ ?_ ?_ (by decide)
  · unfold matB changeB
    rw [h0, g0, ex6, ex10]
    kernel_rfl
  · unfold matB changeB
    rw [h1, g1, ex6, ex10]
    kernel_rfl
  · unfold matB changeB
    rw [h2, g2, ex6, ex10]
    kernel_rfl
theorem exMat0 (w1 w2 w3 : Option Addr) (c1 c2 c3 : Nat) : matTo (exR w1 w2 w3 c1 c2 c3) exC (exU 6) (exU 10) 0 3 = [] := by
  have h0 : (exU 6).set 0 ((exU 10).getD 0 zeroR) = exU 10 := rfl
  have h1 : (exU 6).set 1 ((exU 10).getD 1 zeroR) = exU 6 := rfl
  have h2 : (exU 6).set 2 ((exU 10).getD 2 zeroR) = exU 6 := rfl
  have g0 : (exU 10).set 0 ((exU 6).getD 0 zeroR) = exU 6 := rfl
  have g1 : (exU 10).set 1 ((exU 6).getD 1 zeroR) = exU 10 := rfl
  have g2 : (exU 10).set 2 ((exU 6).getD 2 zeroR) = exU 10 := rfl
  have e : List.range 3 = [0, 1, 2] := rfl
  unfold matTo
  rw [e]
  have f : ∀ (p : Nat → Bool) (a b c : Bool) (l : List Int), p 0 = a → p 1 = b → p 2 = c → (((if a then [0] else []) ++ (if b then [1] else []) ++ (if c then [2] else []) : List Int) = l) → ([0, 1, 2].filter p).map (fun (i : Nat) => (i : Int)) = l := by
    intro p a b c l ha hb hc hl
    rw [← hl]
    simp only [List.filter_cons, List.filter_nil, ha, hb, hc]
    cases a <;> cases b <;> cases c <;> rfl
  refine f _ false false false _ ?_ ?_ ?_ (by decide)
  · unfold matB changeB
    rw [h0, g0, ex6, ex10]
    kernel_rfl
  · unfold matB changeB
    rw [h1, g1, ex6, ex10]
    kernel_rfl
  · unfold matB changeB
    rw [h2, g2, ex6, ex10]
    kernel_rfl
theorem exDue1 : dueE 4 [exN 5, exN 4, exN 2, exN 2] [⟨3, exN 1⟩] = 22 := by kernel_rfl
theorem exDue2 : dueE 4 [exN 5, exN 4, exN 2, exN 2] [⟨3, repR ((5 : Nat) / (2 : Nat) : Rat)⟩] = 0 := by kernel_rfl
end Go.Proofs.YtanhhdndgkhcfaaGreatDoor
