/- Part 14 of the proof of lawDue.card: OrdAllotC, OrdAllotD, OrdRounds. Conditions: those of each theorem. -/
import Derived.Test.YtanhhdndgkhcfaaGreatDoorDt01
import Derived.Test.YtanhhdndgkhcfaaGreatDoorDt13
namespace Go.Proofs.YtanhhdndgkhcfaaGreatDoor
open Go.RowKit
def leftTo (x y : Nat → Rat) (p : Rat) (j : Nat) : Nat → Rat := fun g => if g < j then x g - y g * p else x g
theorem leftTo_zero (n : Nat) (x y : Nat → Rat) (p : Rat) : repL n (leftTo x y p 0) = repL n x := by
  unfold repL
  refine List.map_congr_left fun g _ => ?_
  unfold leftTo
  rw [if_neg (by omega)]
theorem leftTo_all (n : Nat) (x y : Nat → Rat) (p : Rat) : repL n (leftTo x y p n) = repL n (fun g => x g - y g * p) := by
  unfold repL
  refine List.map_congr_left fun g hg => ?_
  unfold leftTo
  rw [if_pos (List.mem_range.1 hg)]
theorem leftTo_step {n j : Nat} (x y : Nat → Rat) (p : Rat) : (repL n (leftTo x y p j)).set j (repR (x j - y j * p)) = repL n (leftTo x y p (j + 1)) := by
  apply List.ext_getElem?
  intro i
  rw [List.getElem?_set, repL_at, repL_at, repL_len]
  unfold leftTo
  by_cases h : j = i
  · subst h
    rw [if_pos rfl, if_pos (by omega : j < j + 1)]
  · rw [if_neg h]
    by_cases h2 : i < j
    · rw [if_pos h2, if_pos (by omega : i < j + 1)]
    · rw [if_neg h2, if_neg (by omega : ¬ i < j + 1)]
theorem leftTo_here (x y : Nat → Rat) (p : Rat) (j : Nat) : leftTo x y p j j = x j := by
  unfold leftTo
  rw [if_neg (by omega)]
set_option maxRecDepth 1000000 in
set_option maxHeartbeats 1000000 in
set_option linter.unusedSimpArgs false in
theorem allotL6 {Q : Exit → Act → World → Prop} (n bl la wa bg k : Nat) (x y : Nat → Rat) (p : Rat) (w0 : World) (ds : List Deferred) (c0 c1 c2 c3 c4 c5 c6 c8 c9 c10 c11 c12 c13 c14 c15 c16 c17 c18 c19 c20 c22 c23 c24 c25 c28 c29 c30 c31 c32 c33 c34 c35 c36 c37 c38 c39 c40 c41 c42 c43 c44 c45 c46 c47 c48 c49 c50 c51 c52 c53 c54 c55 c56 c57 c58 c59 c60 c61 c62 c63 c64 c65 c66 c67 c68 c69 c70 c71 c72 c73 c74 c75 c76 c77 c78 c79 c80 c81 c82 c83 c84 c85 c86 c87 c88 c89 c90 c91 c92 c93 c94 c95 c96 c97 c98 c99 c100 c101 c102 c103 c104 c105 c106 c107 c108 c109 c110 c111 c112 c113 c114 c115 c116 c117 c118 c119 c120 c121 c122 c123 c124 c125 c126 c127 c147 c148 c149 c150 c151 c152 c153 c154 c155 c156 c157 c158 c159 c160 c161 c162 c163 c164 c165 c166 c167 c168 c169 c170 c171 c172 c173 c174 c175 c176 c177 c178 c179 c180 c181 c182 c183 c184 c185 c186 c187 c188 c189 c190 c191 c192 c193 c194 c195 c196 c26 c27 c131 c132 c133 c134 c135 c136 c137 c138 c139 c140 c141 c142 c143 c144 c145 c146 : Value)
    (hn : n ≤ 40) (hbl : w0.heap[bl]? = some (.cells #[.slice (some ⟨la, 0, none⟩) n n] 23 (0, 0))) (hla : OwnR w0 la (repL n x)) (hwa : OwnR w0 wa (repL n y)) (hbg : w0.heap[bg]? = some (.cells #[.bool (repR p).neg, .string (repR p).num, .string (repR p).den] 68 (0, 0)))
    (h1 : bl ≠ la) (h2 : wa ≠ la) (h3 : bg ≠ la) (hx : ∀ g, BytesQ (x g) k) (hy : ∀ g, BytesQ (y g) k) (hp : BytesQ p (2 * k + 1)) (hk : 4 * k + 4 ≤ 100000000)
    (hexit : ∀ (u26 u27 u130 u131 u132 u133 u134 u135 u136 u137 u138 u139 u140 u141 u142 u143 u144 u145 u146 : Value) (w' : World), OwnR w' la (repL n fun g => x g - y g * p) → Turned (fun i => i = la) w0 w' → Q (.exit 10) { tmps := (c0 :: c1 :: c2 :: c3 :: c4 :: c5 :: c6 :: .pointer (some ⟨bl, 0, none⟩) :: c8 :: c9 :: c10 :: c11 :: c12 :: c13 :: c14 :: c15 :: c16 :: c17 :: c18 :: c19 :: c20 :: .pointer (some ⟨bg, 0, none⟩) :: c22 :: c23 :: c24 :: c25 :: u26 :: u27 :: c28 :: c29 :: c30 :: c31 :: c32 :: c33 :: c34 :: c35 :: c36 :: c37 :: c38 :: c39 :: c40 :: c41 :: c42 :: c43 :: c44 :: c45 :: c46 :: c47 :: c48 :: c49 :: c50 :: c51 :: c52 :: c53 :: c54 :: c55 :: c56 :: c57 :: c58 :: c59 :: c60 :: c61 :: c62 :: c63 :: c64 :: c65 :: c66 :: c67 :: c68 :: c69 :: c70 :: c71 :: c72 :: c73 :: c74 :: c75 :: c76 :: c77 :: c78 :: c79 :: c80 :: c81 :: c82 :: c83 :: c84 :: c85 :: c86 :: c87 :: c88 :: c89 :: c90 :: c91 :: c92 :: c93 :: c94 :: c95 :: c96 :: c97 :: c98 :: c99 :: c100 :: c101 :: c102 :: c103 :: c104 :: c105 :: c106 :: c107 :: c108 :: c109 :: c110 :: c111 :: c112 :: c113 :: c114 :: c115 :: c116 :: c117 :: c118 :: c119 :: c120 :: c121 :: c122 :: c123 :: c124 :: c125 :: c126 :: c127 :: .slice (some ⟨wa, 0, none⟩) n n :: (.int .i64 n) :: u130 :: u131 :: u132 :: u133 :: u134 :: u135 :: u136 :: u137 :: u138 :: u139 :: u140 :: u141 :: u142 :: u143 :: u144 :: u145 :: u146 :: c147 :: c148 :: c149 :: c150 :: c151 :: c152 :: c153 :: c154 :: c155 :: c156 :: c157 :: c158 :: c159 :: c160 :: c161 :: c162 :: c163 :: c164 :: c165 :: c166 :: c167 :: c168 :: c169 :: c170 :: c171 :: c172 :: c173 :: c174 :: c175 :: c176 :: c177 :: c178 :: c179 :: c180 :: c181 :: c182 :: c183 :: c184 :: c185 :: c186 :: c187 :: c188 :: c189 :: c190 :: c191 :: c192 :: c193 :: c194 :: c195 :: c196 :: []).toArray, defers := ds } w') :
    Code.wp Tryz.prog (Code.loop (aBody 10)) Q { tmps := (c0 :: c1 :: c2 :: c3 :: c4 :: c5 :: c6 :: .pointer (some ⟨bl, 0, none⟩) :: c8 :: c9 :: c10 :: c11 :: c12 :: c13 :: c14 :: c15 :: c16 :: c17 :: c18 :: c19 :: c20 :: .pointer (some ⟨bg, 0, none⟩) :: c22 :: c23 :: c24 :: c25 :: c26 :: c27 :: c28 :: c29 :: c30 :: c31 :: c32 :: c33 :: c34 :: c35 :: c36 :: c37 :: c38 :: c39 :: c40 :: c41 :: c42 :: c43 :: c44 :: c45 :: c46 :: c47 :: c48 :: c49 :: c50 :: c51 :: c52 :: c53 :: c54 :: c55 :: c56 :: c57 :: c58 :: c59 :: c60 :: c61 :: c62 :: c63 :: c64 :: c65 :: c66 :: c67 :: c68 :: c69 :: c70 :: c71 :: c72 :: c73 :: c74 :: c75 :: c76 :: c77 :: c78 :: c79 :: c80 :: c81 :: c82 :: c83 :: c84 :: c85 :: c86 :: c87 :: c88 :: c89 :: c90 :: c91 :: c92 :: c93 :: c94 :: c95 :: c96 :: c97 :: c98 :: c99 :: c100 :: c101 :: c102 :: c103 :: c104 :: c105 :: c106 :: c107 :: c108 :: c109 :: c110 :: c111 :: c112 :: c113 :: c114 :: c115 :: c116 :: c117 :: c118 :: c119 :: c120 :: c121 :: c122 :: c123 :: c124 :: c125 :: c126 :: c127 :: .slice (some ⟨wa, 0, none⟩) n n :: (.int .i64 n) :: (.int .i64 0) :: c131 :: c132 :: c133 :: c134 :: c135 :: c136 :: c137 :: c138 :: c139 :: c140 :: c141 :: c142 :: c143 :: c144 :: c145 :: c146 :: c147 :: c148 :: c149 :: c150 :: c151 :: c152 :: c153 :: c154 :: c155 :: c156 :: c157 :: c158 :: c159 :: c160 :: c161 :: c162 :: c163 :: c164 :: c165 :: c166 :: c167 :: c168 :: c169 :: c170 :: c171 :: c172 :: c173 :: c174 :: c175 :: c176 :: c177 :: c178 :: c179 :: c180 :: c181 :: c182 :: c183 :: c184 :: c185 :: c186 :: c187 :: c188 :: c189 :: c190 :: c191 :: c192 :: c193 :: c194 :: c195 :: c196 :: []).toArray, defers := ds } w0 := by
  have HBL := Lib.hid hbl
  have HWA := Lib.hid hwa
  have HBG := Lib.hid hbg
  have HSX := Lib.hid hx
  have HSY := Lib.hid hy
  have HSP := Lib.hid hp
  have HK := Lib.hid hk
  rw [← leftTo_zero n x y p] at hla
  have HLA := Lib.hid hla
  have l1 := getElem?_lt hbl
  have l2 := hwa.lt
  have l3 := getElem?_lt hbg
  have l4 := hla.lt
  obtain ⟨⟨gn, gx, gd⟩, hg⟩ : ∃ v, repR p = v := ⟨_, rfl⟩
  rw [hg] at HBG
  have HG := Lib.hid hg
  clear hbl hwa hbg hx hy hp hk hla hg
  refine wp_loop (fun a w' => ∃ (j : Nat) (u26 u27 u131 u132 u133 u134 u135 u136 u137 u138 u139 u140 u141 u142 u143 u144 u145 u146 : Value), (j ≤ n ∧ Hid (OwnR w' la (repL n (leftTo x y p j)) ∧ Turned (fun i => i = la) w0 w')) ∧ a = { tmps := (c0 :: c1 :: c2 :: c3 :: c4 :: c5 :: c6 :: .pointer (some ⟨bl, 0, none⟩) :: c8 :: c9 :: c10 :: c11 :: c12 :: c13 :: c14 :: c15 :: c16 :: c17 :: c18 :: c19 :: c20 :: .pointer (some ⟨bg, 0, none⟩) :: c22 :: c23 :: c24 :: c25 :: u26 :: u27 :: c28 :: c29 :: c30 :: c31 :: c32 :: c33 :: c34 :: c35 :: c36 :: c37 :: c38 :: c39 :: c40 :: c41 :: c42 :: c43 :: c44 :: c45 :: c46 :: c47 :: c48 :: c49 :: c50 :: c51 :: c52 :: c53 :: c54 :: c55 :: c56 :: c57 :: c58 :: c59 :: c60 :: c61 :: c62 :: c63 :: c64 :: c65 :: c66 :: c67 :: c68 :: c69 :: c70 :: c71 :: c72 :: c73 :: c74 :: c75 :: c76 :: c77 :: c78 :: c79 :: c80 :: c81 :: c82 :: c83 :: c84 :: c85 :: c86 :: c87 :: c88 :: c89 :: c90 :: c91 :: c92 :: c93 :: c94 :: c95 :: c96 :: c97 :: c98 :: c99 :: c100 :: c101 :: c102 :: c103 :: c104 :: c105 :: c106 :: c107 :: c108 :: c109 :: c110 :: c111 :: c112 :: c113 :: c114 :: c115 :: c116 :: c117 :: c118 :: c119 :: c120 :: c121 :: c122 :: c123 :: c124 :: c125 :: c126 :: c127 :: .slice (some ⟨wa, 0, none⟩) n n :: (.int .i64 n) :: (.int .i64 j) :: u131 :: u132 :: u133 :: u134 :: u135 :: u136 :: u137 :: u138 :: u139 :: u140 :: u141 :: u142 :: u143 :: u144 :: u145 :: u146 :: c147 :: c148 :: c149 :: c150 :: c151 :: c152 :: c153 :: c154 :: c155 :: c156 :: c157 :: c158 :: c159 :: c160 :: c161 :: c162 :: c163 :: c164 :: c165 :: c166 :: c167 :: c168 :: c169 :: c170 :: c171 :: c172 :: c173 :: c174 :: c175 :: c176 :: c177 :: c178 :: c179 :: c180 :: c181 :: c182 :: c183 :: c184 :: c185 :: c186 :: c187 :: c188 :: c189 :: c190 :: c191 :: c192 :: c193 :: c194 :: c195 :: c196 :: []).toArray, defers := ds }) (fun a _ => n - tmpN a 130) ?_ ?_
  · exact ⟨0, _, _, _, _, _, _, _, _, _, _, _, _, _, _, _, _, _, _, ⟨Nat.zero_le _, Lib.hid ⟨HLA.out, Turned.refl _ _⟩⟩, rfl⟩
  · clear HLA
    rintro a wr ⟨j, u26, u27, u131, u132, u133, u134, u135, u136, u137, u138, u139, u140, u141, u142, u143, u144, u145, u146, ⟨hj, HH⟩, rfl⟩
    by_cases hlt : j < n
    · have hO := HH.out.1
      obtain ⟨⟨un, ux, ud⟩, hu⟩ : ∃ v, repR (y j) = v := ⟨_, rfl⟩
      obtain ⟨⟨vn, vx, vd⟩, hv⟩ : ∃ v, repR (x j) = v := ⟨_, rfl⟩
      obtain ⟨⟨mn, mx, md⟩, hm⟩ : ∃ v, repR (y j * p) = v := ⟨_, rfl⟩
      obtain ⟨⟨qn, qx, qd⟩, hq⟩ : ∃ v, repR (x j - y j * p) = v := ⟨_, rfl⟩
      have hwa := HWA.out.turned HH.out.2 h2
      have hwc := hwa.cells (repL_get y hlt)
      rw [hu] at hwc
      obtain ⟨e0, e1, e2⟩ := hwc
      have bxl := (HH.out.2.block bl l1 h1).trans HBL.out
      have bxg := (HH.out.2.block bg l3 h3).trans HBG.out
      have HMUL := Lib.hid (fun W => qMul_any ⟨un, ux, ud⟩ ⟨gn, gx, gd⟩ (4 * k + 4) W (by omega) HK.out (by rw [← hu]; exact ((HSY.out j).mono (by omega)).szr) (by rw [← HG.out]; exact (HSP.out.mono (by omega)).szr))
      rw [show qR (⟨un, ux, ud⟩ : Rv) = y j by rw [← hu, qR_repR], show qR (⟨gn, gx, gd⟩ : Rv) = p by rw [← HG.out, qR_repR], hm] at HMUL
      have HSUB := Lib.hid (fun W => qSub_any ⟨vn, vx, vd⟩ ⟨mn, mx, md⟩ (4 * k + 4) W (by omega) HK.out (by rw [← hv]; exact ((HSX.out j).mono (by omega)).szr) (by rw [← hm]; exact (((HSY.out j).mul HSP.out).mono (by omega)).szr))
      rw [show qR (⟨vn, vx, vd⟩ : Rv) = x j by rw [← hv, qR_repR], show qR (⟨mn, mx, md⟩ : Rv) = y j * p by rw [← hm, qR_repR], hq] at HSUB
      have HSET := Lib.hid (fun (V : World) (hV : OwnR V la (repL n (leftTo x y p j))) => hV.set (i := j) (by rw [repL_len]; exact hlt) (repR (x j - y j * p)))
      rw [leftTo_step, hq] at HSET
      have HCELL := Lib.hid (fun (V : World) (hV : OwnR V la (repL n (leftTo x y p j))) => hV.cells (repL_get (leftTo x y p j) hlt))
      rw [leftTo_here, hv] at HCELL
      have TA := (Turned.refl (fun _ => False) wr).alloc (.cells #[.bool un, .string ux, .string ud] 68)
      have z1 := World.alloc_heap_new wr (.cells #[.bool un, .string ux, .string ud] 68)
      have hlw := hO.lt
      have HO := Lib.hid hO
      have hj0 : (0 : Int) ≤ j := by omega
      have hj1 : (j : Int) < n := by omega
      clear hO hu hv hm hq hwa
      conv => arg 2; whnf
      go_wp2_with fail
      obtain ⟨B, hB⟩ : ∃ B, wr.heap.size = B := ⟨_, rfl⟩
      obtain ⟨w1, hw1⟩ : ∃ w1, w1 = wr.alloc (.cells #[.bool un, .string ux, .string ud] 68) := ⟨_, rfl⟩
      rw [← hw1] at TA z1 ⊢
      rw [hB] at z1 hlw ⊢
      have hBo : ¬ B = la := by omega
      clear hw1
      obtain ⟨y0, y1, y2, -, -, -⟩ := box3 z1
      have T1 := TA.trans ((Turned.refl (fun _ => False) w1).drew)
      obtain ⟨g0, g1, g2, -, -, -⟩ := box3 (keepB T1 bxg)
      have hS0 : (w1.drew).cell? ⟨bl, 0, none⟩ = some (.slice (some ⟨la, 0, none⟩) n n) ∧ (w1.drew).cell? ⟨B, 0, none⟩ = some (.bool un) ∧ (w1.drew).cell? ⟨B, 1, none⟩ = some (.string ux) ∧ (w1.drew).cell? ⟨B, 2, none⟩ = some (.string ud) ∧ (w1.drew).cell? ⟨bg, 0, none⟩ = some (.bool gn) ∧ (w1.drew).cell? ⟨bg, 1, none⟩ = some (.string gx) ∧ (w1.drew).cell? ⟨bg, 2, none⟩ = some (.string gd) := ⟨cell_of_box (keepB T1 bxl), y0, y1, y2, g0, g1, g2⟩
      have HT1 := Lib.hid T1
      clear bxl bxg T1 TA z1 y0 y1 y2 g0 g1 g2 e0 e1 e2 hB
      refine wp_region_plain (S := fun V => V.cell? ⟨bl, 0, none⟩ = some (.slice (some ⟨la, 0, none⟩) n n) ∧ V.cell? ⟨B, 0, none⟩ = some (.bool un) ∧ V.cell? ⟨B, 1, none⟩ = some (.string ux) ∧ V.cell? ⟨B, 2, none⟩ = some (.string ud) ∧ V.cell? ⟨bg, 0, none⟩ = some (.bool gn) ∧ V.cell? ⟨bg, 1, none⟩ = some (.string gx) ∧ V.cell? ⟨bg, 2, none⟩ = some (.string gd)) (by kernel_rfl) ?_
      refine wpAnyH_take (i := 0) (oi := _) (v := .slice (some ⟨la, 0, none⟩) n n) rfl (by kernel_rfl) (by kernel_rfl) (by kernel_rfl) (fun _ _ _ h => h) (Or.inl ⟨by kernel_rfl, fun V hV => ?_⟩) hS0 ?_
      · obtain ⟨f0, f1, f2, f3, f4, f5, f6⟩ := hV
        go_simp
      refine wpAnyH_take (i := 1) (oi := _) (v := (.int .i64 j)) rfl (by kernel_rfl) (by kernel_rfl) (by kernel_rfl) (fun _ _ _ h => h) (Or.inl ⟨by kernel_rfl, fun V hV => ?_⟩) hS0 ?_
      · obtain ⟨f0, f1, f2, f3, f4, f5, f6⟩ := hV
        go_simp
      refine wpAnyH_take (i := 2) (oi := _) (v := .slice (some ⟨la, 0, none⟩) n n) rfl (by kernel_rfl) (by kernel_rfl) (by kernel_rfl) (fun _ _ _ h => h) (Or.inl ⟨by kernel_rfl, fun V hV => ?_⟩) hS0 ?_
      · obtain ⟨f0, f1, f2, f3, f4, f5, f6⟩ := hV
        go_simp
      refine wpAnyH_take (i := 3) (oi := _) (v := (.int .i64 j)) rfl (by kernel_rfl) (by kernel_rfl) (by kernel_rfl) (fun _ _ _ h => h) (Or.inl ⟨by kernel_rfl, fun V hV => ?_⟩) hS0 ?_
      · obtain ⟨f0, f1, f2, f3, f4, f5, f6⟩ := hV
        go_simp
      refine wpAnyH_take (i := 4) (oi := _) (v := .pointer (some ⟨la, j * 3, none⟩)) rfl (by kernel_rfl) (by kernel_rfl) (by kernel_rfl) (fun _ _ _ h => h) (Or.inl ⟨by kernel_rfl, fun V hV => ?_⟩) hS0 ?_
      · obtain ⟨f0, f1, f2, f3, f4, f5, f6⟩ := hV
        go_simp
      refine wpAnyH_take (i := 6) (oi := _) (v := .agg #[.bool un, .string ux, .string ud]) rfl (by kernel_rfl) (by kernel_rfl) (by kernel_rfl) (fun _ _ _ h => h) (Or.inl ⟨by kernel_rfl, fun V hV => ?_⟩) hS0 ?_
      · obtain ⟨f0, f1, f2, f3, f4, f5, f6⟩ := hV
        go_simp
      refine wpAnyH_take (i := 7) (oi := _) (v := .agg #[.bool gn, .string gx, .string gd]) rfl (by kernel_rfl) (by kernel_rfl) (by kernel_rfl) (fun _ _ _ h => h) (Or.inl ⟨by kernel_rfl, fun V hV => ?_⟩) hS0 ?_
      · obtain ⟨f0, f1, f2, f3, f4, f5, f6⟩ := hV
        go_simp
      simp only [List.getElem_toArray, List.getElem_cons_zero, List.getElem_cons_succ, Act.put, List.setIfInBounds_toArray, List.set_cons_zero, List.set_cons_succ]
      refine wpAnyH_ready (rs := [5, 8]) (by kernel_rfl) (by simp) ?_
      refine AllReadyH.cons (o := _) rfl (fun K hK => ?_) (AllReadyH.cons (o := _) rfl (fun K hK => ?_) AllReadyH.nil)
      · skip
        obtain ⟨k0, k1, k2⟩ := HCELL.out _ (HO.out.turned HT1.out id)
        go_simp
        refine hK.out _ _ hS0 (fun _ => ?_)
        clear hK k0 k1 k2
        refine wpAnyH_ready (rs := [8]) (by kernel_rfl) (by simp) ?_
        refine AllReadyH.cons (o := _) rfl (fun K hK => ?_) AllReadyH.nil
        go_simp
        refine (HMUL.out _).mono ?_
        rintro e w4 ⟨rfl, t4⟩
        have hS1 : w4.cell? ⟨bl, 0, none⟩ = some (.slice (some ⟨la, 0, none⟩) n n) ∧ w4.cell? ⟨B, 0, none⟩ = some (.bool un) ∧ w4.cell? ⟨B, 1, none⟩ = some (.string ux) ∧ w4.cell? ⟨B, 2, none⟩ = some (.string ud) ∧ w4.cell? ⟨bg, 0, none⟩ = some (.bool gn) ∧ w4.cell? ⟨bg, 1, none⟩ = some (.string gx) ∧ w4.cell? ⟨bg, 2, none⟩ = some (.string gd) := ⟨cellT t4 id hS0.1, cellT t4 id hS0.2.1, cellT t4 id hS0.2.2.1, cellT t4 id hS0.2.2.2.1, cellT t4 id hS0.2.2.2.2.1, cellT t4 id hS0.2.2.2.2.2.1, cellT t4 id hS0.2.2.2.2.2.2⟩
        have Hw4 := Lib.hid (HT1.out.trans t4)
        refine hK.out _ _ hS1 (fun _ => ?_)
        clear hK t4 hS0
        refine wpAnyH_ready (rs := [9]) (by kernel_rfl) (by simp) ?_
        refine AllReadyH.cons (o := _) rfl (fun K hK => ?_) AllReadyH.nil
        go_simp
        refine (HSUB.out _).mono ?_
        rintro e w5 ⟨rfl, t4⟩
        have hS2 : w5.cell? ⟨bl, 0, none⟩ = some (.slice (some ⟨la, 0, none⟩) n n) ∧ w5.cell? ⟨B, 0, none⟩ = some (.bool un) ∧ w5.cell? ⟨B, 1, none⟩ = some (.string ux) ∧ w5.cell? ⟨B, 2, none⟩ = some (.string ud) ∧ w5.cell? ⟨bg, 0, none⟩ = some (.bool gn) ∧ w5.cell? ⟨bg, 1, none⟩ = some (.string gx) ∧ w5.cell? ⟨bg, 2, none⟩ = some (.string gd) := ⟨cellT t4 id hS1.1, cellT t4 id hS1.2.1, cellT t4 id hS1.2.2.1, cellT t4 id hS1.2.2.2.1, cellT t4 id hS1.2.2.2.2.1, cellT t4 id hS1.2.2.2.2.2.1, cellT t4 id hS1.2.2.2.2.2.2⟩
        have Hw5 := Lib.hid (Hw4.out.trans t4)
        refine hK.out _ _ hS2 (fun _ => ?_)
        clear hK t4 hS1
        have O4 := HO.out.turned Hw5.out id
        obtain ⟨o4, o5, o6⟩ := HCELL.out _ O4
        have o1 := O4.free (j * 3)
        have o2 := O4.free (j * 3 + 1)
        have o3 := O4.free (j * 3 + 2)
        refine wpAnyH_take (i := 10) (oi := _) (v := .pointer (some ⟨la, j * 3, none⟩)) rfl (by kernel_rfl) (by kernel_rfl) (by kernel_rfl) (fun _ _ _ h => h) (Or.inl ⟨by kernel_rfl, fun V hV => ?_⟩) hS2 ?_
        · obtain ⟨f0, f1, f2, f3, f4, f5, f6⟩ := hV
          go_simp
        simp only [List.getElem_toArray, List.getElem_cons_zero, List.getElem_cons_succ, Act.put, List.setIfInBounds_toArray, List.set_cons_zero, List.set_cons_succ]
        refine wpAnyH_ready (rs := [11]) (by kernel_rfl) (by simp) ?_
        refine AllReadyH.cons (o := _) rfl (fun K hK => ?_) AllReadyH.nil
        go_simp
        have hst := HSET.out _ O4
        obtain ⟨w9, hw9⟩ : ∃ w9, ((w5.setCell ⟨la, j * 3, none⟩ (.bool qn)).setCell ⟨la, j * 3 + 1, none⟩ (.string qx)).setCell ⟨la, j * 3 + 2, none⟩ (.string qd) = w9 := ⟨_, rfl⟩
        rw [hw9] at hst ⊢
        have hS9 : w9.cell? ⟨bl, 0, none⟩ = some (.slice (some ⟨la, 0, none⟩) n n) ∧ w9.cell? ⟨B, 0, none⟩ = some (.bool un) ∧ w9.cell? ⟨B, 1, none⟩ = some (.string ux) ∧ w9.cell? ⟨B, 2, none⟩ = some (.string ud) ∧ w9.cell? ⟨bg, 0, none⟩ = some (.bool gn) ∧ w9.cell? ⟨bg, 1, none⟩ = some (.string gx) ∧ w9.cell? ⟨bg, 2, none⟩ = some (.string gd) := ⟨cellT hst.2 h1 hS2.1, cellT hst.2 hBo hS2.2.1, cellT hst.2 hBo hS2.2.2.1, cellT hst.2 hBo hS2.2.2.2.1, cellT hst.2 h3 hS2.2.2.2.2.1, cellT hst.2 h3 hS2.2.2.2.2.2.1, cellT hst.2 h3 hS2.2.2.2.2.2.2⟩
        refine hK.out _ _ hS9 (fun _ => ?_)
        have HF := Lib.hid (And.intro hst.1 (HH.out.2.trans ((Hw5.out.mono fun _ h => h.elim).trans hst.2)))
        clear hK hS9 hst o1 o2 o3 o4 o5 o6 O4 HH HSET HCELL HSUB HMUL hw9 hS2
        refine wpAnyH_done (by kernel_rfl) ?_ _
        unfold OnlyN
        go_wp2_with fail
        refine ⟨⟨j + 1, _, _, _, _, _, _, _, _, _, _, _, _, _, _, _, _, _, _, ⟨hlt, HF⟩, rfl⟩, ?_⟩
        simp [tmpN]; omega
      · skip
        go_simp
        refine (HMUL.out _).mono ?_
        rintro e w4 ⟨rfl, t4⟩
        have hS1 : w4.cell? ⟨bl, 0, none⟩ = some (.slice (some ⟨la, 0, none⟩) n n) ∧ w4.cell? ⟨B, 0, none⟩ = some (.bool un) ∧ w4.cell? ⟨B, 1, none⟩ = some (.string ux) ∧ w4.cell? ⟨B, 2, none⟩ = some (.string ud) ∧ w4.cell? ⟨bg, 0, none⟩ = some (.bool gn) ∧ w4.cell? ⟨bg, 1, none⟩ = some (.string gx) ∧ w4.cell? ⟨bg, 2, none⟩ = some (.string gd) := ⟨cellT t4 id hS0.1, cellT t4 id hS0.2.1, cellT t4 id hS0.2.2.1, cellT t4 id hS0.2.2.2.1, cellT t4 id hS0.2.2.2.2.1, cellT t4 id hS0.2.2.2.2.2.1, cellT t4 id hS0.2.2.2.2.2.2⟩
        have Hw4 := Lib.hid (HT1.out.trans t4)
        refine hK.out _ _ hS1 (fun _ => ?_)
        clear hK t4 hS0
        refine wpAnyH_ready (rs := [5]) (by kernel_rfl) (by simp) ?_
        refine AllReadyH.cons (o := _) rfl (fun K hK => ?_) AllReadyH.nil
        obtain ⟨k0, k1, k2⟩ := HCELL.out _ (HO.out.turned Hw4.out id)
        go_simp
        refine hK.out _ _ hS1 (fun _ => ?_)
        clear hK k0 k1 k2
        refine wpAnyH_ready (rs := [9]) (by kernel_rfl) (by simp) ?_
        refine AllReadyH.cons (o := _) rfl (fun K hK => ?_) AllReadyH.nil
        go_simp
        refine (HSUB.out _).mono ?_
        rintro e w5 ⟨rfl, t4⟩
        have hS2 : w5.cell? ⟨bl, 0, none⟩ = some (.slice (some ⟨la, 0, none⟩) n n) ∧ w5.cell? ⟨B, 0, none⟩ = some (.bool un) ∧ w5.cell? ⟨B, 1, none⟩ = some (.string ux) ∧ w5.cell? ⟨B, 2, none⟩ = some (.string ud) ∧ w5.cell? ⟨bg, 0, none⟩ = some (.bool gn) ∧ w5.cell? ⟨bg, 1, none⟩ = some (.string gx) ∧ w5.cell? ⟨bg, 2, none⟩ = some (.string gd) := ⟨cellT t4 id hS1.1, cellT t4 id hS1.2.1, cellT t4 id hS1.2.2.1, cellT t4 id hS1.2.2.2.1, cellT t4 id hS1.2.2.2.2.1, cellT t4 id hS1.2.2.2.2.2.1, cellT t4 id hS1.2.2.2.2.2.2⟩
        have Hw5 := Lib.hid (Hw4.out.trans t4)
        refine hK.out _ _ hS2 (fun _ => ?_)
        clear hK t4 hS1
        have O4 := HO.out.turned Hw5.out id
        obtain ⟨o4, o5, o6⟩ := HCELL.out _ O4
        have o1 := O4.free (j * 3)
        have o2 := O4.free (j * 3 + 1)
        have o3 := O4.free (j * 3 + 2)
        refine wpAnyH_take (i := 10) (oi := _) (v := .pointer (some ⟨la, j * 3, none⟩)) rfl (by kernel_rfl) (by kernel_rfl) (by kernel_rfl) (fun _ _ _ h => h) (Or.inl ⟨by kernel_rfl, fun V hV => ?_⟩) hS2 ?_
        · obtain ⟨f0, f1, f2, f3, f4, f5, f6⟩ := hV
          go_simp
        simp only [List.getElem_toArray, List.getElem_cons_zero, List.getElem_cons_succ, Act.put, List.setIfInBounds_toArray, List.set_cons_zero, List.set_cons_succ]
        refine wpAnyH_ready (rs := [11]) (by kernel_rfl) (by simp) ?_
        refine AllReadyH.cons (o := _) rfl (fun K hK => ?_) AllReadyH.nil
        go_simp
        have hst := HSET.out _ O4
        obtain ⟨w9, hw9⟩ : ∃ w9, ((w5.setCell ⟨la, j * 3, none⟩ (.bool qn)).setCell ⟨la, j * 3 + 1, none⟩ (.string qx)).setCell ⟨la, j * 3 + 2, none⟩ (.string qd) = w9 := ⟨_, rfl⟩
        rw [hw9] at hst ⊢
        have hS9 : w9.cell? ⟨bl, 0, none⟩ = some (.slice (some ⟨la, 0, none⟩) n n) ∧ w9.cell? ⟨B, 0, none⟩ = some (.bool un) ∧ w9.cell? ⟨B, 1, none⟩ = some (.string ux) ∧ w9.cell? ⟨B, 2, none⟩ = some (.string ud) ∧ w9.cell? ⟨bg, 0, none⟩ = some (.bool gn) ∧ w9.cell? ⟨bg, 1, none⟩ = some (.string gx) ∧ w9.cell? ⟨bg, 2, none⟩ = some (.string gd) := ⟨cellT hst.2 h1 hS2.1, cellT hst.2 hBo hS2.2.1, cellT hst.2 hBo hS2.2.2.1, cellT hst.2 hBo hS2.2.2.2.1, cellT hst.2 h3 hS2.2.2.2.2.1, cellT hst.2 h3 hS2.2.2.2.2.2.1, cellT hst.2 h3 hS2.2.2.2.2.2.2⟩
        refine hK.out _ _ hS9 (fun _ => ?_)
        have HF := Lib.hid (And.intro hst.1 (HH.out.2.trans ((Hw5.out.mono fun _ h => h.elim).trans hst.2)))
        clear hK hS9 hst o1 o2 o3 o4 o5 o6 O4 HH HSET HCELL HSUB HMUL hw9 hS2
        refine wpAnyH_done (by kernel_rfl) ?_ _
        unfold OnlyN
        go_wp2_with fail
        refine ⟨⟨j + 1, _, _, _, _, _, _, _, _, _, _, _, _, _, _, _, _, _, _, ⟨hlt, HF⟩, rfl⟩, ?_⟩
        simp [tmpN]; omega
    · obtain rfl : j = n := by omega
      conv => arg 2; whnf
      go_wp2_with fail
      refine hexit _ _ _ _ _ _ _ _ _ _ _ _ _ _ _ _ _ _ _ wr ?_ HH.out.2
      have h1 := HH.out.1
      rwa [leftTo_all] at h1
end Go.Proofs.YtanhhdndgkhcfaaGreatDoor
namespace Go.Proofs.YtanhhdndgkhcfaaGreatDoor
open Go.RowKit
attribute [local go_sem ↓] run_eql_rat' run_neq_rat'
def growTo (x y : Nat → Rat) (p : Rat) : Nat → Rat
  | 0 => p
  | c + 1 => if y c = 0 then growTo x y p c else minR (growTo x y p c) (x c / y c)
theorem growTo_bytes {x y : Nat → Rat} {p : Rat} {k : Nat} (hx : ∀ g, BytesQ (x g) k) (hy : ∀ g, BytesQ (y g) k) (hp : BytesQ p (2 * k + 1)) : ∀ c, BytesQ (growTo x y p c) (2 * k + 1)
  | 0 => hp
  | c + 1 => by
    rw [growTo]
    split
    · exact growTo_bytes hx hy hp c
    · unfold minR
      split
      · exact growTo_bytes hx hy hp c
      · exact ((hx c).div (hy c)).mono (by omega)
theorem same_zero (q : Rat) : sameR (repR q) zeroR = decide (q = 0) := by
  unfold sameR
  congr 1
  refine propext ⟨fun e => ?_, fun e => by rw [e, repR_zero]⟩
  rw [← qR_repR q, e, ← repR_zero, qR_repR]
set_option maxRecDepth 1000000 in
set_option maxHeartbeats 1000000 in
set_option linter.unusedSimpArgs false in
theorem allotL5 {Q : Exit → Act → World → Prop} (n bl la wa bg k : Nat) (x y : Nat → Rat) (p : Rat) (w0 : World) (ds : List Deferred) (c0 c1 c2 c3 c4 c5 c6 c8 c9 c10 c11 c12 c13 c14 c15 c16 c17 c18 c19 c20 c26 c27 c28 c29 c30 c31 c32 c33 c34 c35 c36 c37 c38 c39 c40 c41 c42 c43 c44 c45 c46 c47 c48 c49 c50 c51 c52 c53 c54 c55 c56 c57 c58 c59 c60 c61 c62 c63 c64 c65 c66 c67 c68 c69 c70 c71 c72 c73 c74 c75 c76 c77 c78 c79 c80 c81 c82 c83 c84 c85 c86 c87 c88 c89 c90 c91 c92 c93 c94 c95 c96 c97 c98 c99 c100 c101 c125 c126 c127 c128 c129 c130 c131 c132 c133 c134 c135 c136 c137 c138 c139 c140 c141 c142 c143 c144 c145 c146 c147 c148 c149 c150 c151 c152 c153 c154 c155 c156 c157 c158 c159 c160 c161 c162 c163 c164 c165 c166 c167 c168 c169 c170 c171 c172 c173 c174 c175 c176 c177 c178 c179 c180 c181 c182 c183 c184 c185 c186 c187 c188 c189 c190 c191 c192 c193 c194 c195 c196 c22 c23 c24 c25 c105 c106 c107 c108 c109 c110 c111 c112 c113 c114 c115 c116 c117 c118 c119 c120 c121 c122 c123 c124 : Value)
    (hn : n ≤ 40) (hbl : w0.heap[bl]? = some (.cells #[.slice (some ⟨la, 0, none⟩) n n] 23 (0, 0))) (hla : OwnR w0 la (repL n x)) (hwa : OwnR w0 wa (repL n y)) (hbg : w0.heap[bg]? = some (.cells #[.bool (repR p).neg, .string (repR p).num, .string (repR p).den] 68 (0, 0)))
    (h1 : bl ≠ bg) (h2 : wa ≠ bg) (h3 : la ≠ bg) (hx : ∀ g, BytesQ (x g) k) (hy : ∀ g, BytesQ (y g) k) (hp : BytesQ p (2 * k + 1)) (hk : 4 * k + 4 ≤ 100000000)
    (hexit : ∀ (u22 u23 u24 u25 u104 u105 u106 u107 u108 u109 u110 u111 u112 u113 u114 u115 u116 u117 u118 u119 u120 u121 u122 u123 u124 : Value) (w' : World), w'.heap[bg]? = some (.cells #[.bool (repR (growTo x y p n)).neg, .string (repR (growTo x y p n)).num, .string (repR (growTo x y p n)).den] 68 (0, 0)) → Turned (fun i => i = bg) w0 w' → Q (.exit 8) { tmps := (c0 :: c1 :: c2 :: c3 :: c4 :: c5 :: c6 :: .pointer (some ⟨bl, 0, none⟩) :: c8 :: c9 :: c10 :: c11 :: c12 :: c13 :: c14 :: c15 :: c16 :: c17 :: c18 :: c19 :: c20 :: .pointer (some ⟨bg, 0, none⟩) :: u22 :: u23 :: u24 :: u25 :: c26 :: c27 :: c28 :: c29 :: c30 :: c31 :: c32 :: c33 :: c34 :: c35 :: c36 :: c37 :: c38 :: c39 :: c40 :: c41 :: c42 :: c43 :: c44 :: c45 :: c46 :: c47 :: c48 :: c49 :: c50 :: c51 :: c52 :: c53 :: c54 :: c55 :: c56 :: c57 :: c58 :: c59 :: c60 :: c61 :: c62 :: c63 :: c64 :: c65 :: c66 :: c67 :: c68 :: c69 :: c70 :: c71 :: c72 :: c73 :: c74 :: c75 :: c76 :: c77 :: c78 :: c79 :: c80 :: c81 :: c82 :: c83 :: c84 :: c85 :: c86 :: c87 :: c88 :: c89 :: c90 :: c91 :: c92 :: c93 :: c94 :: c95 :: c96 :: c97 :: c98 :: c99 :: c100 :: c101 :: .slice (some ⟨wa, 0, none⟩) n n :: (.int .i64 n) :: u104 :: u105 :: u106 :: u107 :: u108 :: u109 :: u110 :: u111 :: u112 :: u113 :: u114 :: u115 :: u116 :: u117 :: u118 :: u119 :: u120 :: u121 :: u122 :: u123 :: u124 :: c125 :: c126 :: c127 :: c128 :: c129 :: c130 :: c131 :: c132 :: c133 :: c134 :: c135 :: c136 :: c137 :: c138 :: c139 :: c140 :: c141 :: c142 :: c143 :: c144 :: c145 :: c146 :: c147 :: c148 :: c149 :: c150 :: c151 :: c152 :: c153 :: c154 :: c155 :: c156 :: c157 :: c158 :: c159 :: c160 :: c161 :: c162 :: c163 :: c164 :: c165 :: c166 :: c167 :: c168 :: c169 :: c170 :: c171 :: c172 :: c173 :: c174 :: c175 :: c176 :: c177 :: c178 :: c179 :: c180 :: c181 :: c182 :: c183 :: c184 :: c185 :: c186 :: c187 :: c188 :: c189 :: c190 :: c191 :: c192 :: c193 :: c194 :: c195 :: c196 :: []).toArray, defers := ds } w') :
    Code.wp Tryz.prog (Code.loop (aBody 8)) Q { tmps := (c0 :: c1 :: c2 :: c3 :: c4 :: c5 :: c6 :: .pointer (some ⟨bl, 0, none⟩) :: c8 :: c9 :: c10 :: c11 :: c12 :: c13 :: c14 :: c15 :: c16 :: c17 :: c18 :: c19 :: c20 :: .pointer (some ⟨bg, 0, none⟩) :: c22 :: c23 :: c24 :: c25 :: c26 :: c27 :: c28 :: c29 :: c30 :: c31 :: c32 :: c33 :: c34 :: c35 :: c36 :: c37 :: c38 :: c39 :: c40 :: c41 :: c42 :: c43 :: c44 :: c45 :: c46 :: c47 :: c48 :: c49 :: c50 :: c51 :: c52 :: c53 :: c54 :: c55 :: c56 :: c57 :: c58 :: c59 :: c60 :: c61 :: c62 :: c63 :: c64 :: c65 :: c66 :: c67 :: c68 :: c69 :: c70 :: c71 :: c72 :: c73 :: c74 :: c75 :: c76 :: c77 :: c78 :: c79 :: c80 :: c81 :: c82 :: c83 :: c84 :: c85 :: c86 :: c87 :: c88 :: c89 :: c90 :: c91 :: c92 :: c93 :: c94 :: c95 :: c96 :: c97 :: c98 :: c99 :: c100 :: c101 :: .slice (some ⟨wa, 0, none⟩) n n :: (.int .i64 n) :: (.int .i64 0) :: c105 :: c106 :: c107 :: c108 :: c109 :: c110 :: c111 :: c112 :: c113 :: c114 :: c115 :: c116 :: c117 :: c118 :: c119 :: c120 :: c121 :: c122 :: c123 :: c124 :: c125 :: c126 :: c127 :: c128 :: c129 :: c130 :: c131 :: c132 :: c133 :: c134 :: c135 :: c136 :: c137 :: c138 :: c139 :: c140 :: c141 :: c142 :: c143 :: c144 :: c145 :: c146 :: c147 :: c148 :: c149 :: c150 :: c151 :: c152 :: c153 :: c154 :: c155 :: c156 :: c157 :: c158 :: c159 :: c160 :: c161 :: c162 :: c163 :: c164 :: c165 :: c166 :: c167 :: c168 :: c169 :: c170 :: c171 :: c172 :: c173 :: c174 :: c175 :: c176 :: c177 :: c178 :: c179 :: c180 :: c181 :: c182 :: c183 :: c184 :: c185 :: c186 :: c187 :: c188 :: c189 :: c190 :: c191 :: c192 :: c193 :: c194 :: c195 :: c196 :: []).toArray, defers := ds } w0 := by
  have HBL := Lib.hid hbl
  have HWA := Lib.hid hwa
  have HLA := Lib.hid hla
  have HSX := Lib.hid hx
  have HSY := Lib.hid hy
  have HGB := Lib.hid (growTo_bytes hx hy hp)
  have HK := Lib.hid hk
  have l1 := getElem?_lt hbl
  have l3 := getElem?_lt hbg
  have l4 := hla.lt
  have HB0 : Hid (w0.heap[bg]? = some (.cells #[.bool (repR (growTo x y p 0)).neg, .string (repR (growTo x y p 0)).num, .string (repR (growTo x y p 0)).den] 68 (0, 0))) := Lib.hid hbg
  clear hbl hwa hbg hx hy hp hk hla
  refine wp_loop (fun a w' => ∃ (j : Nat) (u22 u23 u24 u25 u105 u106 u107 u108 u109 u110 u111 u112 u113 u114 u115 u116 u117 u118 u119 u120 u121 u122 u123 u124 : Value), (j ≤ n ∧ Hid (w'.heap[bg]? = some (.cells #[.bool (repR (growTo x y p j)).neg, .string (repR (growTo x y p j)).num, .string (repR (growTo x y p j)).den] 68 (0, 0)) ∧ Turned (fun i => i = bg) w0 w')) ∧ a = { tmps := (c0 :: c1 :: c2 :: c3 :: c4 :: c5 :: c6 :: .pointer (some ⟨bl, 0, none⟩) :: c8 :: c9 :: c10 :: c11 :: c12 :: c13 :: c14 :: c15 :: c16 :: c17 :: c18 :: c19 :: c20 :: .pointer (some ⟨bg, 0, none⟩) :: u22 :: u23 :: u24 :: u25 :: c26 :: c27 :: c28 :: c29 :: c30 :: c31 :: c32 :: c33 :: c34 :: c35 :: c36 :: c37 :: c38 :: c39 :: c40 :: c41 :: c42 :: c43 :: c44 :: c45 :: c46 :: c47 :: c48 :: c49 :: c50 :: c51 :: c52 :: c53 :: c54 :: c55 :: c56 :: c57 :: c58 :: c59 :: c60 :: c61 :: c62 :: c63 :: c64 :: c65 :: c66 :: c67 :: c68 :: c69 :: c70 :: c71 :: c72 :: c73 :: c74 :: c75 :: c76 :: c77 :: c78 :: c79 :: c80 :: c81 :: c82 :: c83 :: c84 :: c85 :: c86 :: c87 :: c88 :: c89 :: c90 :: c91 :: c92 :: c93 :: c94 :: c95 :: c96 :: c97 :: c98 :: c99 :: c100 :: c101 :: .slice (some ⟨wa, 0, none⟩) n n :: (.int .i64 n) :: (.int .i64 j) :: u105 :: u106 :: u107 :: u108 :: u109 :: u110 :: u111 :: u112 :: u113 :: u114 :: u115 :: u116 :: u117 :: u118 :: u119 :: u120 :: u121 :: u122 :: u123 :: u124 :: c125 :: c126 :: c127 :: c128 :: c129 :: c130 :: c131 :: c132 :: c133 :: c134 :: c135 :: c136 :: c137 :: c138 :: c139 :: c140 :: c141 :: c142 :: c143 :: c144 :: c145 :: c146 :: c147 :: c148 :: c149 :: c150 :: c151 :: c152 :: c153 :: c154 :: c155 :: c156 :: c157 :: c158 :: c159 :: c160 :: c161 :: c162 :: c163 :: c164 :: c165 :: c166 :: c167 :: c168 :: c169 :: c170 :: c171 :: c172 :: c173 :: c174 :: c175 :: c176 :: c177 :: c178 :: c179 :: c180 :: c181 :: c182 :: c183 :: c184 :: c185 :: c186 :: c187 :: c188 :: c189 :: c190 :: c191 :: c192 :: c193 :: c194 :: c195 :: c196 :: []).toArray, defers := ds }) (fun a _ => n - tmpN a 104) ?_ ?_
  · exact ⟨0, _, _, _, _, _, _, _, _, _, _, _, _, _, _, _, _, _, _, _, _, _, _, _, _, ⟨Nat.zero_le _, Lib.hid ⟨HB0.out, Turned.refl _ _⟩⟩, rfl⟩
  · clear HB0
    rintro a wr ⟨j, u22, u23, u24, u25, u105, u106, u107, u108, u109, u110, u111, u112, u113, u114, u115, u116, u117, u118, u119, u120, u121, u122, u123, u124, ⟨hj, HH⟩, rfl⟩
    by_cases hlt : j < n
    · obtain ⟨⟨un, ux, ud⟩, hu⟩ : ∃ v, repR (y j) = v := ⟨_, rfl⟩
      obtain ⟨⟨vn, vx, vd⟩, hv⟩ : ∃ v, repR (x j) = v := ⟨_, rfl⟩
      obtain ⟨⟨gn, gx, gd⟩, hg⟩ : ∃ v, repR (growTo x y p j) = v := ⟨_, rfl⟩
      have hwc := (HWA.out.turned HH.out.2 h2).cells (repL_get y hlt)
      rw [hu] at hwc
      obtain ⟨e0, e1, e2⟩ := hwc
      have hlc := (HLA.out.turned HH.out.2 h3).cells (repL_get x hlt)
      rw [hv] at hlc
      obtain ⟨k0, k1, k2⟩ := hlc
      have bxl := (HH.out.2.block bl l1 h1).trans HBL.out
      have bxg := HH.out.1
      rw [hg] at bxg
      have hlg := getElem?_lt bxg
      have hlw := HH.out.2.size
      have HST := Lib.hid (show growTo x y p (j + 1) = if y j = 0 then growTo x y p j else minR (growTo x y p j) (x j / y j) from rfl)
      obtain ⟨s, hs⟩ : ∃ s, decide (y j = 0) = s := ⟨_, rfl⟩
      have hs2 : sameR ⟨un, ux, ud⟩ ⟨false, ⟨#[]⟩, ⟨#[]⟩⟩ = s := by
        have := same_zero (y j)
        rw [hu, hs] at this
        exact this
      have TA := (Turned.refl (fun _ => False) wr).alloc (.cells #[.bool un, .string ux, .string ud] 68)
      have z1 := World.alloc_heap_new wr (.cells #[.bool un, .string ux, .string ud] 68)
      have HZ : Hid (∀ W, Calls Tryz.prog 57 #[] W fun e w' => e = .returned (.agg #[.bool false, .string ⟨#[]⟩, .string ⟨#[]⟩]) ∧ Turned (fun _ => False) W w') := Lib.hid hZero_any
      have HU := Lib.hid hu
      have HV := Lib.hid hv
      have HG := Lib.hid hg
      have HS := Lib.hid hs
      have hj0 : (0 : Int) ≤ j := by omega
      have hj1 : (j : Int) < n := by omega
      clear hu hv hg hs
      conv => arg 2; whnf
      go_wp2_with fail
      obtain ⟨B, hB⟩ : ∃ B, wr.heap.size = B := ⟨_, rfl⟩
      obtain ⟨w1, hw1⟩ : ∃ w1, w1 = wr.alloc (.cells #[.bool un, .string ux, .string ud] 68) := ⟨_, rfl⟩
      rw [← hw1] at TA z1 ⊢
      rw [hB] at z1 hlg hlw ⊢
      clear hw1
      obtain ⟨y0, y1, y2, -, -, -⟩ := box3 z1
      have T1 := TA.trans ((Turned.refl (fun _ => False) w1).drew)
      have HT1 := Lib.hid T1
      have hS0 : (w1.drew).cell? ⟨B, 0, none⟩ = some (.bool un) ∧ (w1.drew).cell? ⟨B, 1, none⟩ = some (.string ux) ∧ (w1.drew).cell? ⟨B, 2, none⟩ = some (.string ud) := ⟨y0, y1, y2⟩
      have HF0 := Lib.hid (And.intro bxl (And.intro bxg (And.intro k0 (And.intro k1 k2))))
      have HE0 := Lib.hid hB
      clear TA T1 z1 y0 y1 y2 e0 e1 e2 hB bxl bxg k0 k1 k2
      refine wp_region_plain (S := fun V => V.cell? ⟨B, 0, none⟩ = some (.bool un) ∧ V.cell? ⟨B, 1, none⟩ = some (.string ux) ∧ V.cell? ⟨B, 2, none⟩ = some (.string ud)) (by kernel_rfl) ?_
      refine wpAnyH_take (i := 0) (oi := _) (v := .agg #[.bool un, .string ux, .string ud]) rfl (by kernel_rfl) (by kernel_rfl) (by kernel_rfl) (fun _ _ _ h => h) (Or.inl ⟨by kernel_rfl, fun V hV => ?_⟩) hS0 ?_
      · obtain ⟨f0, f1, f2⟩ := hV
        go_simp
      simp only [List.getElem_toArray, List.getElem_cons_zero, List.getElem_cons_succ, Act.put, List.setIfInBounds_toArray, List.set_cons_zero, List.set_cons_succ]
      refine wpAnyH_ready (rs := [1]) (by kernel_rfl) (by simp) ?_
      refine AllReadyH.cons (o := _) rfl (fun K hK => ?_) AllReadyH.nil
      go_simp
      refine (HZ.out _).mono ?_
      rintro e w4 ⟨rfl, t4⟩
      have hS1 : w4.cell? ⟨B, 0, none⟩ = some (.bool un) ∧ w4.cell? ⟨B, 1, none⟩ = some (.string ux) ∧ w4.cell? ⟨B, 2, none⟩ = some (.string ud) := ⟨cellT t4 id hS0.1, cellT t4 id hS0.2.1, cellT t4 id hS0.2.2⟩
      have HT4 := Lib.hid (HT1.out.trans t4)
      refine hK.out _ _ hS1 (fun _ => ?_)
      clear hK t4 hS0
      refine wpAnyH_take (i := 2) (oi := _) (v := .bool (!s)) rfl (by kernel_rfl) (by kernel_rfl) (by kernel_rfl) (fun _ _ _ h => h) (Or.inl ⟨by kernel_rfl, fun V hV => ?_⟩) hS1 ?_
      · obtain ⟨f0, f1, f2⟩ := hV
        go_simp
      simp only [List.getElem_toArray, List.getElem_cons_zero, List.getElem_cons_succ, Act.put, List.setIfInBounds_toArray, List.set_cons_zero, List.set_cons_succ]
      refine wpAnyH_done (by kernel_rfl) ?_ _
      unfold OnlyN
      cases s
      · have h5 : y j ≠ 0 := of_decide_eq_false HS.out
        obtain ⟨⟨qn, qx, qd⟩, hq⟩ : ∃ v, repR (x j / y j) = v := ⟨_, rfl⟩
        obtain ⟨⟨mn, mx, md⟩, hm⟩ : ∃ v, repR (minR (growTo x y p j) (x j / y j)) = v := ⟨_, rfl⟩
        have HDIV := Lib.hid (fun W => qDiv_any ⟨vn, vx, vd⟩ ⟨un, ux, ud⟩ (4 * k + 4) W (by omega) HK.out (by rw [← HV.out]; exact ((HSX.out j).mono (by omega)).szr) (by rw [← HU.out]; exact ((HSY.out j).mono (by omega)).szr) (by rw [← HU.out, qR_repR]; exact h5))
        rw [show qR (⟨vn, vx, vd⟩ : Rv) = x j by rw [← HV.out, qR_repR], show qR (⟨un, ux, ud⟩ : Rv) = y j by rw [← HU.out, qR_repR], hq] at HDIV
        have HMIN := Lib.hid (fun W => qMin_any ⟨gn, gx, gd⟩ ⟨qn, qx, qd⟩ (4 * k + 4) W (by omega) HK.out (by rw [← HG.out]; exact ((HGB.out j).mono (by omega)).szr) (by rw [← hq]; exact (((HSX.out j).div (HSY.out j)).mono (by omega)).szr))
        rw [show qR (⟨gn, gx, gd⟩ : Rv) = growTo x y p j by rw [← HG.out, qR_repR], show qR (⟨qn, qx, qd⟩ : Rv) = x j / y j by rw [← hq, qR_repR], hm] at HMIN
        have HM := Lib.hid ((congrArg repR (HST.out.trans (if_neg h5))).trans hm)
        clear hq hm h5 HST HU HV HG HS hs2
        go_wp2_with fail
        have T4 := HT4.out.trans ((Turned.refl (fun _ => False) w4).drew)
        have hS2 : (w4.drew).cell? ⟨bl, 0, none⟩ = some (.slice (some ⟨la, 0, none⟩) n n) ∧ (w4.drew).cell? ⟨la, j * 3, none⟩ = some (.bool vn) ∧ (w4.drew).cell? ⟨la, j * 3 + 1, none⟩ = some (.string vx) ∧ (w4.drew).cell? ⟨la, j * 3 + 2, none⟩ = some (.string vd) ∧ (w4.drew).cell? ⟨B, 0, none⟩ = some (.bool un) ∧ (w4.drew).cell? ⟨B, 1, none⟩ = some (.string ux) ∧ (w4.drew).cell? ⟨B, 2, none⟩ = some (.string ud) := ⟨cell_of_box (keepB T4 HF0.out.1), cellT T4 id HF0.out.2.2.1, cellT T4 id HF0.out.2.2.2.1, cellT T4 id HF0.out.2.2.2.2, hS1.1, hS1.2.1, hS1.2.2⟩
        have HT5 := Lib.hid T4
        clear T4 hS1
        refine wp_region_plain (S := fun V => V.cell? ⟨bl, 0, none⟩ = some (.slice (some ⟨la, 0, none⟩) n n) ∧ V.cell? ⟨la, j * 3, none⟩ = some (.bool vn) ∧ V.cell? ⟨la, j * 3 + 1, none⟩ = some (.string vx) ∧ V.cell? ⟨la, j * 3 + 2, none⟩ = some (.string vd) ∧ V.cell? ⟨B, 0, none⟩ = some (.bool un) ∧ V.cell? ⟨B, 1, none⟩ = some (.string ux) ∧ V.cell? ⟨B, 2, none⟩ = some (.string ud)) (by kernel_rfl) ?_
        refine wpAnyH_take (i := 0) (oi := _) (v := .slice (some ⟨la, 0, none⟩) n n) rfl (by kernel_rfl) (by kernel_rfl) (by kernel_rfl) (fun _ _ _ h => h) (Or.inl ⟨by kernel_rfl, fun V hV => ?_⟩) hS2 ?_
        · obtain ⟨f0, f1, f2, f3, f4, f5, f6⟩ := hV
          go_simp
        refine wpAnyH_take (i := 1) (oi := _) (v := (.int .i64 j)) rfl (by kernel_rfl) (by kernel_rfl) (by kernel_rfl) (fun _ _ _ h => h) (Or.inl ⟨by kernel_rfl, fun V hV => ?_⟩) hS2 ?_
        · obtain ⟨f0, f1, f2, f3, f4, f5, f6⟩ := hV
          go_simp
        refine wpAnyH_take (i := 2) (oi := _) (v := .pointer (some ⟨la, j * 3, none⟩)) rfl (by kernel_rfl) (by kernel_rfl) (by kernel_rfl) (fun _ _ _ h => h) (Or.inl ⟨by kernel_rfl, fun V hV => ?_⟩) hS2 ?_
        · obtain ⟨f0, f1, f2, f3, f4, f5, f6⟩ := hV
          go_simp
        refine wpAnyH_take (i := 3) (oi := _) (v := .agg #[.bool vn, .string vx, .string vd]) rfl (by kernel_rfl) (by kernel_rfl) (by kernel_rfl) (fun _ _ _ h => h) (Or.inl ⟨by kernel_rfl, fun V hV => ?_⟩) hS2 ?_
        · obtain ⟨f0, f1, f2, f3, f4, f5, f6⟩ := hV
          go_simp
        refine wpAnyH_take (i := 4) (oi := _) (v := .agg #[.bool un, .string ux, .string ud]) rfl (by kernel_rfl) (by kernel_rfl) (by kernel_rfl) (fun _ _ _ h => h) (Or.inl ⟨by kernel_rfl, fun V hV => ?_⟩) hS2 ?_
        · obtain ⟨f0, f1, f2, f3, f4, f5, f6⟩ := hV
          go_simp
        simp only [List.getElem_toArray, List.getElem_cons_zero, List.getElem_cons_succ, Act.put, List.setIfInBounds_toArray, List.set_cons_zero, List.set_cons_succ]
        refine wpAnyH_ready (rs := [5, 9]) (by kernel_rfl) (by simp) ?_
        refine AllReadyH.cons (o := _) rfl (fun K hK => ?_) (AllReadyH.cons (o := _) rfl (fun K hK => ?_) AllReadyH.nil)
        · skip
          go_simp
          refine (HDIV.out _).mono ?_
          rintro e w5 ⟨rfl, t4⟩
          have hS3 : w5.cell? ⟨bl, 0, none⟩ = some (.slice (some ⟨la, 0, none⟩) n n) ∧ w5.cell? ⟨la, j * 3, none⟩ = some (.bool vn) ∧ w5.cell? ⟨la, j * 3 + 1, none⟩ = some (.string vx) ∧ w5.cell? ⟨la, j * 3 + 2, none⟩ = some (.string vd) ∧ w5.cell? ⟨B, 0, none⟩ = some (.bool un) ∧ w5.cell? ⟨B, 1, none⟩ = some (.string ux) ∧ w5.cell? ⟨B, 2, none⟩ = some (.string ud) := ⟨cellT t4 id hS2.1, cellT t4 id hS2.2.1, cellT t4 id hS2.2.2.1, cellT t4 id hS2.2.2.2.1, cellT t4 id hS2.2.2.2.2.1, cellT t4 id hS2.2.2.2.2.2.1, cellT t4 id hS2.2.2.2.2.2.2⟩
          have HT6 := Lib.hid (HT5.out.trans t4)
          clear t4
          refine hK.out _ _ hS3 (fun _ => ?_)
          clear hK
          refine wpAnyH_take (i := 6) (oi := _) (v := .tuple #[.agg #[.bool qn, .string qx, .string qd], (.int .i64 0)]) rfl (by kernel_rfl) (by kernel_rfl) (by kernel_rfl) (fun _ _ _ h => h) (Or.inl ⟨by kernel_rfl, fun V hV => ?_⟩) hS3 ?_
          · obtain ⟨f0, f1, f2, f3, f4, f5, f6⟩ := hV
            go_simp
          refine wpAnyH_take (i := 7) (oi := _) (v := .agg #[.bool qn, .string qx, .string qd]) rfl (by kernel_rfl) (by kernel_rfl) (by kernel_rfl) (fun _ _ _ h => h) (Or.inl ⟨by kernel_rfl, fun V hV => ?_⟩) hS3 ?_
          · obtain ⟨f0, f1, f2, f3, f4, f5, f6⟩ := hV
            go_simp
          refine wpAnyH_take (i := 8) (oi := _) (v := (.int .i64 0)) rfl (by kernel_rfl) (by kernel_rfl) (by kernel_rfl) (fun _ _ _ h => h) (Or.inl ⟨by kernel_rfl, fun V hV => ?_⟩) hS3 ?_
          · obtain ⟨f0, f1, f2, f3, f4, f5, f6⟩ := hV
            go_simp
          simp only [List.getElem_toArray, List.getElem_cons_zero, List.getElem_cons_succ, Act.put, List.setIfInBounds_toArray, List.set_cons_zero, List.set_cons_succ]
          refine wpAnyH_ready (rs := [9]) (by kernel_rfl) (by simp) ?_
          refine AllReadyH.cons (o := _) rfl (fun K hK => ?_) AllReadyH.nil
          go_simp
          have TA := (Turned.refl (fun _ => False) w5).alloc (.cells #[.bool false, .string ⟨#[]⟩, .string ⟨#[]⟩] 68)
          have z1 : (w5.alloc (.cells #[.bool false, .string ⟨#[]⟩, .string ⟨#[]⟩] 68)).heap[w5.heap.size]? = some (.cells #[.bool false, .string ⟨#[]⟩, .string ⟨#[]⟩] 68 (0, 0)) := World.alloc_heap_new w5 (.cells #[.bool false, .string ⟨#[]⟩, .string ⟨#[]⟩] 68)
          have hDB : B < w5.heap.size := World.block_lt_of_cell? w5 ⟨B, 0, none⟩ hS3.2.2.2.2.1
          obtain ⟨D, hD⟩ : ∃ D, w5.heap.size = D := ⟨_, rfl⟩
          obtain ⟨w6, hw⟩ : ∃ w, w = w5.alloc (.cells #[.bool false, .string ⟨#[]⟩, .string ⟨#[]⟩] 68) := ⟨_, rfl⟩
          rw [← hw] at TA z1 ⊢
          rw [hD] at z1 hDB ⊢
          clear hw hD
          have hS4 : w6.cell? ⟨bl, 0, none⟩ = some (.slice (some ⟨la, 0, none⟩) n n) ∧ w6.cell? ⟨la, j * 3, none⟩ = some (.bool vn) ∧ w6.cell? ⟨la, j * 3 + 1, none⟩ = some (.string vx) ∧ w6.cell? ⟨la, j * 3 + 2, none⟩ = some (.string vd) ∧ w6.cell? ⟨B, 0, none⟩ = some (.bool un) ∧ w6.cell? ⟨B, 1, none⟩ = some (.string ux) ∧ w6.cell? ⟨B, 2, none⟩ = some (.string ud) := ⟨cellT TA id hS3.1, cellT TA id hS3.2.1, cellT TA id hS3.2.2.1, cellT TA id hS3.2.2.2.1, cellT TA id hS3.2.2.2.2.1, cellT TA id hS3.2.2.2.2.2.1, cellT TA id hS3.2.2.2.2.2.2⟩
          have HT7 := Lib.hid (HT6.out.trans TA)
          have HZ1 := Lib.hid z1
          clear TA z1 hS3
          refine hK.out _ _ hS4 (fun _ => ?_)
          clear hK
          refine wpAnyH_ready (rs := [10]) (by kernel_rfl) (by simp) ?_
          refine AllReadyH.cons (o := _) rfl (fun K hK => ?_) AllReadyH.nil
          obtain ⟨d0, d1, d2, d3, d4, d5⟩ := box3 HZ1.out
          go_simp
          have hst := set3 HZ1.out (.bool qn) (.string qx) (.string qd)
          obtain ⟨w9, hw9⟩ : ∃ w9, ((w6.setCell ⟨D, 0, none⟩ (.bool qn)).setCell ⟨D, 1, none⟩ (.string qx)).setCell ⟨D, 2, none⟩ (.string qd) = w9 := ⟨_, rfl⟩
          rw [hw9] at hst ⊢
          have HT9 := Lib.hid (HT7.out.fresh hst.2 (fun g hg => by have := HE0.out; omega))
          have hS9 : w9.cell? ⟨bl, 0, none⟩ = some (.slice (some ⟨la, 0, none⟩) n n) ∧ w9.cell? ⟨la, j * 3, none⟩ = some (.bool vn) ∧ w9.cell? ⟨la, j * 3 + 1, none⟩ = some (.string vx) ∧ w9.cell? ⟨la, j * 3 + 2, none⟩ = some (.string vd) ∧ w9.cell? ⟨B, 0, none⟩ = some (.bool un) ∧ w9.cell? ⟨B, 1, none⟩ = some (.string ux) ∧ w9.cell? ⟨B, 2, none⟩ = some (.string ud) := ⟨cellT hst.2 (by omega) hS4.1, cellT hst.2 (by omega) hS4.2.1, cellT hst.2 (by omega) hS4.2.2.1, cellT hst.2 (by omega) hS4.2.2.2.1, cellT hst.2 (by omega) hS4.2.2.2.2.1, cellT hst.2 (by omega) hS4.2.2.2.2.2.1, cellT hst.2 (by omega) hS4.2.2.2.2.2.2⟩
          have HZ9 := Lib.hid hst.1
          refine hK.out _ _ hS9 (fun _ => ?_)
          clear hK d0 d1 d2 d3 d4 d5 hst hw9 hS4
          refine wpAnyH_take (i := 11) (oi := _) (v := (.int .i64 0)) rfl (by kernel_rfl) (by kernel_rfl) (by kernel_rfl) (fun _ _ _ h => h) (Or.inl ⟨by kernel_rfl, fun V hV => ?_⟩) hS9 ?_
          · obtain ⟨f0, f1, f2, f3, f4, f5, f6⟩ := hV
            go_simp
          simp only [List.getElem_toArray, List.getElem_cons_zero, List.getElem_cons_succ, Act.put, List.setIfInBounds_toArray, List.set_cons_zero, List.set_cons_succ]
          refine wpAnyH_done (by kernel_rfl) ?_ _
          unfold OnlyN
          have HB9 := Lib.hid (keepB HT9.out HF0.out.2.1)
          obtain ⟨b0, b1, b2, -, -, -⟩ := box3 HB9.out
          obtain ⟨q0, q1, q2, -, -, -⟩ := box3 HZ9.out
          clear hS9
          go_wp2_with (go_at_call 33; refine (HMIN.out _).mono ?_; rintro e w8 ⟨rfl, t8⟩; have HB8 := Lib.hid (keepB t8 HB9.out); obtain ⟨m0, m1, m2, f0, f1, f2⟩ := box3 HB8.out; have HT8 := Lib.hid t8; clear t8)
          have hst := set3 HB8.out (.bool mn) (.string mx) (.string md)
          refine ⟨⟨j + 1, _, _, _, _, _, _, _, _, _, _, _, _, _, _, _, _, _, _, _, _, _, _, _, _, ⟨hlt, Lib.hid ⟨?_, HH.out.2.trans (((HT9.out.trans HT8.out).mono fun _ h => h.elim).trans hst.2)⟩⟩, rfl⟩, ?_⟩
          · rw [HM.out]; exact hst.1
          · simp [tmpN]; omega
        · skip
          go_simp
          have TA := ((Turned.refl (fun _ => False) w4).alloc (.cells #[.bool false, .string ⟨#[]⟩, .string ⟨#[]⟩] 68)).drew
          have z1 : ((w4.alloc (.cells #[.bool false, .string ⟨#[]⟩, .string ⟨#[]⟩] 68)).drew).heap[w4.heap.size]? = some (.cells #[.bool false, .string ⟨#[]⟩, .string ⟨#[]⟩] 68 (0, 0)) := World.alloc_heap_new w4 (.cells #[.bool false, .string ⟨#[]⟩, .string ⟨#[]⟩] 68)
          have hDB : B < w4.heap.size := World.block_lt_of_cell? w4 ⟨B, 0, none⟩ hS2.2.2.2.2.1
          obtain ⟨D, hD⟩ : ∃ D, w4.heap.size = D := ⟨_, rfl⟩
          obtain ⟨w5, hw⟩ : ∃ w, w = (w4.alloc (.cells #[.bool false, .string ⟨#[]⟩, .string ⟨#[]⟩] 68)).drew := ⟨_, rfl⟩
          rw [← hw] at TA z1 ⊢
          rw [hD] at z1 hDB ⊢
          clear hw hD
          have hS3 : w5.cell? ⟨bl, 0, none⟩ = some (.slice (some ⟨la, 0, none⟩) n n) ∧ w5.cell? ⟨la, j * 3, none⟩ = some (.bool vn) ∧ w5.cell? ⟨la, j * 3 + 1, none⟩ = some (.string vx) ∧ w5.cell? ⟨la, j * 3 + 2, none⟩ = some (.string vd) ∧ w5.cell? ⟨B, 0, none⟩ = some (.bool un) ∧ w5.cell? ⟨B, 1, none⟩ = some (.string ux) ∧ w5.cell? ⟨B, 2, none⟩ = some (.string ud) := ⟨cellT TA id hS2.1, cellT TA id hS2.2.1, cellT TA id hS2.2.2.1, cellT TA id hS2.2.2.2.1, cellT TA id hS2.2.2.2.2.1, cellT TA id hS2.2.2.2.2.2.1, cellT TA id hS2.2.2.2.2.2.2⟩
          have HT6 := Lib.hid (HT4.out.trans TA)
          have HZ0 := Lib.hid z1
          clear TA z1 hS2
          refine hK.out _ _ hS3 (fun _ => ?_)
          clear hK
          refine wpAnyH_ready (rs := [5]) (by kernel_rfl) (by simp) ?_
          refine AllReadyH.cons (o := _) rfl (fun K hK => ?_) AllReadyH.nil
          go_simp
          refine (HDIV.out _).mono ?_
          rintro e w6 ⟨rfl, t4⟩
          have hS4 : w6.cell? ⟨bl, 0, none⟩ = some (.slice (some ⟨la, 0, none⟩) n n) ∧ w6.cell? ⟨la, j * 3, none⟩ = some (.bool vn) ∧ w6.cell? ⟨la, j * 3 + 1, none⟩ = some (.string vx) ∧ w6.cell? ⟨la, j * 3 + 2, none⟩ = some (.string vd) ∧ w6.cell? ⟨B, 0, none⟩ = some (.bool un) ∧ w6.cell? ⟨B, 1, none⟩ = some (.string ux) ∧ w6.cell? ⟨B, 2, none⟩ = some (.string ud) := ⟨cellT t4 id hS3.1, cellT t4 id hS3.2.1, cellT t4 id hS3.2.2.1, cellT t4 id hS3.2.2.2.1, cellT t4 id hS3.2.2.2.2.1, cellT t4 id hS3.2.2.2.2.2.1, cellT t4 id hS3.2.2.2.2.2.2⟩
          have HT7 := Lib.hid (HT6.out.trans t4)
          have HZ1 := Lib.hid (keepB t4 HZ0.out)
          clear t4 hS3
          refine hK.out _ _ hS4 (fun _ => ?_)
          clear hK
          refine wpAnyH_take (i := 6) (oi := _) (v := .tuple #[.agg #[.bool qn, .string qx, .string qd], (.int .i64 0)]) rfl (by kernel_rfl) (by kernel_rfl) (by kernel_rfl) (fun _ _ _ h => h) (Or.inl ⟨by kernel_rfl, fun V hV => ?_⟩) hS4 ?_
          · obtain ⟨f0, f1, f2, f3, f4, f5, f6⟩ := hV
            go_simp
          refine wpAnyH_take (i := 7) (oi := _) (v := .agg #[.bool qn, .string qx, .string qd]) rfl (by kernel_rfl) (by kernel_rfl) (by kernel_rfl) (fun _ _ _ h => h) (Or.inl ⟨by kernel_rfl, fun V hV => ?_⟩) hS4 ?_
          · obtain ⟨f0, f1, f2, f3, f4, f5, f6⟩ := hV
            go_simp
          refine wpAnyH_take (i := 8) (oi := _) (v := (.int .i64 0)) rfl (by kernel_rfl) (by kernel_rfl) (by kernel_rfl) (fun _ _ _ h => h) (Or.inl ⟨by kernel_rfl, fun V hV => ?_⟩) hS4 ?_
          · obtain ⟨f0, f1, f2, f3, f4, f5, f6⟩ := hV
            go_simp
          simp only [List.getElem_toArray, List.getElem_cons_zero, List.getElem_cons_succ, Act.put, List.setIfInBounds_toArray, List.set_cons_zero, List.set_cons_succ]
          refine wpAnyH_ready (rs := [10]) (by kernel_rfl) (by simp) ?_
          refine AllReadyH.cons (o := _) rfl (fun K hK => ?_) AllReadyH.nil
          obtain ⟨d0, d1, d2, d3, d4, d5⟩ := box3 HZ1.out
          go_simp
          have hst := set3 HZ1.out (.bool qn) (.string qx) (.string qd)
          obtain ⟨w9, hw9⟩ : ∃ w9, ((w6.setCell ⟨D, 0, none⟩ (.bool qn)).setCell ⟨D, 1, none⟩ (.string qx)).setCell ⟨D, 2, none⟩ (.string qd) = w9 := ⟨_, rfl⟩
          rw [hw9] at hst ⊢
          have HT9 := Lib.hid (HT7.out.fresh hst.2 (fun g hg => by have := HE0.out; omega))
          have hS9 : w9.cell? ⟨bl, 0, none⟩ = some (.slice (some ⟨la, 0, none⟩) n n) ∧ w9.cell? ⟨la, j * 3, none⟩ = some (.bool vn) ∧ w9.cell? ⟨la, j * 3 + 1, none⟩ = some (.string vx) ∧ w9.cell? ⟨la, j * 3 + 2, none⟩ = some (.string vd) ∧ w9.cell? ⟨B, 0, none⟩ = some (.bool un) ∧ w9.cell? ⟨B, 1, none⟩ = some (.string ux) ∧ w9.cell? ⟨B, 2, none⟩ = some (.string ud) := ⟨cellT hst.2 (by omega) hS4.1, cellT hst.2 (by omega) hS4.2.1, cellT hst.2 (by omega) hS4.2.2.1, cellT hst.2 (by omega) hS4.2.2.2.1, cellT hst.2 (by omega) hS4.2.2.2.2.1, cellT hst.2 (by omega) hS4.2.2.2.2.2.1, cellT hst.2 (by omega) hS4.2.2.2.2.2.2⟩
          have HZ9 := Lib.hid hst.1
          refine hK.out _ _ hS9 (fun _ => ?_)
          clear hK d0 d1 d2 d3 d4 d5 hst hw9 hS4
          refine wpAnyH_take (i := 11) (oi := _) (v := (.int .i64 0)) rfl (by kernel_rfl) (by kernel_rfl) (by kernel_rfl) (fun _ _ _ h => h) (Or.inl ⟨by kernel_rfl, fun V hV => ?_⟩) hS9 ?_
          · obtain ⟨f0, f1, f2, f3, f4, f5, f6⟩ := hV
            go_simp
          simp only [List.getElem_toArray, List.getElem_cons_zero, List.getElem_cons_succ, Act.put, List.setIfInBounds_toArray, List.set_cons_zero, List.set_cons_succ]
          refine wpAnyH_done (by kernel_rfl) ?_ _
          unfold OnlyN
          have HB9 := Lib.hid (keepB HT9.out HF0.out.2.1)
          obtain ⟨b0, b1, b2, -, -, -⟩ := box3 HB9.out
          obtain ⟨q0, q1, q2, -, -, -⟩ := box3 HZ9.out
          clear hS9
          go_wp2_with (go_at_call 33; refine (HMIN.out _).mono ?_; rintro e w8 ⟨rfl, t8⟩; have HB8 := Lib.hid (keepB t8 HB9.out); obtain ⟨m0, m1, m2, f0, f1, f2⟩ := box3 HB8.out; have HT8 := Lib.hid t8; clear t8)
          have hst := set3 HB8.out (.bool mn) (.string mx) (.string md)
          refine ⟨⟨j + 1, _, _, _, _, _, _, _, _, _, _, _, _, _, _, _, _, _, _, _, _, _, _, _, _, ⟨hlt, Lib.hid ⟨?_, HH.out.2.trans (((HT9.out.trans HT8.out).mono fun _ h => h.elim).trans hst.2)⟩⟩, rfl⟩, ?_⟩
          · rw [HM.out]; exact hst.1
          · simp [tmpN]; omega
      · go_wp2_with fail
        have h5 : y j = 0 := of_decide_eq_true HS.out
        refine ⟨⟨j + 1, _, _, _, _, _, _, _, _, _, _, _, _, _, _, _, _, _, _, _, _, _, _, _, _, ⟨hlt, Lib.hid ⟨?_, HH.out.2.trans (HT4.out.mono fun _ h => h.elim)⟩⟩, rfl⟩, ?_⟩
        · rw [HST.out, if_pos h5]
          exact keepB HT4.out HH.out.1
        · simp [tmpN]; omega
    · obtain rfl : j = n := by omega
      conv => arg 2; whnf
      go_wp2_with fail
      exact hexit _ _ _ _ _ _ _ _ _ _ _ _ _ _ _ _ _ _ _ _ _ _ _ _ _ wr HH.out.1 HH.out.2
end Go.Proofs.YtanhhdndgkhcfaaGreatDoor
namespace Go.Proofs.YtanhhdndgkhcfaaGreatDoor
section
variable {on : Nat → Nat → Bool} {n m : Nat} {place : Nat → Nat} {rank : Nat → Int} {a x t : Nat → Rat} {op : Nat → Bool} {part : Rat} {r : Int}
theorem min_shift (p u v : Rat) : minQ (p + u) (p + v) = p + minR u v := by
  unfold minQ minR
  by_cases h : u ≤ v
  · rw [if_pos h, if_pos (by grind)]
  · rw [if_neg h, if_neg (by grind)]
theorem reach_grow : ∀ c, reachQ on n m place a x t op part c = part + growTo (restQ on n m place x t) (wantQ on m place a op) (1 - part) c
  | 0 => by
    show (1 : Rat) = part + (1 - part)
    grind
  | c + 1 => by
    rw [reachQ, growTo, reach_grow c]
    by_cases h : wantQ on m place a op c = 0
    · rw [if_pos h, if_pos h]
    · rw [if_neg h, if_neg h, min_shift]
theorem rest_grow (h : InvQ on n m place rank a x r t op part) (g : Rat) (i : Nat) : restQ on n m place x (growQ a t op (part + g)) i = restQ on n m place x t i - wantQ on m place a op i * g := by
  unfold restQ
  rw [use_grow h]
  grind
theorem rank_skip {c c' : Int} (h : RankedQ on n m place rank a x c t) (hc : c ≤ c') (hn : ∀ k, k < m → ¬ (c ≤ rank k ∧ rank k < c')) : RankedQ on n m place rank a x c' t :=
  ⟨h.box, h.fits, fun k hk hr => h.later k hk (by omega), fun k hk hr hlt => h.done k hk (by have := hn k hk; omega) hlt⟩
theorem rank_first (h : RankedQ on n m place rank a x r t) : InvQ on n m place rank a x r t (firstOpen rank a r) 0 := by
  refine ⟨fun k hk ho => ?_, Rat.le_refl, by decide, h.box, h.fits, fun k hk hr => h.later k hk (by omega), fun k hk hr => ?_, fun k hk hd hlt => ?_⟩
  · unfold firstOpen at ho
    rw [Bool.and_eq_true, decide_eq_true_eq, decide_eq_true_eq] at ho
    refine ⟨ho.1, ho.2, ?_⟩
    rw [h.later k hk (by omega)]
    grind
  · rw [h.later k hk (by omega)]; grind
  · rcases hd with hd | ⟨hd, ho⟩
    · exact h.done k hk hd hlt
    · exfalso
      unfold firstOpen at ho
      rw [hd] at ho
      have hz : a k = 0 := by simpa using ho
      have := (h.box k hk).1
      rw [hz] at hlt
      grind
theorem rank_last (h : InvQ on n m place rank a x r t op part) (hs : someQ m op = false) : RankedQ on n m place rank a x (r + 1) t := by
  have h2 : ∀ k, k < m → op k = false := fun k hk => by
    cases ho : op k with
    | false => rfl
    | true =>
      have := some_iff.2 ⟨k, hk, ho⟩
      rw [hs] at this
      cases this
  refine ⟨h.box, h.fits, fun k hk hr => h.later k hk (by omega), fun k hk hr hlt => h.done k hk ?_ hlt⟩
  rcases Int.lt_or_le (rank k) r with h3 | h3
  · exact .inl h3
  · exact .inr ⟨by omega, h2 k hk⟩
theorem rank_start (ha : ∀ k, k < m → 0 ≤ a k) (hx : ∀ p, p < n → 0 ≤ x p) (hr : ∀ k, k < m → 0 ≤ rank k) : RankedQ on n m place rank a x 0 fun _ => 0 :=
  ranked ha hx hr 0
theorem rank_end {c : Int} (h : RankedQ on n m place rank a x c t) (hr : ∀ k, k < m → rank k < c) : FairQ on n m place rank a x t :=
  ⟨h.box, h.fits, fun k hk hlt => h.done k hk (hr k hk) hlt⟩
end
end Go.Proofs.YtanhhdndgkhcfaaGreatDoor
