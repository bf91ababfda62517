/- Walk of the specification's Text: quoted texts. Conditions: those of each theorem. -/
import Derived.Test.YtdjjifljlkjafaaGreatDoorLexPrintA
namespace Go.Proofs.YtdjjifljlkjafaaGreatDoor
open Go Go.Proofs Go.RowKit
attribute [local go_sem] Oper.semAt_some

/-- the bytes that have been laid -/
structure QS (w : World) (v : Value) (bs : List UInt8) (wr : World) : Prop where
  own : wr.ownsRow w.heap.size 5 1 v bs.length (bs.map encB)
  tur : Turned (fun i => w.heap.size ≤ i) w wr
theorem QS.push {w wr w4 : World} {v v' : Value} {bs : List UInt8} {o : Obj} (h : QS w v bs wr) (news : List UInt8) (m : Nat) (hm : news.length = m)
    (hown' : w4.ownsRow w.heap.size 5 1 v' (bs.length + m) (bs.map encB ++ news.map encB)) (hgrow : (wr.alloc o).grownBy w4 v.ownBlock) : QS w v' (bs ++ news) w4 := by
  subst hm
  refine ⟨by simpa using hown', ?_⟩
  have hb := ownsRow_block h.own
  exact (h.tur.alloc _).trans (Turned.of_grown hgrow fun g hgr => (hb g hgr).1)
theorem QS.ownA {w wr : World} {v : Value} {bs : List UInt8} (h : QS w v bs wr) (o : Obj) : (wr.alloc o).ownsRow w.heap.size 5 1 v bs.length (bs.map encB) :=
  ownsRow_turned' ((Turned.refl (fun _ => False) wr).alloc o) (fun _ _ => id) h.own
theorem cell_two_new (w : World) (x y : Value) (t : TypeId) : ∀ j u, [x, y][j]? = some u → (w.alloc (.cells #[x, y] t)).cell? ((⟨w.heap.size, 0, none⟩ : Addr).add j) = some u := by
  intro j u hj
  match j, hj with
  | 0, hj => simp at hj; subst hj; simp [Addr.add]
  | 1, hj => simp at hj; subst hj; simp [Addr.add]
  | j + 2, hj => simp at hj
theorem take_esc (s : ByteArray) (j : Nat) (hj : j < s.size) : escL (s.data.toList.take (j + 1)) = escL (s.data.toList.take j) ++ esc s[j] := by
  rw [List.take_succ_eq_append_getElem (by simpa using hj), escL_snoc]
  rfl
set_option maxRecDepth 20000 in
set_option maxHeartbeats 4000000 in
theorem rquoted_any (s : ByteArray) (w : World) (hs : s.size ≤ 100000) : Calls Tryz.prog 29 #[.string s] w fun e w' => e = .returned (.string (quotedB s)) ∧ Below w.heap.size w w' := by
  obtain ⟨i0, hif, hz0, hz1, hz2⟩ := info_parts infoU8
  go_enter Tryz.func29, Tryz.ntmps29
  go_wp2_with fail
  have H0 : Hid (QS w (.slice (some ⟨w.heap.size, 0, none⟩) 1 1) (34 :: escL (s.data.toList.take 0)) (w.alloc (.cells #[.int .u8 34] 5))) := ⟨own_new w [34] 1 rfl (by decide), (Turned.refl _ _).alloc _⟩
  go_loopw [3, 4] (fun v i wr => ∃ j : Nat, j ≤ s.size ∧ i = (.int .i64 j) ∧ Hid (QS w v (34 :: escL (s.data.toList.take j)) wr)) (fun _ i _ => s.size - (intOf i).toNat)
  case atStart => exact ⟨0, by omega, rfl, H0⟩
  case round =>
    clear H0
    obtain ⟨j, hle, rfl, HS⟩ := hrel
    have hln : (34 :: escL (s.data.toList.take j)).length ≤ 200001 := by
      have h1 := escL_len (s.data.toList.take j)
      have h2 := escN_le (s.data.toList.take j)
      have h3 : (s.data.toList.take j).length ≤ s.size := by simp; omega
      simp only [List.length_cons]
      omega
    obtain ⟨va, vc, rfl⟩ := owns_shape HS.out.own
    have hsz := HS.out.tur.size
    by_cases hlt : j < s.size
    · have HE := Lib.hid (take_esc s j hlt)
      by_cases q34 : s[j] = 34
      · have k34 : ((s[j].toNat : Int) == 34) = true := by rw [q34]; rfl
        have HX : Hid (34 :: escL (s.data.toList.take (j + 1)) = 34 :: escL (s.data.toList.take j) ++ [92, s[j]]) := by show _ = _; rw [HE.out, show esc s[j] = [92, s[j]] by rw [q34]; rfl]; rfl
        clear q34
        clear HE
        generalize 34 :: escL (s.data.toList.take j) = el at HS HX hln
        go_wp2_with (at_builtin; refine wpList_append_own _ rfl _ _ 46 rfl w.heap.size 5 i0 (.int .u8 0) 1 1 Tryz.underlying46 hif hz0 hz1 hz2 rfl (by decide) _ _ _ rfl (HS.out.ownA _) ⟨wr.heap.size, 0, none⟩ 2 2 [encB 92, encB s[j]] rfl rfl (cell_two_new _ _ _ _) (by intro u hu; simp at hu; rcases hu with rfl | rfl <;> rfl) (by unfold maxLen; omega) (by omega) (by simp; omega) ?_; intro v' w4 hown' hgrow hnil; have HE := Lib.hid (HS.out.push [92, s[j]] 2 rfl hown' hgrow); clear hown' hgrow hnil)
        go_roundw
        case rel => exact ⟨j + 1, by omega, by go_num, by rw [HX.out]; exact HE⟩
        case measure => simp [intOf]; omega
      · have k34 : ((s[j].toNat : Int) == 34) = false := by
          have : s[j].toNat ≠ 34 := fun h => q34 (UInt8.toNat_inj.1 h)
          simp; omega
        by_cases q92 : s[j] = 92
        · have k92 : ((s[j].toNat : Int) == 92) = true := by rw [q92]; rfl
          have HX : Hid (34 :: escL (s.data.toList.take (j + 1)) = 34 :: escL (s.data.toList.take j) ++ [92, s[j]]) := by show _ = _; rw [HE.out, show esc s[j] = [92, s[j]] by rw [q92]; rfl]; rfl
          clear q34 q92
          clear HE
          generalize 34 :: escL (s.data.toList.take j) = el at HS HX hln
          go_wp2_with (at_builtin; refine wpList_append_own _ rfl _ _ 46 rfl w.heap.size 5 i0 (.int .u8 0) 1 1 Tryz.underlying46 hif hz0 hz1 hz2 rfl (by decide) _ _ _ rfl (HS.out.ownA _) ⟨wr.heap.size, 0, none⟩ 2 2 [encB 92, encB s[j]] rfl rfl (cell_two_new _ _ _ _) (by intro u hu; simp at hu; rcases hu with rfl | rfl <;> rfl) (by unfold maxLen; omega) (by omega) (by simp; omega) ?_; intro v' w4 hown' hgrow hnil; have HE := Lib.hid (HS.out.push [92, s[j]] 2 rfl hown' hgrow); clear hown' hgrow hnil)
          go_roundw
          case rel => exact ⟨j + 1, by omega, by go_num, by rw [HX.out]; exact HE⟩
          case measure => simp [intOf]; omega
        · have k92 : ((s[j].toNat : Int) == 92) = false := by
            have : s[j].toNat ≠ 92 := fun h => q92 (UInt8.toNat_inj.1 h)
            simp; omega
          by_cases q10 : s[j] = 10
          · have k10 : ((s[j].toNat : Int) == 10) = true := by rw [q10]; rfl
            have HX : Hid (34 :: escL (s.data.toList.take (j + 1)) = 34 :: escL (s.data.toList.take j) ++ [92, 110]) := by show _ = _; rw [HE.out, show esc s[j] = [92, 110] by rw [q10]; rfl]; rfl
            clear q34 q92 q10
            clear HE
            generalize 34 :: escL (s.data.toList.take j) = el at HS HX hln
            go_wp2_with (at_builtin; refine wpList_append_own _ rfl _ _ 46 rfl w.heap.size 5 i0 (.int .u8 0) 1 1 Tryz.underlying46 hif hz0 hz1 hz2 rfl (by decide) _ _ _ rfl (HS.out.ownA _) ⟨wr.heap.size, 0, none⟩ 2 2 [encB 92, encB 110] rfl rfl (cell_two_new _ _ _ _) (by intro u hu; simp at hu; rcases hu with rfl | rfl <;> rfl) (by unfold maxLen; omega) (by omega) (by simp; omega) ?_; intro v' w4 hown' hgrow hnil; have HE := Lib.hid (HS.out.push [92, 110] 2 rfl hown' hgrow); clear hown' hgrow hnil)
            go_roundw
            case rel => exact ⟨j + 1, by omega, by go_num, by rw [HX.out]; exact HE⟩
            case measure => simp [intOf]; omega
          · have k10 : ((s[j].toNat : Int) == 10) = false := by
              have : s[j].toNat ≠ 10 := fun h => q10 (UInt8.toNat_inj.1 h)
              simp; omega
            have HX : Hid (34 :: escL (s.data.toList.take (j + 1)) = 34 :: escL (s.data.toList.take j) ++ [s[j]]) := by show _ = _; rw [HE.out, esc_one q10 q92 q34]; rfl
            clear q34 q92 q10
            clear HE
            generalize 34 :: escL (s.data.toList.take j) = el at HS HX hln
            go_wp2_with (at_builtin; refine wpList_append_own _ rfl _ _ 46 rfl w.heap.size 5 i0 (.int .u8 0) 1 1 Tryz.underlying46 hif hz0 hz1 hz2 rfl (by decide) _ _ _ rfl (HS.out.ownA _) ⟨wr.heap.size, 0, none⟩ 1 1 [encB s[j]] rfl rfl (cell_one_new _ _ _) (by intro u hu; simp at hu; subst hu; rfl) (by unfold maxLen; omega) (by omega) (by simp; omega) ?_; intro v' w4 hown' hgrow hnil; have HE := Lib.hid (HS.out.push [s[j]] 1 rfl hown' hgrow); clear hown' hgrow hnil)
            go_roundw
            case rel => exact ⟨j + 1, by omega, by go_num, by rw [HX.out]; exact HE⟩
            case measure => simp [intOf]; omega
    · obtain rfl : j = s.size := by omega
      have HQ : Hid (quotedB s = ⟨(34 :: escL (s.data.toList.take s.size) ++ [34]).toArray⟩) := by
        show _ = _
        apply ByteArray.ext
        apply Array.ext'
        simp [quotedB, List.take_of_length_le]
      generalize escL (s.data.toList.take s.size) = el at HS HQ hln
      go_wp2_with (at_builtin; refine wpList_append_own _ rfl _ _ 46 rfl w.heap.size 5 i0 (.int .u8 0) 1 1 Tryz.underlying46 hif hz0 hz1 hz2 rfl (by decide) _ _ _ rfl (HS.out.ownA _) ⟨wr.heap.size, 0, none⟩ 1 1 [encB 34] rfl rfl (cell_one_new _ _ _) (by intro u hu; simp at hu; subst hu; rfl) (by unfold maxLen; omega) (by omega) (by simp; omega) ?_; intro v' w4 hown' hgrow hnil; have HE := Lib.hid (HS.out.push [34] 1 rfl hown' hgrow); have hcv := bytes_conv HE.out.own; clear hown' hgrow hnil)
      go_ret
      rw [HQ.out]
      exact ⟨rfl, below_of_turned HE.out.tur.strip⟩
end Go.Proofs.YtdjjifljlkjafaaGreatDoor
