/- Part 17 of the proof of card: LexText, LexTextZ, ParPrF, ParSane, ParSanA. Conditions: those of each theorem. -/
import Derived.KernelRfl
import Derived.Test.YtjijdgkccfeeaaaGreatDoorRt01
import Derived.Test.YtjijdgkccfeeaaaGreatDoorRt02
import Derived.Test.YtjijdgkccfeeaaaGreatDoorRt04
import Derived.Test.YtjijdgkccfeeaaaGreatDoorRt06
import Derived.Test.YtjijdgkccfeeaaaGreatDoorRt15
import Derived.Test.YtjijdgkccfeeaaaGreatDoorRt16
namespace Go.Proofs.YtjijdgkccfeeaaaGreatDoor
open Go Go.Proofs Go.RowKit
attribute [local go_sem] Oper.semAt_some
def quotedB (s : ByteArray) : ByteArray := ⟨#[34]⟩ ++ ⟨(escL s.data.toList).toArray⟩ ++ ⟨#[34]⟩
def wordQ (t : Tok) : List ByteArray := if t.kind = 1 ∨ t.kind = 4 then [t.s] else if t.kind = 2 then [⟨(Lib.itoa t.n).toArray⟩] else if t.kind = 3 then [quotedB t.s] else []
def wordsQ (ts : List Tok) : List ByteArray := ts.flatMap wordQ
def textQ (ts : List Tok) : ByteArray := ⟨(Lib.join ((wordsQ ts).map (·.data.toList)) [32]).toArray⟩
theorem wordsQ_step (ts : List Tok) (j : Nat) (t : Tok) (h : ts[j]? = some t) : wordsQ (ts.take (j + 1)) = wordsQ (ts.take j) ++ wordQ t := by
  have hlt : j < ts.length := (List.getElem?_eq_some_iff.1 h).1
  rw [List.take_succ_eq_append_getElem hlt]
  rw [List.getElem?_eq_getElem hlt] at h
  simp at h
  simp [wordsQ, h]
theorem wordsQ_len (ts : List Tok) : (wordsQ ts).length ≤ ts.length := by
  induction ts with
  | nil => exact Nat.le_refl _
  | cons t ts ih =>
    have : (wordQ t).length ≤ 1 := by unfold wordQ; split <;> (try split) <;> (try split) <;> simp
    simp [wordsQ] at ih ⊢
    omega
theorem six_alloc (w : World) (t : TypeId) : SixAt (w.alloc (.cells #[.string ⟨#[34]⟩, .string ⟨#[92, 34]⟩, .string ⟨#[92]⟩, .string ⟨#[92, 92]⟩, .string ⟨#[10]⟩, .string ⟨#[92, 110]⟩] t)) w.heap.size := fun j y hj => by
  rw [row_cell' (heap_alloc_new w _)]
  have : (sixV.toArray)[j]? = some y := by simpa using hj
  exact this
set_option maxRecDepth 20000 in
set_option maxHeartbeats 8000000 in
theorem print_all (b o c : Nat) (ts : List Tok) (w : World) (m : Nat) (hT : ToksAt w b o ts) (hl : ts.length ≤ 100000) (hk : ∀ t ∈ ts, -9223372036854775808 ≤ t.n ∧ t.n ≤ 9223372036854775807 ∧ t.s.size ≤ 100000)
    (hP : VarAt m w "internal/strconv.uint64pow10" (Lib.pow10Tab.map fun z => Value.int .u64 z).toArray) (hj : (Lib.join ((wordsQ ts).map (·.data.toList)) [32]).length ≤ 140737488355328) :
    Calls Tryz.prog 40 #[.slice (some ⟨b, o, none⟩) ts.length c] w fun e w' => e = .returned (.string (textQ ts)) ∧ Turned (fun _ => False) w w' := by
  obtain ⟨i0, hif, hz0, hz1, hz2⟩ := info_parts infoStr
  have HT := Lib.hid hT
  have HK := Lib.hid hk
  have HP := Lib.hid hP
  have H0 : Hid (XS w (wordsQ (ts.take 0)) (.slice none 0 0) w) := ⟨⟨rfl, .inl ⟨rfl, rfl⟩⟩, Turned.refl _ _⟩
  clear hT hk hP
  go_enter Tryz.func40, Tryz.ntmps40
  go_wp2_with fail
  go_loopw [3, 8] (fun v i wr => ∃ j : Nat, j ≤ ts.length ∧ i = (.int .i64 j) ∧ Hid (XS w (wordsQ (ts.take j)) v wr)) (fun _ i _ => ts.length - (intOf i).toNat)
  case atStart => exact ⟨0, by omega, rfl, H0⟩
  case round =>
    clear H0
    obtain ⟨j, hle, rfl, HS⟩ := hrel
    have hwl := wordsQ_len (ts.take j)
    rw [List.length_take] at hwl
    by_cases hlt : j < ts.length
    · obtain ⟨x, hx⟩ : ∃ x, ts[j]? = some x := ⟨ts[j], List.getElem?_eq_getElem hlt⟩
      have HW := Lib.hid (wordsQ_step ts j x hx)
      obtain ⟨d0, d1, d2, d3⟩ := (HT.out.turned HS.out.tur.strip).2 j x hx
      have hxm := HK.out x (List.mem_of_getElem? hx)
      obtain ⟨kind, at_, s, n⟩ := x
      simp only at d0 d1 d2 d3 hxm
      obtain ⟨hn0, hn1, hsz⟩ := hxm
      obtain ⟨va, vc, rfl⟩ := owns_shape HS.out.own
      by_cases k1 : kind = 1
      · subst k1
        have HW2 : Hid (wordsQ (ts.take (j + 1)) = wordsQ (ts.take j) ++ [s]) := by show _ = _; rw [HW.out]; congr 1
        clear hx
        go_wp2_with (at_builtin; refine wpList_append_own _ rfl _ _ 42 rfl w.heap.size 9 i0 (.string ⟨#[]⟩) 1 16 Tryz.underlying42 hif hz0 hz1 hz2 rfl (by decide) _ _ _ rfl (HS.out.ownT (((Turned.refl _ _).alloc _).alloc _)) ⟨wr.heap.size + 1, 0, none⟩ 1 1 [.string s] rfl rfl (cell_one_at (by simp)) (by intro u hu; simp at hu; subst hu; rfl) (by unfold maxLen; omega) (by omega) (by have := HS.out.tur.size; simp; omega) ?_; intro v' w4 hown' hgrow hnil; have HE := Lib.hid (HS.out.push (((Turned.refl _ _).alloc _).alloc _) s hown' hgrow); clear hown' hgrow hnil)
        go_roundw
        case rel => exact ⟨j + 1, by omega, by go_num, by rw [HW2.out]; exact HE⟩
        case measure => simp [intOf]; omega
      by_cases k4 : kind = 4
      · subst k4
        have HW2 : Hid (wordsQ (ts.take (j + 1)) = wordsQ (ts.take j) ++ [s]) := by show _ = _; rw [HW.out]; congr 1
        clear hx
        go_wp2_with (at_builtin; refine wpList_append_own _ rfl _ _ 42 rfl w.heap.size 9 i0 (.string ⟨#[]⟩) 1 16 Tryz.underlying42 hif hz0 hz1 hz2 rfl (by decide) _ _ _ rfl (HS.out.ownT (((Turned.refl _ _).alloc _).alloc _)) ⟨wr.heap.size + 1, 0, none⟩ 1 1 [.string s] rfl rfl (cell_one_at (by simp)) (by intro u hu; simp at hu; subst hu; rfl) (by unfold maxLen; omega) (by omega) (by have := HS.out.tur.size; simp; omega) ?_; intro v' w4 hown' hgrow hnil; have HE := Lib.hid (HS.out.push (((Turned.refl _ _).alloc _).alloc _) s hown' hgrow); clear hown' hgrow hnil)
        go_roundw
        case rel => exact ⟨j + 1, by omega, by go_num, by rw [HW2.out]; exact HE⟩
        case measure => simp [intOf]; omega
      by_cases k2 : kind = 2
      · subst k2
        have HW2 : Hid (wordsQ (ts.take (j + 1)) = wordsQ (ts.take j) ++ [⟨(Lib.itoa n).toArray⟩]) := by show _ = _; rw [HW.out]; congr 1
        have HI : Hid (Calls Tryz.prog 70 #[(.int .i64 n)] (wr.alloc (.cells #[(.int .i64 2), (.int .i64 at_), .string s, (.int .i64 n)] 68)) fun e w' => e = .returned (.string ⟨(Lib.itoa n).toArray⟩) ∧ Turned (fun _ => False) (wr.alloc (.cells #[(.int .i64 2), (.int .i64 at_), .string s, (.int .i64 n)] 68)) w') :=
          itoa_any n hn0 hn1 _ (HP.out.turned (HS.out.tur.strip.alloc _) fun _ _ => id).1
        clear hx
        go_wp2_with (first | (go_at_call 70; refine HI.out.mono ?_; intro e w7 hh; have hI := hh.2; obtain rfl := hh.1; clear hh) | (at_builtin; refine wpList_append_own _ rfl _ _ 42 rfl w.heap.size 9 i0 (.string ⟨#[]⟩) 1 16 Tryz.underlying42 hif hz0 hz1 hz2 rfl (by decide) _ _ _ rfl (HS.out.ownT ((((Turned.refl _ _).alloc _).trans hI).alloc _)) ⟨w7.heap.size, 0, none⟩ 1 1 [.string ⟨(Lib.itoa n).toArray⟩] rfl rfl (cell_one_new _ _ _) (by intro u hu; simp at hu; subst hu; rfl) (by unfold maxLen; omega) (by omega) (by have q1 := HS.out.tur.size; have q2 := hI.size; simp at q2 ⊢; omega) ?_; intro v' w4 hown' hgrow hnil; have HE := Lib.hid (HS.out.push ((((Turned.refl _ _).alloc _).trans hI).alloc _) ⟨(Lib.itoa n).toArray⟩ hown' hgrow); clear hown' hgrow hnil))
        go_roundw
        case rel => exact ⟨j + 1, by omega, by go_num, by rw [HW2.out]; exact HE⟩
        case measure => simp [intOf]; omega
      by_cases k3 : kind = 3
      · subst k3
        have HW2 : Hid (wordsQ (ts.take (j + 1)) = wordsQ (ts.take j) ++ [quotedB s]) := by show _ = _; rw [HW.out]; congr 1
        have hpb : (ByteArray.mk (escL s.data.toList).toArray).size ≤ 200000 := by
          have h1 := escL_len s.data.toList
          have h2 := escN_le s.data.toList
          have h3 : s.data.toList.length = s.size := by simp
          show (escL s.data.toList).length ≤ 200000
          omega
        have HQ : Hid (quotedB s = ⟨#[34]⟩ ++ ⟨(escL s.data.toList).toArray⟩ ++ ⟨#[34]⟩) := rfl
        clear hx
        go_wp2_with fail
        refine region_R (R := fun j V => j < 10 → (fun V => V.cell? ⟨wr.heap.size, 2, none⟩ = some (.string s)) V) (by kernel_rfl) ?_
        have HS0 : Hid (((wr.alloc (.cells #[(.int .i64 3), (.int .i64 at_), .string s, (.int .i64 n)] 68)).drew).cell? ⟨wr.heap.size, 2, none⟩ = some (.string s)) := by show _ = _; simp
        refine wpAnyR_take (S := (fun V => V.cell? ⟨wr.heap.size, 2, none⟩ = some (.string s))) (early := fun j => decide (j < 10)) (i := 0) (v := .slice va (wordsQ (ts.take j)).length vc) rfl (by kernel_rfl) (by kernel_rfl) (by kernel_rfl) (by kernel_rfl) (fun _ _ he h => h (of_decide_eq_true he)) (fun _ h _ => h) (fun _ _ _ h => h) (Or.inl ⟨by rfl, ?_⟩) HS0.out ?_
        · intro V v1
          go_simp
        simp only [List.getElem_toArray, List.getElem_cons_zero, Act.put, List.setIfInBounds_toArray, List.set_cons_zero, List.set_cons_succ]
        refine wpAnyR_take (S := (fun V => V.cell? ⟨wr.heap.size, 2, none⟩ = some (.string s))) (early := fun j => decide (j < 10)) (i := 3) (v := .pointer (some ⟨wr.heap.size, 2, none⟩)) rfl (by kernel_rfl) (by kernel_rfl) (by kernel_rfl) (by kernel_rfl) (fun _ _ he h => h (of_decide_eq_true he)) (fun _ h _ => h) (fun _ _ _ h => h) (Or.inl ⟨by rfl, ?_⟩) HS0.out ?_
        · intro V v1
          go_simp
        simp only [List.getElem_toArray, List.getElem_cons_zero, List.getElem_cons_succ, Act.put, List.setIfInBounds_toArray, List.set_cons_zero, List.set_cons_succ]
        refine wpAnyR_take (S := (fun V => V.cell? ⟨wr.heap.size, 2, none⟩ = some (.string s))) (early := fun j => decide (j < 10)) (i := 4) (v := .string s) rfl (by kernel_rfl) (by kernel_rfl) (by kernel_rfl) (by kernel_rfl) (fun _ _ he h => h (of_decide_eq_true he)) (fun _ h _ => h) (fun _ _ _ h => h) (Or.inl ⟨by rfl, ?_⟩) HS0.out ?_
        · intro V v1
          go_simp
        simp only [List.getElem_toArray, List.getElem_cons_zero, List.getElem_cons_succ, Act.put, List.setIfInBounds_toArray, List.set_cons_zero, List.set_cons_succ]
        refine wpAnyR_all (rs := [1]) (by kernel_rfl) (by simp) (fun i hi2 => ?_)
        obtain rfl : i = 1 := by simpa using hi2
        clear hi2
        refine wpOp_plain rfl rfl ?_
        simp only [List.getElem_toArray, List.getElem_cons_zero, List.getElem_cons_succ]
        go_simp
        obtain ⟨W1, hW1⟩ : ∃ W1, W1 = (wr.alloc (.cells #[(.int .i64 3), (.int .i64 at_), .string s, (.int .i64 n)] 68)).alloc (.cells #[.string ⟨#[34]⟩, .string ⟨#[92, 34]⟩, .string ⟨#[92]⟩, .string ⟨#[92, 92]⟩, .string ⟨#[10]⟩, .string ⟨#[92, 110]⟩] 9) := ⟨_, rfl⟩
        have HT1 : Hid (Turned (fun _ => False) wr W1.drew) := by rw [hW1]; exact (((Turned.refl _ _).alloc _).alloc _).drew
        have H61 : Hid (SixAt W1.drew (wr.heap.size + 1)) := by
          have h := six_alloc (wr.alloc (.cells #[(.int .i64 3), (.int .i64 at_), .string s, (.int .i64 n)] 68)) 9
          rw [show (wr.alloc (.cells #[(.int .i64 3), (.int .i64 at_), .string s, (.int .i64 n)] 68)).heap.size = wr.heap.size + 1 by simp] at h
          rw [hW1]
          exact h
        have hS1 : W1.drew.cell? ⟨wr.heap.size, 2, none⟩ = some (.string s) := by rw [hW1]; simp
        have hs1 : wr.heap.size + 1 < W1.drew.heap.size := by rw [hW1]; simp
        rw [← hW1]
        clear hW1
        generalize W1.drew = W2 at HT1 H61 hS1 hs1 ⊢
        refine wpAnyR_all (rs := [2]) (by kernel_rfl) (by simp) (fun i hi2 => ?_)
        obtain rfl : i = 2 := by simpa using hi2
        clear hi2
        refine wpOp_plain rfl rfl ?_
        simp only [List.getElem_toArray, List.getElem_cons_zero, List.getElem_cons_succ]
        go_simp
        refine (new_any _ _ H61.out).mono ?_
        rintro e W3 ⟨B, rfl, HF⟩
        have hS3 : W3.cell? ⟨wr.heap.size, 2, none⟩ = some (.string s) := (HF.out.2.2.cell (p := ⟨wr.heap.size, 2, none⟩) (show wr.heap.size < W2.heap.size by omega) id).trans hS1
        have hB := HF.out.2.1
        go_simp
        refine wpAnyR_all (rs := [5]) (by kernel_rfl) (by simp) (fun i hi2 => ?_)
        obtain rfl : i = 5 := by simpa using hi2
        clear hi2
        refine wpOp_plain rfl rfl ?_
        simp only [List.getElem_toArray, List.getElem_cons_zero, List.getElem_cons_succ]
        go_simp
        refine (replace_any B s W3 HF.out.1 hsz).mono ?_
        rintro e W4 ⟨rfl, ht4⟩
        have hs3 := HF.out.2.2.size
        have hS4 : W4.cell? ⟨wr.heap.size, 2, none⟩ = some (.string s) := (ht4.cell (p := ⟨wr.heap.size, 2, none⟩) (show wr.heap.size < W3.heap.size by omega) (show ¬ wr.heap.size = B by omega)).trans hS3
        have HT4 : Hid (Turned (fun _ => False) wr W4) := by
          have t1 : Turned (fun i => wr.heap.size ≤ i) wr W4 := ((HT1.out.trans HF.out.2.2).mono fun _ h => h.elim).trans (ht4.mono fun i hi => by omega)
          exact t1.strip
        have hs4 := ht4.size
        clear ht4
        generalize ByteArray.mk (escL s.data.toList).toArray = pb at hpb HQ ⊢
        have ad1 : ∀ W : World, (Op.stringOp .add ⟨#[34]⟩ pb).run Tryz.prog W = .ok (.string (⟨#[34]⟩ ++ pb)) W := fun W => run_string_add_sum W ⟨#[34]⟩ pb (by show 1 + pb.size ≤ _; omega)
        have ad2 : ∀ W : World, (Op.stringOp .add (⟨#[34]⟩ ++ pb) ⟨#[34]⟩).run Tryz.prog W = .ok (.string (⟨#[34]⟩ ++ pb ++ ⟨#[34]⟩)) W := fun W => run_string_add_sum W (⟨#[34]⟩ ++ pb) ⟨#[34]⟩ (by rw [ByteArray.size_append]; show 1 + pb.size + 1 ≤ _; omega)
        go_simp
        refine wpAnyR_all (rs := [6]) (by kernel_rfl) (by simp) (fun i hi2 => ?_)
        obtain rfl : i = 6 := by simpa using hi2
        clear hi2
        refine wpOp_plain rfl rfl ?_
        simp only [List.getElem_toArray, List.getElem_cons_zero, List.getElem_cons_succ]
        go_simp
        refine wpAnyR_all (rs := [7]) (by kernel_rfl) (by simp) (fun i hi2 => ?_)
        obtain rfl : i = 7 := by simpa using hi2
        clear hi2
        refine wpOp_plain rfl rfl ?_
        simp only [List.getElem_toArray, List.getElem_cons_zero, List.getElem_cons_succ]
        go_simp
        refine wpAnyR_all (rs := [8]) (by kernel_rfl) (by simp) (fun i hi2 => ?_)
        obtain rfl : i = 8 := by simpa using hi2
        clear hi2
        refine wpOp_plain rfl rfl ?_
        simp only [List.getElem_toArray, List.getElem_cons_zero, List.getElem_cons_succ]
        go_simp
        have hlt4 : wr.heap.size < W4.heap.size := by omega
        have hS5 : (W4.alloc (.cells #[.string (⟨#[34]⟩ ++ pb ++ ⟨#[34]⟩)] 9)).cell? ⟨wr.heap.size, 2, none⟩ = some (.string s) := by rw [World.cell?_alloc_past _ _ _ hlt4]; exact hS4
        refine ⟨hS5, ?_⟩
        refine wpAnyR_all (rs := [9]) (by kernel_rfl) (by simp) (fun i hi2 => ?_)
        obtain rfl : i = 9 := by simpa using hi2
        clear hi2
        refine wpOp_append_exact _ rfl rfl _ _ 42 rfl w.heap.size 9 i0 (.string ⟨#[]⟩) 1 16 Tryz.underlying42 hif hz0 hz1 hz2 rfl (by decide) (.slice va (wordsQ (ts.take j)).length vc) _ _ rfl (HS.out.ownT (HT4.out.alloc _)) ⟨W4.heap.size, 0, none⟩ 1 1 [.string (⟨#[34]⟩ ++ pb ++ ⟨#[34]⟩)] rfl rfl (cell_one_new _ _ _) (by intro u hu; simp at hu; subst hu; rfl) (by unfold maxLen; omega) (by omega) (by have q1 := HS.out.tur.size; simp; omega) ?_
        intro v' w4 hown' hgrow hex
        have hS6 : w4.cell? ⟨wr.heap.size, 2, none⟩ = some (.string s) := by
          have e := hgrow.block wr.heap.size (by simp; omega) (fun e => by have := (ownsRow_block HS.out.own _ e.symm).2; omega)
          have : w4.cell? ⟨wr.heap.size, 2, none⟩ = (W4.alloc (.cells #[.string (⟨#[34]⟩ ++ pb ++ ⟨#[34]⟩)] 9)).cell? ⟨wr.heap.size, 2, none⟩ := by simp only [World.cell?, e]
          rw [this]; exact hS5
        have HE := Lib.hid (HS.out.push (HT4.out.alloc _) (⟨#[34]⟩ ++ pb ++ ⟨#[34]⟩) hown' hgrow)
        clear hown' hgrow hex
        refine ⟨fun _ => hS6, ?_⟩
        simp only [List.getElem_toArray, List.getElem_cons_zero, List.getElem_cons_succ, Act.put, List.setIfInBounds_toArray, List.set_cons_zero, List.set_cons_succ]
        refine wpAnyR_all (rs := [10]) (by kernel_rfl) (by simp) (fun i hi2 => ?_)
        obtain rfl : i = 10 := by simpa using hi2
        clear hi2
        refine wpOp_plain rfl rfl ?_
        simp only [List.getElem_toArray, List.getElem_cons_zero, List.getElem_cons_succ]
        go_simp
        refine wpAnyR_done (by kernel_rfl) ?_ _
        go_wp2_with fail
        go_roundw
        case rel => exact ⟨j + 1, by omega, by go_num, by rw [HW2.out, HQ.out]; exact HE⟩
        case measure => simp [intOf]; omega
      · have HW2 : Hid (wordsQ (ts.take (j + 1)) = wordsQ (ts.take j)) := by
          show _ = _
          rw [HW.out]
          unfold wordQ
          rw [if_neg (by simp [k1, k4]), if_neg (by simpa using k2), if_neg (by simpa using k3), List.append_nil]
        have q1 : (kind == 1) = false := by simpa using k1
        have q2 : (kind == 2) = false := by simpa using k2
        have q3 : (kind == 3) = false := by simpa using k3
        have q4 : (kind == 4) = false := by simpa using k4
        clear hx k1 k2 k3 k4
        go_wp2_with fail
        go_roundw
        case rel => exact ⟨j + 1, by omega, by go_num, by rw [HW2.out]; exact HS.out.stay ((Turned.refl _ _).alloc _)⟩
        case measure => simp [intOf]; omega
    · obtain rfl : j = ts.length := by omega
      have HJ := Lib.hid (join_any w wr (wordsQ (ts.take ts.length)) u3 HS.out (by omega) (by rw [List.take_length]; exact hj))
      rw [List.take_length] at HJ
      go_wp2_with (go_at_call 73; refine HJ.out.mono ?_; rintro e w7 ⟨rfl, HQ⟩; have HQ := Lib.hid HQ)
      go_ret
      exact ⟨rfl, HQ.out⟩
end Go.Proofs.YtjijdgkccfeeaaaGreatDoor
namespace Go.Proofs.YtjijdgkccfeeaaaGreatDoor
open Go Go.Proofs Go.RowKit
attribute [local go_sem] Oper.semAt_some
theorem below_turned {A B : World} (h : Turned (fun _ => False) A B) : Below A.heap.size A B := h.below (Nat.le_refl _) fun _ h => h.elim
theorem dec_len (k : Nat) : ∀ u : Nat, u < 10 ^ (k + 1) → (Lib.decDigits u).length ≤ k + 1 := by
  induction k with
  | zero => intro u hu; rw [Lib.decDigits, dif_pos (by omega)]; simp
  | succ k ih =>
    intro u hu
    rw [Lib.decDigits]
    split
    · simp
    · have hp : 10 ^ (k + 1 + 1) = 10 ^ (k + 1) * 10 := rfl
      have := ih (u / 10) (by omega)
      simp only [List.length_append, List.length_cons, List.length_nil]
      omega
theorem itoa_len (x : Int) (h0 : -9223372036854775808 ≤ x) (h1 : x ≤ 9223372036854775807) : (Lib.itoa x).length ≤ 20 := by
  unfold Lib.itoa
  split
  · have := dec_len 18 x.natAbs (by omega)
    simp only [List.length_cons]
    omega
  · have := dec_len 18 x.toNat (by omega)
    omega
def itoaB (x : Int) : ByteArray := ⟨(Lib.itoa x).toArray⟩
theorem itoaB_len (x : Int) (h0 : -9223372036854775808 ≤ x) (h1 : x ≤ 9223372036854775807) : (itoaB x).size ≤ 20 := itoa_len x h0 h1
def outQ (ws : List ByteArray) : ByteArray := ⟨(Lib.join (ws.map (·.data.toList)) [32]).toArray⟩
theorem textQ_out (ts : List Tok) : textQ ts = outQ (wordsQ ts) := rfl
theorem outQ_one (x : ByteArray) : outQ [x] = x := by
  unfold outQ
  rw [List.map_cons, List.map_nil, Lib.join_one]
theorem join_snoc (a : List UInt8) (l : List (List UInt8)) (x sep : List UInt8) : Lib.join (a :: l ++ [x]) sep = Lib.join (a :: l) sep ++ sep ++ x := by
  rw [List.cons_append, Lib.join_cons, Lib.join_cons]
  unfold Lib.joinTail
  simp
theorem outQ_snoc (ws : List ByteArray) (x : ByteArray) (h : ws ≠ []) : outQ (ws ++ [x]) = outQ ws ++ ⟨#[32]⟩ ++ x := by
  cases ws with
  | nil => exact absurd rfl h
  | cons a l =>
    apply ByteArray.ext
    apply Array.ext'
    unfold outQ
    rw [List.map_append, List.map_cons, List.map_cons, List.map_nil, join_snoc]
    simp
def RQ (ts : List Tok) (j : Nat) (fb : Bool) (out : ByteArray) : Prop := out = outQ (wordsQ (ts.take j)) ∧ fb = (wordsQ (ts.take j)).isEmpty
theorem rq_skip {ts : List Tok} {j : Nat} {fb : Bool} {out : ByteArray} {x : Tok} (h : RQ ts j fb out) (hx : ts[j]? = some x) (hw : wordQ x = []) : RQ ts (j + 1) fb out := by
  unfold RQ
  rw [wordsQ_step ts j x hx, hw, List.append_nil]
  exact h
theorem rq_first {ts : List Tok} {j : Nat} {out wd : ByteArray} {x : Tok} (h : RQ ts j true out) (hx : ts[j]? = some x) (hw : wordQ x = [wd]) : RQ ts (j + 1) false (out ++ wd) := by
  have he : wordsQ (ts.take j) = [] := List.isEmpty_iff.1 h.2.symm
  refine ⟨?_, ?_⟩
  · rw [wordsQ_step ts j x hx, hw, h.1, he, List.nil_append, outQ_one]
    apply ByteArray.ext
    apply Array.ext'
    simp [outQ, Lib.join_nil]
  · rw [wordsQ_step ts j x hx, hw, he]
    rfl
theorem rq_more {ts : List Tok} {j : Nat} {out wd : ByteArray} {x : Tok} (h : RQ ts j false out) (hx : ts[j]? = some x) (hw : wordQ x = [wd]) : RQ ts (j + 1) false (out ++ ⟨#[32]⟩ ++ wd) := by
  have he : wordsQ (ts.take j) ≠ [] := fun e => by have := h.2; rw [e] at this; cases this
  refine ⟨?_, ?_⟩
  · rw [wordsQ_step ts j x hx, hw, h.1, outQ_snoc _ _ he]
  · rw [wordsQ_step ts j x hx, hw]
    cases hl : wordsQ (ts.take j) <;> rfl
theorem quotedB_len (s : ByteArray) : (quotedB s).size ≤ 2 * s.size + 2 := by
  have h1 := escL_len s.data.toList
  have h2 := escN_le s.data.toList
  have h3 : s.data.toList.length = s.size := by simp
  unfold quotedB
  simp only [ByteArray.size_append]
  have h4 : (ByteArray.mk (escL s.data.toList).toArray).size = (escL s.data.toList).length := rfl
  have h5 : (ByteArray.mk #[34]).size = 1 := rfl
  omega
theorem byte_add (a b : ByteArray) : (a ++ b).size = a.size + b.size := ByteArray.size_append
theorem byte_add3 (a b c : ByteArray) : (a ++ b ++ c).size = a.size + b.size + c.size := by rw [byte_add, byte_add]
theorem byte_one (b : UInt8) : (ByteArray.mk #[b]).size = 1 := rfl
set_option maxRecDepth 100000 in
theorem textQ_len (ts : List Tok) (hk : ∀ t ∈ ts, -9223372036854775808 ≤ t.n ∧ t.n ≤ 9223372036854775807 ∧ t.s.size ≤ 100000) : (textQ ts).size ≤ ts.length * 200010 := by
  have key : ∀ j, j ≤ ts.length → ∃ fb out, RQ ts j fb out ∧ out.size ≤ j * 200010 := by
    intro j
    induction j with
    | zero => intro _; exact ⟨true, ⟨#[]⟩, ⟨rfl, rfl⟩, Nat.zero_le _⟩
    | succ j ih =>
      intro hj
      obtain ⟨fb, out, h1, h2⟩ := ih (by omega)
      obtain ⟨x, hx⟩ : ∃ x, ts[j]? = some x := ⟨_, List.getElem?_eq_getElem (by omega)⟩
      obtain ⟨hn0, hn1, hsz⟩ := hk x (List.mem_of_getElem? hx)
      have hw : wordQ x = [] ∨ ∃ wd, wordQ x = [wd] ∧ wd.size ≤ 200002 := by
        unfold wordQ
        split
        · exact .inr ⟨_, rfl, by omega⟩
        · split
          · have := itoaB_len x.n hn0 hn1
            exact .inr ⟨_, rfl, by unfold itoaB at this; omega⟩
          · split
            · have := quotedB_len x.s
              exact .inr ⟨_, rfl, by omega⟩
            · exact .inl rfl
      rcases hw with hw | ⟨wd, hw, hwd⟩
      · exact ⟨fb, out, rq_skip h1 hx hw, Nat.le_trans h2 (Nat.mul_le_mul_right _ (Nat.le_succ j))⟩
      · cases fb
        · exact ⟨_, _, rq_more h1 hx hw, by rw [byte_add3, byte_one]; omega⟩
        · exact ⟨_, _, rq_first h1 hx hw, by rw [byte_add]; omega⟩
  obtain ⟨fb, out, h1, h2⟩ := key ts.length (Nat.le_refl _)
  have h3 := h1.1
  rw [List.take_length] at h3
  rw [textQ_out, ← h3]
  exact h2
theorem text_zero (a : Option Addr) (c : Nat) (w : World) : Calls Tryz.prog 40 #[.slice a 0 c] w fun e w' => e = .returned (.string ⟨#[]⟩) ∧ Below w.heap.size w w' := by
  have HJ := Lib.hid (join_any w w [] (.slice none 0 0) ⟨⟨rfl, .inl ⟨rfl, rfl⟩⟩, Turned.refl _ _⟩ (by simp) (by simp [Lib.join_nil]))
  go_enter Tryz.func40, Tryz.ntmps40
  go_wp2_with fail
  go_loopw [3, 8] (fun v i wr => v = .slice none 0 0 ∧ i = (.int .i64 0) ∧ wr = w) (fun _ i _ => 0)
  case atStart => exact ⟨rfl, rfl, rfl⟩
  case round =>
    obtain ⟨rfl, rfl, rfl⟩ := hrel
    go_wp2_with (go_at_call 73; refine HJ.out.mono ?_; rintro e w7 ⟨rfl, HQ⟩; have HQ := Lib.hid HQ)
    go_ret
    exact ⟨rfl, below_turned HQ.out⟩
end Go.Proofs.YtjijdgkccfeeaaaGreatDoor
namespace Go.Proofs.YtjijdgkccfeeaaaGreatDoor
open Go Go.Proofs Go.RowKit
attribute [local go_sem] Oper.semAt_some
def PV (n : Nat) (W : World) : Prop := Vars n W ∧ VarAt n W "internal/strconv.uint64pow10" (Lib.pow10Tab.map fun z => Value.int .u64 z).toArray
theorem PV.mono {n m : Nat} {W : World} (h : PV n W) (hm : n ≤ m) : PV m W := ⟨h.1.mono hm, h.2.1, fun g hg => Nat.lt_of_lt_of_le (h.2.2 g hg) hm⟩
theorem PV.turned {n : Nat} {C : Nat → Prop} {W W' : World} (h : PV n W) (ht : Turned C W W') (hC : ∀ g, g < n → ¬ C g) : PV n W' := ⟨h.1.turned ht hC, h.2.turned ht hC⟩
def FitT (ts : List Tok) : Prop := ∀ t ∈ ts, -9223372036854775808 ≤ t.n ∧ t.n ≤ 9223372036854775807 ∧ t.s.size ≤ 100000
theorem toks_of_owns {W : World} {base : Nat} {v : Value} {ts : List Tok} (h : W.ownsRow base 68 4 v ts.length (ts.flatMap tokV)) : (v = .slice none 0 0 ∧ ts = []) ∨ ∃ g cap, v = .slice (some ⟨g, 0, none⟩) ts.length cap ∧ ToksAt W g 0 ts := by
  rcases owns_cell (enc := tokV) (fun _ => rfl) h with ⟨h1, h2⟩ | ⟨g, cap, h1, h2, h3, h4, h5, h6⟩
  · exact .inl ⟨h1, h2⟩
  · refine .inr ⟨g, cap, h1, h5, fun j t hj => ?_⟩
    obtain ⟨hlt, he⟩ := List.getElem?_eq_some_iff.1 hj
    have hc : ∀ k, k < 4 → W.cell? ⟨g, 0 + j * 4 + k, none⟩ = (tokV t)[k]? := fun k hk => by rw [h6 j k hlt hk, he]
    exact ⟨hc 0 (by decide), hc 1 (by decide), hc 2 (by decide), hc 3 (by decide)⟩
theorem text_pr' {W : World} {base n : Nat} {v : Value} {ts : List Tok} (h : W.ownsRow base 68 4 v ts.length (ts.flatMap tokV)) (hv : PV n W) (hl : ts.length ≤ 100000) (hf : FitT ts) :
    Calls Tryz.prog 40 #[v] W fun e w' => e = .returned (.string (textQ ts)) ∧ Turned (fun _ => False) W w' := by
  rcases toks_of_owns h with ⟨rfl, rfl⟩ | ⟨g, cap, rfl, hT⟩
  · refine (text_zero none 0 W).mono ?_
    rintro e w' ⟨rfl, hb⟩
    exact ⟨rfl, hb.os, hb.tape, hb.output, hb.size, fun k hk _ => hb.block k hk⟩
  · have h1 := textQ_len ts hf
    have h2 : (textQ ts).size = (Lib.join ((wordsQ ts).map (·.data.toList)) [32]).length := by simp [textQ, ByteArray.size]
    exact print_all g 0 cap ts W n hT hl hf hv.2 (by omega)
def okE {α : Type} : PE α → Bool
  | .bad _ _ => false
  | .ok _ => true
def printed (bad : Bool) (t : ByteArray) (ok : Bool) : ByteArray × Int := if bad then (noB, 1) else if ok then (t, 0) else (noB, 2)
def printX (x : Ex) : ByteArray × Int := printed (showX x).2.2 (textQ (showX x).2.1) (okE (exprP (textQ (showX x).2.1)))
def printFs (l : List Fm) : ByteArray × Int := printed (showFs l).2 (textQ (showFs l).1) (okE (formsP (textQ (showFs l).1)))
theorem turned_of_prt {w W W' : World} {B : Nat} {ts : List Tok} {bad : Bool} (h : Turned (fun _ => False) w W) (ht : PrT B W W') (hp : PrS B ts bad W) (hB : w.heap.size ≤ B) : Turned (fun _ => False) w W' :=
  ⟨ht.os.trans h.os, ht.tape.trans h.tape, ht.output.trans h.output, Nat.le_trans h.size ht.size, fun k hk _ => ((ht.keep k (Nat.lt_of_lt_of_le hk h.size) (hp.data (by omega))).1).trans (h.block k hk id)⟩
theorem PrS.new {w : World} (B : Nat) (hB : B = w.heap.size) : PrS B [] false (w.alloc (.cells #[.slice none 0 0, .bool false] 90)) := by
  subst hB
  exact ⟨_, heap_alloc_new _ _, by simp, .inl ⟨rfl, rfl⟩⟩
set_option maxRecDepth 20000 in
set_option maxHeartbeats 4000000 in
theorem printExpr_any (x : Ex) (a : Value) (w : World) (hv : PV w.heap.size w) (hk : KidsAt w (fun b => b < w.heap.size) x.kids a) (hl : (showX x).2.1.length ≤ 100000) (hs : smallX x = true) (hf : FitT (showX x).2.1) :
    Calls Tryz.prog 21 #[exA x a] w fun e w' => e = .returned (.tuple #[.string (printX x).1, (.int .i64 ((printX x).2))]) ∧ Turned (fun _ => False) w w' := by
  obtain ⟨W1, hW1⟩ : ∃ W1, W1 = w.alloc (.cells #[(.int .i64 (x.op)), (.int .i64 (x.n)), .string x.s, a, (.int .i64 (x.at_))] 31) := ⟨_, rfl⟩
  obtain ⟨W2, hW2⟩ : ∃ W2, W2 = W1.alloc (.cells #[.slice none 0 0, .bool false] 90) := ⟨_, rfl⟩
  obtain ⟨eb, heb⟩ : ∃ eb, eb = w.heap.size := ⟨_, rfl⟩
  obtain ⟨B, hB⟩ : ∃ B, B = W1.heap.size := ⟨_, rfl⟩
  have t2 : Turned (fun _ => False) w W2 := by rw [hW2, hW1]; exact ((Turned.refl _ _).alloc _).alloc _
  have hBe : B = w.heap.size + 1 := by rw [hB, hW1]; simp
  have hp0 : PrS B [] false W2 := by rw [hW2]; exact PrS.new B hB
  have hbox : W2.heap[eb]? = some (.cells #[(.int .i64 (x.op)), (.int .i64 (x.n)), .string x.s, a, (.int .i64 (x.at_))] 31 (0, 0)) := by
    rw [hW2, hao _ _ (by rw [heb, hW1]; simp), hW1, heb]; exact heap_alloc_new _ _
  have hk2 : KidsAt W2 (fun b => b < B) x.kids a := hk.move t2 (fun _ _ => id) (fun b hb _ => by omega)
  have HC := Lib.hid (expr_pr _ x (Nat.le_refl _) B [] false a W2 hp0 hk2 (by simpa using hl) hs)
  obtain ⟨pa, ca, rfl⟩ := hk.shape
  have HV := Lib.hid (hv.turned t2 fun _ _ => id)
  have hv0 := Lib.hid hv
  have HT := Lib.hid t2
  have HP0 := Lib.hid hp0
  have c : W2.cell? ⟨eb, 0, none⟩ = some (.int .i64 (x.op)) ∧ W2.cell? ⟨eb, 1, none⟩ = some (.int .i64 (x.n)) ∧ W2.cell? ⟨eb, 2, none⟩ = some (.string x.s) ∧ W2.cell? ⟨eb, 3, none⟩ = some (.slice pa x.kids.length ca) ∧ W2.cell? ⟨eb, 4, none⟩ = some (.int .i64 (x.at_)) := by simp [World.cell?, hbox]
  obtain ⟨c0, c1, c2, c3, c4⟩ := c
  have HBE := Lib.hid hBe
  have HF := Lib.hid hf
  clear hk hk2 hv t2 hp0 hbox hBe hs hf
  unfold exA at HC ⊢
  simp only [List.nil_append, Bool.false_or] at HC
  have hW2' := Lib.hid hW2
  have hW1' := Lib.hid hW1
  have heb' := Lib.hid heb
  have hB' := Lib.hid hB
  clear hW1 hW2 heb hB
  go_enter Tryz.func21, Tryz.ntmps21
  go_upto_region 2 with fail
  rw [← hW1'.out, ← heb'.out, ← hW2'.out]
  have hbe : eb + 1 = B := by rw [heb'.out]; exact HBE.out.symm
  rw [hbe]
  clear hbe
  go_upto_region 3 with (go_at_call 41; refine HC.out.mono ?_; rintro e w3 ⟨rfl, hp, ht⟩; have HP3 := Lib.hid hp; have HT3 := Lib.hid (turned_of_prt HT.out ht HP0.out (by have := HBE.out; omega)); clear hp ht)
  obtain ⟨v, h0, hown⟩ := HP3.out
  obtain ⟨k0, k1⟩ := pr_cells h0
  obtain ⟨va, vc, rfl⟩ := owns_shape hown
  have HO := Lib.hid hown
  have HV3 : Hid (PV w3.heap.size w3) := Lib.hid ((hv0.out.turned HT3.out fun _ _ => id).mono HT3.out.size)
  clear c0 c1 c2 c3 c4 HC h0 hown HV hv0
  have HPX : Hid (printX x = printed (showX x).2.2 (textQ (showX x).2.1) (okE (exprP (textQ (showX x).2.1)))) := Lib.hid rfl
  generalize (showX x).2.2 = bd at *
  generalize (showX x).2.1 = tk at *
  cases bd with
  | true =>
    have HR : Hid (printX x = (noB, 1)) := Lib.hid HPX.out
    clear HO HV3 HPX
    go_wp2_with fail
    go_ret2
    rw [HR.out]
    exact ⟨rfl, HT3.out⟩
  | false =>
    have HTX := Lib.hid (text_pr' HO.out HV3.out hl HF.out)
    go_upto_region 6 with (go_at_call 40; refine HTX.out.mono ?_; rintro e w4 ⟨rfl, ht⟩; have HT4 := Lib.hid (HT3.out.trans ht); have HV4 := Lib.hid ((HV3.out.turned ht fun _ _ => id).mono ht.size); clear ht)
    have HEX := Lib.hid (expr_any (textQ tk) w4 HV4.out.1)
    clear k0 k1 HO HV3 HTX
    cases hE : exprP (textQ tk) with
    | bad a c =>
      have hc : (c != 0) = true := by simpa using exprP_err hE
      have HR : Hid (printX x = (noB, 2)) := Lib.hid (by rw [HPX.out, hE]; rfl)
      have HEB : Hid (Calls Tryz.prog 10 #[.string (textQ tk)] w4 fun e w' => Turned (fun _ => False) w4 w' ∧ e = .returned (.tuple #[.agg #[(.int .i64 0), (.int .i64 0), .string ⟨#[]⟩, .slice none 0 0, (.int .i64 0)], .agg #[(.int .i64 a), (.int .i64 c)]])) := Lib.hid (HEX.out.mono fun e w' h => by unfold ExprR at h; rw [hE] at h; exact h)
      clear HEX HPX hE
      go_wp2_with (go_at_call 10; refine HEB.out.mono ?_; rintro e w5 ⟨ht, rfl⟩; have HT5 := Lib.hid (HT4.out.trans ht); clear ht)
      go_ret2
      rw [HR.out]
      exact ⟨rfl, (HT5.out.alloc _).alloc _⟩
    | ok y =>
      have HR : Hid (printX x = (textQ tk, 0)) := Lib.hid (by rw [HPX.out, hE]; rfl)
      have HEB : Hid (Calls Tryz.prog 10 #[.string (textQ tk)] w4 fun e w' => Turned (fun _ => False) w4 w' ∧ ∃ p c, e = .returned (.tuple #[.agg #[(.int .i64 (y.op)), (.int .i64 (y.n)), .string y.s, .slice p y.kids.length c, (.int .i64 (y.at_))], .agg #[(.int .i64 0), (.int .i64 0)]])) := Lib.hid (HEX.out.mono fun e w' h => by
        unfold ExprR at h; rw [hE] at h
        obtain ⟨h1, p, c, h2, -⟩ := h
        exact ⟨h1, p, c, h2⟩)
      clear HEX HPX hE
      go_wp2_with (go_at_call 10; refine HEB.out.mono ?_; rintro e w5 ⟨ht, py, cy, rfl⟩; have HT5 := Lib.hid (HT4.out.trans ht); clear ht)
      go_ret2
      rw [HR.out]
      exact ⟨rfl, (HT5.out.alloc _).alloc _⟩
theorem showFs_zero (l : List Fm) : showFs (l.take 0) = ([], false) := by rw [List.take_zero, showFs]
set_option maxRecDepth 20000 in
set_option maxHeartbeats 4000000 in
theorem print_any' (l : List Fm) (a : Value) (w : World) (hv : PV w.heap.size w) (hk : FormsAt w (fun b => b < w.heap.size) l a) (hl : (showFs l).1.length ≤ 100000) (hs : smallFs l = true) (hf : FitT (showFs l).1) :
    Calls Tryz.prog 20 #[a] w fun e w' => e = .returned (.tuple #[.string (printFs l).1, (.int .i64 ((printFs l).2))]) ∧ Turned (fun _ => False) w w' := by
  obtain ⟨W2, hW2⟩ : ∃ W2, W2 = w.alloc (.cells #[.slice none 0 0, .bool false] 90) := ⟨_, rfl⟩
  obtain ⟨B, hB⟩ : ∃ B, B = w.heap.size := ⟨_, rfl⟩
  have t2 : Turned (fun _ => False) w W2 := by rw [hW2]; exact (Turned.refl _ _).alloc _
  have hp0 : PrS B [] false W2 := by rw [hW2]; exact PrS.new B hB
  have HK := Lib.hid (hk.move t2 (fun _ _ => id) (M := fun b => b < B) (fun b hb _ => by omega))
  have hlen := hk.len
  unfold maxLen at hlen
  obtain ⟨pa, ca, rfl⟩ := hk.shape
  have hv0 := Lib.hid hv
  have HT := Lib.hid t2
  have HP0 := Lib.hid hp0
  have HF := Lib.hid hf
  have HSB := Lib.hid hs
  clear hk hv t2 hp0 hs hf
  have hW2' := Lib.hid hW2
  have hB' := Lib.hid hB
  clear hW2 hB
  go_enter Tryz.func20, Tryz.ntmps20
  go_upto_region 2 with fail
  rw [← hW2'.out, ← hB'.out]
  go_wp2_with fail
  go_loopw [14] (fun u wr => ∃ i : Nat, i ≤ l.length ∧ u = (.int .i64 i) ∧ Hid (PrS B (showFs (l.take i)).1 (showFs (l.take i)).2 wr ∧ PrT B W2 wr)) (fun u _ => l.length - (intOf u).toNat)
  case atStart => exact ⟨0, by omega, rfl, Lib.hid ⟨by rw [showFs_zero]; exact HP0.out, PrT.refl _ _⟩⟩
  case round =>
    obtain ⟨j, hj, rfl, HJ⟩ := hrel
    by_cases hlj : j < l.length
    · obtain ⟨y, hy⟩ := some_of_lt hlj
      have hym := List.mem_of_getElem? hy
      have hsy := smallFs_mem HSB.out hym
      have hkw := HK.out.move HJ.out.2.turned (M := fun b => b < B) (fun b hb hn => hn (HP0.out.data hb)) (fun _ hb _ => hb)
      obtain ⟨bx, ax, ky, my, he1, ⟨x0, x1, x2, x3⟩, HKA, HKB⟩ := formsAt_get hkw hy
      subst he1
      obtain ⟨pk, ck, rfl⟩ := HKA.shape
      obtain ⟨qk, dk, rfl⟩ := HKB.shape
      have HP := Lib.hid (showFs_succ hy)
      have hle := showFs_le l (j + 1)
      rw [HP.out] at hle
      simp only [Pr.app, List.length_append] at hle
      have lx := cell_lt x0
      have ht4 : Turned (fun _ => False) wr (wr.alloc (.cells #[.string y.word, .slice pk y.args.length ck, .slice qk y.body.length dk, (.int .i64 (y.at_))] 45)) := (Turned.refl (fun _ => False) wr).alloc _
      obtain ⟨hp4, htr4⟩ := HJ.out.1.same ht4
      have HC5 := Lib.hid (form_pr _ y (Nat.le_refl _) B _ _ _ _ _ hp4 (HKA.move ht4 (fun _ _ => id) (fun _ hb _ => hb)) (HKB.move ht4 (fun _ _ => id) (fun _ hb _ => hb)) (by omega) hsy)
      have HTR := Lib.hid (HJ.out.2.trans htr4)
      unfold fmA at HC5
      clear hy hym HKA HKB HJ hle ht4 hp4 htr4 hkw
      go_wp2_with (go_at_call 39; refine HC5.out.mono ?_; rintro e w5 ⟨rfl, hp, ht⟩; have HS5 := Lib.hid (And.intro hp (HTR.out.trans ht)); clear hp ht)
      go_roundw
      case rel => exact ⟨j + 1, by omega, by go_num, by rw [HP.out]; exact HS5⟩
      case measure => simp [intOf]; omega
    · obtain rfl : j = l.length := by omega
      rw [List.take_length] at HJ
      have HT3 := Lib.hid (turned_of_prt HT.out HJ.out.2 HP0.out (by rw [hB'.out]; exact Nat.le_refl _))
      obtain ⟨v, h0, hown⟩ := HJ.out.1
      obtain ⟨k0, k1⟩ := pr_cells h0
      obtain ⟨va, vc, rfl⟩ := owns_shape hown
      have HO := Lib.hid hown
      have HV3 : Hid (PV wr.heap.size wr) := Lib.hid ((hv0.out.turned HT3.out fun _ _ => id).mono HT3.out.size)
      have HPX : Hid (printFs l = printed (showFs l).2 (textQ (showFs l).1) (okE (formsP (textQ (showFs l).1)))) := Lib.hid rfl
      clear HJ h0 hown hv0 HK HSB
      generalize (showFs l).2 = bd at *
      generalize (showFs l).1 = tk at *
      cases bd with
      | true =>
        have HR : Hid (printFs l = (noB, 1)) := Lib.hid HPX.out
        clear HO HV3 HPX
        go_wp2_with fail
        go_ret2
        rw [HR.out]
        exact ⟨rfl, HT3.out⟩
      | false =>
        have HTX := Lib.hid (text_pr' HO.out HV3.out hl HF.out)
        go_upto_region 10 with (go_at_call 40; refine HTX.out.mono ?_; rintro e w4 ⟨rfl, ht⟩; have HT4 := Lib.hid (HT3.out.trans ht); have HV4 := Lib.hid ((HV3.out.turned ht fun _ _ => id).mono ht.size); clear ht)
        have HEX := Lib.hid (forms_any (textQ tk) w4 HV4.out.1)
        clear k0 k1 HO HV3 HTX
        cases hE : formsP (textQ tk) with
        | bad a c =>
          have hc : (c != 0) = true := by simpa using formsP_err hE
          have HR : Hid (printFs l = (noB, 2)) := Lib.hid (by rw [HPX.out, hE]; rfl)
          have HEB : Hid (Calls Tryz.prog 9 #[.string (textQ tk)] w4 fun e w' => Turned (fun _ => False) w4 w' ∧ e = .returned (.tuple #[.slice none 0 0, .agg #[(.int .i64 a), (.int .i64 c)]])) := Lib.hid (HEX.out.mono fun e w' h => by unfold FormsR at h; rw [hE] at h; exact h)
          clear HEX HPX hE
          go_wp2_with (go_at_call 9; refine HEB.out.mono ?_; rintro e w5 ⟨ht, rfl⟩; have HT5 := Lib.hid (HT4.out.trans ht); clear ht)
          go_ret2
          rw [HR.out]
          exact ⟨rfl, HT5.out.alloc _⟩
        | ok y =>
          have HR : Hid (printFs l = (textQ tk, 0)) := Lib.hid (by rw [HPX.out, hE]; rfl)
          have HEB : Hid (Calls Tryz.prog 9 #[.string (textQ tk)] w4 fun e w' => Turned (fun _ => False) w4 w' ∧ ∃ p c, e = .returned (.tuple #[.slice p y.length c, .agg #[(.int .i64 0), (.int .i64 0)]])) := Lib.hid (HEX.out.mono fun e w' h => by
            unfold FormsR at h; rw [hE] at h
            obtain ⟨h1, p, c, h2, -⟩ := h
            exact ⟨h1, p, c, h2⟩)
          clear HEX HPX hE
          go_wp2_with (go_at_call 9; refine HEB.out.mono ?_; rintro e w5 ⟨ht, py, cy, rfl⟩; have HT5 := Lib.hid (HT4.out.trans ht); clear ht)
          go_ret2
          rw [HR.out]
          exact ⟨rfl, HT5.out.alloc _⟩
end Go.Proofs.YtjijdgkccfeeaaaGreatDoor
namespace Go.Proofs.YtjijdgkccfeeaaaGreatDoor
open Go Go.Proofs
def psrcA : ByteArray := ⟨#[108, 105, 102, 116, 32, 108, 49, 32, 45, 53, 32, 34, 97, 34, 32, 45, 62, 32, 40, 120, 32, 43, 32, 49, 41, 32, 123, 32, 100, 111, 103, 59, 32, 125]⟩
def psrcB : ByteArray := ⟨#[97, 32, 45, 32, 98, 32, 45, 32, 99, 32, 42, 32, 45, 100]⟩
def psrcC : ByteArray := ⟨#[33, 97, 32, 61, 61, 32, 98, 32, 63, 32, 102, 40, 49, 44, 32, 50, 41, 32, 58, 32, 40, 97, 32, 60, 32, 98, 41, 32, 61, 61, 32, 99]⟩
def psrcD : ByteArray := ⟨#[97, 32, 60, 32, 98, 32, 60, 32, 99]⟩
def psrcE : ByteArray := ⟨#[97, 32, 98]⟩
def psrcF : ByteArray := ⟨#[120, 32, 40]⟩
def psrcG : ByteArray := ⟨#[120, 32, 45, 32, 121, 59]⟩
def psrcP : ByteArray := ⟨#[33, 32, 97, 32, 61, 61, 32, 98, 32, 63, 32, 102, 32, 40, 32, 49, 32, 44, 32, 50, 32, 41, 32, 58, 32, 40, 32, 97, 32, 60, 32, 98, 32, 41, 32, 61, 61, 32, 99]⟩
def pexB : Ex := match exprP psrcB with | .ok x => x | .bad _ _ => noEx
def pexC : Ex := match exprP psrcC with | .ok x => x | .bad _ _ => noEx
def pfsA : List Fm := match formsP psrcA with | .ok x => x | .bad _ _ => []
theorem preadA : formsP psrcA = .ok pfsA := by kernel_rfl
theorem preadB : exprP psrcB = .ok pexB := by kernel_rfl
theorem preadC : exprP psrcC = .ok pexC := by kernel_rfl
theorem preadD : exprP psrcD = .bad 6 5 := by kernel_rfl
theorem preadE : exprP psrcE = .bad 2 5 := by kernel_rfl
theorem preadF : exprP psrcF = .bad 3 5 := by kernel_rfl
theorem preadG : formsP psrcG = .bad 4 5 := by kernel_rfl
theorem pprintC : printX pexC = (psrcP, 0) := by kernel_rfl
def pnm (s : ByteArray) : Ex := .mk 3 0 s [] 0
def pa : Ex := pnm ⟨#[97]⟩
def pb : Ex := pnm ⟨#[98]⟩
def pc : Ex := pnm ⟨#[99]⟩
def ptwo (op : Int) (x y : Ex) : Ex := .mk op 0 noB [x, y] 0
def pminus : Ex := .mk 6 0 noB [pnm ⟨#[100]⟩] 0
def pnot : Ex := .mk 5 0 noB [ptwo 12 pa pb] 0
def pcall : Ex := .mk 4 0 ⟨#[102]⟩ [.mk 1 1 noB [] 0, .mk 1 2 noB [] 0] 0
theorem psameB : sameX false pexB (ptwo 11 (ptwo 11 pa pb) (ptwo 7 pc pminus)) = true := by kernel_rfl
theorem psameC : sameX false pexC (.mk 20 0 noB [pnot, pcall, ptwo 12 (ptwo 14 pa pb) pc] 0) = true := by kernel_rfl
theorem psameAB : sameX false pa pb = false := by kernel_rfl
def fitB (ts : List Tok) : Bool := ts.all fun t => decide (-9223372036854775808 ≤ t.n) && decide (t.n ≤ 9223372036854775807) && decide (t.s.size ≤ 100000)
theorem fit_of {ts : List Tok} (h : fitB ts = true) : FitT ts := fun t ht => by
  have := List.all_eq_true.1 h t ht
  simp only [Bool.and_eq_true, decide_eq_true_eq] at this
  exact ⟨this.1.1, this.1.2, this.2⟩
theorem pfitC : fitB (showX pexC).2.1 = true := by kernel_rfl
theorem psmallC : smallX pexC = true := by kernel_rfl
theorem plenC : (showX pexC).2.1.length = 19 := by kernel_rfl
def pfA : Fm := pfsA.headD (.mk noB [] [] 0)
def pargB : Ar := pfA.args.getD 1 ⟨0, 0, noB, noEx, 0⟩
def pargD : Ar := pfA.args.getD 3 ⟨0, 0, noB, noEx, 0⟩
def pargE : Ar := pfA.args.getD 4 ⟨0, 0, noB, noEx, 0⟩
theorem pfsA_len : pfsA.length = 1 := by kernel_rfl
theorem pfsA_at : pfsA[0]? = some pfA := by kernel_rfl
theorem pfA_word : pfA.word = ⟨#[108, 105, 102, 116]⟩ := by kernel_rfl
theorem pfA_args : pfA.args.length = 5 := by kernel_rfl
theorem pfA_body : pfA.body.length = 1 := by kernel_rfl
theorem pfA_b : pfA.args[1]? = some pargB := by kernel_rfl
theorem pfA_d : pfA.args[3]? = some pargD := by kernel_rfl
theorem pfA_e : pfA.args[4]? = some pargE := by kernel_rfl
theorem pargB_n : pargB.n = -5 := by kernel_rfl
theorem pargD_k : pargD.kind = 4 := by kernel_rfl
theorem pargE_o : pargE.e.op = 10 := by kernel_rfl
end Go.Proofs.YtjijdgkccfeeaaaGreatDoor
namespace Go.Proofs.YtjijdgkccfeeaaaGreatDoor
open Go Go.Proofs Go.RowKit
attribute [local go_sem] Oper.semAt_some
theorem kids_new (w : World) (t : TypeId) (xs : List (Ex × Value)) (hl : xs.length ≤ maxLen) (hk : ∀ p ∈ xs, KidsAt w (fun _ => True) p.1.kids p.2) (n c : Nat) (hn : n = w.heap.size) (cs : Array Value) (hcs : cs.toList = xs.flatMap fun p => exV p.1 p.2) :
    KidsAt (w.alloc (.cells cs t)) (fun _ => True) (xs.map (·.1)) (.slice (some ⟨n, 0, none⟩) xs.length c) := by
  subst hn
  have ht : Turned (fun _ => False) w (w.alloc (.cells cs t)) := (Turned.refl _ _).alloc _
  have := KidsAt.some (W := w.alloc (.cells cs t)) (N := fun _ => True) (xs.map (·.1)) w.heap.size 0 c (fun i => ((xs[i]?).map (·.2)).getD undef) trivial (by rw [List.length_map]; exact hl) (fun i hi j u hu => ?_) (fun i x hx => ?_)
  · simpa using this
  · simp only [List.length_map] at hi
    simp only [List.getElem?_map, List.getElem?_eq_getElem hi, Option.map_some, Option.getD_some] at hu
    have hj : j < 5 := by
      have := (List.getElem?_eq_some_iff.1 hu).1
      simpa [exV] using this
    have h2 := flatMap_at (fun p : Ex × Value => exV p.1 p.2) 5 (fun _ => rfl) xs i j hi hj
    rw [hu, ← hcs] at h2
    have h3 : cs[0 + i * 5 + j]? = some u := by rw [Nat.zero_add]; simpa using h2
    show (match (w.alloc (.cells cs t)).heap[w.heap.size]? with | some (.cells c _ _) => c[0 + i * 5 + j]? | _ => none) = some u
    rw [heap_alloc_new]
    exact h3
  · simp only [List.getElem?_map] at hx ⊢
    obtain ⟨p, hp, rfl⟩ := Option.map_eq_some_iff.1 hx
    simp only [hp, Option.map_some, Option.getD_some]
    exact (hk p (List.mem_of_getElem? hp)).all ht
theorem nameA_any (s : ByteArray) (w : World) : Calls Tryz.prog 25 #[.string s] w fun e w' => e = .returned (.agg #[(.int .i64 3), (.int .i64 0), .string s, .slice none 0 0, (.int .i64 0)]) ∧ Turned (fun _ => False) w w' := by
  go_enter Tryz.func25, Tryz.ntmps25
  go_wp2_with fail
  refine bodyPost_ret (results_ex rfl _ _ w.heap.size _ _ _ _ _ rfl (heap_alloc_new _ _)) rfl ?_
  exact ⟨rfl, (Turned.refl _ _).alloc _⟩
theorem two_any (op : Int) (x y : Ex) (a b : Value) (w : World) (hx : KidsAt w (fun _ => True) x.kids a) (hy : KidsAt w (fun _ => True) y.kids b) :
    Calls Tryz.prog 26 #[(.int .i64 op), exA x a, exA y b] w fun e w' => ∃ g, e = .returned (.agg #[(.int .i64 op), (.int .i64 0), .string ⟨#[]⟩, .slice (some ⟨g, 0, none⟩) 2 2, (.int .i64 0)]) ∧ KidsAt w' (fun _ => True) [x, y] (.slice (some ⟨g, 0, none⟩) 2 2) ∧ Turned (fun _ => False) w w' := by
  obtain ⟨pa, ca, rfl⟩ := hx.shape
  obtain ⟨pb, cb, rfl⟩ := hy.shape
  obtain ⟨W1, hW1⟩ : ∃ W1, W1 = ((w.alloc (.cells #[(.int .i64 (x.op)), (.int .i64 (x.n)), .string x.s, .slice pa x.kids.length ca, (.int .i64 (x.at_))] 31)).alloc (.cells #[(.int .i64 (y.op)), (.int .i64 (y.n)), .string y.s, .slice pb y.kids.length cb, (.int .i64 (y.at_))] 31)).alloc (.cells #[(.int .i64 op), (.int .i64 0), .string ⟨#[]⟩, .slice (some ⟨w.heap.size + 1 + 1 + 1, 0, none⟩) 2 2, (.int .i64 0)] 31) := ⟨_, rfl⟩
  have t1 : Turned (fun _ => False) w W1 := by rw [hW1]; exact (((Turned.refl _ _).alloc _).alloc _).alloc _
  have sz : W1.heap.size = w.heap.size + 1 + 1 + 1 := by rw [hW1]; simp
  have hbox : W1.heap[w.heap.size + 1 + 1]? = some (.cells #[(.int .i64 op), (.int .i64 0), .string ⟨#[]⟩, .slice (some ⟨w.heap.size + 1 + 1 + 1, 0, none⟩) 2 2, (.int .i64 0)] 31 (0, 0)) := by
    have e : w.heap.size + 1 + 1 = ((w.alloc (.cells #[(.int .i64 (x.op)), (.int .i64 (x.n)), .string x.s, .slice pa x.kids.length ca, (.int .i64 (x.at_))] 31)).alloc (.cells #[(.int .i64 (y.op)), (.int .i64 (y.n)), .string y.s, .slice pb y.kids.length cb, (.int .i64 (y.at_))] 31)).heap.size := by simp
    rw [hW1, e]; exact heap_alloc_new _ _
  have hK := kids_new W1 31 [(x, .slice pa x.kids.length ca), (y, .slice pb y.kids.length cb)] (by simp [maxLen]) (fun p hp => by
    simp at hp
    rcases hp with rfl | rfl
    · exact hx.all t1
    · exact hy.all t1) (w.heap.size + 1 + 1 + 1) 2 sz.symm #[(.int .i64 (x.op)), (.int .i64 (x.n)), .string x.s, .slice pa x.kids.length ca, (.int .i64 (x.at_)), (.int .i64 (y.op)), (.int .i64 (y.n)), .string y.s, .slice pb y.kids.length cb, (.int .i64 (y.at_))] rfl
  have HK := Lib.hid hK
  have HB := Lib.hid hbox
  have HT := Lib.hid t1
  have HW := Lib.hid hW1
  have HSZ := Lib.hid sz
  clear hx hy hK hbox t1 hW1 sz
  unfold exA
  go_enter Tryz.func26, Tryz.ntmps26
  go_wp2_with fail
  rw [← HW.out]
  refine bodyPost_ret (results_ex rfl _ _ (w.heap.size + 1 + 1) _ _ _ _ _ rfl (alloc_box HB.out _)) rfl ?_
  exact ⟨w.heap.size + 1 + 1 + 1, rfl, HK.out, HT.out.alloc _⟩
theorem same_true (x y : Ex) (h : sameX false x y = true) (a b : Value) (W : World) (h1 : KidsAt W (fun _ => True) x.kids a) (h2 : KidsAt W (fun _ => True) y.kids b) : Calls Tryz.prog 16 #[exA x a, exA y b] W fun e w' => e = .returned (.bool true) ∧ Turned (fun _ => False) W w' := by
  have := sameExpr_any _ x (Nat.le_refl _) y a b W h1 h2
  rw [h] at this
  exact this
theorem call7 (W : World) (g a b : Nat) (pC : Option Addr) (cC : Nat) (h0 : KidsAt W (fun _ => True) [ptwo 12 pa pb] (.slice (some ⟨a, 0, none⟩) 1 1)) (h1 : KidsAt W (fun _ => True) [.mk 1 1 noB [] 0, .mk 1 2 noB [] 0] (.slice (some ⟨b, 0, none⟩) 2 2)) (h2 : KidsAt W (fun _ => True) [ptwo 14 pa pb, pc] (.slice (some ⟨g, 0, none⟩) 2 2)) (hC : KidsAt W (fun _ => True) pexC.kids (.slice pC pexC.kids.length cC)) :
    Calls Tryz.prog 16 #[.agg #[(.int .i64 (pexC.op)), (.int .i64 (pexC.n)), .string pexC.s, .slice pC pexC.kids.length cC, (.int .i64 (pexC.at_))], .agg #[(.int .i64 20), (.int .i64 0), .string ⟨#[]⟩, .slice (some ⟨W.heap.size, 0, none⟩) 3 3, (.int .i64 0)]] (W.alloc (.cells #[(.int .i64 5), (.int .i64 0), .string ⟨#[]⟩, .slice (some ⟨a, 0, none⟩) 1 1, (.int .i64 0), (.int .i64 4), (.int .i64 0), .string ⟨#[102]⟩, .slice (some ⟨b, 0, none⟩) 2 2, (.int .i64 0), (.int .i64 12), (.int .i64 0), .string ⟨#[]⟩, .slice (some ⟨g, 0, none⟩) 2 2, (.int .i64 0)] 31)) fun e w' => e = .returned (.bool true) ∧ Turned (fun _ => False) W w' := by
  have hk := kids_new W 31 [(pnot, .slice (some ⟨a, 0, none⟩) 1 1), (pcall, .slice (some ⟨b, 0, none⟩) 2 2), (ptwo 12 (ptwo 14 pa pb) pc, .slice (some ⟨g, 0, none⟩) 2 2)] (by simp [maxLen]) (by
    intro p hp
    simp only [List.mem_cons, List.not_mem_nil, or_false] at hp
    rcases hp with rfl | rfl | rfl
    · exact h0
    · exact h1
    · exact h2) _ 3 rfl #[(.int .i64 5), (.int .i64 0), .string ⟨#[]⟩, .slice (some ⟨a, 0, none⟩) 1 1, (.int .i64 0), (.int .i64 4), (.int .i64 0), .string ⟨#[102]⟩, .slice (some ⟨b, 0, none⟩) 2 2, (.int .i64 0), (.int .i64 12), (.int .i64 0), .string ⟨#[]⟩, .slice (some ⟨g, 0, none⟩) 2 2, (.int .i64 0)] rfl
  have ht : Turned (fun _ => False) W (W.alloc (.cells #[(.int .i64 5), (.int .i64 0), .string ⟨#[]⟩, .slice (some ⟨a, 0, none⟩) 1 1, (.int .i64 0), (.int .i64 4), (.int .i64 0), .string ⟨#[102]⟩, .slice (some ⟨b, 0, none⟩) 2 2, (.int .i64 0), (.int .i64 12), (.int .i64 0), .string ⟨#[]⟩, .slice (some ⟨g, 0, none⟩) 2 2, (.int .i64 0)] 31)) := (Turned.refl _ _).alloc _
  exact (same_true pexC (.mk 20 0 noB [pnot, pcall, ptwo 12 (ptwo 14 pa pb) pc] 0) psameC _ _ _ (hC.all ht) hk).mono fun e w' h => ⟨h.1, ht.trans h.2⟩
end Go.Proofs.YtjijdgkccfeeaaaGreatDoor
