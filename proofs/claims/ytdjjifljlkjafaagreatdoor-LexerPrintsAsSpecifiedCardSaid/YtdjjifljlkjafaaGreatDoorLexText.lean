/- Walk of the lexer: Text, on all tokens. Conditions: those of each theorem. -/
import Derived.Test.YtdjjifljlkjafaaGreatDoorLexReplAll
namespace Go.Proofs.YtdjjifljlkjafaaGreatDoor
open Go Go.Proofs Go.RowKit
attribute [local go_sem] Oper.semAt_some

/-- a text as Text prints it -/
def quotedB (s : ByteArray) : ByteArray := ⟨#[34]⟩ ++ ⟨(escL s.data.toList).toArray⟩ ++ ⟨#[34]⟩
/-- the word that Text prints for a token -/
def wordQ (t : Tok) : List ByteArray := if t.kind = 1 ∨ t.kind = 4 then [t.s] else if t.kind = 2 then [⟨(Lib.itoa t.n).toArray⟩] else if t.kind = 3 then [quotedB t.s] else []
def wordsQ (ts : List Tok) : List ByteArray := ts.flatMap wordQ
def textQ (ts : List Tok) : ByteArray := ⟨(Lib.join ((wordsQ ts).map (·.data.toList)) [32]).toArray⟩
theorem wordsQ_step (ts : List Tok) (j : Nat) (t : Tok) (h : ts[j]? = some t) : wordsQ (ts.take (j + 1)) = wordsQ (ts.take j) ++ wordQ t := by
  have hlt : j < ts.length := (List.getElem?_eq_some_iff.1 h).1
  rw [List.take_succ_eq_append_getElem hlt]
  rw [List.getElem?_eq_getElem hlt] at h
  simp at h
  simp [wordsQ, h]
theorem wordsQ_len (ts : List Tok) : (wordsQ ts).length ≤ ts.length := by
  induction ts with
  | nil => exact Nat.le_refl _
  | cons t ts ih =>
    have : (wordQ t).length ≤ 1 := by unfold wordQ; split <;> (try split) <;> (try split) <;> simp
    simp [wordsQ] at ih ⊢
    omega
theorem six_alloc (w : World) (t : TypeId) : SixAt (w.alloc (.cells #[.string ⟨#[34]⟩, .string ⟨#[92, 34]⟩, .string ⟨#[92]⟩, .string ⟨#[92, 92]⟩, .string ⟨#[10]⟩, .string ⟨#[92, 110]⟩] t)) w.heap.size := fun j y hj => by
  rw [row_cell' (heap_alloc_new w _)]
  have : (sixV.toArray)[j]? = some y := by simpa using hj
  exact this
set_option maxRecDepth 20000 in
set_option maxHeartbeats 8000000 in
theorem print_all (b o c : Nat) (ts : List Tok) (w : World) (m : Nat) (hT : ToksAt w b o ts) (hl : ts.length ≤ 100000) (hk : ∀ t ∈ ts, -9223372036854775808 ≤ t.n ∧ t.n ≤ 9223372036854775807 ∧ t.s.size ≤ 100000)
    (hP : VarAt m w "internal/strconv.uint64pow10" (Lib.pow10Tab.map fun z => Value.int .u64 z).toArray) (hj : (Lib.join ((wordsQ ts).map (·.data.toList)) [32]).length ≤ 140737488355328) :
    Calls Tryz.prog 14 #[.slice (some ⟨b, o, none⟩) ts.length c] w fun e w' => e = .returned (.string (textQ ts)) ∧ Turned (fun _ => False) w w' := by
  obtain ⟨i0, hif, hz0, hz1, hz2⟩ := info_parts infoStr
  have HT := Lib.hid hT
  have HK := Lib.hid hk
  have HP := Lib.hid hP
  have H0 : Hid (XS w (wordsQ (ts.take 0)) (.slice none 0 0) w) := ⟨⟨rfl, .inl ⟨rfl, rfl⟩⟩, Turned.refl _ _⟩
  clear hT hk hP
  go_enter Tryz.func14, Tryz.ntmps14
  go_wp2_with fail
  go_loopw [3, 8] (fun v i wr => ∃ j : Nat, j ≤ ts.length ∧ i = (.int .i64 j) ∧ Hid (XS w (wordsQ (ts.take j)) v wr)) (fun _ i _ => ts.length - (intOf i).toNat)
  case atStart => exact ⟨0, by omega, rfl, H0⟩
  case round =>
    clear H0
    obtain ⟨j, hle, rfl, HS⟩ := hrel
    have hwl := wordsQ_len (ts.take j)
    rw [List.length_take] at hwl
    by_cases hlt : j < ts.length
    · obtain ⟨x, hx⟩ : ∃ x, ts[j]? = some x := ⟨ts[j], List.getElem?_eq_getElem hlt⟩
      have HW := Lib.hid (wordsQ_step ts j x hx)
      obtain ⟨d0, d1, d2, d3⟩ := (HT.out.turned HS.out.tur.strip).2 j x hx
      have hxm := HK.out x (List.mem_of_getElem? hx)
      obtain ⟨kind, at_, s, n⟩ := x
      simp only at d0 d1 d2 d3 hxm
      obtain ⟨hn0, hn1, hsz⟩ := hxm
      obtain ⟨va, vc, rfl⟩ := owns_shape HS.out.own
      by_cases k1 : kind = 1
      · subst k1
        have HW2 : Hid (wordsQ (ts.take (j + 1)) = wordsQ (ts.take j) ++ [s]) := by show _ = _; rw [HW.out]; congr 1
        clear hx
        go_wp2_with (at_builtin; refine wpList_append_own _ rfl _ _ 57 rfl w.heap.size 9 i0 (.string ⟨#[]⟩) 1 16 Tryz.underlying57 hif hz0 hz1 hz2 rfl (by decide) _ _ _ rfl (HS.out.ownT (((Turned.refl _ _).alloc _).alloc _)) ⟨wr.heap.size + 1, 0, none⟩ 1 1 [.string s] rfl rfl (cell_one_at (by simp)) (by intro u hu; simp at hu; subst hu; rfl) (by unfold maxLen; omega) (by omega) (by have := HS.out.tur.size; simp; omega) ?_; intro v' w4 hown' hgrow hnil; have HE := Lib.hid (HS.out.push (((Turned.refl _ _).alloc _).alloc _) s hown' hgrow); clear hown' hgrow hnil)
        go_roundw
        case rel => exact ⟨j + 1, by omega, by go_num, by rw [HW2.out]; exact HE⟩
        case measure => simp [intOf]; omega
      by_cases k4 : kind = 4
      · subst k4
        have HW2 : Hid (wordsQ (ts.take (j + 1)) = wordsQ (ts.take j) ++ [s]) := by show _ = _; rw [HW.out]; congr 1
        clear hx
        go_wp2_with (at_builtin; refine wpList_append_own _ rfl _ _ 57 rfl w.heap.size 9 i0 (.string ⟨#[]⟩) 1 16 Tryz.underlying57 hif hz0 hz1 hz2 rfl (by decide) _ _ _ rfl (HS.out.ownT (((Turned.refl _ _).alloc _).alloc _)) ⟨wr.heap.size + 1, 0, none⟩ 1 1 [.string s] rfl rfl (cell_one_at (by simp)) (by intro u hu; simp at hu; subst hu; rfl) (by unfold maxLen; omega) (by omega) (by have := HS.out.tur.size; simp; omega) ?_; intro v' w4 hown' hgrow hnil; have HE := Lib.hid (HS.out.push (((Turned.refl _ _).alloc _).alloc _) s hown' hgrow); clear hown' hgrow hnil)
        go_roundw
        case rel => exact ⟨j + 1, by omega, by go_num, by rw [HW2.out]; exact HE⟩
        case measure => simp [intOf]; omega
      by_cases k2 : kind = 2
      · subst k2
        have HW2 : Hid (wordsQ (ts.take (j + 1)) = wordsQ (ts.take j) ++ [⟨(Lib.itoa n).toArray⟩]) := by show _ = _; rw [HW.out]; congr 1
        have HI : Hid (Calls Tryz.prog 24 #[(.int .i64 n)] (wr.alloc (.cells #[(.int .i64 2), (.int .i64 at_), .string s, (.int .i64 n)] 33)) fun e w' => e = .returned (.string ⟨(Lib.itoa n).toArray⟩) ∧ Turned (fun _ => False) (wr.alloc (.cells #[(.int .i64 2), (.int .i64 at_), .string s, (.int .i64 n)] 33)) w') :=
          itoa_any n hn0 hn1 _ (HP.out.turned (HS.out.tur.strip.alloc _) fun _ _ => id).1
        clear hx
        go_wp2_with (first | (go_at_call 24; refine HI.out.mono ?_; intro e w7 hh; have hI := hh.2; obtain rfl := hh.1; clear hh) | (at_builtin; refine wpList_append_own _ rfl _ _ 57 rfl w.heap.size 9 i0 (.string ⟨#[]⟩) 1 16 Tryz.underlying57 hif hz0 hz1 hz2 rfl (by decide) _ _ _ rfl (HS.out.ownT ((((Turned.refl _ _).alloc _).trans hI).alloc _)) ⟨w7.heap.size, 0, none⟩ 1 1 [.string ⟨(Lib.itoa n).toArray⟩] rfl rfl (cell_one_new _ _ _) (by intro u hu; simp at hu; subst hu; rfl) (by unfold maxLen; omega) (by omega) (by have q1 := HS.out.tur.size; have q2 := hI.size; simp at q2 ⊢; omega) ?_; intro v' w4 hown' hgrow hnil; have HE := Lib.hid (HS.out.push ((((Turned.refl _ _).alloc _).trans hI).alloc _) ⟨(Lib.itoa n).toArray⟩ hown' hgrow); clear hown' hgrow hnil))
        go_roundw
        case rel => exact ⟨j + 1, by omega, by go_num, by rw [HW2.out]; exact HE⟩
        case measure => simp [intOf]; omega
      by_cases k3 : kind = 3
      · subst k3
        have HW2 : Hid (wordsQ (ts.take (j + 1)) = wordsQ (ts.take j) ++ [quotedB s]) := by show _ = _; rw [HW.out]; congr 1
        have hpb : (ByteArray.mk (escL s.data.toList).toArray).size ≤ 200000 := by
          have h1 := escL_len s.data.toList
          have h2 := escN_le s.data.toList
          have h3 : s.data.toList.length = s.size := by simp
          show (escL s.data.toList).length ≤ 200000
          omega
        have HQ : Hid (quotedB s = ⟨#[34]⟩ ++ ⟨(escL s.data.toList).toArray⟩ ++ ⟨#[34]⟩) := rfl
        clear hx
        go_wp2_with fail
        refine region_R (R := fun j V => j < 10 → (fun V => V.cell? ⟨wr.heap.size, 2, none⟩ = some (.string s)) V) (by kernel_rfl) ?_
        have HS0 : Hid (((wr.alloc (.cells #[(.int .i64 3), (.int .i64 at_), .string s, (.int .i64 n)] 33)).drew).cell? ⟨wr.heap.size, 2, none⟩ = some (.string s)) := by show _ = _; simp
        refine wpAnyR_take (S := (fun V => V.cell? ⟨wr.heap.size, 2, none⟩ = some (.string s))) (early := fun j => decide (j < 10)) (i := 0) (v := .slice va (wordsQ (ts.take j)).length vc) rfl (by kernel_rfl) (by kernel_rfl) (by kernel_rfl) (by kernel_rfl) (fun _ _ he h => h (of_decide_eq_true he)) (fun _ h _ => h) (fun _ _ _ h => h) (Or.inl ⟨by rfl, ?_⟩) HS0.out ?_
        · intro V v1
          go_simp
        simp only [List.getElem_toArray, List.getElem_cons_zero, Act.put, List.setIfInBounds_toArray, List.set_cons_zero, List.set_cons_succ]
        refine wpAnyR_take (S := (fun V => V.cell? ⟨wr.heap.size, 2, none⟩ = some (.string s))) (early := fun j => decide (j < 10)) (i := 3) (v := .pointer (some ⟨wr.heap.size, 2, none⟩)) rfl (by kernel_rfl) (by kernel_rfl) (by kernel_rfl) (by kernel_rfl) (fun _ _ he h => h (of_decide_eq_true he)) (fun _ h _ => h) (fun _ _ _ h => h) (Or.inl ⟨by rfl, ?_⟩) HS0.out ?_
        · intro V v1
          go_simp
        simp only [List.getElem_toArray, List.getElem_cons_zero, List.getElem_cons_succ, Act.put, List.setIfInBounds_toArray, List.set_cons_zero, List.set_cons_succ]
        refine wpAnyR_take (S := (fun V => V.cell? ⟨wr.heap.size, 2, none⟩ = some (.string s))) (early := fun j => decide (j < 10)) (i := 4) (v := .string s) rfl (by kernel_rfl) (by kernel_rfl) (by kernel_rfl) (by kernel_rfl) (fun _ _ he h => h (of_decide_eq_true he)) (fun _ h _ => h) (fun _ _ _ h => h) (Or.inl ⟨by rfl, ?_⟩) HS0.out ?_
        · intro V v1
          go_simp
        simp only [List.getElem_toArray, List.getElem_cons_zero, List.getElem_cons_succ, Act.put, List.setIfInBounds_toArray, List.set_cons_zero, List.set_cons_succ]
        refine wpAnyR_all (rs := [1]) (by kernel_rfl) (by simp) (fun i hi2 => ?_)
        obtain rfl : i = 1 := by simpa using hi2
        clear hi2
        refine wpOp_plain rfl rfl ?_
        simp only [List.getElem_toArray, List.getElem_cons_zero, List.getElem_cons_succ]
        go_simp
        obtain ⟨W1, hW1⟩ : ∃ W1, W1 = (wr.alloc (.cells #[(.int .i64 3), (.int .i64 at_), .string s, (.int .i64 n)] 33)).alloc (.cells #[.string ⟨#[34]⟩, .string ⟨#[92, 34]⟩, .string ⟨#[92]⟩, .string ⟨#[92, 92]⟩, .string ⟨#[10]⟩, .string ⟨#[92, 110]⟩] 9) := ⟨_, rfl⟩
        have HT1 : Hid (Turned (fun _ => False) wr W1.drew) := by rw [hW1]; exact (((Turned.refl _ _).alloc _).alloc _).drew
        have H61 : Hid (SixAt W1.drew (wr.heap.size + 1)) := by
          have h := six_alloc (wr.alloc (.cells #[(.int .i64 3), (.int .i64 at_), .string s, (.int .i64 n)] 33)) 9
          rw [show (wr.alloc (.cells #[(.int .i64 3), (.int .i64 at_), .string s, (.int .i64 n)] 33)).heap.size = wr.heap.size + 1 by simp] at h
          rw [hW1]
          exact h
        have hS1 : W1.drew.cell? ⟨wr.heap.size, 2, none⟩ = some (.string s) := by rw [hW1]; simp
        have hs1 : wr.heap.size + 1 < W1.drew.heap.size := by rw [hW1]; simp
        rw [← hW1]
        clear hW1
        generalize W1.drew = W2 at HT1 H61 hS1 hs1 ⊢
        refine wpAnyR_all (rs := [2]) (by kernel_rfl) (by simp) (fun i hi2 => ?_)
        obtain rfl : i = 2 := by simpa using hi2
        clear hi2
        refine wpOp_plain rfl rfl ?_
        simp only [List.getElem_toArray, List.getElem_cons_zero, List.getElem_cons_succ]
        go_simp
        refine (new_any _ _ H61.out).mono ?_
        rintro e W3 ⟨B, rfl, HF⟩
        have hS3 : W3.cell? ⟨wr.heap.size, 2, none⟩ = some (.string s) := (HF.out.2.2.cell (p := ⟨wr.heap.size, 2, none⟩) (show wr.heap.size < W2.heap.size by omega) id).trans hS1
        have hB := HF.out.2.1
        go_simp
        refine wpAnyR_all (rs := [5]) (by kernel_rfl) (by simp) (fun i hi2 => ?_)
        obtain rfl : i = 5 := by simpa using hi2
        clear hi2
        refine wpOp_plain rfl rfl ?_
        simp only [List.getElem_toArray, List.getElem_cons_zero, List.getElem_cons_succ]
        go_simp
        refine (replace_any B s W3 HF.out.1 hsz).mono ?_
        rintro e W4 ⟨rfl, ht4⟩
        have hs3 := HF.out.2.2.size
        have hS4 : W4.cell? ⟨wr.heap.size, 2, none⟩ = some (.string s) := (ht4.cell (p := ⟨wr.heap.size, 2, none⟩) (show wr.heap.size < W3.heap.size by omega) (show ¬ wr.heap.size = B by omega)).trans hS3
        have HT4 : Hid (Turned (fun _ => False) wr W4) := by
          have t1 : Turned (fun i => wr.heap.size ≤ i) wr W4 := ((HT1.out.trans HF.out.2.2).mono fun _ h => h.elim).trans (ht4.mono fun i hi => by omega)
          exact t1.strip
        have hs4 := ht4.size
        clear ht4
        generalize ByteArray.mk (escL s.data.toList).toArray = pb at hpb HQ ⊢
        have ad1 : ∀ W : World, (Op.stringOp .add ⟨#[34]⟩ pb).run Tryz.prog W = .ok (.string (⟨#[34]⟩ ++ pb)) W := fun W => run_string_add_sum W ⟨#[34]⟩ pb (by show 1 + pb.size ≤ _; omega)
        have ad2 : ∀ W : World, (Op.stringOp .add (⟨#[34]⟩ ++ pb) ⟨#[34]⟩).run Tryz.prog W = .ok (.string (⟨#[34]⟩ ++ pb ++ ⟨#[34]⟩)) W := fun W => run_string_add_sum W (⟨#[34]⟩ ++ pb) ⟨#[34]⟩ (by rw [ByteArray.size_append]; show 1 + pb.size + 1 ≤ _; omega)
        go_simp
        refine wpAnyR_all (rs := [6]) (by kernel_rfl) (by simp) (fun i hi2 => ?_)
        obtain rfl : i = 6 := by simpa using hi2
        clear hi2
        refine wpOp_plain rfl rfl ?_
        simp only [List.getElem_toArray, List.getElem_cons_zero, List.getElem_cons_succ]
        go_simp
        refine wpAnyR_all (rs := [7]) (by kernel_rfl) (by simp) (fun i hi2 => ?_)
        obtain rfl : i = 7 := by simpa using hi2
        clear hi2
        refine wpOp_plain rfl rfl ?_
        simp only [List.getElem_toArray, List.getElem_cons_zero, List.getElem_cons_succ]
        go_simp
        refine wpAnyR_all (rs := [8]) (by kernel_rfl) (by simp) (fun i hi2 => ?_)
        obtain rfl : i = 8 := by simpa using hi2
        clear hi2
        refine wpOp_plain rfl rfl ?_
        simp only [List.getElem_toArray, List.getElem_cons_zero, List.getElem_cons_succ]
        go_simp
        have hlt4 : wr.heap.size < W4.heap.size := by omega
        have hS5 : (W4.alloc (.cells #[.string (⟨#[34]⟩ ++ pb ++ ⟨#[34]⟩)] 9)).cell? ⟨wr.heap.size, 2, none⟩ = some (.string s) := by rw [World.cell?_alloc_past _ _ _ hlt4]; exact hS4
        refine ⟨hS5, ?_⟩
        refine wpAnyR_all (rs := [9]) (by kernel_rfl) (by simp) (fun i hi2 => ?_)
        obtain rfl : i = 9 := by simpa using hi2
        clear hi2
        refine wpOp_append_exact _ rfl rfl _ _ 57 rfl w.heap.size 9 i0 (.string ⟨#[]⟩) 1 16 Tryz.underlying57 hif hz0 hz1 hz2 rfl (by decide) (.slice va (wordsQ (ts.take j)).length vc) _ _ rfl (HS.out.ownT (HT4.out.alloc _)) ⟨W4.heap.size, 0, none⟩ 1 1 [.string (⟨#[34]⟩ ++ pb ++ ⟨#[34]⟩)] rfl rfl (cell_one_new _ _ _) (by intro u hu; simp at hu; subst hu; rfl) (by unfold maxLen; omega) (by omega) (by have q1 := HS.out.tur.size; simp; omega) ?_
        intro v' w4 hown' hgrow hex
        have hS6 : w4.cell? ⟨wr.heap.size, 2, none⟩ = some (.string s) := by
          have e := hgrow.block wr.heap.size (by simp; omega) (fun e => by have := (ownsRow_block HS.out.own _ e.symm).2; omega)
          have : w4.cell? ⟨wr.heap.size, 2, none⟩ = (W4.alloc (.cells #[.string (⟨#[34]⟩ ++ pb ++ ⟨#[34]⟩)] 9)).cell? ⟨wr.heap.size, 2, none⟩ := by simp only [World.cell?, e]
          rw [this]; exact hS5
        have HE := Lib.hid (HS.out.push (HT4.out.alloc _) (⟨#[34]⟩ ++ pb ++ ⟨#[34]⟩) hown' hgrow)
        clear hown' hgrow hex
        refine ⟨fun _ => hS6, ?_⟩
        simp only [List.getElem_toArray, List.getElem_cons_zero, List.getElem_cons_succ, Act.put, List.setIfInBounds_toArray, List.set_cons_zero, List.set_cons_succ]
        refine wpAnyR_all (rs := [10]) (by kernel_rfl) (by simp) (fun i hi2 => ?_)
        obtain rfl : i = 10 := by simpa using hi2
        clear hi2
        refine wpOp_plain rfl rfl ?_
        simp only [List.getElem_toArray, List.getElem_cons_zero, List.getElem_cons_succ]
        go_simp
        refine wpAnyR_done (by kernel_rfl) ?_ _
        go_wp2_with fail
        go_roundw
        case rel => exact ⟨j + 1, by omega, by go_num, by rw [HW2.out, HQ.out]; exact HE⟩
        case measure => simp [intOf]; omega
      · have HW2 : Hid (wordsQ (ts.take (j + 1)) = wordsQ (ts.take j)) := by
          show _ = _
          rw [HW.out]
          unfold wordQ
          rw [if_neg (by simp [k1, k4]), if_neg (by simpa using k2), if_neg (by simpa using k3), List.append_nil]
        have q1 : (kind == 1) = false := by simpa using k1
        have q2 : (kind == 2) = false := by simpa using k2
        have q3 : (kind == 3) = false := by simpa using k3
        have q4 : (kind == 4) = false := by simpa using k4
        clear hx k1 k2 k3 k4
        go_wp2_with fail
        go_roundw
        case rel => exact ⟨j + 1, by omega, by go_num, by rw [HW2.out]; exact HS.out.stay ((Turned.refl _ _).alloc _)⟩
        case measure => simp [intOf]; omega
    · obtain rfl : j = ts.length := by omega
      have HJ := Lib.hid (join_any w wr (wordsQ (ts.take ts.length)) u3 HS.out (by omega) (by rw [List.take_length]; exact hj))
      rw [List.take_length] at HJ
      go_wp2_with (go_at_call 27; refine HJ.out.mono ?_; rintro e w7 ⟨rfl, HQ⟩; have HQ := Lib.hid HQ)
      go_ret
      exact ⟨rfl, HQ.out⟩
end Go.Proofs.YtdjjifljlkjafaaGreatDoor
