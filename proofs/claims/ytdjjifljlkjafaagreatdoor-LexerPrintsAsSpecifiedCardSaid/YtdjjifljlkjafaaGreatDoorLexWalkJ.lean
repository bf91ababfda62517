/- Walk of the lexer: Text, on tokens that are no texts. Conditions: those of each theorem. -/
import Derived.Test.YtdjjifljlkjafaaGreatDoorLexWalkH
import Derived.Lib.AppendIntMem
namespace Go.Proofs.YtdjjifljlkjafaaGreatDoor
open Go Go.Proofs Go.RowKit
attribute [local go_sem] Oper.semAt_some

/-- the tokens lie from a cell on -/
def ToksAt (W : World) (b o : Nat) (ts : List Tok) : Prop := b < W.heap.size ∧ ∀ (j : Nat) (t : Tok), ts[j]? = some t →
  W.cell? ⟨b, o + j * 4, none⟩ = some (.int .i64 (t.kind)) ∧ W.cell? ⟨b, o + j * 4 + 1, none⟩ = some (.int .i64 (t.at_)) ∧ W.cell? ⟨b, o + j * 4 + 2, none⟩ = some (.string t.s) ∧ W.cell? ⟨b, o + j * 4 + 3, none⟩ = some (.int .i64 (t.n))
theorem ToksAt.turned {W W' : World} {b o : Nat} {ts : List Tok} (h : ToksAt W b o ts) (ht : Turned (fun _ => False) W W') : ToksAt W' b o ts := by
  refine ⟨Nat.lt_of_lt_of_le h.1 ht.size, fun j t hj => ?_⟩
  have hc := fun i => ht.cell (p := ⟨b, i, none⟩) h.1 id
  rw [hc, hc, hc, hc]
  exact h.2 j t hj
/-- the word that Text prints for a token -/
def wordOf (t : Tok) : List ByteArray := if t.kind = 1 ∨ t.kind = 4 then [t.s] else if t.kind = 2 then [⟨(Lib.itoa t.n).toArray⟩] else []
def wordsOf (ts : List Tok) : List ByteArray := ts.flatMap wordOf
def textOf (ts : List Tok) : ByteArray := ⟨(Lib.join ((wordsOf ts).map (·.data.toList)) [32]).toArray⟩
theorem words_step (ts : List Tok) (j : Nat) (t : Tok) (h : ts[j]? = some t) : wordsOf (ts.take (j + 1)) = wordsOf (ts.take j) ++ wordOf t := by
  have hlt : j < ts.length := (List.getElem?_eq_some_iff.1 h).1
  rw [List.take_succ_eq_append_getElem hlt]
  rw [List.getElem?_eq_getElem hlt] at h
  simp at h
  simp [wordsOf, h]
theorem wordsOf_len (ts : List Tok) : (wordsOf ts).length ≤ ts.length := by
  induction ts with
  | nil => exact Nat.le_refl _
  | cons t ts ih =>
    have : (wordOf t).length ≤ 1 := by unfold wordOf; split <;> (try split) <;> simp
    simp [wordsOf] at ih ⊢
    omega
/-- Itoa, without its world -/
theorem itoa_any (n : Int) (h0 : -9223372036854775808 ≤ n) (h1 : n ≤ 9223372036854775807) (w : World) (htab : Lib.TabIs Tryz.prog w "internal/strconv.uint64pow10" .u64 Lib.pow10Tab) : Calls Tryz.prog 24 #[(.int .i64 n)] w fun e w' => e = .returned (.string ⟨(Lib.itoa n).toArray⟩) ∧ Turned (fun _ => False) w w' := by
  refine (Tryz.strconv_Itoa n h0 h1 w htab).mono ?_
  rintro e w' ⟨rfl, k, os, rfl⟩
  refine ⟨rfl, Turned.of_new ?_⟩
  exact Lib.below_grow _ _ (Nat.le_refl _) _ _
theorem infoStr : (Tryz.prog.info? 9).map (fun i => (i.zero, i.size, i.bytes)) = some (some (.string ⟨#[]⟩), 1, 16) := by kernel_rfl
/-- in the loop of Text -/
structure XS (w : World) (ws : List ByteArray) (v : Value) (wr : World) : Prop where
  own : wr.ownsRow w.heap.size 9 1 v ws.length (ws.map Value.string)
  tur : Turned (fun i => w.heap.size ≤ i) w wr
theorem XS.ownT {w wr wr' : World} {v : Value} {ws : List ByteArray} (h : XS w ws v wr) (ht : Turned (fun _ => False) wr wr') : wr'.ownsRow w.heap.size 9 1 v ws.length (ws.map Value.string) := ownsRow_turned' ht (fun _ _ => id) h.own
theorem XS.push {w wr wa w4 : World} {v v' : Value} {ws : List ByteArray} (h : XS w ws v wr) (ha : Turned (fun _ => False) wr wa) (x : ByteArray) (hown' : w4.ownsRow w.heap.size 9 1 v' (ws.length + 1) (ws.map Value.string ++ [.string x])) (hgrow : wa.grownBy w4 v.ownBlock) : XS w (ws ++ [x]) v' w4 := by
  refine ⟨by simpa using hown', ?_⟩
  have hb := ownsRow_block h.own
  exact (h.tur.trans (ha.mono fun _ h => h.elim)).trans (Turned.of_grown hgrow fun g hgr => (hb g hgr).1)
theorem XS.stay {w wr wa : World} {v : Value} {ws : List ByteArray} (h : XS w ws v wr) (ha : Turned (fun _ => False) wr wa) : XS w ws v wa := ⟨h.ownT ha, h.tur.trans (ha.mono fun _ h => h.elim)⟩
theorem cell_one_at {w : World} {x : Value} {t : TypeId} {n : Nat} (hn : w.heap.size = n) : ∀ j u, [x][j]? = some u → (w.alloc (.cells #[x] t)).cell? ((⟨n, 0, none⟩ : Addr).add j) = some u := by
  subst hn; exact cell_one_new w x t
/-- the four cells of a box -/
theorem four_cells (W : World) (a b c d : Value) (t : TypeId) : (W.alloc (.cells #[a, b, c, d] t)).cell? ⟨W.heap.size, 0, none⟩ = some a ∧ (W.alloc (.cells #[a, b, c, d] t)).cell? ⟨W.heap.size, 1, none⟩ = some b ∧ (W.alloc (.cells #[a, b, c, d] t)).cell? ⟨W.heap.size, 2, none⟩ = some c ∧ (W.alloc (.cells #[a, b, c, d] t)).cell? ⟨W.heap.size, 3, none⟩ = some d := by
  simp
theorem join_any (w wr : World) (ws : List ByteArray) (v : Value) (h : XS w ws v wr) (hl : ws.length ≤ 100000) (hlen : (Lib.join (ws.map (·.data.toList)) [32]).length ≤ 140737488355328) :
    Calls Tryz.prog 27 #[v, .string ⟨#[32]⟩] wr fun e w' => e = .returned (.string ⟨(Lib.join (ws.map (·.data.toList)) [32]).toArray⟩) ∧ Turned (fun _ => False) w w' := by
  obtain ⟨hl0, h2⟩ := h.own
  rcases h2 with ⟨rfl, h0⟩ | ⟨g, cap, cur, rfl, hg, hh, hc, hm, hs, ht⟩
  · have : ws = [] := List.length_eq_zero_iff.1 h0
    subst this
    refine (Tryz.strings_Join_none none 0 ⟨#[32]⟩ wr).mono ?_
    rintro e w' ⟨rfl, rfl⟩
    exact ⟨rfl, h.tur.strip⟩
  · refine (Tryz.strings_Join g 0 cap ws ⟨#[32]⟩ wr (fun j x hx => ?_) (getElem?_lt hh) (by omega) (by omega) hlen).mono ?_
    · have hj : j < ws.length := (List.getElem?_eq_some_iff.1 hx).1
      have h1 : (ws.map Value.string)[j]? = some (.string x) := by simp [hx]
      rw [← ht, List.getElem?_take_of_lt (by omega)] at h1
      simpa [World.cell?, hh] using h1
    · rintro e w' ⟨rfl, hb⟩
      exact ⟨rfl, h.tur.strip.trans (Turned.of_new hb)⟩
set_option maxRecDepth 20000 in
set_option maxHeartbeats 4000000 in
theorem print_any (b o c : Nat) (ts : List Tok) (w : World) (m : Nat) (hT : ToksAt w b o ts) (hl : ts.length ≤ 100000) (hk : ∀ t ∈ ts, t.kind ≠ 3 ∧ -9223372036854775808 ≤ t.n ∧ t.n ≤ 9223372036854775807)
    (hP : VarAt m w "internal/strconv.uint64pow10" (Lib.pow10Tab.map fun z => Value.int .u64 z).toArray) (hj : (Lib.join ((wordsOf ts).map (·.data.toList)) [32]).length ≤ 140737488355328) :
    Calls Tryz.prog 14 #[.slice (some ⟨b, o, none⟩) ts.length c] w fun e w' => e = .returned (.string (textOf ts)) ∧ Turned (fun _ => False) w w' := by
  obtain ⟨i0, hif, hz0, hz1, hz2⟩ := info_parts infoStr
  have HT := Lib.hid hT
  have HK := Lib.hid hk
  have HP := Lib.hid hP
  have H0 : Hid (XS w (wordsOf (ts.take 0)) (.slice none 0 0) w) := ⟨⟨rfl, .inl ⟨rfl, rfl⟩⟩, Turned.refl _ _⟩
  clear hT hk hP
  go_enter Tryz.func14, Tryz.ntmps14
  go_wp2_with fail
  go_loopw [3, 8] (fun v i wr => ∃ j : Nat, j ≤ ts.length ∧ i = (.int .i64 j) ∧ Hid (XS w (wordsOf (ts.take j)) v wr)) (fun _ i _ => ts.length - (intOf i).toNat)
  case atStart => exact ⟨0, by omega, rfl, H0⟩
  case round =>
    clear H0
    obtain ⟨j, hle, rfl, HS⟩ := hrel
    have hwl := wordsOf_len (ts.take j)
    rw [List.length_take] at hwl
    by_cases hlt : j < ts.length
    · obtain ⟨x, hx⟩ : ∃ x, ts[j]? = some x := ⟨ts[j], List.getElem?_eq_getElem hlt⟩
      have HW := Lib.hid (words_step ts j x hx)
      obtain ⟨d0, d1, d2, d3⟩ := (HT.out.turned HS.out.tur.strip).2 j x hx
      have hxm := HK.out x (List.mem_of_getElem? hx)
      obtain ⟨kind, at_, s, n⟩ := x
      simp only at d0 d1 d2 d3 hxm
      obtain ⟨h3, hn0, hn1⟩ := hxm
      obtain ⟨va, vc, rfl⟩ := owns_shape HS.out.own
      by_cases k1 : kind = 1
      · subst k1
        have HW2 : Hid (wordsOf (ts.take (j + 1)) = wordsOf (ts.take j) ++ [s]) := by show _ = _; rw [HW.out]; congr 1
        clear hx
        go_wp2_with (at_builtin; refine wpList_append_own _ rfl _ _ 57 rfl w.heap.size 9 i0 (.string ⟨#[]⟩) 1 16 Tryz.underlying57 hif hz0 hz1 hz2 rfl (by decide) _ _ _ rfl (HS.out.ownT (((Turned.refl _ _).alloc _).alloc _)) ⟨wr.heap.size + 1, 0, none⟩ 1 1 [.string s] rfl rfl (cell_one_at (by simp)) (by intro u hu; simp at hu; subst hu; rfl) (by unfold maxLen; omega) (by omega) (by have := HS.out.tur.size; simp; omega) ?_; intro v' w4 hown' hgrow hnil; have HE := Lib.hid (HS.out.push (((Turned.refl _ _).alloc _).alloc _) s hown' hgrow); clear hown' hgrow hnil)
        go_roundw
        case rel => exact ⟨j + 1, by omega, by go_num, by rw [HW2.out]; exact HE⟩
        case measure => simp [intOf]; omega
      · by_cases k4 : kind = 4
        · subst k4
          have HW2 : Hid (wordsOf (ts.take (j + 1)) = wordsOf (ts.take j) ++ [s]) := by show _ = _; rw [HW.out]; congr 1
          clear hx
          go_wp2_with (at_builtin; refine wpList_append_own _ rfl _ _ 57 rfl w.heap.size 9 i0 (.string ⟨#[]⟩) 1 16 Tryz.underlying57 hif hz0 hz1 hz2 rfl (by decide) _ _ _ rfl (HS.out.ownT (((Turned.refl _ _).alloc _).alloc _)) ⟨wr.heap.size + 1, 0, none⟩ 1 1 [.string s] rfl rfl (cell_one_at (by simp)) (by intro u hu; simp at hu; subst hu; rfl) (by unfold maxLen; omega) (by omega) (by have := HS.out.tur.size; simp; omega) ?_; intro v' w4 hown' hgrow hnil; have HE := Lib.hid (HS.out.push (((Turned.refl _ _).alloc _).alloc _) s hown' hgrow); clear hown' hgrow hnil)
          go_roundw
          case rel => exact ⟨j + 1, by omega, by go_num, by rw [HW2.out]; exact HE⟩
          case measure => simp [intOf]; omega
        · by_cases k2 : kind = 2
          · subst k2
            have HW2 : Hid (wordsOf (ts.take (j + 1)) = wordsOf (ts.take j) ++ [⟨(Lib.itoa n).toArray⟩]) := by show _ = _; rw [HW.out]; congr 1
            have HI : Hid (Calls Tryz.prog 24 #[(.int .i64 n)] (wr.alloc (.cells #[(.int .i64 2), (.int .i64 at_), .string s, (.int .i64 n)] 33)) fun e w' => e = .returned (.string ⟨(Lib.itoa n).toArray⟩) ∧ Turned (fun _ => False) (wr.alloc (.cells #[(.int .i64 2), (.int .i64 at_), .string s, (.int .i64 n)] 33)) w') :=
              itoa_any n hn0 hn1 _ (HP.out.turned (HS.out.tur.strip.alloc _) fun _ _ => id).1
            clear hx
            go_wp2_with (first | (go_at_call 24; refine HI.out.mono ?_; intro e w7 hh; have hI := hh.2; obtain rfl := hh.1; clear hh) | (at_builtin; refine wpList_append_own _ rfl _ _ 57 rfl w.heap.size 9 i0 (.string ⟨#[]⟩) 1 16 Tryz.underlying57 hif hz0 hz1 hz2 rfl (by decide) _ _ _ rfl (HS.out.ownT ((((Turned.refl _ _).alloc _).trans hI).alloc _)) ⟨w7.heap.size, 0, none⟩ 1 1 [.string ⟨(Lib.itoa n).toArray⟩] rfl rfl (cell_one_new _ _ _) (by intro u hu; simp at hu; subst hu; rfl) (by unfold maxLen; omega) (by omega) (by have q1 := HS.out.tur.size; have q2 := hI.size; simp at q2 ⊢; omega) ?_; intro v' w4 hown' hgrow hnil; have HE := Lib.hid (HS.out.push ((((Turned.refl _ _).alloc _).trans hI).alloc _) ⟨(Lib.itoa n).toArray⟩ hown' hgrow); clear hown' hgrow hnil))
            go_roundw
            case rel => exact ⟨j + 1, by omega, by go_num, by rw [HW2.out]; exact HE⟩
            case measure => simp [intOf]; omega
          · have HW2 : Hid (wordsOf (ts.take (j + 1)) = wordsOf (ts.take j)) := by
              show _ = _
              rw [HW.out]
              unfold wordOf
              rw [if_neg (by simp [k1, k4]), if_neg (by simpa using k2), List.append_nil]
            have q1 : (kind == 1) = false := by simpa using k1
            have q2 : (kind == 2) = false := by simpa using k2
            have q3 : (kind == 3) = false := by simpa using h3
            have q4 : (kind == 4) = false := by simpa using k4
            clear hx h3 k1 k2 k4
            go_wp2_with fail
            go_roundw
            case rel => exact ⟨j + 1, by omega, by go_num, by rw [HW2.out]; exact HS.out.stay ((Turned.refl _ _).alloc _)⟩
            case measure => simp [intOf]; omega
    · obtain rfl : j = ts.length := by omega
      have HJ := Lib.hid (join_any w wr (wordsOf (ts.take ts.length)) u3 HS.out (by omega) (by rw [List.take_length]; exact hj))
      rw [List.take_length] at HJ
      go_wp2_with (go_at_call 27; refine HJ.out.mono ?_; rintro e w7 ⟨rfl, HQ⟩; have HQ := Lib.hid HQ)
      go_ret
      exact ⟨rfl, HQ.out⟩
end Go.Proofs.YtdjjifljlkjafaaGreatDoor
