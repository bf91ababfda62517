/- Walk of the specification's Text. Conditions: those of each theorem. -/
import Derived.Test.YtdjjifljlkjafaaGreatDoorLexPrintB
namespace Go.Proofs.YtdjjifljlkjafaaGreatDoor
open Go Go.Proofs Go.RowKit
attribute [local go_sem] Oper.semAt_some

def outQ (ws : List ByteArray) : ByteArray := ⟨(Lib.join (ws.map (·.data.toList)) [32]).toArray⟩
theorem textQ_out (ts : List Tok) : textQ ts = outQ (wordsQ ts) := rfl
theorem outQ_one (x : ByteArray) : outQ [x] = x := by
  unfold outQ
  rw [List.map_cons, List.map_nil, Lib.join_one]
theorem join_snoc (a : List UInt8) (l : List (List UInt8)) (x sep : List UInt8) : Lib.join (a :: l ++ [x]) sep = Lib.join (a :: l) sep ++ sep ++ x := by
  rw [List.cons_append, Lib.join_cons, Lib.join_cons]
  unfold Lib.joinTail
  simp
theorem outQ_snoc (ws : List ByteArray) (x : ByteArray) (h : ws ≠ []) : outQ (ws ++ [x]) = outQ ws ++ ⟨#[32]⟩ ++ x := by
  cases ws with
  | nil => exact absurd rfl h
  | cons a l =>
    apply ByteArray.ext
    apply Array.ext'
    unfold outQ
    rw [List.map_append, List.map_cons, List.map_cons, List.map_nil, join_snoc]
    simp
/-- what is printed of the first tokens -/
def RQ (ts : List Tok) (j : Nat) (fb : Bool) (out : ByteArray) : Prop := out = outQ (wordsQ (ts.take j)) ∧ fb = (wordsQ (ts.take j)).isEmpty
theorem rq_skip {ts : List Tok} {j : Nat} {fb : Bool} {out : ByteArray} {x : Tok} (h : RQ ts j fb out) (hx : ts[j]? = some x) (hw : wordQ x = []) : RQ ts (j + 1) fb out := by
  unfold RQ
  rw [wordsQ_step ts j x hx, hw, List.append_nil]
  exact h
theorem rq_first {ts : List Tok} {j : Nat} {out wd : ByteArray} {x : Tok} (h : RQ ts j true out) (hx : ts[j]? = some x) (hw : wordQ x = [wd]) : RQ ts (j + 1) false (out ++ wd) := by
  have he : wordsQ (ts.take j) = [] := List.isEmpty_iff.1 h.2.symm
  refine ⟨?_, ?_⟩
  · rw [wordsQ_step ts j x hx, hw, h.1, he, List.nil_append, outQ_one]
    apply ByteArray.ext
    apply Array.ext'
    simp [outQ, Lib.join_nil]
  · rw [wordsQ_step ts j x hx, hw, he]
    rfl
theorem rq_more {ts : List Tok} {j : Nat} {out wd : ByteArray} {x : Tok} (h : RQ ts j false out) (hx : ts[j]? = some x) (hw : wordQ x = [wd]) : RQ ts (j + 1) false (out ++ ⟨#[32]⟩ ++ wd) := by
  have he : wordsQ (ts.take j) ≠ [] := fun e => by have := h.2; rw [e] at this; cases this
  refine ⟨?_, ?_⟩
  · rw [wordsQ_step ts j x hx, hw, h.1, outQ_snoc _ _ he]
  · rw [wordsQ_step ts j x hx, hw]
    cases hl : wordsQ (ts.take j) <;> rfl
theorem wordQ_none {kind at_ n : Int} {s : ByteArray} (k1 : kind ≠ 1) (k4 : kind ≠ 4) (k2 : kind ≠ 2) (k3 : kind ≠ 3) : wordQ ⟨kind, at_, s, n⟩ = [] := by
  unfold wordQ
  rw [if_neg (by simp [k1, k4]), if_neg k2, if_neg k3]
theorem quotedB_len (s : ByteArray) : (quotedB s).size ≤ 2 * s.size + 2 := by
  have h1 := escL_len s.data.toList
  have h2 := escN_le s.data.toList
  have h3 : s.data.toList.length = s.size := by simp
  unfold quotedB
  simp only [ByteArray.size_append]
  have h4 : (ByteArray.mk (escL s.data.toList).toArray).size = (escL s.data.toList).length := rfl
  have h5 : (ByteArray.mk #[34]).size = 1 := rfl
  omega
theorem byte_add (a b : ByteArray) : (a ++ b).size = a.size + b.size := ByteArray.size_append
theorem byte_add3 (a b c : ByteArray) : (a ++ b ++ c).size = a.size + b.size + c.size := by rw [byte_add, byte_add]
theorem byte_one (b : UInt8) : (ByteArray.mk #[b]).size = 1 := rfl
set_option maxRecDepth 20000 in
set_option maxHeartbeats 4000000 in
theorem rtextall_any (b o c : Nat) (ts : List Tok) (w : World) (hT : ToksAt w b o ts) (hl : ts.length ≤ 100000) (hk : ∀ t ∈ ts, -9223372036854775808 ≤ t.n ∧ t.n ≤ 9223372036854775807 ∧ t.s.size ≤ 100000) :
    Calls Tryz.prog 15 #[.slice (some ⟨b, o, none⟩) ts.length c] w fun e w' => e = .returned (.string (textQ ts)) ∧ Below w.heap.size w w' := by
  have ST0 := St.start hT (stays_toks b o ts)
  have HK := Lib.hid hk
  have H0 : RQ ts 0 true ⟨#[]⟩ := ⟨rfl, rfl⟩
  have H0 := Lib.hid H0
  clear hT hk
  go_enter Tryz.func15, Tryz.ntmps15
  go_wp2_with fail
  go_loopw [3, 4, 5] (fun v f i wr => ∃ (j : Nat) (fb : Bool) (out : ByteArray), v = .string out ∧ f = .bool fb ∧ i = (.int .i64 j) ∧ j ≤ ts.length ∧ out.size ≤ j * 200010 ∧ Hid (RQ ts j fb out) ∧ Hid (St (fun W => ToksAt W b o ts) w wr [])) (fun _ _ i _ => ts.length - (intOf i).toNat)
  case atStart => exact ⟨0, true, _, rfl, rfl, rfl, by omega, by show 0 ≤ _; omega, H0, ST0⟩
  case round =>
    clear H0 ST0
    obtain ⟨j, fb, out, rfl, rfl, rfl, hle, hout, HRQ, HS⟩ := hrel
    by_cases hlt : j < ts.length
    · obtain ⟨x, hx⟩ : ∃ x, ts[j]? = some x := ⟨ts[j], List.getElem?_eq_getElem hlt⟩
      obtain ⟨d0, d1, d2, d3⟩ := HS.out.tab.2 j x hx
      have f1 := HS.out.tab.1
      have hxm := HK.out x (List.mem_of_getElem? hx)
      obtain ⟨kind, at_, s, n⟩ := x
      simp only at d0 d1 d2 d3 hxm
      obtain ⟨hn0, hn1, hsz⟩ := hxm
-- ROUND
      by_cases k1 : kind = 1
      · subst k1
        have HW : Hid (wordQ ⟨1, at_, s, n⟩ = [s]) := rfl
        cases fb
        · have HR := Lib.hid (rq_more HRQ.out hx HW.out)
          clear hx HW HRQ
          go_wp2_with fail
          clear d0 d1 d2 d3 f1
          go_roundw
          case rel => exact ⟨j + 1, false, _, rfl, rfl, by go_num, by omega, by rw [byte_add3]; simp only [byte_one]; omega, HR, HS⟩
          case measure => simp [intOf]; omega
        · have HR := Lib.hid (rq_first HRQ.out hx HW.out)
          clear hx HW HRQ
          go_wp2_with fail
          clear d0 d1 d2 d3 f1
          go_roundw
          case rel => exact ⟨j + 1, false, _, rfl, rfl, by go_num, by omega, by rw [byte_add]; omega, HR.out, HS⟩
          case measure => simp [intOf]; omega
      by_cases k4 : kind = 4
      · subst k4
        have HW : Hid (wordQ ⟨4, at_, s, n⟩ = [s]) := rfl
        cases fb
        · have HR := Lib.hid (rq_more HRQ.out hx HW.out)
          clear hx HW HRQ
          go_wp2_with fail
          clear d0 d1 d2 d3 f1
          go_roundw
          case rel => exact ⟨j + 1, false, _, rfl, rfl, by go_num, by omega, by rw [byte_add3]; simp only [byte_one]; omega, HR, HS⟩
          case measure => simp [intOf]; omega
        · have HR := Lib.hid (rq_first HRQ.out hx HW.out)
          clear hx HW HRQ
          go_wp2_with fail
          clear d0 d1 d2 d3 f1
          go_roundw
          case rel => exact ⟨j + 1, false, _, rfl, rfl, by go_num, by omega, by rw [byte_add]; omega, HR.out, HS⟩
          case measure => simp [intOf]; omega
      by_cases k2 : kind = 2
      · subst k2
        have HW : Hid (wordQ ⟨2, at_, s, n⟩ = [itoaB n]) := rfl
        have HC := Lib.hid (fun W => rdec_any n.natAbs n (Nat.le_refl _) hn0 hn1 W)
        have hwl := itoaB_len n hn0 hn1
        cases fb
        · have HR := Lib.hid (rq_more HRQ.out hx HW.out)
          clear hx HW HRQ
          go_wp2_with fail
          clear d0 d1 d2 d3 f1
          refine (HC.out wr).mono ?_
          rintro e X7 ⟨rfl, hb⟩
          have HS := St.call HS hb
          clear hb
          go_wp2_with fail
          go_roundw
          case rel => exact ⟨j + 1, false, _, rfl, rfl, by go_num, by omega, by rw [byte_add3]; simp only [byte_one]; omega, HR, HS⟩
          case measure => simp [intOf]; omega
        · have HR := Lib.hid (rq_first HRQ.out hx HW.out)
          clear hx HW HRQ
          go_wp2_with fail
          clear d0 d1 d2 d3 f1
          refine (HC.out wr).mono ?_
          rintro e X7 ⟨rfl, hb⟩
          have HS := St.call HS hb
          clear hb
          go_wp2_with fail
          go_roundw
          case rel => exact ⟨j + 1, false, _, rfl, rfl, by go_num, by omega, by rw [byte_add]; omega, HR.out, HS⟩
          case measure => simp [intOf]; omega
      by_cases k3 : kind = 3
      · subst k3
        have HW : Hid (wordQ ⟨3, at_, s, n⟩ = [quotedB s]) := rfl
        have HC := Lib.hid (fun W => rquoted_any s W hsz)
        have hwl := quotedB_len s
        cases fb
        · have HR := Lib.hid (rq_more HRQ.out hx HW.out)
          clear hx HW HRQ
          go_wp2_with fail
          clear d0 d1 d2 d3 f1
          refine (HC.out wr).mono ?_
          rintro e X7 ⟨rfl, hb⟩
          have HS := St.call HS hb
          clear hb
          go_wp2_with fail
          go_roundw
          case rel => exact ⟨j + 1, false, _, rfl, rfl, by go_num, by omega, by rw [byte_add3]; simp only [byte_one]; omega, HR, HS⟩
          case measure => simp [intOf]; omega
        · have HR := Lib.hid (rq_first HRQ.out hx HW.out)
          clear hx HW HRQ
          go_wp2_with fail
          clear d0 d1 d2 d3 f1
          refine (HC.out wr).mono ?_
          rintro e X7 ⟨rfl, hb⟩
          have HS := St.call HS hb
          clear hb
          go_wp2_with fail
          go_roundw
          case rel => exact ⟨j + 1, false, _, rfl, rfl, by go_num, by omega, by rw [byte_add]; omega, HR.out, HS⟩
          case measure => simp [intOf]; omega
      have hout2 := Lib.hid (Nat.le_trans hout (Nat.mul_le_mul_right 200010 (Nat.le_succ j)))
      have HR := Lib.hid (rq_skip HRQ.out hx (wordQ_none k1 k4 k2 k3))
      have g1 : (kind == 1) = false := by simpa using k1
      have g4 : (kind == 4) = false := by simpa using k4
      have g2 : (kind == 2) = false := by simpa using k2
      have g3 : (kind == 3) = false := by simpa using k3
      clear hx HRQ k1 k2 k3 k4
      go_wp2_with fail
      go_roundw
      case rel => exact ⟨j + 1, fb, out, rfl, rfl, by go_num, by omega, hout2.out, HR, HS⟩
      case measure => simp [intOf]; omega
-- END OF ROUND
    · obtain rfl : j = ts.length := by omega
      have HF : Hid (out = textQ ts) := by show _ = _; rw [HRQ.out.1, List.take_length]; rfl
      go_wp2_with fail
      go_ret
      rw [HF.out]
      exact ⟨rfl, HS.out.bel⟩
end Go.Proofs.YtdjjifljlkjafaaGreatDoor
