/- Walk of the lexer: text. Conditions: those of each theorem. -/
import Derived.Test.YtdjjifljlkjafaaGreatDoorLexWalkD
import Derived.Laws.IdiomStrings
import Derived.Lib.BufferRead
import Derived.Maps.AppendAt
namespace Go.Proofs.YtdjjifljlkjafaaGreatDoor
open Go Go.Proofs Go.RowKit
attribute [local go_sem] Oper.semAt_some

/-- what 'text' makes of the bytes behind the quote -/
def textL (k0 : Nat) : List UInt8 → Nat → List UInt8 → TR
  | [], _, b => if 200 < b.length then .err 2 else .err 28
  | c :: l, j, b =>
    if 200 < b.length then .err 2
    else if c = 34 then .tok ⟨3, k0, ⟨b.toArray⟩, 0⟩ (j + 1)
    else if c = 92 then
      match l with
      | [] => .err 28
      | d :: l' => if d = 34 then textL k0 l' (j + 2) (b ++ [34]) else if d = 92 then textL k0 l' (j + 2) (b ++ [92]) else if d = 110 then textL k0 l' (j + 2) (b ++ [10]) else .err 28
    else if c.toNat < 32 ∨ 126 < c.toNat then .err 28
    else textL k0 l (j + 1) (b ++ [c])
/-- what 'text' finds -/
def textT (s : ByteArray) (k : Nat) : TR := if (rest s k)[0]! ≠ 34 then .none else textL k (rest s (k + 1)) (k + 1) []

theorem textL_lim (k0 : Nat) (l : List UInt8) (j : Nat) (b : List UInt8) (h : 200 < b.length) : textL k0 l j b = .err 2 := by
  cases l <;> (unfold textL; rw [if_pos h])
theorem textL_nil (k0 j : Nat) (b : List UInt8) (h : ¬ 200 < b.length) : textL k0 [] j b = .err 28 := by
  unfold textL; rw [if_neg h]
theorem textL_quote (k0 j : Nat) (l b : List UInt8) (h : ¬ 200 < b.length) : textL k0 (34 :: l) j b = .tok ⟨3, k0, ⟨b.toArray⟩, 0⟩ (j + 1) := by
  unfold textL; rw [if_neg h, if_pos rfl]
theorem textL_esc0 (k0 j : Nat) (b : List UInt8) (h : ¬ 200 < b.length) : textL k0 [92] j b = .err 28 := by
  unfold textL; rw [if_neg h, if_neg (by decide), if_pos rfl]
theorem textL_esc (k0 j : Nat) (d : UInt8) (l b : List UInt8) (h : ¬ 200 < b.length) : textL k0 (92 :: d :: l) j b = if d = 34 then textL k0 l (j + 2) (b ++ [34]) else if d = 92 then textL k0 l (j + 2) (b ++ [92]) else if d = 110 then textL k0 l (j + 2) (b ++ [10]) else .err 28 := by
  conv => lhs; unfold textL
  rw [if_neg h, if_neg (by decide), if_pos rfl]
theorem textL_bad (k0 j : Nat) (c : UInt8) (l b : List UInt8) (h : ¬ 200 < b.length) (h1 : c ≠ 34) (h2 : c ≠ 92) (h3 : c.toNat < 32 ∨ 126 < c.toNat) : textL k0 (c :: l) j b = .err 28 := by
  unfold textL; rw [if_neg h, if_neg h1, if_neg h2, if_pos h3]
theorem textL_step (k0 j : Nat) (c : UInt8) (l b : List UInt8) (h : ¬ 200 < b.length) (h1 : c ≠ 34) (h2 : c ≠ 92) (h3 : ¬ (c.toNat < 32 ∨ 126 < c.toNat)) : textL k0 (c :: l) j b = textL k0 l (j + 1) (b ++ [c]) := by
  conv => lhs; unfold textL
  rw [if_neg h, if_neg h1, if_neg h2, if_neg h3]

def encB (c : UInt8) : Value := .int .u8 (c.toNat : Int)
theorem infoU8 : (Tryz.prog.info? 5).map (fun i => (i.zero, i.size, i.bytes)) = some (some (.int .u8 0), 1, 1) := by kernel_rfl
theorem Turned.strip {w wr : World} (h : Turned (fun i => w.heap.size ≤ i) w wr) : Turned (fun _ => False) w wr := ⟨h.os, h.tape, h.output, h.size, fun k hk _ => h.block k hk (by omega)⟩
/-- the bytes that 'text' has read -/
structure TS (w : World) (s : ByteArray) (k : Nat) (v : Value) (bs : List UInt8) (j : Nat) (wr : World) : Prop where
  gt : k < j
  le : j ≤ s.size
  own : wr.ownsRow w.heap.size 5 1 v bs.length (bs.map encB)
  tur : Turned (fun i => w.heap.size ≤ i) w wr
  eq : textL k (rest s j) j bs = textL k (rest s (k + 1)) (k + 1) []
theorem TS.push {w wr w4 : World} {s : ByteArray} {k j : Nat} {v v' : Value} {bs : List UInt8} (h : TS w s k v bs j wr) (x : UInt8) (j' : Nat) (hj : j ≤ j') (hj' : j' ≤ s.size) (he : textL k (rest s j) j bs = textL k (rest s j') j' (bs ++ [x]))
    (hown' : w4.ownsRow w.heap.size 5 1 v' (bs.length + 1) (bs.map encB ++ [encB x])) (hgrow : (wr.alloc (.cells #[encB x] 5)).grownBy w4 v.ownBlock) : TS w s k v' (bs ++ [x]) j' w4 := by
  have hg := h.gt
  refine ⟨by omega, hj', by simpa using hown', ?_, by rw [← he, h.eq]⟩
  have hb := ownsRow_block h.own
  exact (h.tur.alloc _).trans (Turned.of_grown hgrow fun g hgr => (hb g hgr).1)
theorem TS.ownA {w wr : World} {s : ByteArray} {k j : Nat} {v : Value} {bs : List UInt8} (h : TS w s k v bs j wr) (o : Obj) : (wr.alloc o).ownsRow w.heap.size 5 1 v bs.length (bs.map encB) :=
  ownsRow_turned' ((Turned.refl (fun _ => False) wr).alloc o) (fun _ _ => id) h.own
theorem TS.conv {w wr : World} {s : ByteArray} {k j : Nat} {v : Value} {bs : List UInt8} (h : TS w s k v bs j wr) : (convert 46 9 v).run Tryz.prog wr = .ok (.string ⟨bs.toArray⟩) wr := by
  obtain ⟨hl, h2⟩ := h.own
  rcases h2 with ⟨rfl, h0⟩ | ⟨g, cap, cur, rfl, hg, hh, hc, hm, hs, ht⟩
  · have : bs = [] := List.length_eq_zero_iff.1 h0
    subst this
    exact Lib.run_convert_nil_bytes wr 46 9 5 0 Tryz.underlying46 Tryz.underlying5 Tryz.underlying9
  · refine run_convert_bytes_back wr 46 9 5 ⟨g, 0, none⟩ cap bs Tryz.underlying46 Tryz.underlying5 Tryz.underlying9 (fun i hi => ?_)
    have h1 : (bs.map encB)[i]? = some (encB bs[i]) := by simp [hi]
    rw [← ht, List.getElem?_take_of_lt (by omega)] at h1
    rw [show (⟨g, 0, none⟩ : Addr).add i = ⟨g, i, none⟩ by cases i <;> simp [Addr.add]]
    simpa [World.cell?, hh, encB] using h1
set_option maxRecDepth 20000 in
set_option maxHeartbeats 4000000 in
theorem text_any (B base : Nat) (s : ByteArray) (k : Nat) (v : Value) (ts : List Tok) (w : World) (h : At w B base s k v ts) (hs : s.size ≤ 65536) (hk : k < s.size) :
    Calls Tryz.prog 34 #[.pointer (some ⟨B, 0, none⟩)] w (Took w B base s v k ts (textT s k)) := by
  obtain ⟨i0, hif, hz0, hz1, hz2⟩ := info_parts infoU8
  obtain ⟨c0, c1, c2⟩ := h.rd.cells
  have HN : Hid (textT s k = if s[k] ≠ 34 then .none else textL k (rest s (k + 1)) (k + 1) []) := by
    show _ = _
    unfold textT; rw [rest_head s k hk]
  have H := Lib.hid h
  clear h
  go_enter Tryz.func34, Tryz.ntmps34
  go_wp2_with fail
  by_cases hc : s[k] = 34
  · have kc : ((s[k].toNat : Int) == 34) = true := by rw [hc]; rfl
    have kn : ((s[k].toNat : Int) != 34) = false := by simp [bne, kc]
    have HF0 : Hid (textT s k = textL k (rest s (k + 1)) (k + 1) []) := by show _ = _; rw [HN.out, if_neg (by simpa using hc)]
    clear hc
    go_quiet (fail)
    clear kn kc
    go_wp2_with fail
    have H0 : Hid (TS w s k (.slice none 0 0) [] (k + 1) (w.drewN nq)) := ⟨by omega, by omega, ⟨by simp, .inl ⟨rfl, rfl⟩⟩, drewN_turned _ _ _, rfl⟩
    go_loopw [4, 5] (fun b u wr => ∃ (bs : List UInt8) (j : Nat), u = (.int .i64 j) ∧ Hid (TS w s k b bs j wr)) (fun _ u _ => s.size + 1 - (intOf u).toNat)
    case atStart => exact ⟨[], k + 1, by simp, H0⟩
    case round =>
      clear H0 c0 c1 c2
      obtain ⟨bs, j, rfl, HS⟩ := hrel
      obtain ⟨c0, c1, c2⟩ := (H.out.same HS.out.tur.strip).rd.cells
      have hgt := HS.out.gt
      have hle := HS.out.le
      obtain ⟨va, vc, rfl⟩ := owns_shape HS.out.own
      by_cases hl : 200 < bs.length
      · have HF : Hid (textT s k = .err 2) := by show _ = _; rw [HF0.out, ← HS.out.eq, textL_lim _ _ _ _ hl]
        go_wp2_with fail
        refine bodyPost_ret (results_tmp2 rfl _ _ _) rfl ?_
        rw [HF.out]
        exact ⟨rfl, H.out.same HS.out.tur.strip, Moved.of HS.out.tur.strip⟩
      · by_cases hj : j < s.size
        · have HR := Lib.hid (rest_cons s j hj)
          by_cases q34 : s[j] = 34
          · have k34 : ((s[j].toNat : Int) == 34) = true := by rw [q34]; rfl
            have HF : Hid (textT s k = .tok ⟨3, k, ⟨bs.toArray⟩, 0⟩ (j + 1)) := by show _ = _; rw [HF0.out, ← HS.out.eq, HR.out, q34, textL_quote _ _ _ _ hl]
            have hcv := HS.out.conv
            have HP := Lib.hid (put_at (H.out.same HS.out.tur.strip) 3 0 ⟨bs.toArray⟩ (j + 1) (by omega) (by omega) ((j : Int) + 1) (by omega))
            clear q34
            go_wp2_with (go_at_call 22; refine (HP.out.mono ?_); rintro e w6 ⟨rfl, HQ⟩; have HQ := Lib.hid HQ)
            refine bodyPost_ret (results_tmp2 rfl _ _ _) rfl ?_
            rw [HF.out]
            obtain ⟨v', q1, q2⟩ := HQ.out
            exact ⟨rfl, v', q1, (Moved.of HS.out.tur.strip).trans q2⟩
          · have k34 : ((s[j].toNat : Int) == 34) = false := by
              have : s[j].toNat ≠ 34 := fun h => q34 (UInt8.toNat_inj.1 h)
              simp; omega
            by_cases q92 : s[j] = 92
            · have k92 : ((s[j].toNat : Int) == 92) = true := by rw [q92]; rfl
              by_cases hj1 : j + 1 < s.size
              · have HR1 := Lib.hid (rest_cons s (j + 1) hj1)
                have HD : Hid (textL k (rest s j) j bs = if s[j + 1] = 34 then textL k (rest s (j + 2)) (j + 2) (bs ++ [34]) else if s[j + 1] = 92 then textL k (rest s (j + 2)) (j + 2) (bs ++ [92]) else if s[j + 1] = 110 then textL k (rest s (j + 2)) (j + 2) (bs ++ [10]) else .err 28) := by
                  show _ = _
                  rw [HR.out, q92, HR1.out, textL_esc _ _ _ _ _ hl]
                clear q34 q92
                by_cases d34 : s[j + 1] = 34
                · have HI : Hid (∀ W : World, Calls Tryz.prog 30 #[.string ⟨#[34, 92, 110]⟩, .int .u8 s[j + 1].toNat] W fun e w' => e = .returned (.int .i64 0) ∧ W = w') := fun W => by
                    have := (Tryz.strings_IndexByte ⟨#[34, 92, 110]⟩ (s[j + 1].toNat : Int) W).mono fun e w' h => (⟨h.1, h.2.symm⟩ : _ ∧ W = w')
                    rw [show Lib.indexByte (ByteArray.mk #[34, 92, 110]).data.toList ((s[j + 1].toNat : Int)).toNat.toUInt8 = 0 by rw [d34]; rfl] at this
                    exact this
                  have HPU := Lib.hid (fun v' w4 => HS.out.push (v' := v') (w4 := w4) 34 (j + 2) (by omega) (by omega) (by rw [HD.out, if_pos d34]))
                  clear d34
                  go_wp2_with (first | (go_at_call 30; refine (HI.out _).mono ?_; rintro e w' ⟨rfl, rfl⟩) | (at_builtin; refine wpList_append_own _ rfl _ _ 46 rfl w.heap.size 5 i0 (.int .u8 0) 1 1 Tryz.underlying46 hif hz0 hz1 hz2 rfl (by decide) _ _ _ rfl (HS.out.ownA _) ⟨wr.heap.size, 0, none⟩ 1 1 [encB 34] rfl rfl (cell_one_new _ _ _) (by intro u hu; simp at hu; subst hu; rfl) (by unfold maxLen; omega) (by omega) (by have := HS.out.tur.size; simp; omega) ?_; intro v' w4 hown' hgrow hnil; have HE := Lib.hid (HPU.out v' w4 hown' hgrow); clear hown' hgrow hnil))
                  go_roundw
                  case rel => exact ⟨bs ++ [34], j + 2, by go_num, HE⟩
                  case measure => simp [intOf]; omega
                by_cases d92 : s[j + 1] = 92
                · have HI : Hid (∀ W : World, Calls Tryz.prog 30 #[.string ⟨#[34, 92, 110]⟩, .int .u8 s[j + 1].toNat] W fun e w' => e = .returned (.int .i64 1) ∧ W = w') := fun W => by
                    have := (Tryz.strings_IndexByte ⟨#[34, 92, 110]⟩ (s[j + 1].toNat : Int) W).mono fun e w' h => (⟨h.1, h.2.symm⟩ : _ ∧ W = w')
                    rw [show Lib.indexByte (ByteArray.mk #[34, 92, 110]).data.toList ((s[j + 1].toNat : Int)).toNat.toUInt8 = 1 by rw [d92]; rfl] at this
                    exact this
                  have HPU := Lib.hid (fun v' w4 => HS.out.push (v' := v') (w4 := w4) 92 (j + 2) (by omega) (by omega) (by rw [HD.out, if_neg d34, if_pos d92]))
                  clear d92
                  go_wp2_with (first | (go_at_call 30; refine (HI.out _).mono ?_; rintro e w' ⟨rfl, rfl⟩) | (at_builtin; refine wpList_append_own _ rfl _ _ 46 rfl w.heap.size 5 i0 (.int .u8 0) 1 1 Tryz.underlying46 hif hz0 hz1 hz2 rfl (by decide) _ _ _ rfl (HS.out.ownA _) ⟨wr.heap.size, 0, none⟩ 1 1 [encB 92] rfl rfl (cell_one_new _ _ _) (by intro u hu; simp at hu; subst hu; rfl) (by unfold maxLen; omega) (by omega) (by have := HS.out.tur.size; simp; omega) ?_; intro v' w4 hown' hgrow hnil; have HE := Lib.hid (HPU.out v' w4 hown' hgrow); clear hown' hgrow hnil))
                  go_roundw
                  case rel => exact ⟨bs ++ [92], j + 2, by go_num, HE⟩
                  case measure => simp [intOf]; omega
                by_cases d110 : s[j + 1] = 110
                · have HI : Hid (∀ W : World, Calls Tryz.prog 30 #[.string ⟨#[34, 92, 110]⟩, .int .u8 s[j + 1].toNat] W fun e w' => e = .returned (.int .i64 2) ∧ W = w') := fun W => by
                    have := (Tryz.strings_IndexByte ⟨#[34, 92, 110]⟩ (s[j + 1].toNat : Int) W).mono fun e w' h => (⟨h.1, h.2.symm⟩ : _ ∧ W = w')
                    rw [show Lib.indexByte (ByteArray.mk #[34, 92, 110]).data.toList ((s[j + 1].toNat : Int)).toNat.toUInt8 = 2 by rw [d110]; rfl] at this
                    exact this
                  have HPU := Lib.hid (fun v' w4 => HS.out.push (v' := v') (w4 := w4) 10 (j + 2) (by omega) (by omega) (by rw [HD.out, if_neg d34, if_neg d92, if_pos d110]))
                  clear d110
                  go_wp2_with (first | (go_at_call 30; refine (HI.out _).mono ?_; rintro e w' ⟨rfl, rfl⟩) | (at_builtin; refine wpList_append_own _ rfl _ _ 46 rfl w.heap.size 5 i0 (.int .u8 0) 1 1 Tryz.underlying46 hif hz0 hz1 hz2 rfl (by decide) _ _ _ rfl (HS.out.ownA _) ⟨wr.heap.size, 0, none⟩ 1 1 [encB 10] rfl rfl (cell_one_new _ _ _) (by intro u hu; simp at hu; subst hu; rfl) (by unfold maxLen; omega) (by omega) (by have := HS.out.tur.size; simp; omega) ?_; intro v' w4 hown' hgrow hnil; have HE := Lib.hid (HPU.out v' w4 hown' hgrow); clear hown' hgrow hnil))
                  go_roundw
                  case rel => exact ⟨bs ++ [10], j + 2, by go_num, HE⟩
                  case measure => simp [intOf]; omega
                have HI : Hid (∀ W : World, Calls Tryz.prog 30 #[.string ⟨#[34, 92, 110]⟩, .int .u8 s[j + 1].toNat] W fun e w' => e = .returned (.int .i64 (-1)) ∧ W = w') := fun W => by
                  have := (Tryz.strings_IndexByte ⟨#[34, 92, 110]⟩ (s[j + 1].toNat : Int) W).mono fun e w' h => (⟨h.1, h.2.symm⟩ : _ ∧ W = w')
                  rw [show Lib.indexByte (ByteArray.mk #[34, 92, 110]).data.toList ((s[j + 1].toNat : Int)).toNat.toUInt8 = -1 by simp [Lib.indexByte, Ne.symm d34, Ne.symm d92, Ne.symm d110]] at this
                  exact this
                have HF : Hid (textT s k = .err 28) := by show _ = _; rw [HF0.out, ← HS.out.eq, HD.out, if_neg d34, if_neg d92, if_neg d110]
                clear d34 d92 d110
                go_wp2_with (go_at_call 30; refine (HI.out _).mono ?_; rintro e w' ⟨rfl, rfl⟩)
                refine bodyPost_ret (results_tmp2 rfl _ _ _) rfl ?_
                rw [HF.out]
                exact ⟨rfl, H.out.same HS.out.tur.strip, Moved.of HS.out.tur.strip⟩
              · have HF : Hid (textT s k = .err 28) := by show _ = _; rw [HF0.out, ← HS.out.eq, HR.out, q92, rest_nil s (j + 1) (by omega), textL_esc0 _ _ _ hl]
                clear q34 q92
                go_wp2_with fail
                refine bodyPost_ret (results_tmp2 rfl _ _ _) rfl ?_
                rw [HF.out]
                exact ⟨rfl, H.out.same HS.out.tur.strip, Moved.of HS.out.tur.strip⟩
            · have k92 : ((s[j].toNat : Int) == 92) = false := by
                have : s[j].toNat ≠ 92 := fun h => q92 (UInt8.toNat_inj.1 h)
                simp; omega
              by_cases hb : s[j].toNat < 32 ∨ 126 < s[j].toNat
              · have HF : Hid (textT s k = .err 28) := by show _ = _; rw [HF0.out, ← HS.out.eq, HR.out, textL_bad _ _ _ _ _ hl q34 q92 hb]
                clear q34 q92
                rcases hb with hb | hb
                · go_wp2_with fail
                  refine bodyPost_ret (results_tmp2 rfl _ _ _) rfl ?_
                  rw [HF.out]
                  exact ⟨rfl, H.out.same HS.out.tur.strip, Moved.of HS.out.tur.strip⟩
                · go_wp2_with fail
                  refine bodyPost_ret (results_tmp2 rfl _ _ _) rfl ?_
                  rw [HF.out]
                  exact ⟨rfl, H.out.same HS.out.tur.strip, Moved.of HS.out.tur.strip⟩
              · have HPU := Lib.hid (fun v' w4 => HS.out.push (v' := v') (w4 := w4) s[j] (j + 1) (by omega) (by omega) (by rw [HR.out, textL_step _ _ _ _ _ hl q34 q92 hb]))
                have hb1 : ¬ s[j].toNat < 32 := fun h => hb (.inl h)
                have hb2 : ¬ 126 < s[j].toNat := fun h => hb (.inr h)
                clear q34 q92 hb
                go_wp2_with (at_builtin; refine wpList_append_own _ rfl _ _ 46 rfl w.heap.size 5 i0 (.int .u8 0) 1 1 Tryz.underlying46 hif hz0 hz1 hz2 rfl (by decide) _ _ _ rfl (HS.out.ownA _) ⟨wr.heap.size, 0, none⟩ 1 1 [encB s[j]] rfl rfl (cell_one_new _ _ _) (by intro u hu; simp at hu; subst hu; rfl) (by unfold maxLen; omega) (by omega) (by have := HS.out.tur.size; simp; omega) ?_; intro v' w4 hown' hgrow hnil; have HE := Lib.hid (HPU.out v' w4 hown' hgrow); clear hown' hgrow hnil)
                go_roundw
                case rel => exact ⟨bs ++ [s[j]], j + 1, by go_num, HE⟩
                case measure => simp [intOf]; omega
        · have HF : Hid (textT s k = .err 28) := by show _ = _; rw [HF0.out, ← HS.out.eq, rest_nil s j (by omega), textL_nil _ _ _ hl]
          go_wp2_with fail
          refine bodyPost_ret (results_tmp2 rfl _ _ _) rfl ?_
          rw [HF.out]
          exact ⟨rfl, H.out.same HS.out.tur.strip, Moved.of HS.out.tur.strip⟩
  · have kc : ((s[k].toNat : Int) == 34) = false := by
      have : s[k].toNat ≠ 34 := fun h => hc (UInt8.toNat_inj.1 h)
      simp; omega
    have HF : Hid (textT s k = .none) := by show _ = _; rw [HN.out, if_pos hc]
    clear hc
    go_quiet (fail)
    go_wp2_with fail
    go_ret2
    rw [HF.out]
    exact ⟨rfl, H.out.drew _, moved_drew _ _ _ _⟩
end Go.Proofs.YtdjjifljlkjafaaGreatDoor
