/- Part 3 of the proof of card: LexWalkE, LexWalkF, LexWalkG, LexWalkH, LexWalkJ. Conditions: those of each theorem. -/
import Derived.Laws.IdiomStrings
import Derived.Lib.BufferRead
import Derived.Maps.AppendAt
import Derived.Lib.AppendIntMem
import Derived.Test.YtjijdgkccfeeaaaGreatDoorPt01
import Derived.Test.YtjijdgkccfeeaaaGreatDoorPt02
set_option maxRecDepth 20000
set_option maxHeartbeats 4000000
namespace Go.Proofs.YtjijdgkccfeeaaaGreatDoor
open Go Go.Proofs Go.RowKit
attribute [local go_sem] Oper.semAt_some
def textL (k0 : Nat) : List UInt8 -> Nat -> List UInt8 -> TR
 | [], _, b => if 200 < b.length then .err 2 else .err 28
 | c :: l, j, b =>
  if 200 < b.length then .err 2
  else if c = 34 then .tok ⟨3, k0, ⟨b.toArray⟩, 0⟩ (j + 1)
  else if c = 92 then
   match l with
   | [] => .err 28
   | d :: l' => if d = 34 then textL k0 l' (j + 2) (b ++ [34]) else if d = 92 then textL k0 l' (j + 2) (b ++ [92]) else if d = 110 then textL k0 l' (j + 2) (b ++ [10]) else .err 28
  else if c.toNat < 32 \/ 126 < c.toNat then .err 28
  else textL k0 l (j + 1) (b ++ [c])
def textT (s : ByteArray) (k : Nat) : TR := if (rest s k)[0]! ≠ 34 then .none else textL k (rest s (k + 1)) (k + 1) []
theorem textL_lim (k0 : Nat) (l : List UInt8) (j : Nat) (b : List UInt8) (h : 200 < b.length) : textL k0 l j b = .err 2 := by
 cases l <;> (unfold textL; rw [if_pos h])
theorem textL_nil (k0 j : Nat) (b : List UInt8) (h : ¬ 200 < b.length) : textL k0 [] j b = .err 28 := by
 unfold textL; rw [if_neg h]
theorem textL_quote (k0 j : Nat) (l b : List UInt8) (h : ¬ 200 < b.length) : textL k0 (34 :: l) j b = .tok ⟨3, k0, ⟨b.toArray⟩, 0⟩ (j + 1) := by
 unfold textL; rw [if_neg h, if_pos rfl]
theorem textL_esc0 (k0 j : Nat) (b : List UInt8) (h : ¬ 200 < b.length) : textL k0 [92] j b = .err 28 := by
 unfold textL; rw [if_neg h, if_neg (by decide), if_pos rfl]
theorem textL_esc (k0 j : Nat) (d : UInt8) (l b : List UInt8) (h : ¬ 200 < b.length) : textL k0 (92 :: d :: l) j b = if d = 34 then textL k0 l (j + 2) (b ++ [34]) else if d = 92 then textL k0 l (j + 2) (b ++ [92]) else if d = 110 then textL k0 l (j + 2) (b ++ [10]) else .err 28 := by
 conv => lhs; unfold textL
 rw [if_neg h, if_neg (by decide), if_pos rfl]
theorem textL_bad (k0 j : Nat) (c : UInt8) (l b : List UInt8) (h : ¬ 200 < b.length) (h1 : c ≠ 34) (h2 : c ≠ 92) (h3 : c.toNat < 32 \/ 126 < c.toNat) : textL k0 (c :: l) j b = .err 28 := by
 unfold textL; rw [if_neg h, if_neg h1, if_neg h2, if_pos h3]
theorem textL_step (k0 j : Nat) (c : UInt8) (l b : List UInt8) (h : ¬ 200 < b.length) (h1 : c ≠ 34) (h2 : c ≠ 92) (h3 : ¬ (c.toNat < 32 \/ 126 < c.toNat)) : textL k0 (c :: l) j b = textL k0 l (j + 1) (b ++ [c]) := by
 conv => lhs; unfold textL
 rw [if_neg h, if_neg h1, if_neg h2, if_neg h3]
def encB (c : UInt8) : Value := .int .u8 (c.toNat : Int)
theorem infoU8 : (Tryz.prog.info? 5).map (fun i => (i.zero, i.size, i.bytes)) = some (some (.int .u8 0), 1, 1) := by kernel_rfl
theorem Turned.strip {w wr : World} (h : Turned (fun i => w.heap.size <= i) w wr) : Turned (fun _ => False) w wr := ⟨h.os, h.tape, h.output, h.size, fun k hk _ => h.block k hk (by omega)⟩
structure TS (w : World) (s : ByteArray) (k : Nat) (v : Value) (bs : List UInt8) (j : Nat) (wr : World) : Prop where
 gt : k < j
 le : j <= s.size
 own : wr.ownsRow w.heap.size 5 1 v bs.length (bs.map encB)
 tur : Turned (fun i => w.heap.size <= i) w wr
 eq : textL k (rest s j) j bs = textL k (rest s (k + 1)) (k + 1) []
theorem TS.push {w wr w4 : World} {s : ByteArray} {k j : Nat} {v v' : Value} {bs : List UInt8} (h : TS w s k v bs j wr) (x : UInt8) (j' : Nat) (hj : j <= j') (hj' : j' <= s.size) (he : textL k (rest s j) j bs = textL k (rest s j') j' (bs ++ [x]))
  (hown' : w4.ownsRow w.heap.size 5 1 v' (bs.length + 1) (bs.map encB ++ [encB x])) (hgrow : (wr.alloc (.cells #[encB x] 5)).grownBy w4 v.ownBlock) : TS w s k v' (bs ++ [x]) j' w4 := by
 have hg := h.gt
 refine ⟨by omega, hj', by simpa using hown', ?_, by rw [<- he, h.eq]⟩
 have hb := ownsRow_block h.own
 exact (h.tur.alloc _).trans (Turned.of_grown hgrow fun g hgr => (hb g hgr).1)
theorem TS.ownA {w wr : World} {s : ByteArray} {k j : Nat} {v : Value} {bs : List UInt8} (h : TS w s k v bs j wr) (o : Obj) : (wr.alloc o).ownsRow w.heap.size 5 1 v bs.length (bs.map encB) :=
 ownsRow_turned' ((Turned.refl (fun _ => False) wr).alloc o) (fun _ _ => id) h.own
theorem TS.conv {w wr : World} {s : ByteArray} {k j : Nat} {v : Value} {bs : List UInt8} (h : TS w s k v bs j wr) : (convert 172 9 v).run Tryz.prog wr = .ok (.string ⟨bs.toArray⟩) wr := by
 obtain ⟨hl, h2⟩ := h.own
 rcases h2 with ⟨rfl, h0⟩ | ⟨g, cap, cur, rfl, hg, hh, hc, hm, hs, ht⟩
 ·have : bs = [] := List.length_eq_zero_iff.1 h0
  subst this
  exact Lib.run_convert_nil_bytes wr 172 9 5 0 Tryz.underlying172 Tryz.underlying5 Tryz.underlying9
 ·refine run_convert_bytes_back wr 172 9 5 ⟨g, 0, none⟩ cap bs Tryz.underlying172 Tryz.underlying5 Tryz.underlying9 (fun i hi => ?_)
  have h1 : (bs.map encB)[i]? = some (encB bs[i]) := by simp [hi]
  rw [<- ht, List.getElem?_take_of_lt (by omega)] at h1
  rw [show (⟨g, 0, none⟩ : Addr).add i = ⟨g, i, none⟩ by cases i <;> simp [Addr.add]]
  simpa [World.cell?, hh, encB] using h1
theorem text_any (B base : Nat) (s : ByteArray) (k : Nat) (v : Value) (ts : List Tok) (w : World) (h : At w B base s k v ts) (hs : s.size <= 65536) (hk : k < s.size) :
  Calls Tryz.prog 112 #[.pointer (some ⟨B, 0, none⟩)] w (Took w B base s v k ts (textT s k)) := by
 obtain ⟨i0, hif, hz0, hz1, hz2⟩ := info_parts infoU8
 obtain ⟨c0, c1, c2⟩ := h.rd.cells
 have HN : Hid (textT s k = if s[k] ≠ 34 then .none else textL k (rest s (k + 1)) (k + 1) []) := by
  show _ = _
  unfold textT; rw [rest_head s k hk]
 have H := Lib.hid h
 clear h
 go_enter Tryz.func112, Tryz.ntmps112
 go_wp2_with fail
 by_cases hc : s[k] = 34
 ·have kc : ((s[k].toNat : Int) == 34) = true := by rw [hc]; rfl
  have kn : ((s[k].toNat : Int) != 34) = false := by simp [bne, kc]
  have HF0 : Hid (textT s k = textL k (rest s (k + 1)) (k + 1) []) := by show _ = _; rw [HN.out, if_neg (by simpa using hc)]
  clear hc
  go_quiet (fail)
  clear kn kc
  go_wp2_with fail
  have H0 : Hid (TS w s k (.slice none 0 0) [] (k + 1) (w.drewN nq)) := ⟨by omega, by omega, ⟨by simp, .inl ⟨rfl, rfl⟩⟩, drewN_turned _ _ _, rfl⟩
  go_loopw [4, 5] (fun b u wr => ∃ (bs : List UInt8) (j : Nat), u = (.int .i64 j) /\ Hid (TS w s k b bs j wr)) (fun _ u _ => s.size + 1 - (intOf u).toNat)
  case atStart => exact ⟨[], k + 1, by simp, H0⟩
  case round =>
   clear H0 c0 c1 c2
   obtain ⟨bs, j, rfl, HS⟩ := hrel
   obtain ⟨c0, c1, c2⟩ := (H.out.same HS.out.tur.strip).rd.cells
   have hgt := HS.out.gt
   have hle := HS.out.le
   obtain ⟨va, vc, rfl⟩ := owns_shape HS.out.own
   by_cases hl : 200 < bs.length
   ·have HF : Hid (textT s k = .err 2) := by show _ = _; rw [HF0.out, <- HS.out.eq, textL_lim _ _ _ _ hl]
    go_wp2_with fail
    refine bodyPost_ret (results_tmp2 rfl _ _ _) rfl ?_
    rw [HF.out]
    exact ⟨rfl, H.out.same HS.out.tur.strip, Moved.of HS.out.tur.strip⟩
   ·by_cases hj : j < s.size
    ·have HR := Lib.hid (rest_cons s j hj)
     by_cases q34 : s[j] = 34
     ·have k34 : ((s[j].toNat : Int) == 34) = true := by rw [q34]; rfl
      have HF : Hid (textT s k = .tok ⟨3, k, ⟨bs.toArray⟩, 0⟩ (j + 1)) := by show _ = _; rw [HF0.out, <- HS.out.eq, HR.out, q34, textL_quote _ _ _ _ hl]
      have hcv := HS.out.conv
      have HP := Lib.hid (put_at (H.out.same HS.out.tur.strip) 3 0 ⟨bs.toArray⟩ (j + 1) (by omega) (by omega) ((j : Int) + 1) (by omega))
      clear q34
      go_wp2_with (go_at_call 86; refine (HP.out.mono ?_); rintro e w6 ⟨rfl, HQ⟩; have HQ := Lib.hid HQ)
      refine bodyPost_ret (results_tmp2 rfl _ _ _) rfl ?_
      rw [HF.out]
      obtain ⟨v', q1, q2⟩ := HQ.out
      exact ⟨rfl, v', q1, (Moved.of HS.out.tur.strip).trans q2⟩
     ·have k34 : ((s[j].toNat : Int) == 34) = false := by
       have : s[j].toNat ≠ 34 := fun h => q34 (UInt8.toNat_inj.1 h)
       simp; omega
      by_cases q92 : s[j] = 92
      ·have k92 : ((s[j].toNat : Int) == 92) = true := by rw [q92]; rfl
       by_cases hj1 : j + 1 < s.size
       ·have HR1 := Lib.hid (rest_cons s (j + 1) hj1)
        have HD : Hid (textL k (rest s j) j bs = if s[j + 1] = 34 then textL k (rest s (j + 2)) (j + 2) (bs ++ [34]) else if s[j + 1] = 92 then textL k (rest s (j + 2)) (j + 2) (bs ++ [92]) else if s[j + 1] = 110 then textL k (rest s (j + 2)) (j + 2) (bs ++ [10]) else .err 28) := by
         show _ = _
         rw [HR.out, q92, HR1.out, textL_esc _ _ _ _ _ hl]
        clear q34 q92
        by_cases d34 : s[j + 1] = 34
        ·have HI : Hid (∀ W : World, Calls Tryz.prog 108 #[.string ⟨#[34, 92, 110]⟩, .int .u8 s[j + 1].toNat] W fun e w' => e = .returned (.int .i64 0) /\ W = w') := fun W => by
          have := (Tryz.strings_IndexByte ⟨#[34, 92, 110]⟩ (s[j + 1].toNat : Int) W).mono fun e w' h => (⟨h.1, h.2.symm⟩ : _ /\ W = w')
          rw [show Lib.indexByte (ByteArray.mk #[34, 92, 110]).data.toList ((s[j + 1].toNat : Int)).toNat.toUInt8 = 0 by rw [d34]; rfl] at this
          exact this
         have HPU := Lib.hid (fun v' w4 => HS.out.push (v' := v') (w4 := w4) 34 (j + 2) (by omega) (by omega) (by rw [HD.out, if_pos d34]))
         clear d34
         go_wp2_with (first | (go_at_call 108; refine (HI.out _).mono ?_; rintro e w' ⟨rfl, rfl⟩) | (at_builtin; refine wpList_append_own _ rfl _ _ 172 rfl w.heap.size 5 i0 (.int .u8 0) 1 1 Tryz.underlying172 hif hz0 hz1 hz2 rfl (by decide) _ _ _ rfl (HS.out.ownA _) ⟨wr.heap.size, 0, none⟩ 1 1 [encB 34] rfl rfl (cell_one_new _ _ _) (by intro u hu; simp at hu; subst hu; rfl) (by unfold maxLen; omega) (by omega) (by have := HS.out.tur.size; simp; omega) ?_; intro v' w4 hown' hgrow hnil; have HE := Lib.hid (HPU.out v' w4 hown' hgrow); clear hown' hgrow hnil))
         go_roundw
         case rel => exact ⟨bs ++ [34], j + 2, by go_num, HE⟩
         case measure => simp [intOf]; omega
        by_cases d92 : s[j + 1] = 92
        ·have HI : Hid (∀ W : World, Calls Tryz.prog 108 #[.string ⟨#[34, 92, 110]⟩, .int .u8 s[j + 1].toNat] W fun e w' => e = .returned (.int .i64 1) /\ W = w') := fun W => by
          have := (Tryz.strings_IndexByte ⟨#[34, 92, 110]⟩ (s[j + 1].toNat : Int) W).mono fun e w' h => (⟨h.1, h.2.symm⟩ : _ /\ W = w')
          rw [show Lib.indexByte (ByteArray.mk #[34, 92, 110]).data.toList ((s[j + 1].toNat : Int)).toNat.toUInt8 = 1 by rw [d92]; rfl] at this
          exact this
         have HPU := Lib.hid (fun v' w4 => HS.out.push (v' := v') (w4 := w4) 92 (j + 2) (by omega) (by omega) (by rw [HD.out, if_neg d34, if_pos d92]))
         clear d92
         go_wp2_with (first | (go_at_call 108; refine (HI.out _).mono ?_; rintro e w' ⟨rfl, rfl⟩) | (at_builtin; refine wpList_append_own _ rfl _ _ 172 rfl w.heap.size 5 i0 (.int .u8 0) 1 1 Tryz.underlying172 hif hz0 hz1 hz2 rfl (by decide) _ _ _ rfl (HS.out.ownA _) ⟨wr.heap.size, 0, none⟩ 1 1 [encB 92] rfl rfl (cell_one_new _ _ _) (by intro u hu; simp at hu; subst hu; rfl) (by unfold maxLen; omega) (by omega) (by have := HS.out.tur.size; simp; omega) ?_; intro v' w4 hown' hgrow hnil; have HE := Lib.hid (HPU.out v' w4 hown' hgrow); clear hown' hgrow hnil))
         go_roundw
         case rel => exact ⟨bs ++ [92], j + 2, by go_num, HE⟩
         case measure => simp [intOf]; omega
        by_cases d110 : s[j + 1] = 110
        ·have HI : Hid (∀ W : World, Calls Tryz.prog 108 #[.string ⟨#[34, 92, 110]⟩, .int .u8 s[j + 1].toNat] W fun e w' => e = .returned (.int .i64 2) /\ W = w') := fun W => by
          have := (Tryz.strings_IndexByte ⟨#[34, 92, 110]⟩ (s[j + 1].toNat : Int) W).mono fun e w' h => (⟨h.1, h.2.symm⟩ : _ /\ W = w')
          rw [show Lib.indexByte (ByteArray.mk #[34, 92, 110]).data.toList ((s[j + 1].toNat : Int)).toNat.toUInt8 = 2 by rw [d110]; rfl] at this
          exact this
         have HPU := Lib.hid (fun v' w4 => HS.out.push (v' := v') (w4 := w4) 10 (j + 2) (by omega) (by omega) (by rw [HD.out, if_neg d34, if_neg d92, if_pos d110]))
         clear d110
         go_wp2_with (first | (go_at_call 108; refine (HI.out _).mono ?_; rintro e w' ⟨rfl, rfl⟩) | (at_builtin; refine wpList_append_own _ rfl _ _ 172 rfl w.heap.size 5 i0 (.int .u8 0) 1 1 Tryz.underlying172 hif hz0 hz1 hz2 rfl (by decide) _ _ _ rfl (HS.out.ownA _) ⟨wr.heap.size, 0, none⟩ 1 1 [encB 10] rfl rfl (cell_one_new _ _ _) (by intro u hu; simp at hu; subst hu; rfl) (by unfold maxLen; omega) (by omega) (by have := HS.out.tur.size; simp; omega) ?_; intro v' w4 hown' hgrow hnil; have HE := Lib.hid (HPU.out v' w4 hown' hgrow); clear hown' hgrow hnil))
         go_roundw
         case rel => exact ⟨bs ++ [10], j + 2, by go_num, HE⟩
         case measure => simp [intOf]; omega
        have HI : Hid (∀ W : World, Calls Tryz.prog 108 #[.string ⟨#[34, 92, 110]⟩, .int .u8 s[j + 1].toNat] W fun e w' => e = .returned (.int .i64 (-1)) /\ W = w') := fun W => by
         have := (Tryz.strings_IndexByte ⟨#[34, 92, 110]⟩ (s[j + 1].toNat : Int) W).mono fun e w' h => (⟨h.1, h.2.symm⟩ : _ /\ W = w')
         rw [show Lib.indexByte (ByteArray.mk #[34, 92, 110]).data.toList ((s[j + 1].toNat : Int)).toNat.toUInt8 = -1 by simp [Lib.indexByte, Ne.symm d34, Ne.symm d92, Ne.symm d110]] at this
         exact this
        have HF : Hid (textT s k = .err 28) := by show _ = _; rw [HF0.out, <- HS.out.eq, HD.out, if_neg d34, if_neg d92, if_neg d110]
        clear d34 d92 d110
        go_wp2_with (go_at_call 108; refine (HI.out _).mono ?_; rintro e w' ⟨rfl, rfl⟩)
        refine bodyPost_ret (results_tmp2 rfl _ _ _) rfl ?_
        rw [HF.out]
        exact ⟨rfl, H.out.same HS.out.tur.strip, Moved.of HS.out.tur.strip⟩
       ·have HF : Hid (textT s k = .err 28) := by show _ = _; rw [HF0.out, <- HS.out.eq, HR.out, q92, rest_nil s (j + 1) (by omega), textL_esc0 _ _ _ hl]
        clear q34 q92
        go_wp2_with fail
        refine bodyPost_ret (results_tmp2 rfl _ _ _) rfl ?_
        rw [HF.out]
        exact ⟨rfl, H.out.same HS.out.tur.strip, Moved.of HS.out.tur.strip⟩
      ·have k92 : ((s[j].toNat : Int) == 92) = false := by
        have : s[j].toNat ≠ 92 := fun h => q92 (UInt8.toNat_inj.1 h)
        simp; omega
       by_cases hb : s[j].toNat < 32 \/ 126 < s[j].toNat
       ·have HF : Hid (textT s k = .err 28) := by show _ = _; rw [HF0.out, <- HS.out.eq, HR.out, textL_bad _ _ _ _ _ hl q34 q92 hb]
        clear q34 q92
        rcases hb with hb | hb
        ·go_wp2_with fail
         refine bodyPost_ret (results_tmp2 rfl _ _ _) rfl ?_
         rw [HF.out]
         exact ⟨rfl, H.out.same HS.out.tur.strip, Moved.of HS.out.tur.strip⟩
        ·go_wp2_with fail
         refine bodyPost_ret (results_tmp2 rfl _ _ _) rfl ?_
         rw [HF.out]
         exact ⟨rfl, H.out.same HS.out.tur.strip, Moved.of HS.out.tur.strip⟩
       ·have HPU := Lib.hid (fun v' w4 => HS.out.push (v' := v') (w4 := w4) s[j] (j + 1) (by omega) (by omega) (by rw [HR.out, textL_step _ _ _ _ _ hl q34 q92 hb]))
        have hb1 : ¬ s[j].toNat < 32 := fun h => hb (.inl h)
        have hb2 : ¬ 126 < s[j].toNat := fun h => hb (.inr h)
        clear q34 q92 hb
        go_wp2_with (at_builtin; refine wpList_append_own _ rfl _ _ 172 rfl w.heap.size 5 i0 (.int .u8 0) 1 1 Tryz.underlying172 hif hz0 hz1 hz2 rfl (by decide) _ _ _ rfl (HS.out.ownA _) ⟨wr.heap.size, 0, none⟩ 1 1 [encB s[j]] rfl rfl (cell_one_new _ _ _) (by intro u hu; simp at hu; subst hu; rfl) (by unfold maxLen; omega) (by omega) (by have := HS.out.tur.size; simp; omega) ?_; intro v' w4 hown' hgrow hnil; have HE := Lib.hid (HPU.out v' w4 hown' hgrow); clear hown' hgrow hnil)
        go_roundw
        case rel => exact ⟨bs ++ [s[j]], j + 1, by go_num, HE⟩
        case measure => simp [intOf]; omega
    ·have HF : Hid (textT s k = .err 28) := by show _ = _; rw [HF0.out, <- HS.out.eq, rest_nil s j (by omega), textL_nil _ _ _ hl]
     go_wp2_with fail
     refine bodyPost_ret (results_tmp2 rfl _ _ _) rfl ?_
     rw [HF.out]
     exact ⟨rfl, H.out.same HS.out.tur.strip, Moved.of HS.out.tur.strip⟩
 ·have kc : ((s[k].toNat : Int) == 34) = false := by
   have : s[k].toNat ≠ 34 := fun h => hc (UInt8.toNat_inj.1 h)
   simp; omega
  have HF : Hid (textT s k = .none) := by show _ = _; rw [HN.out, if_pos hc]
  clear hc
  go_quiet (fail)
  go_wp2_with fail
  go_ret2
  rw [HF.out]
  exact ⟨rfl, H.out.drew _, moved_drew _ _ _ _⟩
def pairs : List (List UInt8) := [[45, 62], [58, 61], [61, 61], [33, 61], [60, 61], [62, 61], [38, 38], [124, 124], [46, 46]]
def pairText : ByteArray := ⟨#[45, 62, 32, 58, 61, 32, 61, 61, 32, 33, 61, 32, 60, 61, 32, 62, 61, 32, 38, 38, 32, 124, 124, 32, 46, 46]⟩
def signText : ByteArray := ⟨#[40, 41, 123, 125, 91, 93, 44, 59, 58, 46, 43, 45, 42, 47, 37, 60, 62, 61, 33, 38, 124, 64, 63, 94, 126]⟩
theorem fields_pairs : Lib.fields pairText.data.toList = pairs := by decide
def signL (s : ByteArray) (k : Nat) : List (List UInt8) -> TR
 | [] => if 0 <= Lib.indexByte signText.data.toList (rest s k)[0]! then .tok ⟨4, k, ⟨#[(rest s k)[0]!]⟩, 0⟩ (k + 1) else .none
 | p :: ps => if Lib.hasPrefix (rest s k) p then .tok ⟨4, k, ⟨p.toArray⟩, 0⟩ (k + 2) else signL s k ps
def signT (s : ByteArray) (k : Nat) : TR := signL s k pairs
def pairAt (j : Nat) : List UInt8 := pairs[j]!
theorem pairs_drop (j : Nat) (h : j < 9) : pairs.drop j = pairAt j :: pairs.drop (j + 1) := by
 have : ∀ j : Fin 9, pairs.drop j.1 = pairAt j.1 :: pairs.drop (j.1 + 1) := by decide
 exact this ⟨j, h⟩
theorem pairAt_len (j : Nat) (h : j < 9) : (pairAt j).length = 2 := by
 have : ∀ j : Fin 9, (pairAt j.1).length = 2 := by decide
 exact this ⟨j, h⟩
theorem pair_fits {s : ByteArray} {k j : Nat} (h : j < 9) (hp : Lib.hasPrefix (rest s k) (pairAt j) = true) : k + 2 <= s.size := by
 have h1 := (List.isPrefixOf_iff_prefix.1 hp).length_le
 rw [pairAt_len j h, rest_len] at h1
 omega
def pairCells : Array Value := (pairs.map fun l => Value.string ⟨l.toArray⟩).toArray
theorem pairCells_at (j : Nat) (h : j < 9) : pairCells[j]? = some (.string ⟨(pairAt j).toArray⟩) := by
 have : ∀ j : Nat, j < 9 -> pairCells[j]? = some (.string ⟨(pairAt j).toArray⟩) := by
  intro j hj
  match j, hj with
  | 0, _ => rfl
  | 1, _ => rfl
  | 2, _ => rfl
  | 3, _ => rfl
  | 4, _ => rfl
  | 5, _ => rfl
  | 6, _ => rfl
  | 7, _ => rfl
  | 8, _ => rfl
 exact this j h
theorem fields_any (w : World) (n : Nat) (hv : Vars n w) : Calls Tryz.prog 129 #[.string pairText] w fun e w' => e = .returned (.slice (some ⟨w.heap.size, 0, none⟩) 9 9) /\ w' = w.alloc (.cells pairCells 9) := by
 have h := Tryz.strings_Fields pairText w (by decide) (fun j b hj => by
  have : ∀ b ∈ pairText.data.toList, b.toNat < 128 := by decide
  exact this b (List.mem_of_getElem? hj)) hv.tab.1
 rw [fields_pairs] at h
 exact h
theorem head_str (s : ByteArray) (k : Nat) (hk : k < s.size) : (s.extract k s.size).extract 0 1 = ⟨#[s[k]]⟩ := by
 apply ByteArray.ext
 apply Array.ext
 ·simp; omega
 ·intro i h1 h2
  simp at h2
  subst h2
  simp
  rfl
theorem sign_any (B base : Nat) (s : ByteArray) (k : Nat) (v : Value) (ts : List Tok) (w : World) (h : At w B base s k v ts) (hs : s.size <= 65536) (hk : k < s.size) :
  Calls Tryz.prog 113 #[.pointer (some ⟨B, 0, none⟩)] w (Took w B base s v k ts (signT s k)) := by
 obtain ⟨c0, c1, c2⟩ := h.rd.cells
 have H := Lib.hid h
 clear h
 have HFi := Lib.hid (fun (W : World) (ht : Turned (fun _ => False) w W) => fields_any W B (H.out.same ht).vars)
 go_enter Tryz.func113, Tryz.ntmps113
 go_wp2_with fail
 go_quiet (fail)
 have hrs : (s.extract k s.size).size = s.size - k := by simp
 have hrl : (s.extract k s.size).data.toList = rest s k := Lib.extract_to_end s k
 have hr1 := head_str s k hk
 generalize s.extract k s.size = rs at hrs hrl hr1 ⊢
 have hr0 : 1 <= rs.size := by omega
 have HQ := Lib.hid (fun (p : ByteArray) (W : World) => (Tryz.strings_HasPrefix rs p W).mono fun e w' h => (⟨h.1, h.2.symm⟩ : _ /\ W = w'))
 have HO := Lib.hid (fun (W : World) => (Tryz.strings_Contains_one signText s[k] W).mono fun e w' h => (⟨h.1, h.2.symm⟩ : _ /\ W = w'))
 rw [<- hr1] at HO
 rw [hrl] at HQ
 clear hrl
 have HT0 : Hid (Turned (fun _ => False) w (w.drewN nq)) := drewN_turned _ _ _
 generalize hN : w.drewN nq = W at HT0 ⊢
 clear hN
 go_wp2_with (go_at_call 129; refine (HFi.out _ HT0.out).mono ?_; rintro e w' ⟨rfl, rfl⟩)
 have hcell : ∀ j : Nat, j < 9 -> (W.alloc (.cells pairCells 9)).cell? ⟨W.heap.size, j, none⟩ = some (.string ⟨(pairAt j).toArray⟩) := fun j hj => by
  have : (W.alloc (.cells pairCells 9)).heap[W.heap.size]? = some (.cells pairCells 9 (0, 0)) := Array.getElem?_push_size
  unfold World.cell?
  rw [this]
  exact pairCells_at j hj
 have HT : Hid (Turned (fun _ => False) w (W.alloc (.cells pairCells 9))) := HT0.out.alloc _
 have hNs : W.heap.size < (W.alloc (.cells pairCells 9)).heap.size := by simp
 generalize W.alloc (.cells pairCells 9) = W1 at hcell HT hNs ⊢
 generalize W.heap.size = N at hcell hNs ⊢
 obtain ⟨d0, d1, d2⟩ := (H.out.same HT.out).rd.cells
 clear c0 c1 c2 HT0 HFi
 go_loop [18] (fun u => ∃ j : Nat, j <= 9 /\ u = (.int .i64 j) /\ Hid (signL s k (pairs.drop j) = signT s k)) (fun u => 9 - (intOf u).toNat)
 case atStart => exact ⟨0, by omega, rfl, rfl⟩
 case round =>
  obtain ⟨j, hj, rfl, HJ⟩ := hrel
  by_cases hj9 : j < 9
  ·have dc := hcell j hj9
   have HD : Hid (signT s k = if Lib.hasPrefix (rest s k) (pairAt j) then .tok ⟨4, k, ⟨(pairAt j).toArray⟩, 0⟩ (k + 2) else signL s k (pairs.drop (j + 1))) := by
    show _ = _
    rw [<- HJ.out, pairs_drop j hj9]; rfl
   by_cases hp : Lib.hasPrefix (rest s k) (pairAt j) = true
   ·have hfit := pair_fits hj9 hp
    have HF : Hid (signT s k = .tok ⟨4, k, ⟨(pairAt j).toArray⟩, 0⟩ (k + 2)) := by show _ = _; rw [HD.out, if_pos hp]
    have HP := Lib.hid (put_at (H.out.same HT.out) 4 0 ⟨(pairAt j).toArray⟩ (k + 2) (by omega) (by omega) ((k : Int) + 2) (by omega))
    have HX : Hid (∀ W, Calls Tryz.prog 130 #[.string rs, .string ⟨(pairAt j).toArray⟩] W fun e w' => e = .returned (.bool true) /\ W = w') := fun W => by
     have := HQ.out ⟨(pairAt j).toArray⟩ W
     simpa [hp] using this
    clear hp
    go_wp2_with (first | (go_at_call 130; refine (HX.out _).mono ?_; rintro e w' ⟨rfl, rfl⟩) | (go_at_call 86; refine (HP.out.mono ?_); rintro e w6 ⟨rfl, HQ2⟩; have HQ2 := Lib.hid HQ2))
    refine bodyPost_ret (results_tmp2 rfl _ _ _) rfl ?_
    rw [HF.out]
    obtain ⟨v', q1, q2⟩ := HQ2.out
    exact ⟨rfl, v', q1, (Moved.of HT.out).trans q2⟩
   ·have hp' : Lib.hasPrefix (rest s k) (pairAt j) = false := by simpa using hp
    have HE : Hid (signL s k (pairs.drop (j + 1)) = signT s k) := by show _ = _; rw [HD.out, if_neg hp]
    have HX : Hid (∀ W, Calls Tryz.prog 130 #[.string rs, .string ⟨(pairAt j).toArray⟩] W fun e w' => e = .returned (.bool false) /\ W = w') := fun W => by
     have := HQ.out ⟨(pairAt j).toArray⟩ W
     simpa [hp'] using this
    clear hp hp'
    go_wp2_with (go_at_call 130; refine (HX.out _).mono ?_; rintro e w' ⟨rfl, rfl⟩)
    go_round
    case rel => exact ⟨j + 1, by omega, by go_num, HE⟩
    case measure => simp [intOf]; omega
  ·obtain rfl : j = 9 := by omega
   have HD : Hid (signT s k = if 0 <= Lib.indexByte signText.data.toList s[k] then .tok ⟨4, k, ⟨#[s[k]]⟩, 0⟩ (k + 1) else .none) := by
    show _ = _
    rw [<- HJ.out]
    show signL s k [] = _
    unfold signL
    rw [rest_head s k hk]
    rfl
   by_cases hc : 0 <= Lib.indexByte signText.data.toList s[k]
   ·have HF : Hid (signT s k = .tok ⟨4, k, ⟨#[s[k]]⟩, 0⟩ (k + 1)) := by show _ = _; rw [HD.out, if_pos hc]
    have HX : Hid (∀ W, Calls Tryz.prog 131 #[.string signText, .string (rs.extract 0 1)] W fun e w' => e = .returned (.bool true) /\ W = w') := fun W => by simpa [hc] using HO.out W
    have HP : Hid (∀ W, Turned (fun _ => False) w W -> Calls Tryz.prog 86 #[.pointer (some ⟨B, 0, none⟩), .int .i64 4, (.int .i64 ((k : Int) + 1)), .string (rs.extract 0 1), .int .i64 0] W (PutR W B base s (k + 1) (ts ++ [Tok.mk 4 k ⟨#[s[k]]⟩ 0]))) := fun W ht => by
     have := put_at (H.out.same ht) 4 0 ⟨#[s[k]]⟩ (k + 1) (by omega) (by omega) ((k : Int) + 1) (by omega)
     rw [<- hr1] at this ⊢
     exact this
    clear hc hr1
    go_wp2_with (go_at_call 131; refine (HX.out _).mono ?_; rintro e w' ⟨rfl, rfl⟩)
    refine region_tail HT.out 8 (by kernel_rfl) (by kernel_rfl) (fun V hT => ?_)
    obtain ⟨e0, e1, e2⟩ := (H.out.same hT).rd.cells
    have HV := Lib.hid (HP.out V hT)
    have HT2 := Lib.hid hT
    clear hT
    simp only [List.take_succ_cons, List.take_zero, List.drop_succ_cons, List.drop_zero]
    have hw : IntKind.i64.wrap ((k : Int) + 1) = (k : Int) + 1 := IntWalk.i64_in _ (by omega)
    have hx : (1 : Int) <= ((s.size - k : Nat) : Int) := by omega
    repeat still_step
    refine wpStill_nil ?_
    go_wp2_with (go_at_call 86; refine (HV.out.mono ?_); rintro e w6 ⟨rfl, HQ2⟩; have HQ2 := Lib.hid HQ2)
    refine bodyPost_ret (results_tmp2 rfl _ _ _) rfl ?_
    rw [HF.out]
    obtain ⟨v', q1, q2⟩ := HQ2.out
    exact ⟨rfl, v', q1, (Moved.of HT2.out).trans q2⟩
   ·have HF : Hid (signT s k = .none) := by show _ = _; rw [HD.out, if_neg hc]
    have HX : Hid (∀ W, Calls Tryz.prog 131 #[.string signText, .string (rs.extract 0 1)] W fun e w' => e = .returned (.bool false) /\ W = w') := fun W => by simpa [hc] using HO.out W
    clear hc hr1
    go_wp2_with (go_at_call 131; refine (HX.out _).mono ?_; rintro e w' ⟨rfl, rfl⟩)
    refine bodyPost_ret (results_tmp2 rfl _ _ _) rfl ?_
    rw [HF.out]
    exact ⟨rfl, H.out.same HT.out, Moved.of HT.out⟩
def firstT : List TR -> TR
 | [] => .err 26
 | .none :: l => firstT l
 | r :: _ => r
def nextT (s : ByteArray) (k : Nat) : TR := firstT [nameT s k, numT s k, textT s k, signT s k]
theorem textL_fits (k0 : Nat) (t : Tok) (tt : Nat) (l : List UInt8) (j : Nat) (b : List UInt8) (h : textL k0 l j b = .tok t tt) : j < tt /\ tt <= j + l.length := by
 fun_induction textL k0 l j b <;> simp_all <;> omega
theorem firstT_mem {t : Tok} {tt : Nat} : ∀ (l : List TR), firstT l = .tok t tt -> .tok t tt ∈ l
 | [], h => by simp [firstT] at h
 | .none :: l, h => List.mem_cons_of_mem _ (firstT_mem l h)
 | .err c :: l, h => by simp [firstT] at h
 | .tok _ _ :: l, h => by simp [firstT] at h; simp [h]
theorem next_fits {s : ByteArray} {k tt : Nat} {t : Tok} (hk : k < s.size) (h : nextT s k = .tok t tt) : k < tt /\ tt <= s.size := by
 have hto := spanTo_le s k 2 (by omega)
 have hg := spanTo_gt s k hk 2
 rw [<- rest_head s k hk] at hg
 have n1 : ∀ t tt, nameT s k = .tok t tt -> k < tt /\ tt <= s.size := by
  intro t tt h
  unfold nameT at h
  split at h
  ·cases h
  ·split at h
   ·cases h
   ·cases h; exact ⟨hg (by simp at *; omega), hto⟩
 have n2 : ∀ t tt, numT s k = .tok t tt -> k < tt /\ tt <= s.size := by
  intro t tt h
  unfold numT numOf at h
  split at h
  ·cases h
  ·split at h
   ·split at h
    ·cases h
    ·cases h; exact ⟨hg (by simp at *; omega), hto⟩
   ·cases h
 have n3 : ∀ t tt, textT s k = .tok t tt -> k < tt /\ tt <= s.size := by
  intro t tt h
  unfold textT at h
  split at h
  ·cases h
  ·have := textL_fits _ _ _ _ _ _ h
   rw [rest_len] at this
   omega
 have n4 : ∀ t tt, signT s k = .tok t tt -> k < tt /\ tt <= s.size := by
  intro t tt h
  have gen : ∀ (n : Nat) (j : Nat), n + j = 9 -> signL s k (pairs.drop j) = .tok t tt -> k < tt /\ tt <= s.size := by
   intro n
   induction n with
   | zero =>
    intro j hj h
    obtain rfl : j = 9 := by omega
    simp only [show pairs.drop 9 = [] from rfl, signL] at h
    split at h
    ·cases h; omega
    ·cases h
   | succ n ih =>
    intro j hj h
    rw [pairs_drop j (by omega)] at h
    simp only [signL] at h
    split at h
    ·rename_i hp
     have := pair_fits (by omega) hp
     cases h; omega
    ·exact ih (j + 1) (by omega) h
  exact gen 9 0 rfl h
 have hm := firstT_mem _ h
 simp only [List.mem_cons, List.not_mem_nil, or_false] at hm
 rcases hm with hm | hm | hm | hm
 ·exact n1 _ _ hm.symm
 ·exact n2 _ _ hm.symm
 ·exact n3 _ _ hm.symm
 ·exact n4 _ _ hm.symm
theorem Took.of_none {w w' : World} {B base : Nat} {s : ByteArray} {v : Value} {k : Nat} {ts : List Tok} {r : TR} {e : Ending} (h : Took w B base s v k ts r e w') (hr : r = .none) : e = .returned (.tuple #[.bool false, .int .i64 0]) /\ Hid (At w' B base s k v ts /\ Moved B base w w') := by
 subst hr; exact h
theorem Took.of_err {w w' : World} {B base : Nat} {s : ByteArray} {v : Value} {k : Nat} {ts : List Tok} {r : TR} {e : Ending} {c : Int} (h : Took w B base s v k ts r e w') (hr : r = .err c) : e = .returned (.tuple #[.bool true, .int .i64 c]) /\ Hid (At w' B base s k v ts /\ Moved B base w w') := by
 subst hr; exact h
theorem Took.of_tok {w w' : World} {B base : Nat} {s : ByteArray} {v : Value} {k : Nat} {ts : List Tok} {r : TR} {e : Ending} {t : Tok} {tt : Nat} (h : Took w B base s v k ts r e w') (hr : r = .tok t tt) : e = .returned (.tuple #[.bool true, .int .i64 0]) /\ Hid (∃ v', At w' B base s tt v' (ts ++ [t]) /\ Moved B base w w') := by
 subst hr; exact h
def NextR (w : World) (B base : Nat) (s : ByteArray) (v : Value) (k : Nat) (ts : List Tok) (r : TR) (e : Ending) (w' : World) : Prop :=
 match r with
 | .none => False
 | .err c => e = .returned (.int .i64 c) /\ At w' B base s k v ts /\ Moved B base w w'
 | .tok t tt => e = .returned (.int .i64 0) /\ ∃ v', At w' B base s tt v' (ts ++ [t]) /\ Moved B base w w'
def readers : Array Value := #[.func (.func 110) #[] #[], .func (.func 111) #[] #[], .func (.func 112) #[] #[], .func (.func 113) #[] #[]]
theorem reader_at0 (w : World) : (Instr.index 186 (.agg readers) (.int .i64 0)).run Tryz.prog w = .ok (.func (.func 110) #[] #[]) w := by kernel_rfl
theorem reader_at1 (w : World) : (Instr.index 186 (.agg readers) (.int .i64 1)).run Tryz.prog w = .ok (.func (.func 111) #[] #[]) w := by kernel_rfl
theorem reader_at2 (w : World) : (Instr.index 186 (.agg readers) (.int .i64 2)).run Tryz.prog w = .ok (.func (.func 112) #[] #[]) w := by kernel_rfl
theorem reader_at3 (w : World) : (Instr.index 186 (.agg readers) (.int .i64 3)).run Tryz.prog w = .ok (.func (.func 113) #[] #[]) w := by kernel_rfl
theorem wpList_index {P : Program} {ops : Array Oper} {rest : List Oper} {o : Oper} {a : Act} {Q : Exit -> Act -> World -> Prop} {w : World} (hg : o.guard = none) (t : TypeId) (x ix : Operand) (hop : o.op = .index t x ix) (xs iv v : Value) (hx : a.eval x = xs) (hi : a.eval ix = iv) (hrun : (Instr.index t xs iv).run P w = .ok v w) (hK : wpList P ops Q rest (a.put o.dst v) w) : wpList P ops Q (o :: rest) a w := by
 refine wpList_plain hg fun K hK' => ?_
 unfold Oper.wp
 simp [execOp, hop, hx, hi, hrun, Result.andThen]
 exact hK' _ _ hK
def NS (w : World) (B base : Nat) (s : ByteArray) (v : Value) (k : Nat) (ts : List Tok) (l : List TR) (wr : World) : Prop := At wr B base s k v ts /\ Moved B base w wr /\ firstT l = nextT s k
theorem NS.step {w wr w' : World} {B base : Nat} {s : ByteArray} {v : Value} {k : Nat} {ts : List Tok} {l : List TR} {r : TR} (h : NS w B base s v k ts (r :: l) wr) (hr : r = .none) (h2 : Hid (At w' B base s k v ts /\ Moved B base wr w')) : NS w B base s v k ts l w' := by
 subst hr; exact ⟨h2.out.1, h.2.1.trans h2.out.2, h.2.2⟩
theorem next_any (B base : Nat) (s : ByteArray) (k : Nat) (v : Value) (ts : List Tok) (w : World) (h : At w B base s k v ts) (hs : s.size <= 65536) (hk : k < s.size) :
  Calls Tryz.prog 85 #[.pointer (some ⟨B, 0, none⟩)] w (NextR w B base s v k ts (nextT s k)) := by
 have H0 : Hid (NS w B base s v k ts [nameT s k, numT s k, textT s k, signT s k] w) := ⟨h, Turned.refl _ _, rfl⟩
 clear h
 go_enter Tryz.func85, Tryz.ntmps85
 go_wp2_with fail
 go_loopw [8] (fun i wr => i = (.int .i64 0) /\ Hid (NS w B base s v k ts [nameT s k, numT s k, textT s k, signT s k] wr) \/ i = (.int .i64 1) /\ Hid (NS w B base s v k ts [numT s k, textT s k, signT s k] wr)
  \/ i = (.int .i64 2) /\ Hid (NS w B base s v k ts [textT s k, signT s k] wr) \/ i = (.int .i64 3) /\ Hid (NS w B base s v k ts [signT s k] wr) \/ i = (.int .i64 4) /\ Hid (NS w B base s v k ts [] wr)) (fun i _ => 4 - (intOf i).toNat)
 case atStart => exact .inl ⟨rfl, H0⟩
 case round =>
  clear H0
  rcases hrel with ⟨rfl, HS⟩ | ⟨rfl, HS⟩ | ⟨rfl, HS⟩ | ⟨rfl, HS⟩ | ⟨rfl, HS⟩
  ·have HC := Lib.hid (name_any B base s k v ts wr HS.out.1 hs hk)
   cases hT : nameT s k with
   | none =>
    go_wp2_with (first | refine wpList_index rfl 186 (.tmp 7) (.tmp 8) rfl (.agg readers) (.int .i64 0) _ rfl rfl (reader_at0 _) ?_ | (go_at_call 110; refine HC.out.mono ?_; intro e w7 hr; obtain ⟨rfl, HA⟩ := hr.of_none hT; clear hr))
    go_roundw
    case rel => exact .inr (.inl ⟨by first | rfl | go_num, NS.step HS.out hT HA⟩)
    case measure => simp [intOf]
   | err c =>
    have HE : Hid (nextT s k = .err c) := by show _ = _; rw [<- HS.out.2.2, hT]; rfl
    go_wp2_with (first | refine wpList_index rfl 186 (.tmp 7) (.tmp 8) rfl (.agg readers) (.int .i64 0) _ rfl rfl (reader_at0 _) ?_ | (go_at_call 110; refine HC.out.mono ?_; intro e w7 hr; obtain ⟨rfl, HA⟩ := hr.of_err hT; clear hr))
    go_ret
    rw [HE.out]
    exact ⟨rfl, HA.out.1, HS.out.2.1.trans HA.out.2⟩
   | tok t tt =>
    have HE : Hid (nextT s k = .tok t tt) := by show _ = _; rw [<- HS.out.2.2, hT]; rfl
    go_wp2_with (first | refine wpList_index rfl 186 (.tmp 7) (.tmp 8) rfl (.agg readers) (.int .i64 0) _ rfl rfl (reader_at0 _) ?_ | (go_at_call 110; refine HC.out.mono ?_; intro e w7 hr; obtain ⟨rfl, HA⟩ := hr.of_tok hT; clear hr))
    go_ret
    rw [HE.out]
    obtain ⟨v', q1, q2⟩ := HA.out
    exact ⟨rfl, v', q1, HS.out.2.1.trans q2⟩
  ·have HC := Lib.hid (number_any B base s k v ts wr HS.out.1 hs hk)
   cases hT : numT s k with
   | none =>
    go_wp2_with (first | refine wpList_index rfl 186 (.tmp 7) (.tmp 8) rfl (.agg readers) (.int .i64 1) _ rfl rfl (reader_at1 _) ?_ | (go_at_call 111; refine HC.out.mono ?_; intro e w7 hr; obtain ⟨rfl, HA⟩ := hr.of_none hT; clear hr))
    go_roundw
    case rel => exact .inr (.inr (.inl ⟨by first | rfl | go_num, NS.step HS.out hT HA⟩))
    case measure => simp [intOf]
   | err c =>
    have HE : Hid (nextT s k = .err c) := by show _ = _; rw [<- HS.out.2.2, hT]; rfl
    go_wp2_with (first | refine wpList_index rfl 186 (.tmp 7) (.tmp 8) rfl (.agg readers) (.int .i64 1) _ rfl rfl (reader_at1 _) ?_ | (go_at_call 111; refine HC.out.mono ?_; intro e w7 hr; obtain ⟨rfl, HA⟩ := hr.of_err hT; clear hr))
    go_ret
    rw [HE.out]
    exact ⟨rfl, HA.out.1, HS.out.2.1.trans HA.out.2⟩
   | tok t tt =>
    have HE : Hid (nextT s k = .tok t tt) := by show _ = _; rw [<- HS.out.2.2, hT]; rfl
    go_wp2_with (first | refine wpList_index rfl 186 (.tmp 7) (.tmp 8) rfl (.agg readers) (.int .i64 1) _ rfl rfl (reader_at1 _) ?_ | (go_at_call 111; refine HC.out.mono ?_; intro e w7 hr; obtain ⟨rfl, HA⟩ := hr.of_tok hT; clear hr))
    go_ret
    rw [HE.out]
    obtain ⟨v', q1, q2⟩ := HA.out
    exact ⟨rfl, v', q1, HS.out.2.1.trans q2⟩
  ·have HC := Lib.hid (text_any B base s k v ts wr HS.out.1 hs hk)
   cases hT : textT s k with
   | none =>
    go_wp2_with (first | refine wpList_index rfl 186 (.tmp 7) (.tmp 8) rfl (.agg readers) (.int .i64 2) _ rfl rfl (reader_at2 _) ?_ | (go_at_call 112; refine HC.out.mono ?_; intro e w7 hr; obtain ⟨rfl, HA⟩ := hr.of_none hT; clear hr))
    go_roundw
    case rel => exact .inr (.inr (.inr (.inl ⟨by first | rfl | go_num, NS.step HS.out hT HA⟩)))
    case measure => simp [intOf]
   | err c =>
    have HE : Hid (nextT s k = .err c) := by show _ = _; rw [<- HS.out.2.2, hT]; rfl
    go_wp2_with (first | refine wpList_index rfl 186 (.tmp 7) (.tmp 8) rfl (.agg readers) (.int .i64 2) _ rfl rfl (reader_at2 _) ?_ | (go_at_call 112; refine HC.out.mono ?_; intro e w7 hr; obtain ⟨rfl, HA⟩ := hr.of_err hT; clear hr))
    go_ret
    rw [HE.out]
    exact ⟨rfl, HA.out.1, HS.out.2.1.trans HA.out.2⟩
   | tok t tt =>
    have HE : Hid (nextT s k = .tok t tt) := by show _ = _; rw [<- HS.out.2.2, hT]; rfl
    go_wp2_with (first | refine wpList_index rfl 186 (.tmp 7) (.tmp 8) rfl (.agg readers) (.int .i64 2) _ rfl rfl (reader_at2 _) ?_ | (go_at_call 112; refine HC.out.mono ?_; intro e w7 hr; obtain ⟨rfl, HA⟩ := hr.of_tok hT; clear hr))
    go_ret
    rw [HE.out]
    obtain ⟨v', q1, q2⟩ := HA.out
    exact ⟨rfl, v', q1, HS.out.2.1.trans q2⟩
  ·have HC := Lib.hid (sign_any B base s k v ts wr HS.out.1 hs hk)
   cases hT : signT s k with
   | none =>
    go_wp2_with (first | refine wpList_index rfl 186 (.tmp 7) (.tmp 8) rfl (.agg readers) (.int .i64 3) _ rfl rfl (reader_at3 _) ?_ | (go_at_call 113; refine HC.out.mono ?_; intro e w7 hr; obtain ⟨rfl, HA⟩ := hr.of_none hT; clear hr))
    go_roundw
    case rel => exact .inr (.inr (.inr (.inr (⟨by first | rfl | go_num, NS.step HS.out hT HA⟩))))
    case measure => simp [intOf]
   | err c =>
    have HE : Hid (nextT s k = .err c) := by show _ = _; rw [<- HS.out.2.2, hT]; rfl
    go_wp2_with (first | refine wpList_index rfl 186 (.tmp 7) (.tmp 8) rfl (.agg readers) (.int .i64 3) _ rfl rfl (reader_at3 _) ?_ | (go_at_call 113; refine HC.out.mono ?_; intro e w7 hr; obtain ⟨rfl, HA⟩ := hr.of_err hT; clear hr))
    go_ret
    rw [HE.out]
    exact ⟨rfl, HA.out.1, HS.out.2.1.trans HA.out.2⟩
   | tok t tt =>
    have HE : Hid (nextT s k = .tok t tt) := by show _ = _; rw [<- HS.out.2.2, hT]; rfl
    go_wp2_with (first | refine wpList_index rfl 186 (.tmp 7) (.tmp 8) rfl (.agg readers) (.int .i64 3) _ rfl rfl (reader_at3 _) ?_ | (go_at_call 113; refine HC.out.mono ?_; intro e w7 hr; obtain ⟨rfl, HA⟩ := hr.of_tok hT; clear hr))
    go_ret
    rw [HE.out]
    obtain ⟨v', q1, q2⟩ := HA.out
    exact ⟨rfl, v', q1, HS.out.2.1.trans q2⟩
  ·have HE : Hid (nextT s k = .err 26) := by show _ = _; rw [<- HS.out.2.2]; rfl
   go_wp2_with fail
   go_ret
   rw [HE.out]
   exact ⟨rfl, HS.out.1, HS.out.2.1⟩
inductive LR where
 | ok (ts : List Tok)
 | err (at_ : Nat) (c : Int)
def endTok (s : ByteArray) : Tok := ⟨5, s.size, ⟨#[]⟩, 0⟩
def lexF (s : ByteArray) : Nat -> Nat -> List Tok -> LR
 | 0, k, _ => .err k 26
 | n + 1, k, ts =>
  if k < s.size then
   match nextT s k with
   | .tok t tt => lexF s n (blankTo s tt) (ts ++ [t])
   | .err c => .err k c
   | .none => .err k 26
  else .ok (ts ++ [endTok s])
def tokensP (s : ByteArray) : LR := if 65536 < s.size then .err 0 2 else lexF s (s.size + 1) (blankTo s 0) []
def TokensR (w : World) (_s : ByteArray) (r : LR) (e : Ending) (w' : World) : Prop :=
 match r with
 | .err k c => e = .returned (.tuple #[.slice none 0 0, .agg #[.int .i64 k, .int .i64 c]]) /\ Turned (fun _ => False) w w'
 | .ok ts => ∃ v, e = .returned (.tuple #[v, .agg #[.int .i64 0, .int .i64 0]]) /\ w'.ownsRow w.heap.size 68 4 v ts.length (ts.flatMap tokV) /\ Turned (fun _ => False) w w'
structure TL (w : World) (s : ByteArray) (k : Nat) (v : Value) (ts : List Tok) (f : Nat) (wr : World) : Prop where
 at_ : At wr (w.heap.size + 1) (w.heap.size + 2) s k v ts
 le : k <= s.size
 fuel : s.size < k + f
 eq : lexF s f k ts = tokensP s
 cell : wr.heap[w.heap.size]? = some (.cells #[.int .i64 0, .int .i64 0] 26 (0, 0))
 tur : Turned (fun j => w.heap.size <= j) w wr
theorem skip_at {w wr : World} {s : ByteArray} {k : Nat} {v : Value} {ts : List Tok} {f : Nat} (hs : s.size <= 65536) (hA : At wr (w.heap.size + 1) (w.heap.size + 2) s k v ts) (hk : k <= s.size) (hf : s.size < blankTo s k + f) (he : lexF s f (blankTo s k) ts = tokensP s)
  (hc : wr.heap[w.heap.size]? = some (.cells #[.int .i64 0, .int .i64 0] 26 (0, 0))) (ht : Turned (fun j => w.heap.size <= j) w wr) :
  Calls Tryz.prog 84 #[.pointer (some ⟨w.heap.size + 1, 0, none⟩)] wr fun e w' => e = .returned (.tuple #[]) /\ Hid (TL w s (blankTo s k) v ts f w') := by
 refine (skip_any _ s k v wr hA.rd (by omega) hk).mono ?_
 rintro e w' ⟨rfl, h1, h2⟩
 have hlt := getElem?_lt hA.rd
 refine ⟨rfl, ⟨⟨h1, ownsRow_turned' h2 (fun g hg he => ?_) hA.own, hA.lt, Nat.le_trans hA.le h2.size, Nat.le_trans hA.len (blankTo_ge s k), hA.vars.turned h2 fun g hg he => by omega⟩, blankTo_le s k hk, hf, he, ?_, ht.trans (h2.mono fun j hj => by omega)⟩⟩
 ·have := (ownsRow_block hA.own g hg).1
  omega
 ·rw [h2.block _ (by omega) (by omega)]; exact hc
theorem TL.next {w wr : World} {s : ByteArray} {k : Nat} {v : Value} {ts : List Tok} {f : Nat} (hs : s.size <= 65536) (h : TL w s k v ts f wr) (hk : k < s.size) {t : Tok} {tt : Nat} {v' : Value} {w' : World} (hn : nextT s k = .tok t tt) (hA : At w' (w.heap.size + 1) (w.heap.size + 2) s tt v' (ts ++ [t])) (hM : Moved (w.heap.size + 1) (w.heap.size + 2) wr w') :
  Hid (∃ f', Calls Tryz.prog 84 #[.pointer (some ⟨w.heap.size + 1, 0, none⟩)] w' fun e w2 => e = .returned (.tuple #[]) /\ Hid (TL w s (blankTo s tt) v' (ts ++ [t]) f' w2)) := by
 obtain ⟨hg, hle⟩ := next_fits hk hn
 have hfu := h.fuel
 have hge := blankTo_ge s tt
 have hlt := getElem?_lt h.cell
 obtain ⟨f', rfl⟩ : ∃ f', f = f' + 1 := ⟨f - 1, by have := h.le; omega⟩
 refine ⟨f', skip_at hs hA hle (by omega) ?_ ?_ (h.tur.trans (hM.mono fun j hj => by omega))⟩
 ·rw [<- h.eq]
  conv => rhs; unfold lexF
  rw [if_pos hk, hn]
 ·rw [hM.block _ hlt (by omega)]; exact h.cell
theorem problem_size : (Tryz.prog.info? 26).map (·.size) = some 2 := by kernel_rfl
theorem results_tokens (tmps : Array Value) (w : World) (g : Nat) (x y v : Value) (h2 : tmps.getD 2 undef = v) (hp : tmps.getD 3 undef = .pointer (some ⟨g, 0, none⟩)) (hg : w.heap[g]? = some (.cells #[x, y] 26 (0, 0))) :
  (results Tryz.f49 tmps).run Tryz.prog w = .ok (.tuple #[v, .agg #[x, y]]) w := by
 have hp' : tmps[3]?.getD undef = .pointer (some ⟨g, 0, none⟩) := by simpa using hp
 have h2' : tmps[2]?.getD undef = v := by simpa using h2
 simp [results, hp', h2', asAddr, run_loadVar_row w g 26 26 #[x, y] (0, 0) _ hg Tryz.underlying26 rfl problem_size]
theorem two_cells {V : World} {N : Nat} {a b : Value} {t : TypeId} (h : V.heap[N]? = some (.cells #[a, b] t (0, 0))) : V.cell? ⟨N, 0, none⟩ = some a /\ V.cell? ⟨N, 1, none⟩ = some b /\ V.frozen? ⟨N, 0, none⟩ = false /\ V.frozen? ⟨N, 1, none⟩ = false := by
 simp [World.cell?, World.frozen?, h]
theorem two_set {V : World} {N : Nat} {a b x y : Value} {t : TypeId} (h : V.heap[N]? = some (.cells #[a, b] t (0, 0))) : ((V.setCell ⟨N, 0, none⟩ x).setCell ⟨N, 1, none⟩ y).heap[N]? = some (.cells #[x, y] t (0, 0)) := by
 simp [World.setCell, Array.getElem?_modify, h]
theorem two_turned {C : Nat -> Prop} {W V : World} {N : Nat} {x y : Value} (h : Turned C W V) (hN : C N) : Turned C W ((V.setCell ⟨N, 0, none⟩ x).setCell ⟨N, 1, none⟩ y) := (h.setCell (p := ⟨N, 0, none⟩) hN x).setCell (p := ⟨N, 1, none⟩) hN y
theorem Vars.mono {n m : Nat} {w : World} (h : Vars n w) (hm : n <= m) : Vars m w := by
 obtain ⟨⟨a, b, h1⟩, ⟨c, d, h2⟩, h3⟩ := h
 exact ⟨⟨a, b, h1.1, fun g hg => Nat.lt_of_lt_of_le (h1.2 g hg) hm⟩, ⟨c, d, h2.1, fun g hg => Nat.lt_of_lt_of_le (h2.2 g hg) hm⟩, h3.1, fun g hg => Nat.lt_of_lt_of_le (h3.2 g hg) hm⟩
theorem textL_errs (k0 : Nat) (c : Int) (l : List UInt8) (j : Nat) (b : List UInt8) (h : textL k0 l j b = .err c) : c ≠ 0 := by
 fun_induction textL k0 l j b <;> simp_all <;> omega
theorem next_errs {s : ByteArray} {k : Nat} {c : Int} (h : nextT s k = .err c) : c ≠ 0 := by
 have gen : ∀ l : List TR, firstT l = .err c -> (∀ d, TR.err d ∈ l -> d ≠ 0) -> c ≠ 0 := by
  intro l
  induction l with
  | nil => intro h _; simp [firstT] at h; omega
  | cons r l ih =>
   intro h hl
   cases r with
   | none => exact ih h fun d hd => hl d (List.mem_cons_of_mem _ hd)
   | err d => simp [firstT] at h; subst h; exact hl d (List.mem_cons_self ..)
   | tok t tt => simp [firstT] at h
 refine gen _ h fun d hm => ?_
 simp only [List.mem_cons, List.not_mem_nil, or_false] at hm
 rcases hm with hm | hm | hm | hm
 ·unfold nameT at hm
  split at hm
  ·cases hm
  ·split at hm
   ·cases hm; decide
   ·cases hm
 ·unfold numT numOf at hm
  split at hm
  ·cases hm
  ·split at hm
   ·split at hm
    ·cases hm; decide
    ·cases hm
   ·cases hm; decide
 ·unfold textT at hm
  split at hm
  ·cases hm
  ·exact textL_errs _ _ _ _ _ hm.symm
 ·have gs : ∀ l, signL s k l ≠ .err d := by
   intro l
   induction l with
   | nil => unfold signL; split <;> simp
   | cons p l ih => unfold signL; split <;> simp [ih]
  exact absurd hm.symm (gs _)
theorem TL.meas {w wr : World} {s : ByteArray} {k : Nat} {v : Value} {ts : List Tok} {f : Nat} (h : TL w s k v ts f wr) : intOf ((wr.cell? ⟨w.heap.size + 1, 1, none⟩).getD undef) = k := by
 rw [h.at_.rd.cells.2.1]; rfl
theorem lexF_ok {s : ByteArray} {k f : Nat} {ts : List Tok} (h : s.size < k + f) (hk : k = s.size) : lexF s f k ts = .ok (ts ++ [endTok s]) := by
 obtain ⟨f', rfl⟩ : ∃ f', f = f' + 1 := ⟨f - 1, by omega⟩
 unfold lexF; rw [if_neg (by omega)]
theorem lexF_err {s : ByteArray} {k f : Nat} {ts : List Tok} {c : Int} (h : s.size < k + f) (hk : k < s.size) (hn : nextT s k = .err c) : lexF s f k ts = .err k c := by
 obtain ⟨f', rfl⟩ : ∃ f', f = f' + 1 := ⟨f - 1, by omega⟩
 unfold lexF; rw [if_pos hk, hn]
theorem tokens_any (s : ByteArray) (w : World) (hv : Vars w.heap.size w) : Calls Tryz.prog 49 #[.string s] w (TokensR w s (tokensP s)) := by
 go_enter Tryz.func49, Tryz.ntmps49
 by_cases hbig : 65536 < s.size
 ·have HF : Hid (tokensP s = .err 0 2) := by show _ = _; unfold tokensP; rw [if_pos hbig]
  go_wp2_with fail
  refine bodyPost_ret (results_tokens _ _ w.heap.size (.int .i64 0) (.int .i64 2) _ rfl rfl (heap_alloc_new _ _)) rfl ?_
  rw [HF.out]
  exact ⟨rfl, (Turned.refl _ _).alloc _⟩
 ·have hs : s.size <= 65536 := by omega
  have HE : Hid (lexF s (s.size + 1) (blankTo s 0) [] = tokensP s) := by show _ = _; unfold tokensP; rw [if_neg hbig]
  have HK : Hid (Calls Tryz.prog 84 #[.pointer (some ⟨w.heap.size + 1, 0, none⟩)] ((w.alloc (.cells #[.int .i64 0, .int .i64 0] 26)).alloc (.cells #[.string s, .int .i64 0, .slice none 0 0] 146)) fun e w' => e = .returned (.tuple #[]) /\ Hid (TL w s (blankTo s 0) (.slice none 0 0) [] (s.size + 1) w')) := by
   have ht : Turned (fun j => w.heap.size <= j) w ((w.alloc (.cells #[.int .i64 0, .int .i64 0] 26)).alloc (.cells #[.string s, .int .i64 0, .slice none 0 0] 146)) := ((Turned.refl _ _).alloc _).alloc _
   refine skip_at hs ⟨?_, ⟨rfl, .inl ⟨rfl, rfl⟩⟩, by omega, by simp, by simp, (hv.turned ht fun g hg => by omega).mono (by omega)⟩ (by omega) (by have := blankTo_ge s 0; omega) HE.out ?_ ht
   ·have := heap_alloc_new (w.alloc (.cells #[.int .i64 0, .int .i64 0] 26)) (.cells #[.string s, .int .i64 0, .slice none 0 0] 146)
    rw [show (w.alloc (.cells #[.int .i64 0, .int .i64 0] 26)).heap.size = w.heap.size + 1 by simp] at this
    exact this
   ·rw [hao _ _ (by simp)]
    exact heap_alloc_new _ _
  clear HE
  go_wp2_with (go_at_call 84; refine HK.out.mono ?_; rintro e w1 ⟨rfl, HL⟩)
  clear HK
  go_loopw [5] (fun _ wr => ∃ (k : Nat) (v : Value) (ts : List Tok) (f : Nat), Hid (TL w s k v ts f wr)) (fun _ wr => s.size - (intOf ((wr.cell? ⟨w.heap.size + 1, 1, none⟩).getD undef)).toNat)
  case atStart => exact ⟨_, _, _, _, HL⟩
  case round =>
   clear HL w1
   obtain ⟨k, v, ts, f, HL⟩ := hrel
   obtain ⟨c0, c1, c2⟩ := HL.out.at_.rd.cells
   have hle := HL.out.le
   have HM : Hid (intOf ((wr.cell? ⟨w.heap.size + 1, 1, none⟩).getD undef) = k) := HL.out.meas
   by_cases hk : k < s.size
   ·have HC := Lib.hid (next_any _ _ s k v ts wr HL.out.at_ hs hk)
    cases hT : nextT s k with
    | none =>
     go_wp2_with (go_at_call 85; refine HC.out.mono ?_; intro e w7 hr; rw [hT] at hr; exact hr.elim)
    | err c =>
     have hc0 : (c != 0) = true := by simpa using next_errs hT
     have HF : Hid (tokensP s = .err k c) := by show _ = _; rw [<- HL.out.eq, lexF_err HL.out.fuel hk hT]
     go_wp2_with (go_at_call 85; refine HC.out.mono ?_; intro e w7 hr; rw [hT] at hr; obtain ⟨rfl, hA, hM⟩ := hr; have HA := Lib.hid hA; have HMo := Lib.hid hM; clear hA hM)
     refine region_tail (w := w7) (Turned.refl _ _) 7 (by kernel_rfl) (by kernel_rfl) (fun V hT => ?_)
     obtain ⟨d0, d1, d2⟩ := (HA.out.same hT).rd.cells
     have HT2 := Lib.hid hT
     have hcV : V.heap[w.heap.size]? = some (.cells #[.int .i64 0, .int .i64 0] 26 (0, 0)) := by
      have h7 := HMo.out.block w.heap.size (getElem?_lt HL.out.cell) (by omega)
      rw [hT.block _ (by have := HMo.out.size; have := getElem?_lt HL.out.cell; omega) id, h7]
      exact HL.out.cell
     obtain ⟨x0, x1, x2, x3⟩ := two_cells hcV
     have HcV := Lib.hid hcV
     clear hT c0 c1 c2 hcV
     simp only [List.take_succ_cons, List.take_zero, List.drop_succ_cons, List.drop_zero]
     repeat still_step
     refine wpStill_nil ?_
     go_wp2_with fail
     refine bodyPost_ret (results_tokens _ _ w.heap.size (.int .i64 k) (.int .i64 c) _ rfl rfl (two_set HcV.out)) rfl ?_
     rw [HF.out]
     exact ⟨rfl, (two_turned (HL.out.tur.trans ((HMo.out.mono fun j hj => (by omega)).trans (HT2.out.mono fun _ h => h.elim))) (Nat.le_refl _)).strip⟩
    | tok t tt =>
     have HN := Lib.hid (fun (v' : Value) (w' : World) (hA : At w' (w.heap.size + 1) (w.heap.size + 2) s tt v' (ts ++ [t])) hM => TL.next hs HL.out hk hT hA hM)
     have hft := next_fits hk hT
     go_wp2_with (first | (go_at_call 85; refine HC.out.mono ?_; intro e w7 hr; rw [hT] at hr; obtain ⟨rfl, v', hA, hM⟩ := hr; obtain ⟨f', HSk⟩ := (HN.out v' w7 hA hM).out; clear hA hM) | (go_at_call 84; refine HSk.mono ?_; rintro e w2 ⟨rfl, HL2⟩))
     refine ⟨?_, ?measure⟩
     case measure => rw [HL2.out.meas, HM.out]; have := blankTo_ge s tt; have := HL2.out.le; omega
     repeat apply Exists.intro
     exact HL2
   ·obtain rfl : k = s.size := by omega
    have HF : Hid (tokensP s = .ok (ts ++ [endTok s])) := by show _ = _; rw [<- HL.out.eq, lexF_ok HL.out.fuel rfl]
    have HP := Lib.hid (put_any (w.heap.size + 1) (w.heap.size + 2) s s.size 5 s.size 0 ⟨#[]⟩ v ts wr HL.out.at_.rd HL.out.at_.own HL.out.at_.lt HL.out.at_.le (by have := HL.out.at_.len; omega))
    go_wp2_with (go_at_call 86; refine HP.out.mono ?_; rintro e w6 ⟨rfl, v', hR', hO', hT'⟩; obtain ⟨d0, d1, d2⟩ := hR'.cells; have HO' := Lib.hid hO'; have HT' := Lib.hid hT'; have hcV : w6.heap[w.heap.size]? = some (.cells #[.int .i64 0, .int .i64 0] 26 (0, 0)) := (hT'.block _ (getElem?_lt HL.out.cell) (by omega)).trans HL.out.cell; obtain ⟨x0, x1, x2, x3⟩ := two_cells hcV; have HcV := Lib.hid hcV; clear hR' hO' hT' c0 c1 c2 hcV)
    refine bodyPost_ret (results_tokens _ _ w.heap.size (.int .i64 0) (.int .i64 0) _ rfl rfl (two_set HcV.out)) rfl ?_
    rw [HF.out]
    refine ⟨v', rfl, ?_, (two_turned (HL.out.tur.trans (HT'.out.mono fun j hj => (by omega))) (Nat.le_refl _)).strip⟩
    have h1 := ownsRow_turned' (C := fun j => j = w.heap.size) (two_turned (x := (.int .i64 0)) (y := (.int .i64 0)) (Turned.refl _ w6) rfl) (fun g hg he => by have := (ownsRow_block HO'.out g hg).1; omega) HO'.out
    exact ownsRow_lower h1 fun g hg => by have := (ownsRow_block HO'.out g hg).1; omega
def ToksAt (W : World) (b o : Nat) (ts : List Tok) : Prop := b < W.heap.size /\ ∀ (j : Nat) (t : Tok), ts[j]? = some t ->
 W.cell? ⟨b, o + j * 4, none⟩ = some (.int .i64 t.kind) /\ W.cell? ⟨b, o + j * 4 + 1, none⟩ = some (.int .i64 t.at_) /\ W.cell? ⟨b, o + j * 4 + 2, none⟩ = some (.string t.s) /\ W.cell? ⟨b, o + j * 4 + 3, none⟩ = some (.int .i64 t.n)
theorem ToksAt.turned {W W' : World} {b o : Nat} {ts : List Tok} (h : ToksAt W b o ts) (ht : Turned (fun _ => False) W W') : ToksAt W' b o ts := by
 refine ⟨Nat.lt_of_lt_of_le h.1 ht.size, fun j t hj => ?_⟩
 have hc := fun i => ht.cell (p := ⟨b, i, none⟩) h.1 id
 rw [hc, hc, hc, hc]
 exact h.2 j t hj
theorem itoa_any (n : Int) (h0 : -9223372036854775808 <= n) (h1 : n <= 9223372036854775807) (w : World) (htab : Lib.TabIs Tryz.prog w "internal/strconv.uint64pow10" .u64 Lib.pow10Tab) : Calls Tryz.prog 70 #[.int .i64 n] w fun e w' => e = .returned (.string ⟨(Lib.itoa n).toArray⟩) /\ Turned (fun _ => False) w w' := by
 refine (Tryz.strconv_Itoa n h0 h1 w htab).mono ?_
 rintro e w' ⟨rfl, k, os, rfl⟩
 refine ⟨rfl, Turned.of_new ?_⟩
 exact Lib.below_grow _ _ (Nat.le_refl _) _ _
theorem infoStr : (Tryz.prog.info? 9).map (fun i => (i.zero, i.size, i.bytes)) = some (some (.string ⟨#[]⟩), 1, 16) := by kernel_rfl
structure XS (w : World) (ws : List ByteArray) (v : Value) (wr : World) : Prop where
 own : wr.ownsRow w.heap.size 9 1 v ws.length (ws.map Value.string)
 tur : Turned (fun i => w.heap.size <= i) w wr
theorem XS.ownT {w wr wr' : World} {v : Value} {ws : List ByteArray} (h : XS w ws v wr) (ht : Turned (fun _ => False) wr wr') : wr'.ownsRow w.heap.size 9 1 v ws.length (ws.map Value.string) := ownsRow_turned' ht (fun _ _ => id) h.own
theorem XS.push {w wr wa w4 : World} {v v' : Value} {ws : List ByteArray} (h : XS w ws v wr) (ha : Turned (fun _ => False) wr wa) (x : ByteArray) (hown' : w4.ownsRow w.heap.size 9 1 v' (ws.length + 1) (ws.map Value.string ++ [.string x])) (hgrow : wa.grownBy w4 v.ownBlock) : XS w (ws ++ [x]) v' w4 := by
 refine ⟨by simpa using hown', ?_⟩
 have hb := ownsRow_block h.own
 exact (h.tur.trans (ha.mono fun _ h => h.elim)).trans (Turned.of_grown hgrow fun g hgr => (hb g hgr).1)
theorem XS.stay {w wr wa : World} {v : Value} {ws : List ByteArray} (h : XS w ws v wr) (ha : Turned (fun _ => False) wr wa) : XS w ws v wa := ⟨h.ownT ha, h.tur.trans (ha.mono fun _ h => h.elim)⟩
theorem cell_one_at {w : World} {x : Value} {t : TypeId} {n : Nat} (hn : w.heap.size = n) : ∀ j u, [x][j]? = some u -> (w.alloc (.cells #[x] t)).cell? ((⟨n, 0, none⟩ : Addr).add j) = some u := by
 subst hn; exact cell_one_new w x t
theorem join_any (w wr : World) (ws : List ByteArray) (v : Value) (h : XS w ws v wr) (hl : ws.length <= 100000) (hlen : (Lib.join (ws.map (·.data.toList)) [32]).length <= 140737488355328) :
  Calls Tryz.prog 73 #[v, .string ⟨#[32]⟩] wr fun e w' => e = .returned (.string ⟨(Lib.join (ws.map (·.data.toList)) [32]).toArray⟩) /\ Turned (fun _ => False) w w' := by
 obtain ⟨hl0, h2⟩ := h.own
 rcases h2 with ⟨rfl, h0⟩ | ⟨g, cap, cur, rfl, hg, hh, hc, hm, hs, ht⟩
 ·have : ws = [] := List.length_eq_zero_iff.1 h0
  subst this
  refine (Tryz.strings_Join_none none 0 ⟨#[32]⟩ wr).mono ?_
  rintro e w' ⟨rfl, rfl⟩
  exact ⟨rfl, h.tur.strip⟩
 ·refine (Tryz.strings_Join g 0 cap ws ⟨#[32]⟩ wr (fun j x hx => ?_) (getElem?_lt hh) (by omega) (by omega) hlen).mono ?_
  ·have hj : j < ws.length := (List.getElem?_eq_some_iff.1 hx).1
   have h1 : (ws.map Value.string)[j]? = some (.string x) := by simp [hx]
   rw [<- ht, List.getElem?_take_of_lt (by omega)] at h1
   simpa [World.cell?, hh] using h1
  ·rintro e w' ⟨rfl, hb⟩
   exact ⟨rfl, h.tur.strip.trans (Turned.of_new hb)⟩
end Go.Proofs.YtjijdgkccfeeaaaGreatDoor
