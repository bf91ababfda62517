/- Part 27 of the proof of card: LexRefD, LexRefE, LexRefF, LexRefG. Conditions: those of each theorem. -/
import Derived.Test.YtjijdgkccfeeaaaGreatDoorPt01
import Derived.Test.YtjijdgkccfeeaaaGreatDoorPt05
import Derived.Test.YtjijdgkccfeeaaaGreatDoorPt16
import Derived.Test.YtjijdgkccfeeaaaGreatDoorPt17
set_option maxRecDepth 20000
set_option maxHeartbeats 4000000
namespace Go.Proofs.YtjijdgkccfeeaaaGreatDoor
open Go Go.Proofs Go.RowKit
attribute [local go_sem] Oper.semAt_some
theorem one_size : (Tryz.prog.info? 116).map (·.size) = some 6 := by kernel_rfl
theorem six_cells {V : World} {N : Nat} {a b c d e f : Value} {t : TypeId} (h : V.heap[N]? = some (.cells #[a, b, c, d, e, f] t (0, 0))) : V.cell? ⟨N, 0, none⟩ = some a /\ V.cell? ⟨N, 1, none⟩ = some b /\ V.cell? ⟨N, 2, none⟩ = some c /\ V.cell? ⟨N, 3, none⟩ = some d /\ V.cell? ⟨N, 4, none⟩ = some e /\ V.cell? ⟨N, 5, none⟩ = some f := by
 simp [World.cell?, h]
theorem six_free {V : World} {N : Nat} {a b c d e f : Value} {t : TypeId} (h : V.heap[N]? = some (.cells #[a, b, c, d, e, f] t (0, 0))) (i : Nat) : V.frozen? ⟨N, i, none⟩ = false := by
 simp [World.frozen?, h]
theorem six_set {V : World} {N : Nat} {a b c d e f a' b' c' d' e' f' : Value} {t : TypeId} (h : V.heap[N]? = some (.cells #[a, b, c, d, e, f] t (0, 0))) :
  ((((((V.setCell ⟨N, 0, none⟩ a').setCell ⟨N, 1, none⟩ b').setCell ⟨N, 2, none⟩ c').setCell ⟨N, 3, none⟩ d').setCell ⟨N, 4, none⟩ e').setCell ⟨N, 5, none⟩ f').heap[N]? = some (.cells #[a', b', c', d', e', f'] t (0, 0)) := by
 simp [World.setCell, Array.getElem?_modify, h]
theorem six_turned {C : Nat -> Prop} {W V : World} {N : Nat} {a' b' c' d' e' f' : Value} (h : Turned C W V) (hN : C N) : Turned C W ((((((V.setCell ⟨N, 0, none⟩ a').setCell ⟨N, 1, none⟩ b').setCell ⟨N, 2, none⟩ c').setCell ⟨N, 3, none⟩ d').setCell ⟨N, 4, none⟩ e').setCell ⟨N, 5, none⟩ f') :=
 (((((h.setCell (p := ⟨N, 0, none⟩) hN a').setCell (p := ⟨N, 1, none⟩) hN b').setCell (p := ⟨N, 2, none⟩) hN c').setCell (p := ⟨N, 3, none⟩) hN d').setCell (p := ⟨N, 4, none⟩) hN e').setCell (p := ⟨N, 5, none⟩) hN f'
theorem results_rtext (tmps : Array Value) (w : World) (g : Nat) (a b c d e f : Value) (hp : tmps.getD 4 undef = .pointer (some ⟨g, 0, none⟩)) (hg : w.heap[g]? = some (.cells #[a, b, c, d, e, f] 116 (0, 0))) :
  (results Tryz.f94 tmps).run Tryz.prog w = .ok (.agg #[a, b, c, d, e, f]) w :=
 results_cell_row (fn := Tryz.f94) rfl tmps w g 116 #[a, b, c, d, e, f] (0, 0) _ hp hg Tryz.underlying116 rfl one_size
theorem pair_cases (d : UInt8) : (pairI d.toNat = 0 /\ d ≠ 34 /\ d ≠ 92 /\ d ≠ 110) \/ ∃ y : UInt8, pairI d.toNat = y.toNat /\ ((y.toNat : Int) != 0) = true /\ (d = 34 /\ y = 34 \/ d ≠ 34 /\ d = 92 /\ y = 92 \/ d ≠ 34 /\ d ≠ 92 /\ d = 110 /\ y = 10) := by
 by_cases h1 : d = 34
 ·subst h1; exact .inr ⟨34, rfl, rfl, .inl ⟨rfl, rfl⟩⟩
 ·by_cases h2 : d = 92
  ·subst h2; exact .inr ⟨92, rfl, rfl, .inr (.inl ⟨by decide, rfl, rfl⟩)⟩
  ·by_cases h3 : d = 110
   ·subst h3; exact .inr ⟨10, rfl, rfl, .inr (.inr ⟨by decide, by decide, rfl, rfl⟩)⟩
   ·refine .inl ⟨?_, h1, h2, h3⟩
    have g1 : (d.toNat : Int) ≠ 34 := fun h => h1 (UInt8.toNat_inj.1 (by simpa using Int.ofNat_inj.1 h))
    have g2 : (d.toNat : Int) ≠ 92 := fun h => h2 (UInt8.toNat_inj.1 (by simpa using Int.ofNat_inj.1 h))
    have g3 : (d.toNat : Int) ≠ 110 := fun h => h3 (UInt8.toNat_inj.1 (by simpa using Int.ofNat_inj.1 h))
    unfold pairI
    rw [if_neg g1, if_neg g2, if_neg g3]
theorem rtext_any (s : ByteArray) (k : Nat) (w : World) (hs : s.size <= 65536) (hk : k < s.size) (hq : s[k] = 34) : Calls Tryz.prog 94 #[.string s, .int .i64 k] w fun e w' => e = .returned (oneV (textT s k)) /\ Turned (fun _ => False) w w' := by
 obtain ⟨i0, hif, hz0, hz1, hz2⟩ := info_parts infoU8
 have HF0 : Hid (textT s k = textL k (rest s (k + 1)) (k + 1) []) := by
  show _ = _
  unfold textT; rw [rest_head s k hk, if_neg (by simpa using hq)]
 clear hq
 go_enter Tryz.func94, Tryz.ntmps94
 go_wp2_with fail
 obtain ⟨w1, hw1⟩ : ∃ w1, w1 = w.alloc (.cells #[.int .i64 0, .int .i64 0, .string ⟨#[]⟩, .int .i64 0, .int .i64 0, .int .i64 0] 116) := ⟨_, rfl⟩
 have HB : Hid (w1.heap[w.heap.size]? = some (.cells #[.int .i64 0, .int .i64 0, .string ⟨#[]⟩, .int .i64 0, .int .i64 0, .int .i64 0] 116 (0, 0))) := by show _ = _; rw [hw1]; exact heap_alloc_new _ _
 have HT : Hid (Turned (fun i => w.heap.size <= i) w w1) := by rw [hw1]; exact (Turned.refl _ _).alloc _
 have hw1s : w1.heap.size = w.heap.size + 1 := by rw [hw1]; simp
 rw [<- hw1]
 clear hw1
 have H0 : Hid (TS w1 s k (.slice none 0 0) [] (k + 1) w1) := ⟨by omega, by omega, ⟨by simp, .inl ⟨rfl, rfl⟩⟩, Turned.refl _ _, rfl⟩
 go_loopw [5, 6] (fun b u wr => ∃ (bs : List UInt8) (j : Nat), u = (.int .i64 j) /\ Hid (TS w1 s k b bs j wr)) (fun _ u _ => s.size + 1 - (intOf u).toNat)
 case atStart => exact ⟨[], k + 1, by simp, H0⟩
 case round =>
  clear H0
  obtain ⟨bs, j, rfl, HS⟩ := hrel
  have hgt := HS.out.gt
  have hle := HS.out.le
  have HBr : Hid (wr.heap[w.heap.size]? = some (.cells #[.int .i64 0, .int .i64 0, .string ⟨#[]⟩, .int .i64 0, .int .i64 0, .int .i64 0] 116 (0, 0))) := (HS.out.tur.block _ (by omega) (by omega)).trans HB.out
  have HTr : Hid (Turned (fun i => w.heap.size <= i) w wr) := HT.out.trans (HS.out.tur.mono fun i hi => by omega)
  obtain ⟨va, vc, rfl⟩ := owns_shape HS.out.own
  obtain ⟨x0, x1, x2, x3, x4, x5⟩ := six_cells HBr.out
  have xf := six_free HBr.out
  by_cases hj : j < s.size
  ·have HR := Lib.hid (rest_cons s j hj)
   by_cases hl : 200 < bs.length
   ·have HF : Hid (textT s k = .err 2) := by show _ = _; rw [HF0.out, <- HS.out.eq, textL_lim _ _ _ _ hl]
    go_wp2_with fail
    refine bodyPost_ret (results_rtext _ _ w.heap.size _ _ _ _ _ _ rfl (six_set HBr.out)) rfl ?_
    rw [HF.out]
    exact ⟨rfl, (six_turned HTr.out (Nat.le_refl _)).strip⟩
   ·by_cases q34 : s[j] = 34
    ·have k34 : ((s[j].toNat : Int) == 34) = true := by rw [q34]; rfl
     have HF : Hid (textT s k = .tok ⟨3, k, ⟨bs.toArray⟩, 0⟩ (j + 1)) := by show _ = _; rw [HF0.out, <- HS.out.eq, HR.out, q34, textL_quote _ _ _ _ hl]
     have hcv := HS.out.conv
     clear q34
     go_wp2_with fail
     refine bodyPost_ret (results_rtext _ _ w.heap.size _ _ _ _ _ _ rfl (six_set HBr.out)) rfl ?_
     rw [HF.out]
     exact ⟨rfl, (six_turned HTr.out (Nat.le_refl _)).strip⟩
    ·have k34 : ((s[j].toNat : Int) == 34) = false := by
      have : s[j].toNat ≠ 34 := fun h => q34 (UInt8.toNat_inj.1 h)
      simp; omega
     by_cases q92 : s[j] = 92
     ·have k92 : ((s[j].toNat : Int) == 92) = true := by rw [q92]; rfl
      by_cases hj1 : j + 1 < s.size
      ·have HR1 := Lib.hid (rest_cons s (j + 1) hj1)
       have HD : Hid (textL k (rest s j) j bs = if s[j + 1] = 34 then textL k (rest s (j + 2)) (j + 2) (bs ++ [34]) else if s[j + 1] = 92 then textL k (rest s (j + 2)) (j + 2) (bs ++ [92]) else if s[j + 1] = 110 then textL k (rest s (j + 2)) (j + 2) (bs ++ [10]) else .err 28) := by
        show _ = _
        rw [HR.out, q92, HR1.out, textL_esc _ _ _ _ _ hl]
       have HP := Lib.hid (fun W : World => rpair_any (s[j + 1].toNat : Int) W)
       clear q34 q92
       rcases pair_cases s[j + 1] with ⟨hp, n34, n92, n110⟩ | ⟨y, hp, hy, hyc⟩
       ·have HF : Hid (textT s k = .err 28) := by show _ = _; rw [HF0.out, <- HS.out.eq, HD.out, if_neg n34, if_neg n92, if_neg n110]
        rw [hp] at HP
        clear hp n34 n92 n110
        go_wp2_with (go_at_call 115; refine (HP.out _).mono ?_; rintro e w' ⟨rfl, rfl⟩)
        refine bodyPost_ret (results_rtext _ _ w.heap.size _ _ _ _ _ _ rfl (six_set HBr.out)) rfl ?_
        rw [HF.out]
        exact ⟨rfl, (six_turned HTr.out (Nat.le_refl _)).strip⟩
       ·have HPU := Lib.hid (fun v' w4 => HS.out.push (v' := v') (w4 := w4) y (j + 2) (by omega) (by omega) (by
         rw [HD.out]
         rcases hyc with ⟨h1, rfl⟩ | ⟨h0, h1, rfl⟩ | ⟨h0, h2, h1, rfl⟩
         ·rw [if_pos h1]
         ·rw [if_neg h0, if_pos h1]
         ·rw [if_neg h0, if_neg h2, if_pos h1]))
        rw [hp] at HP
        clear hp hyc
        go_wp2_with (first | (go_at_call 115; refine (HP.out _).mono ?_; rintro e w' ⟨rfl, rfl⟩) | (at_builtin; refine wpList_append_own _ rfl _ _ 172 rfl w1.heap.size 5 i0 (.int .u8 0) 1 1 Tryz.underlying172 hif hz0 hz1 hz2 rfl (by decide) _ _ _ rfl (HS.out.ownA _) ⟨wr.heap.size, 0, none⟩ 1 1 [encB y] rfl rfl (cell_one_new _ _ _) (by intro u hu; simp at hu; subst hu; rfl) (by unfold maxLen; omega) (by omega) (by have := HS.out.tur.size; simp; omega) ?_; intro v' w4 hown' hgrow hnil; have HE := Lib.hid (HPU.out v' w4 hown' hgrow); clear hown' hgrow hnil))
        go_roundw
        case rel => exact ⟨bs ++ [y], j + 2, by go_num, HE⟩
        case measure => simp [intOf]; omega
      ·have HF : Hid (textT s k = .err 28) := by show _ = _; rw [HF0.out, <- HS.out.eq, HR.out, q92, rest_nil s (j + 1) (by omega), textL_esc0 _ _ _ hl]
       clear q34 q92
       go_wp2_with fail
       refine bodyPost_ret (results_rtext _ _ w.heap.size _ _ _ _ _ _ rfl (six_set HBr.out)) rfl ?_
       rw [HF.out]
       exact ⟨rfl, (six_turned HTr.out (Nat.le_refl _)).strip⟩
     ·have k92 : ((s[j].toNat : Int) == 92) = false := by
       have : s[j].toNat ≠ 92 := fun h => q92 (UInt8.toNat_inj.1 h)
       simp; omega
      by_cases qb : s[j].toNat < 32 \/ 126 < s[j].toNat
      ·have HF : Hid (textT s k = .err 28) := by show _ = _; rw [HF0.out, <- HS.out.eq, HR.out, textL_bad _ _ _ _ _ hl q34 q92 qb]
       clear q34 q92
       by_cases q32 : s[j].toNat < 32
       ·have q32' : (s[j].toNat : Int) < 32 := by omega
        clear qb
        go_wp2_with fail
        refine bodyPost_ret (results_rtext _ _ w.heap.size _ _ _ _ _ _ rfl (six_set HBr.out)) rfl ?_
        rw [HF.out]
        exact ⟨rfl, (six_turned HTr.out (Nat.le_refl _)).strip⟩
       ·have q32' : ¬ (s[j].toNat : Int) < 32 := by omega
        have q126 : (126 : Int) < s[j].toNat := by omega
        clear qb
        go_wp2_with fail
        refine bodyPost_ret (results_rtext _ _ w.heap.size _ _ _ _ _ _ rfl (six_set HBr.out)) rfl ?_
        rw [HF.out]
        exact ⟨rfl, (six_turned HTr.out (Nat.le_refl _)).strip⟩
      ·have q32' : ¬ (s[j].toNat : Int) < 32 := by omega
       have q126 : ¬ (126 : Int) < s[j].toNat := by omega
       have HPU := Lib.hid (fun v' w4 => HS.out.push (v' := v') (w4 := w4) s[j] (j + 1) (by omega) (by omega) (by rw [HR.out, textL_step _ _ _ _ _ hl q34 q92 qb]))
       clear q34 q92 qb
       go_wp2_with (at_builtin; refine wpList_append_own _ rfl _ _ 172 rfl w1.heap.size 5 i0 (.int .u8 0) 1 1 Tryz.underlying172 hif hz0 hz1 hz2 rfl (by decide) _ _ _ rfl (HS.out.ownA _) ⟨wr.heap.size, 0, none⟩ 1 1 [encB s[j]] rfl rfl (cell_one_new _ _ _) (by intro u hu; simp at hu; subst hu; rfl) (by unfold maxLen; omega) (by omega) (by have := HS.out.tur.size; simp; omega) ?_; intro v' w4 hown' hgrow hnil; have HE := Lib.hid (HPU.out v' w4 hown' hgrow); clear hown' hgrow hnil)
       go_roundw
       case rel => exact ⟨bs ++ [s[j]], j + 1, by go_num, HE⟩
       case measure => simp [intOf]; omega
  ·by_cases hl : 200 < bs.length
   ·have HF : Hid (textT s k = .err 2) := by show _ = _; rw [HF0.out, <- HS.out.eq, textL_lim _ _ _ _ hl]
    go_wp2_with fail
    refine bodyPost_ret (results_rtext _ _ w.heap.size _ _ _ _ _ _ rfl (six_set HBr.out)) rfl ?_
    rw [HF.out]
    exact ⟨rfl, (six_turned HTr.out (Nat.le_refl _)).strip⟩
   ·have HF : Hid (textT s k = .err 28) := by show _ = _; rw [HF0.out, <- HS.out.eq, rest_nil s j (by omega), textL_nil _ _ _ hl]
    go_wp2_with fail
    refine bodyPost_ret (results_rtext _ _ w.heap.size _ _ _ _ _ _ rfl (six_set HBr.out)) rfl ?_
    rw [HF.out]
    exact ⟨rfl, (six_turned HTr.out (Nat.le_refl _)).strip⟩
theorem str_eq (l : List UInt8) (x : ByteArray) (h : l = x.data.toList) : ((ByteArray.mk l.toArray).toList == x.toList) = true := by
 subst h
 simp [ByteArray.toList_eq]
theorem str_ne (l : List UInt8) (x : ByteArray) (h : l ≠ x.data.toList) : ((ByteArray.mk l.toArray).toList == x.toList) = false := by
 simpa [ByteArray.toList_eq] using h
theorem rhas_any (g c n : Nat) (xs : List (List UInt8)) (x : ByteArray) (w : World) (hn : xs.length = n) (hb : n <= 1000) (hx : ∀ j y, xs[j]? = some y -> w.cell? ⟨g, j, none⟩ = some (.string ⟨y.toArray⟩)) :
  Calls Tryz.prog 116 #[.slice (some ⟨g, 0, none⟩) n c, .string x] w fun e w' => e = .returned (.bool (decide (x.data.toList ∈ xs))) /\ w = w' := by
 have HX := Lib.hid hx
 have HN := Lib.hid hn
 clear hx hn
 go_enter Tryz.func116, Tryz.ntmps116
 go_wp2
 go_loop [5] (fun u => ∃ j : Nat, j <= n /\ u = (.int .i64 j) /\ Hid (x.data.toList ∉ xs.take j)) (fun u => n - (intOf u).toNat)
 case atStart => exact ⟨0, by omega, rfl, by show _ ∉ _; simp⟩
 case round =>
  obtain ⟨j, hj, rfl, HJ⟩ := hrel
  by_cases hlt : j < n
  ·have hjl : j < xs.length := by rw [HN.out]; exact hlt
   have hg : xs[j]? = some xs[j] := List.getElem?_eq_getElem hjl
   have hc := HX.out j _ hg
   have HT : Hid (xs.take (j + 1) = xs.take j ++ [xs[j]]) := List.take_succ_eq_append_getElem hjl
   have HM : Hid (xs[j] ∈ xs) := List.getElem_mem hjl
   clear hg
   generalize xs[j] = y at hc HT HM
   clear hjl
   by_cases he : y = x.data.toList
   ·have HF : Hid (x.data.toList ∈ xs) := he ▸ HM.out
    have hq := str_eq y x he
    clear he
    generalize ByteArray.mk y.toArray = z at hc hq
    go_wp2
    go_ret
    exact ⟨ret_bool (by have := HF.out; simp [this]), rfl⟩
   ·have hq := str_ne y x he
    have HK : Hid (x.data.toList ∉ xs.take (j + 1)) := by
     show _ ∉ _
     rw [HT.out]
     simp only [List.mem_append, List.mem_singleton, not_or]
     exact ⟨HJ.out, fun h => he h.symm⟩
    clear he
    generalize ByteArray.mk y.toArray = z at hc hq
    go_wp2
    go_round
    case rel => exact ⟨j + 1, by omega, by go_num, HK⟩
    case measure => simp [intOf]; omega
  ·have HF : Hid (x.data.toList ∉ xs) := by
    have := HJ.out
    rw [List.take_of_length_le (by rw [HN.out]; omega)] at this
    exact this
   go_wp2
   go_ret
   exact ⟨ret_bool (by have := HF.out; simp [this]), rfl⟩
def shorts : List (List UInt8) := signText.data.toList.map fun b => [b]
def signOf (l : List UInt8) : List UInt8 := if 2 <= l.length /\ l.take 2 ∈ pairs then l.take 2 else if 1 <= l.length /\ l.take 1 ∈ shorts then l.take 1 else []
theorem row_cell {W : World} {g : Nat} {arr : Array Value} {t : TypeId} {fz : Nat × Nat} (h : W.heap[g]? = some (.cells arr t fz)) (j : Nat) : W.cell? ⟨g, j, none⟩ = arr[j]? := by
 simp [World.cell?, h]
theorem strs_at (xs : List (List UInt8)) (W : World) (g : Nat) (t : TypeId) (h : W.heap[g]? = some (.cells (xs.map fun l => Value.string ⟨l.toArray⟩).toArray t (0, 0))) : ∀ j y, xs[j]? = some y -> W.cell? ⟨g, j, none⟩ = some (.string ⟨y.toArray⟩) := fun j y hj => by
 rw [row_cell h]; simp [hj]
theorem rsign_any (r : ByteArray) (w : World) (hr : r.size <= 70000) : Calls Tryz.prog 95 #[.string r] w fun e w' => e = .returned (.string ⟨(signOf r.data.toList).toArray⟩) /\ Turned (fun _ => False) w w' := by
 have hlen : r.data.toList.length = r.size := by simp
 have HS : Hid (signOf r.data.toList = if 2 <= r.size /\ r.data.toList.take 2 ∈ pairs then r.data.toList.take 2 else if 1 <= r.size /\ r.data.toList.take 1 ∈ shorts then r.data.toList.take 1 else []) := by
  show _ = _
  unfold signOf
  rw [hlen]
 clear hlen
 have e2 : (r.extract 0 2).data.toList = r.data.toList.take 2 := pre_list r 2
 have e1 : (r.extract 0 1).data.toList = r.data.toList.take 1 := pre_list r 1
 have HX2 : Hid (r.extract 0 2 = ⟨(r.data.toList.take 2).toArray⟩) := by show _ = _; rw [<- e2]
 have HX1 : Hid (r.extract 0 1 = ⟨(r.data.toList.take 1).toArray⟩) := by show _ = _; rw [<- e1]
 have HA := Lib.hid (fun (W : World) (g : Nat) (h : W.heap[g]? = some (.cells (pairs.map fun l => Value.string ⟨l.toArray⟩).toArray 9 (0, 0))) => rhas_any g 9 9 pairs (r.extract 0 2) W rfl (by omega) (strs_at pairs W g 9 h))
 have HB := Lib.hid (fun (W : World) (g : Nat) (h : W.heap[g]? = some (.cells (shorts.map fun l => Value.string ⟨l.toArray⟩).toArray 9 (0, 0))) => rhas_any g 25 25 shorts (r.extract 0 1) W rfl (by omega) (strs_at shorts W g 9 h))
 rw [e2] at HA
 rw [e1] at HB
 clear e1 e2
 go_enter Tryz.func95, Tryz.ntmps95
 obtain ⟨w1, hw1⟩ : ∃ w1, w1 = w.alloc (.cells (pairs.map fun l => Value.string ⟨l.toArray⟩).toArray 9) := ⟨_, rfl⟩
 obtain ⟨w2, hw2⟩ : ∃ w2, w2 = w1.alloc (.cells (shorts.map fun l => Value.string ⟨l.toArray⟩).toArray 9) := ⟨_, rfl⟩
 have HG2 : Hid (w2.heap[w.heap.size + 1]? = some (.cells (shorts.map fun l => Value.string ⟨l.toArray⟩).toArray 9 (0, 0))) := by
  show _ = _
  have := heap_alloc_new w1 (.cells (shorts.map fun l => Value.string ⟨l.toArray⟩).toArray 9)
  rw [show w1.heap.size = w.heap.size + 1 by rw [hw1]; simp] at this
  rw [hw2]; exact this
 have HG1 : Hid (w2.heap[w.heap.size]? = some (.cells (pairs.map fun l => Value.string ⟨l.toArray⟩).toArray 9 (0, 0))) := by
  show _ = _
  rw [hw2, hao _ _ (by rw [hw1]; simp), hw1]
  exact heap_alloc_new _ _
 have HT : Hid (Turned (fun _ => False) w w2) := by
  rw [hw2, hw1]
  exact ((Turned.refl _ _).alloc _).alloc _
 have HW3 : Hid (w2 = (w.alloc (.cells (pairs.map fun l => Value.string ⟨l.toArray⟩).toArray 9)).alloc (.cells (shorts.map fun l => Value.string ⟨l.toArray⟩).toArray 9)) := by show _ = _; rw [hw2, hw1]
 clear hw1 hw2
 by_cases h2 : 2 <= r.size
 ·go_wp2_with fail
  show Calls Tryz.prog 116 _ ((w.alloc (.cells (pairs.map fun l => Value.string ⟨l.toArray⟩).toArray 9)).alloc (.cells (shorts.map fun l => Value.string ⟨l.toArray⟩).toArray 9)) _
  rw [<- HW3.out]
  refine (HA.out _ _ HG1.out).mono ?_
  rintro e w' ⟨rfl, rfl⟩
  by_cases hp : r.data.toList.take 2 ∈ pairs
  ·have kp : decide (r.data.toList.take 2 ∈ pairs) = true := by simpa using hp
   have HF : Hid (signOf r.data.toList = r.data.toList.take 2) := by show _ = _; rw [HS.out, if_pos ⟨h2, hp⟩]
   generalize decide (r.data.toList.take 2 ∈ pairs) = q at kp
   subst kp
   go_wp2_with fail
   go_ret
   rw [HF.out, <- HX2.out]
   exact ⟨rfl, HT.out⟩
  ·have kp : decide (r.data.toList.take 2 ∈ pairs) = false := by simpa using hp
   generalize decide (r.data.toList.take 2 ∈ pairs) = q at kp
   subst kp
   go_wp2_with fail
   refine (HB.out _ _ HG2.out).mono ?_
   rintro e w' ⟨rfl, rfl⟩
   by_cases hp1 : r.data.toList.take 1 ∈ shorts
   ·have kp : decide (r.data.toList.take 1 ∈ shorts) = true := by simpa using hp1
    have HF : Hid (signOf r.data.toList = r.data.toList.take 1) := by show _ = _; rw [HS.out, if_neg (fun h => hp h.2), if_pos ⟨by omega, hp1⟩]
    generalize decide (r.data.toList.take 1 ∈ shorts) = q at kp
    subst kp
    go_wp2_with fail
    go_ret
    rw [HF.out, <- HX1.out]
    exact ⟨rfl, HT.out⟩
   ·have kp : decide (r.data.toList.take 1 ∈ shorts) = false := by simpa using hp1
    have HF : Hid (signOf r.data.toList = []) := by show _ = _; rw [HS.out, if_neg (fun h => hp h.2), if_neg (fun h => hp1 h.2)]
    generalize decide (r.data.toList.take 1 ∈ shorts) = q at kp
    subst kp
    go_wp2_with fail
    go_ret
    rw [HF.out]
    exact ⟨rfl, HT.out⟩
 ·by_cases h1 : 1 <= r.size
  ·go_wp2_with fail
   show Calls Tryz.prog 116 _ ((w.alloc (.cells (pairs.map fun l => Value.string ⟨l.toArray⟩).toArray 9)).alloc (.cells (shorts.map fun l => Value.string ⟨l.toArray⟩).toArray 9)) _
   rw [<- HW3.out]
   refine (HB.out _ _ HG2.out).mono ?_
   rintro e w' ⟨rfl, rfl⟩
   by_cases hp1 : r.data.toList.take 1 ∈ shorts
   ·have kp : decide (r.data.toList.take 1 ∈ shorts) = true := by simpa using hp1
    have HF : Hid (signOf r.data.toList = r.data.toList.take 1) := by show _ = _; rw [HS.out, if_neg (fun h => h2 h.1), if_pos ⟨h1, hp1⟩]
    generalize decide (r.data.toList.take 1 ∈ shorts) = q at kp
    subst kp
    go_wp2_with fail
    go_ret
    rw [HF.out, <- HX1.out]
    exact ⟨rfl, HT.out⟩
   ·have kp : decide (r.data.toList.take 1 ∈ shorts) = false := by simpa using hp1
    have HF : Hid (signOf r.data.toList = []) := by show _ = _; rw [HS.out, if_neg (fun h => h2 h.1), if_neg (fun h => hp1 h.2)]
    generalize decide (r.data.toList.take 1 ∈ shorts) = q at kp
    subst kp
    go_wp2_with fail
    go_ret
    rw [HF.out]
    exact ⟨rfl, HT.out⟩
  ·have HF : Hid (signOf r.data.toList = []) := by show _ = _; rw [HS.out, if_neg (fun h => h2 h.1), if_neg (fun h => h1 h.1)]
   go_wp2_with fail
   go_ret
   rw [HF.out]
   exact ⟨rfl, ((Turned.refl _ _).alloc _).alloc _⟩
theorem idx_mem (l : List UInt8) (c : UInt8) : 0 <= Lib.indexByte l c ↔ c ∈ l := by
 rcases indexByte_spec c l with ⟨h1, h2⟩ | ⟨n, h1, h2, h3⟩
 ·rw [h1]
  constructor
  ·intro h; omega
  ·intro h; exact absurd rfl (h2 c h)
 ·rw [h1]
  exact ⟨fun _ => List.mem_of_getElem? h2, fun _ => by omega⟩
theorem has_take {l p : List UInt8} (hp : p.length = 2) : Lib.hasPrefix l p = true ↔ l.take 2 = p := by
 unfold Lib.hasPrefix
 rw [List.isPrefixOf_iff_prefix, List.prefix_iff_eq_take, hp]
 exact eq_comm
theorem sgn_pairs (l : List UInt8) : ∀ ps : List (List UInt8), (∀ p ∈ ps, p.length = 2) -> sgnL l ps = if l.take 2 ∈ ps then .tok ⟨4, 0, ⟨(l.take 2).toArray⟩, 0⟩ 2 else sgnL l []
 | [], _ => by simp
 | p :: ps, h => by
  have hp := h p (List.mem_cons_self ..)
  conv => lhs; unfold sgnL
  rw [sgn_pairs l ps fun q hq => h q (List.mem_cons_of_mem _ hq)]
  by_cases h1 : l.take 2 = p
  ·rw [if_pos ((has_take hp).2 h1), if_pos (by rw [h1]; exact List.mem_cons_self ..), h1]
  ·rw [if_neg (fun h2 => h1 ((has_take hp).1 h2))]
   by_cases h2 : l.take 2 ∈ ps
   ·rw [if_pos h2, if_pos (List.mem_cons_of_mem _ h2)]
   ·rw [if_neg h2, if_neg (by simp [h1, h2])]
theorem next_sign {s : ByteArray} {k : Nat} (hk : k < s.size) (h : clsI s[k].toNat < 2) (h2 : s[k] ≠ 34) : nextT s k = if signOf (rest s k) = [] then .err 26 else .tok ⟨4, k, ⟨(signOf (rest s k)).toArray⟩, 0⟩ (k + (signOf (rest s k)).length) := by
 rw [next_head s k hk, rest_cons s k hk, head_sign h h2, sgn_pairs _ pairs pairs_len]
 generalize hl : s[k] :: rest s (k + 1) = l
 have hn : 1 <= l.length := by rw [<- hl]; simp
 have hh : l[0]! = s[k] := by rw [<- hl]; rfl
 have ht : l.take 1 = [s[k]] := by rw [<- hl]; rfl
 by_cases h3 : l.take 2 ∈ pairs
 ·have h4 : (l.take 2).length = 2 := pairs_len _ h3
  have h5 : 2 <= l.length := by rw [List.length_take] at h4; omega
  have hS : signOf l = l.take 2 := by unfold signOf; rw [if_pos ⟨h5, h3⟩]
  rw [if_pos h3, hS, if_neg (by intro h6; rw [h6] at h4; simp at h4), h4]
  simp [orChar, TR.shift, Tok.shift, Nat.add_comm]
 ·rw [if_neg h3]
  by_cases h6 : s[k] ∈ signText.data.toList
  ·have h7 : [s[k]] ∈ shorts := List.mem_map.2 ⟨_, h6, rfl⟩
   have hS : signOf l = [s[k]] := by unfold signOf; rw [if_neg (fun h => h3 h.2), ht, if_pos ⟨hn, h7⟩]
   have hG : sgnL l [] = .tok ⟨4, 0, ⟨#[l[0]!]⟩, 0⟩ 1 := if_pos ((idx_mem _ _).2 (hh ▸ h6))
   rw [hG, hS, hh, if_neg (by simp)]
   simp [orChar, TR.shift, Tok.shift, Nat.add_comm]
  ·have h7 : ¬ [s[k]] ∈ shorts := fun h8 => by
    obtain ⟨b, hb, hb2⟩ := List.mem_map.1 h8
    simp at hb2
    exact h6 (hb2 ▸ hb)
   have hS : signOf l = [] := by unfold signOf; rw [if_neg (fun h => h3 h.2), ht, if_neg (fun h => h7 h.2)]
   have hG : sgnL l [] = .none := if_neg (fun h => h6 (hh ▸ (idx_mem _ _).1 h))
   rw [hG, hS, if_pos rfl]
   rfl
theorem nameT_none {s : ByteArray} {k : Nat} (hk : k < s.size) (h : clsI s[k].toNat ≠ 3) : nameT s k = .none := by
 unfold nameT; rw [rest_head s k hk, if_pos h]
theorem numT_none {s : ByteArray} {k : Nat} (hk : k < s.size) (h : clsI s[k].toNat ≠ 2) : numT s k = .none := by
 unfold numT; rw [rest_head s k hk, if_pos h]
theorem next_name {s : ByteArray} {k : Nat} (hk : k < s.size) (h : clsI s[k].toNat = 3) : nextT s k = nameT s k /\ nameT s k ≠ .none := by
 have : nameT s k ≠ .none := by
  unfold nameT; rw [rest_head s k hk, if_neg (by simpa using h)]; split <;> simp
 refine ⟨?_, this⟩
 unfold nextT
 generalize nameT s k = r at this ⊢
 cases r <;> simp_all [firstT]
theorem next_num {s : ByteArray} {k : Nat} (hk : k < s.size) (h : clsI s[k].toNat = 2) : nextT s k = numT s k /\ numT s k ≠ .none := by
 have : numT s k ≠ .none := by
  unfold numT; rw [rest_head s k hk, if_neg (by simpa using h)]; exact numOf_some _ _ _
 refine ⟨?_, this⟩
 unfold nextT
 rw [nameT_none hk (by omega)]
 generalize numT s k = r at this ⊢
 cases r <;> simp_all [firstT]
theorem next_text {s : ByteArray} {k : Nat} (hk : k < s.size) (h : s[k] = 34) : nextT s k = textT s k /\ textT s k ≠ .none := by
 have : textT s k ≠ .none := by
  unfold textT; rw [rest_head s k hk, if_neg (by simpa using h)]; exact textL_some _ _ _ _
 refine ⟨?_, this⟩
 unfold nextT
 rw [nameT_none hk (by rw [h]; decide), numT_none hk (by rw [h]; decide)]
 generalize textT s k = r at this ⊢
 cases r <;> simp_all [firstT]
theorem results_rtoken (tmps : Array Value) (w : World) (g : Nat) (a b c d e f : Value) (hp : tmps.getD 4 undef = .pointer (some ⟨g, 0, none⟩)) (hg : w.heap[g]? = some (.cells #[a, b, c, d, e, f] 116 (0, 0))) :
  (results Tryz.f60 tmps).run Tryz.prog w = .ok (.agg #[a, b, c, d, e, f]) w :=
 results_cell_row (fn := Tryz.f60) rfl tmps w g 116 #[a, b, c, d, e, f] (0, 0) _ hp hg Tryz.underlying116 rfl one_size
theorem str_nil (l : List UInt8) : (ByteArray.mk l.toArray).toList.isEmpty = decide (l = []) := by
 rw [Bool.eq_iff_iff]
 simp [ByteArray.toList_eq]
theorem rtoken_any (s : ByteArray) (k : Nat) (w : World) (hs : s.size <= 65536) (hk : k < s.size) : Calls Tryz.prog 60 #[.string s, .int .i64 k] w fun e w' => e = .returned (oneV (nextT s k)) /\ Turned (fun _ => False) w w' := by
 have hb : (s[k].toNat : Int) <= 255 := by have := s[k].toNat_lt; omega
 have HL := Lib.hid (fun W => rletter_any (s[k].toNat : Int) W (by omega) hb)
 have HD := Lib.hid (fun W => rdigit_any (s[k].toNat : Int) W (by omega) hb)
 obtain ⟨w1, hw1⟩ : ∃ w1, w1 = w.alloc (.cells #[.int .i64 0, .int .i64 0, .string ⟨#[]⟩, .int .i64 0, .int .i64 0, .int .i64 0] 116) := ⟨_, rfl⟩
 have HB : Hid (w1.heap[w.heap.size]? = some (.cells #[.int .i64 0, .int .i64 0, .string ⟨#[]⟩, .int .i64 0, .int .i64 0, .int .i64 0] 116 (0, 0))) := by show _ = _; rw [hw1]; exact heap_alloc_new _ _
 have HT : Hid (Turned (fun i => w.heap.size <= i) w w1) := by rw [hw1]; exact (Turned.refl _ _).alloc _
 have HX : Hid (∀ X, Turned (fun _ => False) w1 X -> X.heap[w.heap.size]? = some (.cells #[.int .i64 0, .int .i64 0, .string ⟨#[]⟩, .int .i64 0, .int .i64 0, .int .i64 0] 116 (0, 0)) /\ Turned (fun i => w.heap.size <= i) w X) := fun X hX => by
  have hw1s : w1.heap.size = w.heap.size + 1 := by rw [hw1]; simp
  exact ⟨(hX.block _ (by omega) id).trans HB.out, HT.out.trans (hX.mono fun _ h => h.elim)⟩
 have HE : Hid (w.alloc (.cells #[.int .i64 0, .int .i64 0, .string ⟨#[]⟩, .int .i64 0, .int .i64 0, .int .i64 0] 116) = w1) := hw1.symm
 clear hw1 hb
 go_enter Tryz.func60, Tryz.ntmps60
 by_cases h3 : clsI s[k].toNat = 3
 ·have HN := Lib.hid (rname_any s k w1 (by omega) hk h3)
  obtain ⟨e1, e2⟩ := next_name hk h3
  have HF : Hid (nextT s k = nameT s k) := e1
  cases hT : nameT s k with
  | none => exact absurd hT e2
  | err c =>
   have HU := Lib.hid hT
   rw [hT] at HN
   clear e1 e2 hT
   go_wp2_with (first | (go_at_call 90; refine (HL.out _).mono ?_; rintro e w' ⟨rfl, rfl⟩) | (go_at_call 92; refine (HD.out _).mono ?_; rintro e w' ⟨rfl, rfl⟩))
   rw [HE.out]
   refine HN.out.mono ?_
   rintro e X ⟨rfl, ht⟩
   obtain ⟨hB, ht2⟩ := HX.out X ht
   obtain ⟨x0, x1, x2, x3, x4, x5⟩ := six_cells hB
   have xf := six_free hB
   have HB2 := Lib.hid hB
   have HT2 := Lib.hid ht2
   clear ht hB ht2
   simp only [oneV]
   go_wp2_with fail
   refine bodyPost_ret (results_rtoken _ _ w.heap.size _ _ _ _ _ _ rfl (six_set HB2.out)) rfl ?_
   rw [HF.out, HU.out]
   exact ⟨rfl, (six_turned HT2.out (Nat.le_refl _)).strip⟩
  | tok t tt =>
   have HU := Lib.hid hT
   rw [hT] at HN
   clear e1 e2 hT
   go_wp2_with (first | (go_at_call 90; refine (HL.out _).mono ?_; rintro e w' ⟨rfl, rfl⟩) | (go_at_call 92; refine (HD.out _).mono ?_; rintro e w' ⟨rfl, rfl⟩))
   rw [HE.out]
   refine HN.out.mono ?_
   rintro e X ⟨rfl, ht⟩
   obtain ⟨hB, ht2⟩ := HX.out X ht
   obtain ⟨x0, x1, x2, x3, x4, x5⟩ := six_cells hB
   have xf := six_free hB
   have HB2 := Lib.hid hB
   have HT2 := Lib.hid ht2
   clear ht hB ht2
   simp only [oneV]
   go_wp2_with fail
   refine bodyPost_ret (results_rtoken _ _ w.heap.size _ _ _ _ _ _ rfl (six_set HB2.out)) rfl ?_
   rw [HF.out, HU.out]
   exact ⟨rfl, (six_turned HT2.out (Nat.le_refl _)).strip⟩
 by_cases h2 : clsI s[k].toNat = 2
 ·have HN := Lib.hid (rnumber_any s k w1 (by omega) hk h2)
  obtain ⟨e1, e2⟩ := next_num hk h2
  have HF : Hid (nextT s k = numT s k) := e1
  cases hT : numT s k with
  | none => exact absurd hT e2
  | err c =>
   have HU := Lib.hid hT
   rw [hT] at HN
   clear e1 e2 hT
   go_wp2_with (first | (go_at_call 90; refine (HL.out _).mono ?_; rintro e w' ⟨rfl, rfl⟩) | (go_at_call 92; refine (HD.out _).mono ?_; rintro e w' ⟨rfl, rfl⟩))
   rw [HE.out]
   refine HN.out.mono ?_
   rintro e X ⟨rfl, ht⟩
   obtain ⟨hB, ht2⟩ := HX.out X ht
   obtain ⟨x0, x1, x2, x3, x4, x5⟩ := six_cells hB
   have xf := six_free hB
   have HB2 := Lib.hid hB
   have HT2 := Lib.hid ht2
   clear ht hB ht2
   simp only [oneV]
   go_wp2_with fail
   refine bodyPost_ret (results_rtoken _ _ w.heap.size _ _ _ _ _ _ rfl (six_set HB2.out)) rfl ?_
   rw [HF.out, HU.out]
   exact ⟨rfl, (six_turned HT2.out (Nat.le_refl _)).strip⟩
  | tok t tt =>
   have HU := Lib.hid hT
   rw [hT] at HN
   clear e1 e2 hT
   go_wp2_with (first | (go_at_call 90; refine (HL.out _).mono ?_; rintro e w' ⟨rfl, rfl⟩) | (go_at_call 92; refine (HD.out _).mono ?_; rintro e w' ⟨rfl, rfl⟩))
   rw [HE.out]
   refine HN.out.mono ?_
   rintro e X ⟨rfl, ht⟩
   obtain ⟨hB, ht2⟩ := HX.out X ht
   obtain ⟨x0, x1, x2, x3, x4, x5⟩ := six_cells hB
   have xf := six_free hB
   have HB2 := Lib.hid hB
   have HT2 := Lib.hid ht2
   clear ht hB ht2
   simp only [oneV]
   go_wp2_with fail
   refine bodyPost_ret (results_rtoken _ _ w.heap.size _ _ _ _ _ _ rfl (six_set HB2.out)) rfl ?_
   rw [HF.out, HU.out]
   exact ⟨rfl, (six_turned HT2.out (Nat.le_refl _)).strip⟩
 by_cases h34 : s[k] = 34
 ·have k34 : ((s[k].toNat : Int) == 34) = true := by rw [h34]; rfl
  have HN := Lib.hid (rtext_any s k w1 hs hk h34)
  obtain ⟨e1, e2⟩ := next_text hk h34
  have HF : Hid (nextT s k = textT s k) := e1
  cases hT : textT s k with
  | none => exact absurd hT e2
  | err c =>
   have HU := Lib.hid hT
   rw [hT] at HN
   clear e1 e2 hT h34
   go_wp2_with (first | (go_at_call 90; refine (HL.out _).mono ?_; rintro e w' ⟨rfl, rfl⟩) | (go_at_call 92; refine (HD.out _).mono ?_; rintro e w' ⟨rfl, rfl⟩))
   rw [HE.out]
   refine HN.out.mono ?_
   rintro e X ⟨rfl, ht⟩
   obtain ⟨hB, ht2⟩ := HX.out X ht
   obtain ⟨x0, x1, x2, x3, x4, x5⟩ := six_cells hB
   have xf := six_free hB
   have HB2 := Lib.hid hB
   have HT2 := Lib.hid ht2
   clear ht hB ht2
   simp only [oneV]
   go_wp2_with fail
   refine bodyPost_ret (results_rtoken _ _ w.heap.size _ _ _ _ _ _ rfl (six_set HB2.out)) rfl ?_
   rw [HF.out, HU.out]
   exact ⟨rfl, (six_turned HT2.out (Nat.le_refl _)).strip⟩
  | tok t tt =>
   have HU := Lib.hid hT
   rw [hT] at HN
   clear e1 e2 hT h34
   go_wp2_with (first | (go_at_call 90; refine (HL.out _).mono ?_; rintro e w' ⟨rfl, rfl⟩) | (go_at_call 92; refine (HD.out _).mono ?_; rintro e w' ⟨rfl, rfl⟩))
   rw [HE.out]
   refine HN.out.mono ?_
   rintro e X ⟨rfl, ht⟩
   obtain ⟨hB, ht2⟩ := HX.out X ht
   obtain ⟨x0, x1, x2, x3, x4, x5⟩ := six_cells hB
   have xf := six_free hB
   have HB2 := Lib.hid hB
   have HT2 := Lib.hid ht2
   clear ht hB ht2
   simp only [oneV]
   go_wp2_with fail
   refine bodyPost_ret (results_rtoken _ _ w.heap.size _ _ _ _ _ _ rfl (six_set HB2.out)) rfl ?_
   rw [HF.out, HU.out]
   exact ⟨rfl, (six_turned HT2.out (Nat.le_refl _)).strip⟩
 have k34 : ((s[k].toNat : Int) == 34) = false := by
  have : s[k].toNat ≠ 34 := fun h => h34 (UInt8.toNat_inj.1 h)
  simp; omega
 have hlt2 : clsI s[k].toNat < 2 := by have := cls_bd (s[k].toNat : Int); omega
 have HF := Lib.hid (next_sign hk hlt2 h34)
 have hsz : (s.extract k s.size).size = s.size - k := by simp
 have HN := Lib.hid (rsign_any (s.extract k s.size) w1 (by omega))
 rw [show (s.extract k s.size).data.toList = rest s k from Lib.extract_to_end s k] at HN
 clear hlt2 h34 hsz
 by_cases h0 : signOf (rest s k) = []
 ·have HU : Hid (nextT s k = .err 26) := by show _ = _; rw [HF.out, if_pos h0]
  have kz := str_nil (signOf (rest s k))
  rw [decide_eq_true h0] at kz
  clear h0
  generalize ByteArray.mk (signOf (rest s k)).toArray = sg at HN kz
  go_wp2_with (first | (go_at_call 90; refine (HL.out _).mono ?_; rintro e w' ⟨rfl, rfl⟩) | (go_at_call 92; refine (HD.out _).mono ?_; rintro e w' ⟨rfl, rfl⟩))
  rw [HE.out]
  refine HN.out.mono ?_
  rintro e X ⟨rfl, ht⟩
  obtain ⟨hB, ht2⟩ := HX.out X ht
  obtain ⟨x0, x1, x2, x3, x4, x5⟩ := six_cells hB
  have xf := six_free hB
  have HB2 := Lib.hid hB
  have HT2 := Lib.hid ht2
  clear ht hB ht2
  go_wp2_with fail
  refine bodyPost_ret (results_rtoken _ _ w.heap.size _ _ _ _ _ _ rfl (six_set HB2.out)) rfl ?_
  rw [HU.out]
  exact ⟨rfl, (six_turned HT2.out (Nat.le_refl _)).strip⟩
 ·have HU : Hid (nextT s k = .tok ⟨4, k, ⟨(signOf (rest s k)).toArray⟩, 0⟩ (k + (signOf (rest s k)).length)) := by show _ = _; rw [HF.out, if_neg h0]
  have kz := str_nil (signOf (rest s k))
  rw [decide_eq_false h0] at kz
  have hz : (ByteArray.mk (signOf (rest s k)).toArray).size = (signOf (rest s k)).length := rfl
  have hz2 : (signOf (rest s k)).length <= 2 := by
   unfold signOf
   split
   ·simp; omega
   ·split
    ·simp; omega
    ·simp
  clear h0 HF
  generalize (signOf (rest s k)).length = n at HU hz hz2
  generalize ByteArray.mk (signOf (rest s k)).toArray = sg at HN kz HU hz
  subst hz
  go_wp2_with (first | (go_at_call 90; refine (HL.out _).mono ?_; rintro e w' ⟨rfl, rfl⟩) | (go_at_call 92; refine (HD.out _).mono ?_; rintro e w' ⟨rfl, rfl⟩))
  rw [HE.out]
  refine HN.out.mono ?_
  rintro e X ⟨rfl, ht⟩
  obtain ⟨hB, ht2⟩ := HX.out X ht
  obtain ⟨x0, x1, x2, x3, x4, x5⟩ := six_cells hB
  have xf := six_free hB
  have HB2 := Lib.hid hB
  have HT2 := Lib.hid ht2
  clear ht hB ht2
  go_wp2_with fail
  refine bodyPost_ret (results_rtoken _ _ w.heap.size _ _ _ _ _ _ rfl (six_set HB2.out)) rfl ?_
  rw [HU.out]
  exact ⟨rfl, (six_turned HT2.out (Nat.le_refl _)).strip⟩
theorem read_size : (Tryz.prog.info? 76).map (·.size) = some 3 := by kernel_rfl
theorem results_rtokens (tmps : Array Value) (w : World) (g : Nat) (a b c : Value) (hp : tmps.getD 2 undef = .pointer (some ⟨g, 0, none⟩)) (hg : w.heap[g]? = some (.cells #[a, b, c] 76 (0, 0))) :
  (results Tryz.f32 tmps).run Tryz.prog w = .ok (.agg #[a, b, c]) w :=
 results_cell_row (fn := Tryz.f32) rfl tmps w g 76 #[a, b, c] (0, 0) _ hp hg Tryz.underlying76 rfl read_size
theorem three_cells {V : World} {N : Nat} {a b c : Value} {t : TypeId} (h : V.heap[N]? = some (.cells #[a, b, c] t (0, 0))) : V.cell? ⟨N, 0, none⟩ = some a /\ V.cell? ⟨N, 1, none⟩ = some b /\ V.cell? ⟨N, 2, none⟩ = some c := by
 simp [World.cell?, h]
theorem three_free {V : World} {N : Nat} {a b c : Value} {t : TypeId} (h : V.heap[N]? = some (.cells #[a, b, c] t (0, 0))) (i : Nat) : V.frozen? ⟨N, i, none⟩ = false := by
 simp [World.frozen?, h]
theorem three_set {V : World} {N : Nat} {a b c a' b' c' : Value} {t : TypeId} (h : V.heap[N]? = some (.cells #[a, b, c] t (0, 0))) :
  (((V.setCell ⟨N, 0, none⟩ a').setCell ⟨N, 1, none⟩ b').setCell ⟨N, 2, none⟩ c').heap[N]? = some (.cells #[a', b', c'] t (0, 0)) := by
 simp [World.setCell, Array.getElem?_modify, h]
theorem three_turned {C : Nat -> Prop} {W V : World} {N : Nat} {a' b' c' : Value} (h : Turned C W V) (hN : C N) : Turned C W (((V.setCell ⟨N, 0, none⟩ a').setCell ⟨N, 1, none⟩ b').setCell ⟨N, 2, none⟩ c') :=
 ((h.setCell (p := ⟨N, 0, none⟩) hN a').setCell (p := ⟨N, 1, none⟩) hN b').setCell (p := ⟨N, 2, none⟩) hN c'
theorem firstT_some : ∀ l : List TR, firstT l ≠ .none
 | [] => by simp [firstT]
 | .none :: l => firstT_some l
 | .err _ :: _ => by simp [firstT]
 | .tok _ _ :: _ => by simp [firstT]
def ReadR (w : World) (r : LR) (e : Ending) (w' : World) : Prop :=
 match r with
 | .err k c => e = .returned (.agg #[.slice none 0 0, .int .i64 k, .int .i64 c]) /\ Turned (fun _ => False) w w'
 | .ok ts => ∃ v, e = .returned (.agg #[v, .int .i64 0, .int .i64 0]) /\ w'.ownsRow w.heap.size 68 4 v ts.length (ts.flatMap tokV) /\ Turned (fun _ => False) w w'
structure RT (w1 : World) (s : ByteArray) (k : Nat) (v : Value) (ts : List Tok) (f : Nat) (wr : World) : Prop where
 own : wr.ownsRow w1.heap.size 68 4 v ts.length (ts.flatMap tokV)
 le : k <= s.size
 len : ts.length <= k
 fuel : s.size < k + f
 eq : lexF s f k ts = tokensP s
 tur : Turned (fun i => w1.heap.size <= i) w1 wr
theorem RT.ownT {w1 wr X : World} {s : ByteArray} {k : Nat} {v : Value} {ts : List Tok} {f : Nat} (h : RT w1 s k v ts f wr) (ht : Turned (fun _ => False) wr X) : X.ownsRow w1.heap.size 68 4 v ts.length (ts.flatMap tokV) := ownsRow_turned' ht (fun _ _ => id) h.own
theorem RT.push {w1 wr X w4 : World} {s : ByteArray} {k : Nat} {v v' : Value} {ts : List Tok} {f : Nat} (h : RT w1 s k v ts (f + 1) wr) (ht : Turned (fun _ => False) wr X) (hk : k < s.size) {t : Tok} {tt : Nat} (hn : nextT s k = .tok t tt)
  (hown' : w4.ownsRow w1.heap.size 68 4 v' (ts.length + 1) (ts.flatMap tokV ++ tokV t)) (hgrow : X.grownBy w4 v.ownBlock) : RT w1 s (blankTo s tt) v' (ts ++ [t]) f w4 := by
 obtain ⟨hg, hle⟩ := next_fits hk hn
 have hge := blankTo_ge s tt
 have hfu := h.fuel
 have hlen := h.len
 have hb := ownsRow_block h.own
 refine ⟨by simpa using hown', blankTo_le s tt hle, by simp; omega, by omega, ?_, (h.tur.trans (ht.mono fun _ h => h.elim)).trans (Turned.of_grown hgrow fun g hgr => (hb g hgr).1)⟩
 rw [<- h.eq]
 conv => rhs; unfold lexF
 rw [if_pos hk, hn]
theorem four_at {w : World} {a b c d : Value} {t : TypeId} {n : Nat} (hn : w.heap.size = n) : ∀ j u, [a, b, c, d][j]? = some u -> (w.alloc (.cells #[a, b, c, d] t)).cell? ((⟨n, 0, none⟩ : Addr).add j) = some u := by
 subst hn; exact cells_four w a b c d t
theorem grown_cell {X w4 : World} {row : Option Nat} {o : Obj} {kind at_ num : Int} {str : ByteArray} {tt : Nat} (h : ((X.alloc (.cells #[.int .i64 kind, .int .i64 at_, .string str, .int .i64 num, .int .i64 tt, .int .i64 0] 116)).alloc o).grownBy w4 row) (hr : ∀ g, row = some g -> g < X.heap.size) : w4.cell? ⟨X.heap.size, 4, none⟩ = some (.int .i64 tt) := by
 have h1 := h.block X.heap.size (by simp; omega) (fun e => by have := hr _ e.symm; omega)
 rw [hao _ _ (by simp), heap_alloc_new] at h1
 simp [World.cell?, h1]
theorem rtokens_all (s : ByteArray) (w : World) : Calls Tryz.prog 32 #[.string s] w (ReadR w (tokensP s)) := by
 obtain ⟨i0, hif, hz0, hz1, hz2⟩ := info_parts infoTok
 go_enter Tryz.func32, Tryz.ntmps32
 by_cases hbig : 65536 < s.size
 ·have HF : Hid (tokensP s = .err 0 2) := by show _ = _; unfold tokensP; rw [if_pos hbig]
  go_wp2_with fail
  refine bodyPost_ret (results_rtokens _ _ w.heap.size _ _ _ rfl (heap_alloc_new _ _)) rfl ?_
  rw [HF.out]
  exact ⟨rfl, (Turned.refl _ _).alloc _⟩
 ·have hs : s.size <= 70000 := by omega
  have HK := Lib.hid (fun (k : Nat) (W : World) (h : k <= s.size) => rblank_any s k W hs h)
  obtain ⟨w1, hw1⟩ : ∃ w1, w1 = w.alloc (.cells #[.slice none 0 0, .int .i64 0, .int .i64 0] 76) := ⟨_, rfl⟩
  have HB : Hid (w1.heap[w.heap.size]? = some (.cells #[.slice none 0 0, .int .i64 0, .int .i64 0] 76 (0, 0))) := by show _ = _; rw [hw1]; exact heap_alloc_new _ _
  have HT : Hid (Turned (fun i => w.heap.size <= i) w w1) := by rw [hw1]; exact (Turned.refl _ _).alloc _
  have hw1s : w1.heap.size = w.heap.size + 1 := by rw [hw1]; simp
  go_wp2_with fail
  rw [<- hw1]
  clear hw1
  have h0 := blankTo_le s 0 (by omega)
  have hcall := HK.out 0 w1 (by omega)
  rw [Int.ofNat_zero] at hcall
  refine hcall.mono ?_
  rintro e w' ⟨rfl, rfl⟩
  have H0 : Hid (RT w1 s (blankTo s 0) (.slice none 0 0) [] (s.size + 1) w1) := by
   refine ⟨⟨rfl, .inl ⟨rfl, rfl⟩⟩, h0, by simp, by omega, ?_, Turned.refl _ _⟩
   unfold tokensP; rw [if_neg hbig]
  clear hcall
  go_wp2_with fail
  go_loopw [3, 4] (fun v u wr => ∃ (k : Nat) (ts : List Tok) (f : Nat), u = (.int .i64 k) /\ Hid (RT w1 s k v ts f wr)) (fun _ u _ => s.size - (intOf u).toNat)
  case atStart => exact ⟨_, _, _, rfl, H0⟩
  case round =>
   clear H0 h0
   obtain ⟨k, ts, f, rfl, HS⟩ := hrel
   have hle := HS.out.le
   have hlen := HS.out.len
   have HBr : Hid (∀ X, Turned (fun _ => False) wr X -> X.heap[w.heap.size]? = some (.cells #[.slice none 0 0, .int .i64 0, .int .i64 0] 76 (0, 0))) := fun X hX => by
    have h1 : w.heap.size < w1.heap.size := by omega
    have h2 := HS.out.tur.size
    rw [hX.block _ (by omega) id, HS.out.tur.block _ h1 (by omega)]
    exact HB.out
   have HTr : Hid (∀ X, Turned (fun _ => False) wr X -> Turned (fun i => w.heap.size <= i) w X) := fun X hX => HT.out.trans ((HS.out.tur.mono fun i hi => by omega).trans (hX.mono fun _ h => h.elim))
   obtain ⟨va, vc, rfl⟩ := owns_shape HS.out.own
   by_cases hk : k < s.size
   ·have HC := Lib.hid (rtoken_any s k wr (by omega) hk)
    have hnn : nextT s k ≠ .none := firstT_some _
    cases hT : nextT s k with
    | none => exact absurd hT hnn
    | err c =>
     have hc0 : (c != 0) = true := by simpa using next_errs hT
     have HF : Hid (tokensP s = .err k c) := by show _ = _; rw [<- HS.out.eq, lexF_err HS.out.fuel hk hT]
     rw [hT] at HC
     clear hnn hT
     go_wp2_with fail
     refine HC.out.mono ?_
     rintro e X ⟨rfl, ht⟩
     have hB := HBr.out _ (ht.alloc (.cells #[.int .i64 0, .int .i64 0, .string ⟨#[]⟩, .int .i64 0, .int .i64 0, .int .i64 c] 116))
     have HT2 := Lib.hid (HTr.out _ (ht.alloc (.cells #[.int .i64 0, .int .i64 0, .string ⟨#[]⟩, .int .i64 0, .int .i64 0, .int .i64 c] 116)))
     obtain ⟨x0, x1, x2⟩ := three_cells hB
     have xf := three_free hB
     have HB2 := Lib.hid hB
     clear ht hB
     simp only [oneV]
     go_wp2_with fail
     refine bodyPost_ret (results_rtokens _ _ w.heap.size _ _ _ rfl (three_set HB2.out)) rfl ?_
     rw [HF.out]
     exact ⟨rfl, (three_turned HT2.out (Nat.le_refl _)).strip⟩
    | tok t tt =>
     obtain ⟨f', rfl⟩ : ∃ f', f = f' + 1 := ⟨f - 1, by have := HS.out.fuel; omega⟩
     obtain ⟨hft1, hft2⟩ := next_fits hk hT
     have hge := blankTo_ge s tt
     have hbl := blankTo_le s tt hft2
     rw [hT] at HC
     have HPU := Lib.hid (fun (X v' w4 : _) ht hown' hgrow => HS.out.push (X := X) (v' := v') (w4 := w4) ht hk hT hown' hgrow)
     obtain ⟨kind, at_, str, num⟩ := t
     have HKt := HK.out tt
     clear hnn hT
     go_wp2_with fail
     refine HC.out.mono ?_
     rintro e X ⟨rfl, ht⟩
     have HTX : Hid (Turned (fun _ => False) wr ((X.alloc (.cells #[.int .i64 kind, .int .i64 at_, .string str, .int .i64 num, .int .i64 tt, .int .i64 0] 116)).alloc (.cells #[.int .i64 kind, .int .i64 at_, .string str, .int .i64 num] 68))) := (ht.alloc _).alloc _
     have hXs : w1.heap.size <= X.heap.size /\ wr.heap.size <= X.heap.size := ⟨Nat.le_trans HS.out.tur.size ht.size, ht.size⟩
     clear ht
     simp only [oneV]
     go_wp2_with (first | (at_builtin; refine wpList_append_own _ rfl _ _ 69 rfl w1.heap.size 68 i0 (.agg #[.int .i64 0, .int .i64 0, .string ⟨#[]⟩, .int .i64 0]) 4 40 Tryz.underlying69 hif hz0 hz1 hz2 rfl (by decide) _ _ _ rfl (HS.out.ownT HTX.out) ⟨X.heap.size + 1, 0, none⟩ 1 1 [(.int .i64 kind), .int .i64 at_, .string str, .int .i64 num] rfl rfl (four_at (by simp)) (by simp [Value.oneCell']) (by unfold maxLen; omega) (by omega) (by simp; omega) ?_; intro v' w4 hown' hgrow hnil; have HE := Lib.hid (HPU.out _ v' w4 HTX.out hown' hgrow); have hx4 := grown_cell hgrow (fun g hg => Nat.lt_of_lt_of_le (ownsRow_block HS.out.own g hg).2 hXs.2); clear hown' hgrow hnil) | (go_at_call 59; refine (HKt _ hft2).mono ?_; rintro e w' ⟨rfl, rfl⟩))
     go_roundw
     case rel => exact ⟨blankTo s tt, _, f', rfl, HE⟩
     case measure => simp [intOf]; omega
   ·obtain rfl : k = s.size := by omega
    have HF : Hid (tokensP s = .ok (ts ++ [endTok s])) := by show _ = _; rw [<- HS.out.eq, lexF_ok HS.out.fuel rfl]
    have HTX : Hid (Turned (fun _ => False) wr (wr.alloc (.cells #[.int .i64 5, .int .i64 s.size, .string ⟨#[]⟩, .int .i64 0] 68))) := (Turned.refl _ _).alloc _
    have hws := HS.out.tur.size
    go_wp2_with (at_builtin; refine wpList_append_own _ rfl _ _ 69 rfl w1.heap.size 68 i0 (.agg #[.int .i64 0, .int .i64 0, .string ⟨#[]⟩, .int .i64 0]) 4 40 Tryz.underlying69 hif hz0 hz1 hz2 rfl (by decide) _ _ _ rfl (HS.out.ownT HTX.out) ⟨wr.heap.size, 0, none⟩ 1 1 [(.int .i64 5), .int .i64 s.size, .string ⟨#[]⟩, .int .i64 0] rfl rfl (cells_four wr _ _ _ _ _) (by simp [Value.oneCell']) (by unfold maxLen; omega) (by omega) (by simp; omega) ?_; intro v' w4 hown' hgrow hnil; obtain ⟨va', vc', rfl⟩ := owns_shape hown'; have HO := Lib.hid hown'; have HG := Lib.hid hgrow; have hB := (hgrow.block w.heap.size (by simp; omega) (fun e => by have := (ownsRow_block HS.out.own _ e.symm).1; omega)).trans (HBr.out _ HTX.out); obtain ⟨x0, x1, x2⟩ := three_cells hB; have xf := three_free hB; have HB2 := Lib.hid hB; clear hown' hgrow hnil hB)
    refine bodyPost_ret (results_rtokens _ _ w.heap.size _ _ _ rfl (three_set HB2.out)) rfl ?_
    rw [HF.out]
    refine ⟨_, rfl, ?_, ?_⟩
    ·have h2 : w4.ownsRow w1.heap.size 68 4 (.slice va' (ts.length + 1) vc') (ts ++ [endTok s]).length ((ts ++ [endTok s]).flatMap tokV) := by simpa [endTok, tokV] using HO.out
     have h1 := ownsRow_turned' (C := fun j => j = w.heap.size) (three_turned (a' := .slice va' (ts.length + 1) vc') (b' := (.int .i64 0)) (c' := (.int .i64 0)) (Turned.refl _ w4) rfl) (fun g hg he => by have := (ownsRow_block h2 g hg).1; omega) h2
     exact ownsRow_lower h1 fun g hg => by have := (ownsRow_block h2 g hg).1; omega
    ·have hTG := Turned.of_grown (C := fun i => w.heap.size <= i) HG.out fun g hgr => by have := (ownsRow_block HS.out.own g hgr).1; omega
     exact (three_turned ((HTr.out _ HTX.out).trans hTG) (Nat.le_refl _)).strip
end Go.Proofs.YtjijdgkccfeeaaaGreatDoor
