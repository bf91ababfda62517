/- Part 6 of the proof of card: LexFill, LexPrintA, LexPrintB, LexPrintC, ParPlain, ParFacts. Conditions: those of each theorem. -/
import Derived.Test.YtjijdgkccfeeaaaGreatDoorPt01
import Derived.Test.YtjijdgkccfeeaaaGreatDoorPt05
set_option maxRecDepth 20000
set_option maxHeartbeats 4000000
namespace Go.Proofs.YtjijdgkccfeeaaaGreatDoor
open Go Go.Proofs
def Tok.strip (t : Tok) : Int × ByteArray × Int := (t.kind, t.s, t.n)
open Go.RowKit
attribute [local go_sem] Oper.semAt_some
theorem bytes_conv {wr : World} {base : Nat} {v : Value} {bs : List UInt8} (h : wr.ownsRow base 5 1 v bs.length (bs.map encB)) : (convert 172 9 v).run Tryz.prog wr = .ok (.string ⟨bs.toArray⟩) wr := by
 obtain ⟨hl, h2⟩ := h
 rcases h2 with ⟨rfl, h0⟩ | ⟨g, cap, cur, rfl, hg, hh, hc, hm, hs, ht⟩
 ·have : bs = [] := List.length_eq_zero_iff.1 h0
  subst this
  exact Lib.run_convert_nil_bytes wr 172 9 5 0 Tryz.underlying172 Tryz.underlying5 Tryz.underlying9
 ·refine run_convert_bytes_back wr 172 9 5 ⟨g, 0, none⟩ cap bs Tryz.underlying172 Tryz.underlying5 Tryz.underlying9 (fun i hi => ?_)
  have h1 : (bs.map encB)[i]? = some (encB bs[i]) := by simp [hi]
  rw [<- ht, List.getElem?_take_of_lt (by omega)] at h1
  rw [show (⟨g, 0, none⟩ : Addr).add i = ⟨g, i, none⟩ by cases i <;> simp [Addr.add]]
  simpa [World.cell?, hh, encB] using h1
theorem own_new (w : World) (bs : List UInt8) (n : Nat) (hn : bs.length = n) (hl : n <= maxLen) : (w.alloc (.cells (bs.map encB).toArray 5)).ownsRow w.heap.size 5 1 (.slice (some ⟨w.heap.size, 0, none⟩) n n) n (bs.map encB) := by
 subst hn
 exact ⟨by simp, .inr ⟨w.heap.size, bs.length, (bs.map encB).toArray, rfl, Nat.le_refl _, heap_alloc_new _ _, Nat.le_refl _, hl, by simp, by simp [List.take_of_length_le]⟩⟩
theorem itoa_digit (d : Nat) (h : d < 10) : Lib.itoa (d : Int) = [UInt8.ofNat (48 + d)] := by
 unfold Lib.itoa
 rw [if_neg (by omega), Lib.decDigits, dif_pos (by omega), Int.toNat_natCast]
theorem itoa_up (n : Nat) (h : 10 <= n) : Lib.itoa (n : Int) = Lib.itoa ((n / 10 : Nat) : Int) ++ Lib.itoa ((n % 10 : Nat) : Int) := by
 rw [itoa_digit (n % 10) (by omega)]
 unfold Lib.itoa
 rw [if_neg (by omega), if_neg (by omega), Int.toNat_natCast, Int.toNat_natCast]
 conv => lhs; rw [Lib.decDigits, dif_neg (by omega)]
theorem itoa_minus (n : Nat) (h : 0 < n) : Lib.itoa (-(n : Int)) = [45] ++ Lib.itoa (n : Int) := by
 unfold Lib.itoa
 rw [if_pos (by omega), if_neg (by omega), Int.natAbs_neg, Int.natAbs_natCast, Int.toNat_natCast]
 rfl
theorem itoa_down (n : Nat) (h : 10 <= n) : Lib.itoa (-(n : Int)) = Lib.itoa (-((n / 10 : Nat) : Int)) ++ Lib.itoa ((n % 10 : Nat) : Int) := by
 rw [itoa_minus n (by omega), itoa_minus (n / 10) (by omega), itoa_up n h, List.append_assoc]
theorem itoaB_app {x y z : Int} (h : Lib.itoa x = Lib.itoa y ++ Lib.itoa z) : itoaB x = itoaB y ++ itoaB z := by
 apply ByteArray.ext
 apply Array.ext'
 simp [itoaB, h]
theorem rdec_digit (d : Nat) (h : d < 10) (w : World) : Calls Tryz.prog 124 #[.int .i64 d] w fun e w' => e = .returned (.string (itoaB d)) /\ Below w.heap.size w w' := by
 have hw : 48 + (d : Int) = ((UInt8.ofNat (48 + d)).toNat : Int) := by
  rw [UInt8.toNat_ofNat']
  have : (48 + d) % 2 ^ 8 = 48 + d := Nat.mod_eq_of_lt (by omega)
  rw [this]
  omega
 have hcv : (convert 172 9 (.slice (some ⟨w.heap.size, 0, none⟩) 1 1)).run Tryz.prog (w.alloc (.cells #[.int .u8 (48 + (d : Int))] 5)) = .ok (.string (itoaB d)) (w.alloc (.cells #[.int .u8 (48 + (d : Int))] 5)) := by
  have h1 := own_new w [UInt8.ofNat (48 + d)] 1 rfl (by decide)
  have h2 := bytes_conv (bs := [UInt8.ofNat (48 + d)]) h1
  rw [hw, itoaB, itoa_digit d h]
  exact h2
 clear hw
 go_enter Tryz.func124, Tryz.ntmps124
 go_wp2_with fail
 go_ret
 exact ⟨rfl, (Below.refl _ _).alloc (Nat.le_refl _) _⟩
theorem rdec_any (m : Nat) : ∀ (x : Int), x.natAbs <= m -> -9223372036854775808 <= x -> x <= 9223372036854775807 -> ∀ w, Calls Tryz.prog 124 #[.int .i64 x] w fun e w' => e = .returned (.string (itoaB x)) /\ Below w.heap.size w w' := by
 induction m using Nat.strongRecOn with
 | _ m ih =>
  intro x hm h0 h1 w
  rcases Int.lt_or_le x 0 with hneg | hpos
  ·obtain ⟨n, rfl⟩ : ∃ n : Nat, x = -(n : Int) := ⟨x.natAbs, by omega⟩
   rcases Nat.lt_or_ge n 10 with hs | hb
   ·have HC := Lib.hid (rdec_digit n hs)
    have HL := Lib.hid (itoa_len n (by omega) (by omega))
    have HE : Hid (itoaB (-(n : Int)) = ⟨#[45]⟩ ++ itoaB n) := by
     show _ = _
     rw [itoaB, itoa_minus n (by omega)]
     apply ByteArray.ext
     apply Array.ext'
     simp [itoaB]
    have hsz : (itoaB n).size <= 20 := HL.out
    clear ih hm
    go_enter Tryz.func124, Tryz.ntmps124
    go_wp2_with fail
    refine (HC.out w).mono ?_
    rintro e w1 ⟨rfl, hb⟩
    have HB := Lib.hid hb
    clear hb
    go_wp2_with fail
    go_ret
    rw [HE.out]
    exact ⟨rfl, HB.out⟩
   ·obtain ⟨q, hq⟩ : ∃ q, n / 10 = q := ⟨_, rfl⟩
    obtain ⟨r, hr⟩ : ∃ r, n % 10 = r := ⟨_, rfl⟩
    have HC := Lib.hid (ih q (by omega) (-(q : Int)) (by omega) (by omega) (by omega))
    have HD := Lib.hid (rdec_digit r (by omega))
    have HE : Hid (itoaB (-(n : Int)) = itoaB (-(q : Int)) ++ itoaB r) := itoaB_app (by rw [itoa_down n hb, hq, hr])
    have hs1 := itoaB_len (-(q : Int)) (by omega) (by omega)
    have hs2 := itoaB_len r (by omega) (by omega)
    have hwr : wrap64 (-(q : Int)) = -(q : Int) := by unfold wrap64; omega
    have hwr2 : wrap64 (r : Int) = (r : Int) := by unfold wrap64; omega
    have eq1 : Int.tdiv (n : Int) 10 = (q : Int) := by rw [Int.tdiv_eq_ediv_of_nonneg (by omega)]; omega
    have eq2 : Int.tmod (n : Int) 10 = (r : Int) := by rw [Int.tmod_eq_emod_of_nonneg (by omega)]; omega
    clear ih hm hq hr
    go_enter Tryz.func124, Tryz.ntmps124
    go_wp2_with fail
    refine (HC.out w).mono ?_
    rintro e w1 ⟨rfl, hb⟩
    have HB1 := Lib.hid hb
    clear hb
    go_wp2_with fail
    refine (HD.out w1).mono ?_
    rintro e w2 ⟨rfl, hb⟩
    have HB2 := Lib.hid (HB1.out.trans (hb.mono HB1.out.size))
    clear hb HB1
    go_wp2_with fail
    go_ret
    rw [HE.out]
    exact ⟨rfl, HB2.out⟩
  ·obtain ⟨n, rfl⟩ : ∃ n : Nat, x = (n : Int) := ⟨x.toNat, by omega⟩
   rcases Nat.lt_or_ge n 10 with hs | hb
   ·exact rdec_digit n hs w
   ·obtain ⟨q, hq⟩ : ∃ q, n / 10 = q := ⟨_, rfl⟩
    obtain ⟨r, hr⟩ : ∃ r, n % 10 = r := ⟨_, rfl⟩
    have HC := Lib.hid (ih q (by omega) (q : Int) (by omega) (by omega) (by omega))
    have HD := Lib.hid (rdec_digit r (by omega))
    have HE : Hid (itoaB (n : Int) = itoaB (q : Int) ++ itoaB r) := itoaB_app (by rw [itoa_up n hb, hq, hr])
    have hs1 := itoaB_len (q : Int) (by omega) (by omega)
    have hs2 := itoaB_len r (by omega) (by omega)
    have hwr : wrap64 (q : Int) = (q : Int) := by unfold wrap64; omega
    have hwr2 : wrap64 (r : Int) = (r : Int) := by unfold wrap64; omega
    have eq1 : Int.tdiv (n : Int) 10 = (q : Int) := by rw [Int.tdiv_eq_ediv_of_nonneg (by omega)]; omega
    have eq2 : Int.tmod (n : Int) 10 = (r : Int) := by rw [Int.tmod_eq_emod_of_nonneg (by omega)]; omega
    clear ih hm hq hr
    go_enter Tryz.func124, Tryz.ntmps124
    go_wp2_with fail
    refine (HC.out w).mono ?_
    rintro e w1 ⟨rfl, hb⟩
    have HB1 := Lib.hid hb
    clear hb
    go_wp2_with fail
    refine (HD.out w1).mono ?_
    rintro e w2 ⟨rfl, hb⟩
    have HB2 := Lib.hid (HB1.out.trans (hb.mono HB1.out.size))
    clear hb HB1
    go_wp2_with fail
    go_ret
    rw [HE.out]
    exact ⟨rfl, HB2.out⟩
structure QS (w : World) (v : Value) (bs : List UInt8) (wr : World) : Prop where
 own : wr.ownsRow w.heap.size 5 1 v bs.length (bs.map encB)
 tur : Turned (fun i => w.heap.size <= i) w wr
theorem QS.push {w wr w4 : World} {v v' : Value} {bs : List UInt8} {o : Obj} (h : QS w v bs wr) (news : List UInt8) (m : Nat) (hm : news.length = m)
  (hown' : w4.ownsRow w.heap.size 5 1 v' (bs.length + m) (bs.map encB ++ news.map encB)) (hgrow : (wr.alloc o).grownBy w4 v.ownBlock) : QS w v' (bs ++ news) w4 := by
 subst hm
 refine ⟨by simpa using hown', ?_⟩
 have hb := ownsRow_block h.own
 exact (h.tur.alloc _).trans (Turned.of_grown hgrow fun g hgr => (hb g hgr).1)
theorem QS.ownA {w wr : World} {v : Value} {bs : List UInt8} (h : QS w v bs wr) (o : Obj) : (wr.alloc o).ownsRow w.heap.size 5 1 v bs.length (bs.map encB) :=
 ownsRow_turned' ((Turned.refl (fun _ => False) wr).alloc o) (fun _ _ => id) h.own
theorem cell_two_new (w : World) (x y : Value) (t : TypeId) : ∀ j u, [x, y][j]? = some u -> (w.alloc (.cells #[x, y] t)).cell? ((⟨w.heap.size, 0, none⟩ : Addr).add j) = some u := by
 intro j u hj
 match j, hj with
 | 0, hj => simp at hj; subst hj; simp [Addr.add]
 | 1, hj => simp at hj; subst hj; simp [Addr.add]
 | j + 2, hj => simp at hj
theorem take_esc (s : ByteArray) (j : Nat) (hj : j < s.size) : escL (s.data.toList.take (j + 1)) = escL (s.data.toList.take j) ++ esc s[j] := by
 rw [List.take_succ_eq_append_getElem (by simpa using hj), escL_snoc]
 rfl
theorem rquoted_any (s : ByteArray) (w : World) (hs : s.size <= 100000) : Calls Tryz.prog 125 #[.string s] w fun e w' => e = .returned (.string (quotedB s)) /\ Below w.heap.size w w' := by
 obtain ⟨i0, hif, hz0, hz1, hz2⟩ := info_parts infoU8
 go_enter Tryz.func125, Tryz.ntmps125
 go_wp2_with fail
 have H0 : Hid (QS w (.slice (some ⟨w.heap.size, 0, none⟩) 1 1) (34 :: escL (s.data.toList.take 0)) (w.alloc (.cells #[.int .u8 34] 5))) := ⟨own_new w [34] 1 rfl (by decide), (Turned.refl _ _).alloc _⟩
 go_loopw [3, 4] (fun v i wr => ∃ j : Nat, j <= s.size /\ i = (.int .i64 j) /\ Hid (QS w v (34 :: escL (s.data.toList.take j)) wr)) (fun _ i _ => s.size - (intOf i).toNat)
 case atStart => exact ⟨0, by omega, rfl, H0⟩
 case round =>
  clear H0
  obtain ⟨j, hle, rfl, HS⟩ := hrel
  have hln : (34 :: escL (s.data.toList.take j)).length <= 200001 := by
   have h1 := escL_len (s.data.toList.take j)
   have h2 := escN_le (s.data.toList.take j)
   have h3 : (s.data.toList.take j).length <= s.size := by simp; omega
   simp only [List.length_cons]
   omega
  obtain ⟨va, vc, rfl⟩ := owns_shape HS.out.own
  have hsz := HS.out.tur.size
  by_cases hlt : j < s.size
  ·have HE := Lib.hid (take_esc s j hlt)
   by_cases q34 : s[j] = 34
   ·have k34 : ((s[j].toNat : Int) == 34) = true := by rw [q34]; rfl
    have HX : Hid (34 :: escL (s.data.toList.take (j + 1)) = 34 :: escL (s.data.toList.take j) ++ [92, s[j]]) := by show _ = _; rw [HE.out, show esc s[j] = [92, s[j]] by rw [q34]; rfl]; rfl
    clear q34
    clear HE
    generalize 34 :: escL (s.data.toList.take j) = el at HS HX hln
    go_wp2_with (at_builtin; refine wpList_append_own _ rfl _ _ 172 rfl w.heap.size 5 i0 (.int .u8 0) 1 1 Tryz.underlying172 hif hz0 hz1 hz2 rfl (by decide) _ _ _ rfl (HS.out.ownA _) ⟨wr.heap.size, 0, none⟩ 2 2 [encB 92, encB s[j]] rfl rfl (cell_two_new _ _ _ _) (by intro u hu; simp at hu; rcases hu with rfl | rfl <;> rfl) (by unfold maxLen; omega) (by omega) (by simp; omega) ?_; intro v' w4 hown' hgrow hnil; have HE := Lib.hid (HS.out.push [92, s[j]] 2 rfl hown' hgrow); clear hown' hgrow hnil)
    go_roundw
    case rel => exact ⟨j + 1, by omega, by go_num, by rw [HX.out]; exact HE⟩
    case measure => simp [intOf]; omega
   ·have k34 : ((s[j].toNat : Int) == 34) = false := by
     have : s[j].toNat ≠ 34 := fun h => q34 (UInt8.toNat_inj.1 h)
     simp; omega
    by_cases q92 : s[j] = 92
    ·have k92 : ((s[j].toNat : Int) == 92) = true := by rw [q92]; rfl
     have HX : Hid (34 :: escL (s.data.toList.take (j + 1)) = 34 :: escL (s.data.toList.take j) ++ [92, s[j]]) := by show _ = _; rw [HE.out, show esc s[j] = [92, s[j]] by rw [q92]; rfl]; rfl
     clear q34 q92
     clear HE
     generalize 34 :: escL (s.data.toList.take j) = el at HS HX hln
     go_wp2_with (at_builtin; refine wpList_append_own _ rfl _ _ 172 rfl w.heap.size 5 i0 (.int .u8 0) 1 1 Tryz.underlying172 hif hz0 hz1 hz2 rfl (by decide) _ _ _ rfl (HS.out.ownA _) ⟨wr.heap.size, 0, none⟩ 2 2 [encB 92, encB s[j]] rfl rfl (cell_two_new _ _ _ _) (by intro u hu; simp at hu; rcases hu with rfl | rfl <;> rfl) (by unfold maxLen; omega) (by omega) (by simp; omega) ?_; intro v' w4 hown' hgrow hnil; have HE := Lib.hid (HS.out.push [92, s[j]] 2 rfl hown' hgrow); clear hown' hgrow hnil)
     go_roundw
     case rel => exact ⟨j + 1, by omega, by go_num, by rw [HX.out]; exact HE⟩
     case measure => simp [intOf]; omega
    ·have k92 : ((s[j].toNat : Int) == 92) = false := by
      have : s[j].toNat ≠ 92 := fun h => q92 (UInt8.toNat_inj.1 h)
      simp; omega
     by_cases q10 : s[j] = 10
     ·have k10 : ((s[j].toNat : Int) == 10) = true := by rw [q10]; rfl
      have HX : Hid (34 :: escL (s.data.toList.take (j + 1)) = 34 :: escL (s.data.toList.take j) ++ [92, 110]) := by show _ = _; rw [HE.out, show esc s[j] = [92, 110] by rw [q10]; rfl]; rfl
      clear q34 q92 q10
      clear HE
      generalize 34 :: escL (s.data.toList.take j) = el at HS HX hln
      go_wp2_with (at_builtin; refine wpList_append_own _ rfl _ _ 172 rfl w.heap.size 5 i0 (.int .u8 0) 1 1 Tryz.underlying172 hif hz0 hz1 hz2 rfl (by decide) _ _ _ rfl (HS.out.ownA _) ⟨wr.heap.size, 0, none⟩ 2 2 [encB 92, encB 110] rfl rfl (cell_two_new _ _ _ _) (by intro u hu; simp at hu; rcases hu with rfl | rfl <;> rfl) (by unfold maxLen; omega) (by omega) (by simp; omega) ?_; intro v' w4 hown' hgrow hnil; have HE := Lib.hid (HS.out.push [92, 110] 2 rfl hown' hgrow); clear hown' hgrow hnil)
      go_roundw
      case rel => exact ⟨j + 1, by omega, by go_num, by rw [HX.out]; exact HE⟩
      case measure => simp [intOf]; omega
     ·have k10 : ((s[j].toNat : Int) == 10) = false := by
       have : s[j].toNat ≠ 10 := fun h => q10 (UInt8.toNat_inj.1 h)
       simp; omega
      have HX : Hid (34 :: escL (s.data.toList.take (j + 1)) = 34 :: escL (s.data.toList.take j) ++ [s[j]]) := by show _ = _; rw [HE.out, esc_one q10 q92 q34]; rfl
      clear q34 q92 q10
      clear HE
      generalize 34 :: escL (s.data.toList.take j) = el at HS HX hln
      go_wp2_with (at_builtin; refine wpList_append_own _ rfl _ _ 172 rfl w.heap.size 5 i0 (.int .u8 0) 1 1 Tryz.underlying172 hif hz0 hz1 hz2 rfl (by decide) _ _ _ rfl (HS.out.ownA _) ⟨wr.heap.size, 0, none⟩ 1 1 [encB s[j]] rfl rfl (cell_one_new _ _ _) (by intro u hu; simp at hu; subst hu; rfl) (by unfold maxLen; omega) (by omega) (by simp; omega) ?_; intro v' w4 hown' hgrow hnil; have HE := Lib.hid (HS.out.push [s[j]] 1 rfl hown' hgrow); clear hown' hgrow hnil)
      go_roundw
      case rel => exact ⟨j + 1, by omega, by go_num, by rw [HX.out]; exact HE⟩
      case measure => simp [intOf]; omega
  ·obtain rfl : j = s.size := by omega
   have HQ : Hid (quotedB s = ⟨(34 :: escL (s.data.toList.take s.size) ++ [34]).toArray⟩) := by
    show _ = _
    apply ByteArray.ext
    apply Array.ext'
    simp [quotedB, List.take_of_length_le]
   generalize escL (s.data.toList.take s.size) = el at HS HQ hln
   go_wp2_with (at_builtin; refine wpList_append_own _ rfl _ _ 172 rfl w.heap.size 5 i0 (.int .u8 0) 1 1 Tryz.underlying172 hif hz0 hz1 hz2 rfl (by decide) _ _ _ rfl (HS.out.ownA _) ⟨wr.heap.size, 0, none⟩ 1 1 [encB 34] rfl rfl (cell_one_new _ _ _) (by intro u hu; simp at hu; subst hu; rfl) (by unfold maxLen; omega) (by omega) (by simp; omega) ?_; intro v' w4 hown' hgrow hnil; have HE := Lib.hid (HS.out.push [34] 1 rfl hown' hgrow); have hcv := bytes_conv HE.out.own; clear hown' hgrow hnil)
   go_ret
   rw [HQ.out]
   exact ⟨rfl, below_turned HE.out.tur.strip⟩
theorem rtextall_any (b o c : Nat) (ts : List Tok) (w : World) (hT : ToksAt w b o ts) (hl : ts.length <= 100000) (hk : ∀ t ∈ ts, -9223372036854775808 <= t.n /\ t.n <= 9223372036854775807 /\ t.s.size <= 100000) :
  Calls Tryz.prog 107 #[.slice (some ⟨b, o, none⟩) ts.length c] w fun e w' => e = .returned (.string (textQ ts)) /\ Below w.heap.size w w' := by
 have ST0 := St.start hT (fun _ _ h hb => ToksAt.turned h (Turned.of_new hb))
 have HK := Lib.hid hk
 have H0 : RQ ts 0 true ⟨#[]⟩ := ⟨rfl, rfl⟩
 have H0 := Lib.hid H0
 clear hT hk
 go_enter Tryz.func107, Tryz.ntmps107
 go_wp2_with fail
 go_loopw [3, 4, 5] (fun v f i wr => ∃ (j : Nat) (fb : Bool) (out : ByteArray), v = .string out /\ f = .bool fb /\ i = (.int .i64 j) /\ j <= ts.length /\ out.size <= j * 200010 /\ Hid (RQ ts j fb out) /\ Hid (St (fun W => ToksAt W b o ts) w wr [])) (fun _ _ i _ => ts.length - (intOf i).toNat)
 case atStart => exact ⟨0, true, _, rfl, rfl, rfl, by omega, by show 0 <= _; omega, H0, ST0⟩
 case round =>
  clear H0 ST0
  obtain ⟨j, fb, out, rfl, rfl, rfl, hle, hout, HRQ, HS⟩ := hrel
  by_cases hlt : j < ts.length
  ·obtain ⟨x, hx⟩ : ∃ x, ts[j]? = some x := ⟨ts[j], List.getElem?_eq_getElem hlt⟩
   obtain ⟨d0, d1, d2, d3⟩ := HS.out.tab.2 j x hx
   have f1 := HS.out.tab.1
   have hxm := HK.out x (List.mem_of_getElem? hx)
   obtain ⟨kind, at_, s, n⟩ := x
   simp only at d0 d1 d2 d3 hxm
   obtain ⟨hn0, hn1, hsz⟩ := hxm
   by_cases k1 : kind = 1
   ·subst k1
    have HW : Hid (wordQ ⟨1, at_, s, n⟩ = [s]) := rfl
    cases fb
    ·have HR := Lib.hid (rq_more HRQ.out hx HW.out)
     clear hx HW HRQ
     go_wp2_with fail
     clear d0 d1 d2 d3 f1
     go_roundw
     case rel => exact ⟨j + 1, false, _, rfl, rfl, by go_num, by omega, by rw [byte_add3]; simp only [byte_one]; omega, HR, HS⟩
     case measure => simp [intOf]; omega
    ·have HR := Lib.hid (rq_first HRQ.out hx HW.out)
     clear hx HW HRQ
     go_wp2_with fail
     clear d0 d1 d2 d3 f1
     go_roundw
     case rel => exact ⟨j + 1, false, _, rfl, rfl, by go_num, by omega, by rw [byte_add]; omega, HR.out, HS⟩
     case measure => simp [intOf]; omega
   by_cases k4 : kind = 4
   ·subst k4
    have HW : Hid (wordQ ⟨4, at_, s, n⟩ = [s]) := rfl
    cases fb
    ·have HR := Lib.hid (rq_more HRQ.out hx HW.out)
     clear hx HW HRQ
     go_wp2_with fail
     clear d0 d1 d2 d3 f1
     go_roundw
     case rel => exact ⟨j + 1, false, _, rfl, rfl, by go_num, by omega, by rw [byte_add3]; simp only [byte_one]; omega, HR, HS⟩
     case measure => simp [intOf]; omega
    ·have HR := Lib.hid (rq_first HRQ.out hx HW.out)
     clear hx HW HRQ
     go_wp2_with fail
     clear d0 d1 d2 d3 f1
     go_roundw
     case rel => exact ⟨j + 1, false, _, rfl, rfl, by go_num, by omega, by rw [byte_add]; omega, HR.out, HS⟩
     case measure => simp [intOf]; omega
   by_cases k2 : kind = 2
   ·subst k2
    have HW : Hid (wordQ ⟨2, at_, s, n⟩ = [itoaB n]) := rfl
    have HC := Lib.hid (fun W => rdec_any n.natAbs n (Nat.le_refl _) hn0 hn1 W)
    have hwl := itoaB_len n hn0 hn1
    cases fb
    ·have HR := Lib.hid (rq_more HRQ.out hx HW.out)
     clear hx HW HRQ
     go_wp2_with fail
     clear d0 d1 d2 d3 f1
     refine (HC.out wr).mono ?_
     rintro e X7 ⟨rfl, hb⟩
     have HS := St.call HS hb
     clear hb
     go_wp2_with fail
     go_roundw
     case rel => exact ⟨j + 1, false, _, rfl, rfl, by go_num, by omega, by rw [byte_add3]; simp only [byte_one]; omega, HR, HS⟩
     case measure => simp [intOf]; omega
    ·have HR := Lib.hid (rq_first HRQ.out hx HW.out)
     clear hx HW HRQ
     go_wp2_with fail
     clear d0 d1 d2 d3 f1
     refine (HC.out wr).mono ?_
     rintro e X7 ⟨rfl, hb⟩
     have HS := St.call HS hb
     clear hb
     go_wp2_with fail
     go_roundw
     case rel => exact ⟨j + 1, false, _, rfl, rfl, by go_num, by omega, by rw [byte_add]; omega, HR.out, HS⟩
     case measure => simp [intOf]; omega
   by_cases k3 : kind = 3
   ·subst k3
    have HW : Hid (wordQ ⟨3, at_, s, n⟩ = [quotedB s]) := rfl
    have HC := Lib.hid (fun W => rquoted_any s W hsz)
    have hwl := quotedB_len s
    cases fb
    ·have HR := Lib.hid (rq_more HRQ.out hx HW.out)
     clear hx HW HRQ
     go_wp2_with fail
     clear d0 d1 d2 d3 f1
     refine (HC.out wr).mono ?_
     rintro e X7 ⟨rfl, hb⟩
     have HS := St.call HS hb
     clear hb
     go_wp2_with fail
     go_roundw
     case rel => exact ⟨j + 1, false, _, rfl, rfl, by go_num, by omega, by rw [byte_add3]; simp only [byte_one]; omega, HR, HS⟩
     case measure => simp [intOf]; omega
    ·have HR := Lib.hid (rq_first HRQ.out hx HW.out)
     clear hx HW HRQ
     go_wp2_with fail
     clear d0 d1 d2 d3 f1
     refine (HC.out wr).mono ?_
     rintro e X7 ⟨rfl, hb⟩
     have HS := St.call HS hb
     clear hb
     go_wp2_with fail
     go_roundw
     case rel => exact ⟨j + 1, false, _, rfl, rfl, by go_num, by omega, by rw [byte_add]; omega, HR.out, HS⟩
     case measure => simp [intOf]; omega
   have hout2 := Lib.hid (Nat.le_trans hout (Nat.mul_le_mul_right 200010 (Nat.le_succ j)))
   have HR := Lib.hid (rq_skip HRQ.out hx (wordQ_none k1 k4 k2 k3))
   have g1 : (kind == 1) = false := by simpa using k1
   have g4 : (kind == 4) = false := by simpa using k4
   have g2 : (kind == 2) = false := by simpa using k2
   have g3 : (kind == 3) = false := by simpa using k3
   clear hx HRQ k1 k2 k3 k4
   go_wp2_with fail
   go_roundw
   case rel => exact ⟨j + 1, fb, out, rfl, rfl, by go_num, by omega, hout2.out, HR, HS⟩
   case measure => simp [intOf]; omega
  ·obtain rfl : j = ts.length := by omega
   have HF : Hid (out = textQ ts) := by show _ = _; rw [HRQ.out.1, List.take_length]; rfl
   go_wp2_with fail
   go_ret
   rw [HF.out]
   exact ⟨rfl, HS.out.bel⟩
inductive Ex where
 | mk (op n : Int) (s : ByteArray) (kids : List Ex) (at_ : Int)
def Ex.at_ : Ex -> Int | .mk _ _ _ _ a => a
def noB : ByteArray := ⟨#[]⟩
structure Ar where
 kind : Int
 n : Int
 s : ByteArray
 e : Ex
 at_ : Int
inductive Fm where
 | mk (word : ByteArray) (args : List Ar) (body : List Fm) (at_ : Int)
inductive PR (α : Type) where
 | ok (x : α) (k : Nat)
 | err (k : Nat) (e : Int)
def noEx : Ex := .mk 0 0 noB [] 0
def isS (t : Tok) (s : ByteArray) : Bool := t.kind == 4 && t.s.data.toList == s.data.toList
def beginsT (t : Tok) : Bool := t.kind == 1 || t.kind == 2 || t.kind == 3 || isS t ⟨#[40]⟩ || isS t ⟨#[45]⟩
def firstP (t : Tok) (d : Int) (no : Bool) : Option Int := if !beginsT t && !(no && isS t ⟨#[33]⟩) then some 5 else if 30 < d then some 2 else none
def opRows : List (ByteArray × Int × Nat) := [(⟨#[42]⟩, 7, 6), (⟨#[47]⟩, 8, 6), (⟨#[37]⟩, 9, 6), (⟨#[43]⟩, 10, 5), (⟨#[45]⟩, 11, 5), (⟨#[61, 61]⟩, 12, 4), (⟨#[33, 61]⟩, 13, 4), (⟨#[60]⟩, 14, 4), (⟨#[60, 61]⟩, 15, 4), (⟨#[62]⟩, 16, 4), (⟨#[62, 61]⟩, 17, 4), (⟨#[38, 38]⟩, 18, 2), (⟨#[124, 124]⟩, 19, 1)]
def opAt (n : Nat) (t : Tok) : Option Int := (opRows.find? fun r => r.2.2 == n && isS t r.1).map (·.2.1)
inductive Qn where
 | expr
 | level (n : Nat)
 | loop (n : Nat) (x : Ex)
 | neg
 | atom
 | args (t : Tok) (kids : List Ex)
def PR.then_ {α β : Type} (r : Option (PR α)) (f : α -> Nat -> Option (PR β)) : Option (PR β) :=
 match r with
 | none => none
 | some (.err k e) => some (.err k e)
 | some (.ok x k) => f x k
def runF (ts : List Tok) : Nat -> Qn -> Nat -> Int -> Option (PR Ex)
 | 0, _, _, _ => none
 | f + 1, q, k, d =>
  match ts[k]? with
  | none => none
  | some t =>
   match q with
   | .expr =>
    match firstP t d true with
    | some c => some (.err k c)
    | none => PR.then_ (runF ts f (.level 1) k d) fun x j =>
     match ts[j]? with
     | none => none
     | some u => if !isS u ⟨#[63]⟩ then some (.ok x j) else
      PR.then_ (runF ts f .expr (j + 1) (d + 1)) fun a j2 =>
       match ts[j2]? with
       | none => none
       | some v => if !isS v ⟨#[58]⟩ then some (.err j2 5) else
        PR.then_ (runF ts f .expr (j2 + 1) (d + 1)) fun b j3 => some (.ok (.mk 20 0 noB [x, a, b] x.at_) j3)
   | .level n =>
    if n = 3 then
     if isS t ⟨#[33]⟩ then
      match ts[k + 1]? with
      | none => none
      | some u =>
       match firstP u (d + 1) true with
       | some c => some (.err (k + 1) c)
       | none => PR.then_ (runF ts f (.level 3) (k + 1) (d + 1)) fun x j => some (.ok (.mk 5 0 noB [x] t.at_) j)
     else runF ts f (.level 4) k d
    else if n = 7 then runF ts f .neg k d
    else PR.then_ (runF ts f (.level (n + 1)) k d) fun x j => runF ts f (.loop n x) j d
   | .loop n x =>
    match opAt n t with
    | none => some (.ok x k)
    | some op => PR.then_ (runF ts f (.level (n + 1)) (k + 1) d) fun y j =>
     if n = 4 then some (.ok (.mk op 0 noB [x, y] x.at_) j) else runF ts f (.loop n (.mk op 0 noB [x, y] x.at_)) j d
   | .neg =>
    if isS t ⟨#[45]⟩ then
     match ts[k + 1]? with
     | none => none
     | some u =>
      match firstP u (d + 1) false with
      | some c => some (.err (k + 1) c)
      | none => PR.then_ (runF ts f .neg (k + 1) (d + 1)) fun x j => some (.ok (.mk 6 0 noB [x] t.at_) j)
    else runF ts f .atom k d
   | .atom =>
    if isS t ⟨#[40]⟩ then PR.then_ (runF ts f .expr (k + 1) (d + 1)) fun x j =>
     match ts[j]? with
     | none => none
     | some u => if isS u ⟨#[41]⟩ then some (.ok x (j + 1)) else some (.err j 5)
    else if t.kind = 2 then some (.ok (.mk 1 t.n noB [] t.at_) (k + 1))
    else if t.kind = 3 then some (.ok (.mk 2 0 t.s [] t.at_) (k + 1))
    else if t.kind = 1 then
     match ts[k + 1]? with
     | none => none
     | some u => if !isS u ⟨#[40]⟩ then some (.ok (.mk 3 0 t.s [] t.at_) (k + 1)) else
      match ts[k + 2]? with
      | none => none
      | some v => if isS v ⟨#[41]⟩ then some (.ok (.mk 4 0 t.s [] t.at_) (k + 3)) else runF ts f (.args t []) (k + 2) d
    else some (.err k 5)
   | .args t0 kids =>
    if kids.length = 40 then some (.err k ((firstP t 0 true).getD 2))
    else PR.then_ (runF ts f .expr k (d + 1)) fun x j =>
     match ts[j]? with
     | none => none
     | some u => if isS u ⟨#[41]⟩ then some (.ok (.mk 4 0 t0.s (kids ++ [x]) t0.at_) (j + 1))
      else if isS u ⟨#[44]⟩ then runF ts f (.args t0 (kids ++ [x])) (j + 1) d
      else some (.err j 5)
def argF (ts : List Tok) (f : Nat) (k : Nat) : Option (PR Ar) :=
 match ts[k]? with
 | none => none
 | some t =>
  if t.kind = 1 \/ t.kind = 3 then some (.ok ⟨t.kind, 0, t.s, noEx, t.at_⟩ (k + 1))
  else if t.kind = 2 then some (.ok ⟨2, t.n, noB, noEx, t.at_⟩ (k + 1))
  else if isS t ⟨#[45, 62]⟩ then some (.ok ⟨4, 0, noB, noEx, t.at_⟩ (k + 1))
  else if isS t ⟨#[45]⟩ then
   match ts[k + 1]? with
   | none => none
   | some u => if u.kind = 2 then some (.ok ⟨2, -u.n, noB, noEx, t.at_⟩ (k + 2)) else some (.err (k + 1) 5)
  else PR.then_ (runF ts f .expr (k + 1) 1) fun x j =>
   match ts[j]? with
   | none => none
   | some u => if isS u ⟨#[41]⟩ then some (.ok ⟨5, 0, noB, x, t.at_⟩ (j + 1)) else some (.err j 5)
inductive Qf where
 | form
 | args (t : Tok) (as_ : List Ar)
 | body (t : Tok) (as_ : List Ar) (fs : List Fm)
def formF (ts : List Tok) : Nat -> Qf -> Nat -> Int -> Nat -> Option (PR (Fm × Nat))
 | 0, _, _, _, _ => none
 | f + 1, q, k, d, n =>
  match ts[k]? with
  | none => none
  | some t =>
   match q with
   | .form => if t.kind ≠ 1 then some (.err k 5) else if 30 < d \/ 2000 <= n then some (.err k 2) else formF ts f (.args t []) (k + 1) d (n + 1)
   | .args t0 as_ =>
    if isS t ⟨#[59]⟩ then some (.ok (.mk t0.s as_ [] t0.at_, n) (k + 1))
    else if isS t ⟨#[123]⟩ then formF ts f (.body t0 as_ []) (k + 1) d n
    else if !beginsT t && !isS t ⟨#[45, 62]⟩ then some (.err k 5)
    else if as_.length = 40 then some (.err k 2)
    else PR.then_ (argF ts f k) fun a j => formF ts f (.args t0 (as_ ++ [a])) j d n
   | .body t0 as_ fs =>
    if isS t ⟨#[125]⟩ then some (.ok (.mk t0.s as_ fs t0.at_, n) (k + 1))
    else PR.then_ (formF ts f .form k (d + 1) n) fun x j => formF ts f (.body t0 as_ (fs ++ [x.1])) j d x.2
def formsF (ts : List Tok) : Nat -> Nat -> Nat -> List Fm -> Option (PR (List Fm))
 | 0, _, _, _ => none
 | f + 1, k, n, fs =>
  match ts[k]? with
  | none => none
  | some t => if t.kind = 5 then some (.ok fs k) else PR.then_ (formF ts f .form k 1 n) fun x j => formsF ts f j x.2 (fs ++ [x.1])
structure TokOK (ts : List Tok) : Prop where
 next : ∀ (k : Nat) (t : Tok), ts[k]? = some t -> t.kind ≠ 5 -> k + 1 < ts.length
 zero : ∀ (k : Nat) (t : Tok), ts[k]? = some t -> t.kind = 1 \/ t.kind = 3 \/ t.kind = 4 -> t.n = 0
 none_ : ∀ (k : Nat) (t : Tok), ts[k]? = some t -> t.kind = 2 -> t.s = noB /\ 0 <= t.n /\ t.n <= 999999999999999
 len : ts.length <= 65537
theorem isS_kind {t : Tok} {s : ByteArray} (h : isS t s = true) : t.kind = 4 := by
 unfold isS at h; simp at h; exact h.1
theorem isS_s {t : Tok} {s : ByteArray} (h : isS t s = true) : t.s = s := by
 unfold isS at h; simp at h
 cases s
 have h2 := h.2
 simp at h2
 subst h2
 rfl
theorem opAt_isS {n : Nat} {t : Tok} {op : Int} (h : opAt n t = some op) : ∃ s, isS t s = true := by
 unfold opAt at h
 obtain ⟨r, hr, -⟩ := Option.map_eq_some_iff.1 h
 have := List.find?_some hr
 simp at this
 exact ⟨_, this.2⟩
theorem TokOK.sign {ts : List Tok} (h : TokOK ts) {k : Nat} {t : Tok} {s : ByteArray} (ht : ts[k]? = some t) (hs : isS t s = true) : k + 1 < ts.length := h.next k t ht (by rw [isS_kind hs]; decide)
theorem PR.then_some {α β : Type} {r : Option (PR α)} {g : α -> Nat -> Option (PR β)} {y : PR β} (h : PR.then_ r g = some y) :
  (∃ k e, r = some (.err k e) /\ y = .err k e) \/ ∃ x j, r = some (.ok x j) /\ g x j = some y := by
 unfold PR.then_ at h
 split at h
 ·cases h
 ·cases h; exact .inl ⟨_, _, rfl, rfl⟩
 ·exact .inr ⟨_, _, rfl, h⟩
theorem firstP_ne {t : Tok} {d c : Int} {no : Bool} (h : firstP t d no = some c) : c = 5 \/ c = 2 := by
 unfold firstP at h
 split at h
 ·cases h; exact .inl rfl
 ·split at h
  ·cases h; exact .inr rfl
  ·cases h
def Fits {α : Type} (n k : Nat) : PR α -> Prop
 | .ok _ j => k <= j /\ j < n
 | .err j c => j < n /\ (c = 5 \/ c = 2)
theorem Fits.up {α : Type} {n k k' : Nat} {r : PR α} (h : Fits n k r) (hk : k' <= k) : Fits n k' r := by
 cases r with
 | ok x j => exact ⟨Nat.le_trans hk h.1, h.2⟩
 | err j c => exact h
theorem then_fits {α β : Type} {n k k' : Nat} {r : Option (PR α)} {g : α -> Nat -> Option (PR β)} {y : PR β} (h : PR.then_ r g = some y) (hr : ∀ z, r = some z -> Fits n k z) (hg : ∀ x j, r = some (.ok x j) -> k <= j -> j < n -> g x j = some y -> Fits n k' y) : Fits n k' y := by
 rcases PR.then_some h with ⟨j, e, h1, rfl⟩ | ⟨x, j, h1, h2⟩
 ·exact (hr _ h1 : _ /\ _)
 ·exact hg x j h1 (hr _ h1).1 (hr _ h1).2 h2
theorem lt_of_some {α : Type} {l : List α} {k : Nat} {t : α} (h : l[k]? = some t) : k < l.length := (List.getElem?_eq_some_iff.1 h).1
theorem run_fits {ts : List Tok} (ok : TokOK ts) : ∀ (f : Nat) (q : Qn) (k : Nat) (d : Int) (r : PR Ex), runF ts f q k d = some r -> Fits ts.length k r := by
 intro f
 induction f with
 | zero => intro q k d r h; cases q <;> simp [runF] at h
 | succ f ih =>
  intro q k d r h
  unfold runF at h
  split at h
  ·cases h
  rename_i t ht
  have hk := lt_of_some ht
  split at h
  ·
   split at h
   ·rename_i c hc; cases h; exact ⟨hk, firstP_ne hc⟩
   ·refine then_fits h (fun z hz => ih _ _ _ _ hz) fun x j _ hj hjn h => ?_
    split at h
    ·cases h
    rename_i u hu
    split at h
    ·cases h; exact ⟨hj, hjn⟩
    ·rename_i hq
     refine then_fits h (fun z hz => ih _ _ _ _ hz) fun a j2 _ hj2 hj2n h => ?_
     split at h
     ·cases h
     rename_i v hv
     split at h
     ·cases h; exact ⟨hj2n, .inl rfl⟩
     ·refine then_fits h (fun z hz => ih _ _ _ _ hz) fun b j3 _ hj3 hj3n h => ?_
      cases h; exact ⟨by omega, hj3n⟩
  ·
   rename_i n
   split at h
   ·split at h
    ·split at h
     ·cases h
     rename_i u hu
     split at h
     ·rename_i c hc; cases h; exact ⟨lt_of_some hu, firstP_ne hc⟩
     ·refine then_fits h (fun z hz => ih _ _ _ _ hz) fun x j _ hj hjn h => ?_
      cases h; exact ⟨by omega, hjn⟩
    ·exact ih _ _ _ _ h
   ·split at h
    ·exact ih _ _ _ _ h
    ·refine then_fits h (fun z hz => ih _ _ _ _ hz) fun x j _ hj hjn h => ?_
     exact (ih _ _ _ _ h).up hj
  ·
   rename_i n x
   split at h
   ·cases h; exact ⟨Nat.le_refl _, hk⟩
   ·refine then_fits h (fun z hz => ih _ _ _ _ hz) fun y j _ hj hjn h => ?_
    split at h
    ·cases h; exact ⟨by omega, hjn⟩
    ·exact (ih _ _ _ _ h).up (by omega)
  ·
   split at h
   ·split at h
    ·cases h
    rename_i u hu
    split at h
    ·rename_i c hc; cases h; exact ⟨lt_of_some hu, firstP_ne hc⟩
    ·refine then_fits h (fun z hz => ih _ _ _ _ hz) fun x j _ hj hjn h => ?_
     cases h; exact ⟨by omega, hjn⟩
   ·exact ih _ _ _ _ h
  ·
   split at h
   ·refine then_fits h (fun z hz => ih _ _ _ _ hz) fun x j _ hj hjn h => ?_
    split at h
    ·cases h
    rename_i u hu
    split at h
    ·rename_i hs; cases h; exact ⟨by omega, ok.sign hu hs⟩
    ·cases h; exact ⟨hjn, .inl rfl⟩
   ·split at h
    ·rename_i h2; cases h; exact ⟨by omega, ok.next _ _ ht (by rw [h2]; decide)⟩
    ·split at h
     ·rename_i h2; cases h; exact ⟨by omega, ok.next _ _ ht (by rw [h2]; decide)⟩
     ·split at h
      ·split at h
       ·cases h
       rename_i u hu
       split at h
       ·cases h; exact ⟨by omega, lt_of_some hu⟩
       ·split at h
        ·cases h
        rename_i v hv
        split at h
        ·rename_i hs; cases h; exact ⟨by omega, ok.sign hv hs⟩
        ·exact (ih _ _ _ _ h).up (by omega)
      ·cases h; exact ⟨hk, .inl rfl⟩
  ·
   rename_i t0 kids
   split at h
   ·cases h
    refine ⟨hk, ?_⟩
    cases hc : firstP t 0 true with
    | none => exact .inr rfl
    | some c => exact firstP_ne hc
   ·refine then_fits h (fun z hz => ih _ _ _ _ hz) fun x j _ hj hjn h => ?_
    split at h
    ·cases h
    rename_i u hu
    split at h
    ·rename_i hs; cases h; exact ⟨by omega, ok.sign hu hs⟩
    ·split at h
     ·exact (ih _ _ _ _ h).up (by omega)
     ·cases h; exact ⟨hjn, .inl rfl⟩
def QOK : Qn -> Prop
 | .level n => n <= 7
 | .loop n _ => n <= 6
 | _ => True
def rankQ : Qn -> Nat
 | .expr => 12
 | .level n => 11 - n
 | .loop _ _ => 1
 | .neg => 3
 | .atom => 2
 | .args _ _ => 13
def measQ (ts : List Tok) (q : Qn) (k : Nat) : Nat := (ts.length - k) * 16 + rankQ q
theorem then_total {α β : Type} {r : Option (PR α)} {g : α -> Nat -> Option (PR β)} (hr : ∃ z, r = some z) (hg : ∀ x j, r = some (.ok x j) -> ∃ y, g x j = some y) : ∃ y, PR.then_ r g = some y := by
 obtain ⟨z, rfl⟩ := hr
 cases z with
 | err k e => exact ⟨_, rfl⟩
 | ok x j => exact hg x j rfl
theorem some_of_lt {α : Type} {l : List α} {k : Nat} (h : k < l.length) : ∃ t, l[k]? = some t := ⟨l[k], List.getElem?_eq_getElem h⟩
theorem run_total {ts : List Tok} (ok : TokOK ts) : ∀ (f : Nat) (q : Qn) (k : Nat) (d : Int), QOK q -> k < ts.length -> measQ ts q k < f -> ∃ r, runF ts f q k d = some r := by
 intro f
 induction f with
 | zero => intro q k d _ _ h; omega
 | succ f ih =>
  intro q k d hq hk hf
  obtain ⟨t, ht⟩ := some_of_lt hk
  have fits := fun q k d z h => run_fits ok f q k d z h
  unfold measQ at hf ih
  unfold runF
  rw [ht]
  cases q with
  | expr =>
   simp only [rankQ] at hf
   dsimp only
   split
   ·exact ⟨_, rfl⟩
   ·refine then_total (ih _ _ _ (by simp [QOK]) hk (by simp [rankQ]; omega)) fun x j hx => ?_
    have h1 : k <= j /\ j < ts.length := fits _ _ _ _ hx
    obtain ⟨u, hu⟩ := some_of_lt h1.2
    rw [hu]
    dsimp only
    split
    ·exact ⟨_, rfl⟩
    ·rename_i hs
     have hs2 : isS u ⟨#[63]⟩ = true := by simpa using hs
     have h2 := ok.sign hu hs2
     refine then_total (ih _ _ _ trivial h2 (by simp [rankQ]; omega)) fun a j2 ha => ?_
     have h3 : j + 1 <= j2 /\ j2 < ts.length := fits _ _ _ _ ha
     obtain ⟨v, hv⟩ := some_of_lt h3.2
     rw [hv]
     dsimp only
     split
     ·exact ⟨_, rfl⟩
     ·rename_i hs
      have hs2 : isS v ⟨#[58]⟩ = true := by simpa using hs
      have h4 := ok.sign hv hs2
      exact then_total (ih _ _ _ trivial h4 (by simp [rankQ]; omega)) fun b j3 hb => ⟨_, rfl⟩
  | level n =>
   simp only [rankQ, QOK] at hf hq
   dsimp only
   split
   ·rename_i h3
    split
    ·rename_i hs
     have h2 := ok.sign ht hs
     obtain ⟨u, hu⟩ := some_of_lt h2
     rw [hu]
     dsimp only
     split
     ·exact ⟨_, rfl⟩
     ·exact then_total (ih _ _ _ (by simp [QOK]) h2 (by simp [rankQ]; omega)) fun x j hx => ⟨_, rfl⟩
    ·exact ih _ _ _ (by simp [QOK]) hk (by simp [rankQ]; omega)
   ·split
    ·exact ih _ _ _ trivial hk (by simp [rankQ]; omega)
    ·refine then_total (ih _ _ _ (by simp [QOK]; omega) hk (by simp [rankQ]; omega)) fun x j hx => ?_
     have h1 : k <= j /\ j < ts.length := fits _ _ _ _ hx
     exact ih _ _ _ (by simp [QOK]; omega) h1.2 (by simp [rankQ]; omega)
  | loop n x =>
   simp only [rankQ, QOK] at hf hq
   dsimp only
   cases ho : opAt n t with
   | none => exact ⟨_, rfl⟩
   | some op =>
    dsimp only
    obtain ⟨s, hs⟩ := opAt_isS ho
    have h2 := ok.sign ht hs
    refine then_total (ih _ _ _ (by simp [QOK]; omega) h2 (by simp [rankQ]; omega)) fun y j hy => ?_
    have h1 : k + 1 <= j /\ j < ts.length := fits _ _ _ _ hy
    split
    ·exact ⟨_, rfl⟩
    ·exact ih _ _ _ hq h1.2 (by simp [rankQ]; omega)
  | neg =>
   simp only [rankQ] at hf
   dsimp only
   split
   ·rename_i hs
    have h2 := ok.sign ht hs
    obtain ⟨u, hu⟩ := some_of_lt h2
    rw [hu]
    dsimp only
    split
    ·exact ⟨_, rfl⟩
    ·exact then_total (ih _ _ _ trivial h2 (by simp [rankQ]; omega)) fun x j hx => ⟨_, rfl⟩
   ·exact ih _ _ _ trivial hk (by simp [rankQ]; omega)
  | atom =>
   simp only [rankQ] at hf
   dsimp only
   split
   ·rename_i hs
    have h2 := ok.sign ht hs
    refine then_total (ih _ _ _ trivial h2 (by simp [rankQ]; omega)) fun x j hx => ?_
    have h1 : k + 1 <= j /\ j < ts.length := fits _ _ _ _ hx
    obtain ⟨u, hu⟩ := some_of_lt h1.2
    rw [hu]
    dsimp only
    split
    ·exact ⟨_, rfl⟩
    ·exact ⟨_, rfl⟩
   ·split
    ·exact ⟨_, rfl⟩
    ·split
     ·exact ⟨_, rfl⟩
     ·split
      ·rename_i h1
       have h2 := ok.next _ _ ht (by rw [h1]; decide)
       obtain ⟨u, hu⟩ := some_of_lt h2
       rw [hu]
       dsimp only
       split
       ·exact ⟨_, rfl⟩
       ·rename_i hs
        have hs2 : isS u ⟨#[40]⟩ = true := by simpa using hs
        have h3 := ok.sign hu hs2
        obtain ⟨v, hv⟩ := some_of_lt (show k + 2 < ts.length by omega)
        rw [hv]
        dsimp only
        split
        ·exact ⟨_, rfl⟩
        ·exact ih _ _ _ trivial h3 (by simp [rankQ]; omega)
      ·exact ⟨_, rfl⟩
  | args t0 kids =>
   simp only [rankQ] at hf
   dsimp only
   split
   ·exact ⟨_, rfl⟩
   ·refine then_total (ih _ _ _ trivial hk (by simp [rankQ]; omega)) fun x j hx => ?_
    have h1 : k <= j /\ j < ts.length := fits _ _ _ _ hx
    obtain ⟨u, hu⟩ := some_of_lt h1.2
    rw [hu]
    dsimp only
    split
    ·exact ⟨_, rfl⟩
    ·split
     ·rename_i hs
      exact ih _ _ _ trivial (ok.sign hu hs) (by simp [rankQ]; omega)
     ·exact ⟨_, rfl⟩
theorem arg_fits {ts : List Tok} (ok : TokOK ts) {f k : Nat} {r : PR Ar} (h : argF ts f k = some r) (hb : ∀ t, ts[k]? = some t -> beginsT t = true \/ isS t ⟨#[45, 62]⟩ = true) : Fits ts.length (k + 1) r := by
 unfold argF at h
 split at h
 ·cases h
 rename_i t ht
 have hk := lt_of_some ht
 have hb := hb t ht
 split at h
 ·rename_i h1; cases h; exact ⟨Nat.le_refl _, ok.next _ _ ht (by rcases h1 with h1 | h1 <;> (rw [h1]; decide))⟩
 ·split at h
  ·rename_i h1; cases h; exact ⟨Nat.le_refl _, ok.next _ _ ht (by rw [h1]; decide)⟩
  ·split at h
   ·rename_i hs; cases h; exact ⟨Nat.le_refl _, ok.sign ht hs⟩
   ·split at h
    ·split at h
     ·cases h
     rename_i u hu
     split at h
     ·rename_i h2; cases h; exact ⟨by omega, ok.next _ _ hu (by rw [h2]; decide)⟩
     ·cases h; exact ⟨lt_of_some hu, .inl rfl⟩
    ·refine then_fits h (fun z hz => run_fits ok _ _ _ _ _ hz) fun x j _ hj hjn h => ?_
     split at h
     ·cases h
     rename_i u hu
     split at h
     ·rename_i hs; cases h; exact ⟨by omega, ok.sign hu hs⟩
     ·cases h; exact ⟨hjn, .inl rfl⟩
theorem arg_total {ts : List Tok} (ok : TokOK ts) {f k : Nat} (hk : k < ts.length) (hb : ∀ t, ts[k]? = some t -> beginsT t = true \/ isS t ⟨#[45, 62]⟩ = true) (hf : (ts.length - k) * 16 <= f) : ∃ r, argF ts f k = some r := by
 obtain ⟨t, ht⟩ := some_of_lt hk
 have hb := hb t ht
 unfold argF
 rw [ht]
 dsimp only
 split
 ·exact ⟨_, rfl⟩
 split
 ·exact ⟨_, rfl⟩
 split
 ·exact ⟨_, rfl⟩
 split
 ·rename_i hs
  obtain ⟨u, hu⟩ := some_of_lt (ok.sign ht hs)
  rw [hu]
  dsimp only
  split <;> exact ⟨_, rfl⟩
 ·rename_i h1 h2 h3 h4
  have h5 : t.kind = 4 := by
   rcases hb with hb | hb
   ·unfold beginsT at hb
    simp only [Bool.or_eq_true, beq_iff_eq] at hb
    rcases hb with (((hb | hb) | hb) | hb) | hb
    ·exact absurd (.inl hb) h1
    ·exact absurd hb h2
    ·exact absurd (.inr hb) h1
    ·exact isS_kind hb
    ·exact isS_kind hb
   ·exact isS_kind hb
  have h6 := ok.next _ _ ht (by rw [h5]; decide)
  refine then_total (run_total ok f .expr (k + 1) 1 trivial h6 (by simp [measQ, rankQ]; omega)) fun x j hx => ?_
  have h7 : k + 1 <= j /\ j < ts.length := run_fits ok _ _ _ _ _ hx
  obtain ⟨u, hu⟩ := some_of_lt h7.2
  rw [hu]
  dsimp only
  split <;> exact ⟨_, rfl⟩
def advF : Qf -> Nat
 | .form => 1
 | _ => 0
def QfOK (n : Nat) : Qf -> Prop
 | .form => True
 | .args _ as_ => as_.length <= 40 /\ n <= 2000
 | .body _ as_ fs => as_.length <= 40 /\ fs.length <= n /\ n <= 2000
def CountsQ (q : Qf) (n : Nat) : PR (Fm × Nat) -> Prop
 | .ok x _ => (match q with | .form => n < x.2 | _ => n <= x.2) /\ x.2 <= 2000
 | .err _ _ => True
theorem form_fits {ts : List Tok} (ok : TokOK ts) : ∀ (f : Nat) (q : Qf) (k : Nat) (d : Int) (n : Nat) (r : PR (Fm × Nat)), formF ts f q k d n = some r -> Fits ts.length (k + advF q) r /\ (QfOK n q -> CountsQ q n r) := by
 intro f
 induction f with
 | zero => intro q k d n r h; cases q <;> simp [formF] at h
 | succ f ih =>
  intro q k d n r h
  unfold formF at h
  split at h
  ·cases h
  rename_i t ht
  have hk := lt_of_some ht
  split at h
  ·
   split at h
   ·cases h; exact ⟨⟨hk, .inl rfl⟩, fun _ => trivial⟩
   ·split at h
    ·cases h; exact ⟨⟨hk, .inr rfl⟩, fun _ => trivial⟩
    ·rename_i h1 h2
     obtain ⟨i1, i2⟩ := ih _ _ _ _ _ h
     refine ⟨i1.up (by simp [advF]), fun _ => ?_⟩
     have i3 := i2 (by simp [QfOK]; omega)
     cases r with
     | err _ _ => trivial
     | ok x j => exact ⟨by have := i3.1; simp only at this ⊢; omega, i3.2⟩
  ·
   rename_i t0 as_
   split at h
   ·rename_i hs; cases h; exact ⟨⟨by simp [advF], ok.sign ht hs⟩, fun hq => ⟨Nat.le_refl _, hq.2⟩⟩
   ·split at h
    ·obtain ⟨i1, i2⟩ := ih _ _ _ _ _ h
     refine ⟨i1.up (by simp [advF]; try omega), fun hq => ?_⟩
     have i3 := i2 ⟨hq.1, by simp, hq.2⟩
     cases r with
     | err _ _ => trivial
     | ok x j => exact i3
    ·split at h
     ·cases h; exact ⟨⟨hk, .inl rfl⟩, fun _ => trivial⟩
     ·rename_i hb
      split at h
      ·cases h; exact ⟨⟨hk, .inr rfl⟩, fun _ => trivial⟩
      ·rename_i h40
       have hb2 : ∀ t, ts[k]? = some t -> beginsT t = true \/ isS t ⟨#[45, 62]⟩ = true := by
        intro t' ht'
        rw [ht] at ht'; cases ht'
        simp only [Bool.and_eq_true, Bool.not_eq_true', not_and, Bool.not_eq_false] at hb
        cases hbt : beginsT t with
        | true => exact .inl rfl
        | false => exact .inr (hb hbt)
       rcases PR.then_some h with ⟨j, e, h1, rfl⟩ | ⟨x, j, h1, h2⟩
       ·exact ⟨(arg_fits ok h1 hb2 : _ /\ _), fun _ => trivial⟩
       ·have h3 : k + 1 <= j /\ j < ts.length := arg_fits ok h1 hb2
        obtain ⟨i1, i2⟩ := ih _ _ _ _ _ h2
        refine ⟨i1.up (by simp [advF]; try omega), fun hq => ?_⟩
        have i3 := i2 ⟨by have := hq.1; simp; omega, hq.2⟩
        cases r with
        | err _ _ => trivial
        | ok x j => exact i3
  ·
   rename_i t0 as_ fs
   split at h
   ·rename_i hs; cases h; exact ⟨⟨by simp [advF], ok.sign ht hs⟩, fun hq => ⟨Nat.le_refl _, hq.2.2⟩⟩
   ·rcases PR.then_some h with ⟨j, e, h1, rfl⟩ | ⟨x, j, h1, h2⟩
    ·exact ⟨((ih _ _ _ _ _ h1).1 : _ /\ _), fun _ => trivial⟩
    ·obtain ⟨j1, j2⟩ := ih _ _ _ _ _ h1
     have j3 := j2 trivial
     obtain ⟨i1, i2⟩ := ih _ _ _ _ _ h2
     refine ⟨i1.up (by have := j1.1; simp [advF] at *; omega), fun hq => ?_⟩
     have i3 := i2 ⟨hq.1, by have := j3.1; have := hq.2.1; simp only [List.length_append, List.length_singleton] at *; omega, j3.2⟩
     cases r with
     | err _ _ => trivial
     | ok y m => exact ⟨by have := j3.1; have := i3.1; simp only at *; omega, i3.2⟩
def rankF : Qf -> Nat
 | .form => 15
 | .args _ _ => 16
 | .body _ _ _ => 17
theorem form_total {ts : List Tok} (ok : TokOK ts) : ∀ (f : Nat) (q : Qf) (k : Nat) (d : Int) (n : Nat), k < ts.length -> (ts.length - k) * 32 + rankF q < f -> ∃ r, formF ts f q k d n = some r := by
 intro f
 induction f with
 | zero => intro q k d n _ h; omega
 | succ f ih =>
  intro q k d n hk hf
  obtain ⟨t, ht⟩ := some_of_lt hk
  unfold formF
  rw [ht]
  cases q with
  | form =>
   simp only [rankF] at hf
   dsimp only
   split
   ·exact ⟨_, rfl⟩
   ·rename_i h1
    split
    ·exact ⟨_, rfl⟩
    ·exact ih _ _ _ _ (ok.next _ _ ht (by simp at h1; rw [h1]; decide)) (by simp [rankF]; omega)
  | args t0 as_ =>
   simp only [rankF] at hf
   dsimp only
   split
   ·exact ⟨_, rfl⟩
   ·split
    ·rename_i hs
     exact ih _ _ _ _ (ok.sign ht hs) (by simp [rankF]; omega)
    ·split
     ·exact ⟨_, rfl⟩
     ·rename_i hb
      split
      ·exact ⟨_, rfl⟩
      ·have hb2 : ∀ t, ts[k]? = some t -> beginsT t = true \/ isS t ⟨#[45, 62]⟩ = true := by
        intro t' ht'
        rw [ht] at ht'; cases ht'
        simp only [Bool.and_eq_true, Bool.not_eq_true', not_and, Bool.not_eq_false] at hb
        cases hbt : beginsT t with
        | true => exact .inl rfl
        | false => exact .inr (hb hbt)
       refine then_total (arg_total ok hk hb2 (by omega)) fun x j hx => ?_
       have h3 : k + 1 <= j /\ j < ts.length := arg_fits ok hx hb2
       exact ih _ _ _ _ h3.2 (by simp [rankF]; omega)
  | body t0 as_ fs =>
   simp only [rankF] at hf
   dsimp only
   split
   ·exact ⟨_, rfl⟩
   ·rename_i hs0
    have hfm : ∃ r, formF ts f .form k (d + 1) n = some r := ih _ _ _ _ hk (by simp [rankF]; omega)
    refine then_total hfm fun x j hx => ?_
    have h5 : k + 1 <= j /\ j < ts.length := (form_fits ok _ _ _ _ _ _ hx).1
    exact ih _ _ _ _ h5.2 (by simp [rankF]; omega)
theorem forms_total {ts : List Tok} (ok : TokOK ts) : ∀ (f k n : Nat) (fs : List Fm), k < ts.length -> (ts.length - k) * 32 + 16 < f -> ∃ r, formsF ts f k n fs = some r := by
 intro f
 induction f with
 | zero => intro k n fs _ h; omega
 | succ f ih =>
  intro k n fs hk hf
  obtain ⟨t, ht⟩ := some_of_lt hk
  unfold formsF
  rw [ht]
  dsimp only
  split
  ·exact ⟨_, rfl⟩
  ·refine then_total (form_total ok f .form k 1 n hk (by simp [rankF]; omega)) fun x j hx => ?_
   have h5 : k + 1 <= j /\ j < ts.length := (form_fits ok _ _ _ _ _ _ hx).1
   exact ih _ _ _ h5.2 (by omega)
theorem forms_fits {ts : List Tok} (ok : TokOK ts) : ∀ (f k n : Nat) (fs : List Fm) (r : PR (List Fm)), formsF ts f k n fs = some r -> Fits ts.length k r := by
 intro f
 induction f with
 | zero => intro k n fs r h; simp [formsF] at h
 | succ f ih =>
  intro k n fs r h
  unfold formsF at h
  split at h
  ·cases h
  rename_i t ht
  split at h
  ·cases h; exact ⟨Nat.le_refl _, lt_of_some ht⟩
  ·rcases PR.then_some h with ⟨j, e, h1, rfl⟩ | ⟨x, j, h1, h2⟩
   ·exact ((form_fits ok _ _ _ _ _ _ h1).1 : _ /\ _)
   ·have h5 : k + 1 <= j /\ j < ts.length := (form_fits ok _ _ _ _ _ _ h1).1
    exact (ih _ _ _ _ h2).up (by omega)
end Go.Proofs.YtjijdgkccfeeaaaGreatDoor
