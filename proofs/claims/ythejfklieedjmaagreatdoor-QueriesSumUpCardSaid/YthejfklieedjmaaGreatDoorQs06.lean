/- Part 6 of the proof of lawSum.card: NatWalkO, NatWalkP, RatWalkA, RatWalkB, RatWalkC. Conditions: those of each theorem. -/
import Derived.Deep.RegionHeld3
import Derived.Laws.EntriesVeiled
import Derived.Laws.StructEq
import Derived.Test.YthejfklieedjmaaGreatDoorQs01
import Derived.Test.YthejfklieedjmaaGreatDoorQs03
import Derived.Test.YthejfklieedjmaaGreatDoorQs05
set_option maxRecDepth 20000
set_option maxHeartbeats 4000000
namespace Go.Proofs.YthejfklieedjmaaGreatDoor
open Go Go.Proofs Go.RowKit
attribute [local go_sem] Oper.semAt_some
theorem natB_len (s : ByteArray) : (digs bU (natB s)).length <= s.size := by
 refine digs_len_le (by decide) ?_
 have h1 := valB_lt s.data.toList
 have h2 : s.data.toList.length = s.size := by simp
 rw [h2] at h1
 exact Nat.lt_of_lt_of_le h1 (Nat.pow_le_pow_left (by decide) _)
def DgR (W w' : World) (e : Ending) (n : Nat) : Prop := ∃ p c, e = .returned (.slice p (digs bU n).length c) /\ LA w' (fun _ => True) (digs bU n) p c /\ Turned (fun _ => False) W w'
theorem RetL.dg {W w' : World} {e : Ending} {n : Nat} (h : RetL W w' e n) : DgR W w' e n := by
 obtain ⟨p, c, h1, h2, h3⟩ := h
 exact ⟨p, c, h1, h2.any, h3⟩
theorem load_dg (s : ByteArray) (W : World) (hs : s.size <= 1000000000) : Calls Tryz.prog 87 #[.string s] W fun e w' => DgR W w' e (natB s) := (load_any s W hs).mono fun _ _ h => h.dg
theorem text_dg (n : Nat) (p : Option Addr) (c : Nat) (W : World) (h : LA W (fun _ => True) (digs bU n) p c) (hl : (digs bU n).length <= 900000000) : Calls Tryz.prog 88 #[.slice p (digs bU n).length c] W fun e w' => e = .returned (.string (encB n)) /\ Turned (fun _ => False) W w' := by
 have h1 := ntext_any (digs bU n) p c W _ h hl
 rw [vL_digs (by decide)] at h1
 exact h1
theorem by_dg (a b : Nat) (p q : Option Addr) (c e0 : Nat) (W : World) (hx : LA W (fun _ => True) (digs bU a) p c) (hy : LA W (fun _ => True) (digs bU b) q e0) (hb : b ≠ 0) (hl : (digs bU a).length <= 900000000) :
  Calls Tryz.prog 86 #[.slice p (digs bU a).length c, .slice q (digs bU b).length e0] W fun e w' => ByR W w' e (a / b) (a % b) := by
 have ta := digs_trim (b := bU) (by decide) a
 have tb := digs_trim (b := bU) (by decide) b
 have va := vL_digs (b := bU) (by decide) a
 have vb := vL_digs (b := bU) (by decide) b
 rcases Nat.lt_or_ge a b with h | h
 ·have h1 := by_less (digs bU a) (digs bU b) p q c e0 W _ _ hx hy ta tb (by rw [va, vb]; exact h)
  rwa [va, vb] at h1
 ·rcases Nat.lt_or_ge (digs bU b).length 2 with h2 | h2
  ·have h3 : (digs bU b).length = 1 := by
    have : (digs bU b).length ≠ 0 := fun h0 => hb ((digs_nil (by decide)).1 (List.length_eq_zero_iff.1 h0))
    omega
   obtain ⟨d, hd⟩ := List.length_eq_one_iff.1 h3
   have hdb : d = b := by rw [<- vb, hd]; simp [vL]
   subst hdb
   rw [hd] at hy
   have h4 := by_digit (digs bU a) d p q c e0 W _ _ hx hy ta (by omega) (by rw [va]; exact h) (by omega)
   rw [va] at h4
   rw [h3]
   exact h4
  ·have h3 := by_long (digs bU a) (digs bU b) p q c e0 W _ _ hx hy ta tb h2 (by rw [va, vb]; exact h) hl
   rwa [va, vb] at h3
theorem nCmp_any (a b : ByteArray) (W : World) (ha : a.size <= 900000000) (hb : b.size <= 900000000) : Calls Tryz.prog 151 #[.string a, .string b] W fun e w' => e = .returned (.int .i64 (cmpZ (natB a) (natB b))) /\ Turned (fun _ => False) W w' := by
 have HA := Lib.hid (load_dg a W (by omega))
 have HB := Lib.hid (fun W => load_dg b W (by omega))
 clear ha hb
 go_enter Tryz.func151, Tryz.ntmps151
 go_wp2_with fail
 refine HA.out.mono ?_
 rintro e w1 ⟨p1, c1, rfl, h1, t1⟩
 have H1 := Lib.hid (And.intro h1 t1)
 clear h1 t1
 go_wp2_with fail
 refine (HB.out w1).mono ?_
 rintro e w2 ⟨p2, c2, rfl, h2, t2⟩
 have H2 := Lib.hid (And.intro (H1.out.1.turned t2) (And.intro h2 (H1.out.2.trans t2)))
 clear h2 t2
 go_wp2_with fail
 refine (compare_any _ _ p1 p2 c1 c2 w2 _ _ H2.out.1 H2.out.2.1 (digs_trim (by decide) _) (digs_trim (by decide) _)).mono ?_
 rintro e w3 ⟨rfl, t3⟩
 have H3 := Lib.hid (H2.out.2.2.trans t3)
 rw [vL_digs (by decide), vL_digs (by decide)]
 clear t3
 go_wp2_with fail
 go_ret
 exact ⟨rfl, H3.out⟩
theorem lt_of_len_le {n k : Nat} (h : (digs bU n).length <= k) : n < bU ^ k := Nat.lt_of_lt_of_le (digs_lt_pow (by decide) n) (Nat.pow_le_pow_right (by decide) h)
theorem len_add {m n k j : Nat} (hm : (digs bU m).length <= k) (hn : (digs bU n).length <= j) (hj : j <= k) : (digs bU (m + n)).length <= k + 1 := by
 refine digs_len_le (by decide) ?_
 have h1 := lt_of_len_le hm
 have h2 := lt_of_len_le (Nat.le_trans hn hj)
 rw [Nat.pow_succ]
 have h3 : bU ^ k * 2 <= bU ^ k * bU := Nat.mul_le_mul_left _ (by decide)
 omega
theorem len_mul {m n k j : Nat} (hm : (digs bU m).length <= k) (hn : (digs bU n).length <= j) : (digs bU (m * n)).length <= k + j := by
 refine digs_len_le (by decide) ?_
 rw [Nat.pow_add]
 exact Nat.mul_lt_mul'' (lt_of_len_le hm) (lt_of_len_le hn)
theorem nAdd_any (a b : ByteArray) (W : World) (ha : a.size <= 400000000) (hb : b.size <= 400000000) : Calls Tryz.prog 150 #[.string a, .string b] W fun e w' => e = .returned (.string (encB (natB a + natB b))) /\ Turned (fun _ => False) W w' := by
 have HA := Lib.hid (load_dg a W (by omega))
 have HB := Lib.hid (fun W => load_dg b W (by omega))
 have HLa := Lib.hid (Nat.le_trans (natB_len a) ha)
 have HLb := Lib.hid (Nat.le_trans (natB_len b) hb)
 have HLc : Hid ((digs bU (natB a + natB b)).length <= 900000000) := Lib.hid (Nat.le_trans (len_add HLa.out HLb.out (Nat.le_refl _)) (by omega))
 clear ha hb
 go_enter Tryz.func150, Tryz.ntmps150
 go_wp2_with fail
 refine HA.out.mono ?_
 rintro e w1 ⟨p1, c1, rfl, h1, t1⟩
 have H1 := Lib.hid (And.intro h1 t1)
 clear h1 t1
 go_wp2_with fail
 refine (HB.out w1).mono ?_
 rintro e w2 ⟨p2, c2, rfl, h2, t2⟩
 have H2 := Lib.hid (And.intro (H1.out.1.turned t2) (And.intro h2 (H1.out.2.trans t2)))
 clear h2 t2
 go_wp2_with fail
 refine (plus_any (digs bU (natB a)) (digs bU (natB b)) p1 p2 c1 c2 w2 _ _ H2.out.1 H2.out.2.1 (by have := HLa.out; omega) (by have := HLb.out; omega)).mono ?_
 rintro e w3 h3
 have h4 := h3.dg
 rw [vL_digs (by decide), vL_digs (by decide)] at h4
 obtain ⟨p3, c3, rfl, h5, t5⟩ := h4
 have H3 := Lib.hid (And.intro h5 (H2.out.2.2.trans t5))
 clear h3 h5 t5
 go_wp2_with fail
 refine (text_dg (natB a + natB b) p3 c3 w3 H3.out.1 HLc.out).mono ?_
 rintro e w4 ⟨rfl, t6⟩
 have H4 := Lib.hid (H3.out.2.trans t6)
 clear t6
 go_wp2_with fail
 go_ret
 exact ⟨rfl, H4.out⟩
theorem nMul_any (a b : ByteArray) (W : World) (ha : a.size <= 400000000) (hb : b.size <= 400000000) : Calls Tryz.prog 62 #[.string a, .string b] W fun e w' => e = .returned (.string (encB (natB a * natB b))) /\ Turned (fun _ => False) W w' := by
 have HA := Lib.hid (load_dg a W (by omega))
 have HB := Lib.hid (fun W => load_dg b W (by omega))
 have HLa := Lib.hid (Nat.le_trans (natB_len a) ha)
 have HLb := Lib.hid (Nat.le_trans (natB_len b) hb)
 have HLc : Hid ((digs bU (natB a * natB b)).length <= 900000000) := Lib.hid (Nat.le_trans (len_mul HLa.out HLb.out) (by omega))
 clear ha hb
 go_enter Tryz.func62, Tryz.ntmps62
 go_wp2_with fail
 refine HA.out.mono ?_
 rintro e w1 ⟨p1, c1, rfl, h1, t1⟩
 have H1 := Lib.hid (And.intro h1 t1)
 clear h1 t1
 go_wp2_with fail
 refine (HB.out w1).mono ?_
 rintro e w2 ⟨p2, c2, rfl, h2, t2⟩
 have H2 := Lib.hid (And.intro (H1.out.1.turned t2) (And.intro h2 (H1.out.2.trans t2)))
 clear h2 t2
 go_wp2_with fail
 refine (times_any (digs bU (natB a)) (digs bU (natB b)) p1 p2 c1 c2 w2 _ _ H2.out.1 H2.out.2.1 (by have := HLa.out; omega) (by have := HLb.out; omega)).mono ?_
 rintro e w3 h3
 have h4 := h3.dg
 rw [vL_digs (by decide), vL_digs (by decide)] at h4
 obtain ⟨p3, c3, rfl, h5, t5⟩ := h4
 have H3 := Lib.hid (And.intro h5 (H2.out.2.2.trans t5))
 clear h3 h5 t5
 go_wp2_with fail
 refine (text_dg (natB a * natB b) p3 c3 w3 H3.out.1 HLc.out).mono ?_
 rintro e w4 ⟨rfl, t6⟩
 have H4 := Lib.hid (H3.out.2.trans t6)
 clear t6
 go_wp2_with fail
 go_ret
 exact ⟨rfl, H4.out⟩
theorem nSub_any (a b : ByteArray) (W : World) (ha : a.size <= 400000000) (hb : b.size <= 400000000) (hle : natB b <= natB a) : Calls Tryz.prog 152 #[.string a, .string b] W fun e w' => e = .returned (.tuple #[.string (encB (natB a - natB b)), .int .i64 0]) /\ Turned (fun _ => False) W w' := by
 have HA := Lib.hid (load_dg a W (by omega))
 have HB := Lib.hid (fun W => load_dg b W (by omega))
 have HLa := Lib.hid (Nat.le_trans (natB_len a) ha)
 have HLb := Lib.hid (Nat.le_trans (natB_len b) hb)
 have HLE := Lib.hid hle
 obtain ⟨z, hz⟩ : ∃ z, cmpZ (natB a) (natB b) = z := ⟨_, rfl⟩
 have hzf : decide (z < 0) = false := by rw [<- hz]; unfold cmpZ; split <;> (try split) <;> simp <;> omega
 have HZ := Lib.hid hz
 clear ha hb hz hle
 go_enter Tryz.func152, Tryz.ntmps152
 go_wp2_with fail
 refine HA.out.mono ?_
 rintro e w1 ⟨p1, c1, rfl, h1, t1⟩
 have H1 := Lib.hid (And.intro h1 t1)
 clear h1 t1
 go_wp2_with fail
 refine (HB.out w1).mono ?_
 rintro e w2 ⟨p2, c2, rfl, h2, t2⟩
 have H2 := Lib.hid (And.intro (H1.out.1.turned t2) (And.intro h2 (H1.out.2.trans t2)))
 clear h2 t2
 go_wp2_with fail
 refine (compare_any _ _ p1 p2 c1 c2 w2 _ _ H2.out.1 H2.out.2.1 (digs_trim (by decide) _) (digs_trim (by decide) _)).mono ?_
 rintro e w3 ⟨rfl, t3⟩
 have H3 := Lib.hid (And.intro (H2.out.1.turned t3) (And.intro (H2.out.2.1.turned t3) (H2.out.2.2.trans t3)))
 rw [vL_digs (by decide), vL_digs (by decide), HZ.out]
 clear t3
 go_wp2_with fail
 refine (minus_any (digs bU (natB a)) (digs bU (natB b)) p1 p2 c1 c2 w3 _ _ H3.out.1 H3.out.2.1 (by have := HLa.out; omega) (digs_mono (by decide) HLE.out) (by rw [vL_digs (by decide), vL_digs (by decide)]; exact HLE.out)).mono ?_
 rintro e w4 h3
 have h4 := h3.dg
 rw [vL_digs (by decide), vL_digs (by decide)] at h4
 obtain ⟨p4, c4, rfl, h5, t5⟩ := h4
 have H4 := Lib.hid (And.intro h5 (H3.out.2.2.trans t5))
 clear h3 h5 t5
 go_wp2_with fail
 refine (text_dg (natB a - natB b) p4 c4 w4 H4.out.1 (Nat.le_trans (digs_mono (by decide) (Nat.sub_le _ _)) (by have := HLa.out; omega))).mono ?_
 rintro e w5 ⟨rfl, t6⟩
 have H5 := Lib.hid (H4.out.2.trans t6)
 clear t6
 go_wp2_with fail
 go_ret2
 exact ⟨rfl, H5.out⟩
theorem nDivMod_any (a b : ByteArray) (W : World) (ha : a.size <= 400000000) (hb : b.size <= 400000000) (h0 : natB b ≠ 0) : Calls Tryz.prog 64 #[.string a, .string b] W fun e w' => e = .returned (.tuple #[.string (encB (natB a / natB b)), .string (encB (natB a % natB b)), .int .i64 0]) /\ Turned (fun _ => False) W w' := by
 have HA := Lib.hid (load_dg a W (by omega))
 have HB := Lib.hid (fun W => load_dg b W (by omega))
 have HLa := Lib.hid (Nat.le_trans (natB_len a) ha)
 have H0 := Lib.hid h0
 have hl0 : (((digs bU (natB b)).length : Int) == 0) = false := by
  simp
  exact fun h => h0 ((digs_nil (by decide)).1 h)
 obtain ⟨n, hn⟩ : ∃ n, (digs bU (natB b)).length = n := ⟨_, rfl⟩
 have HN := Lib.hid hn
 rw [hn] at hl0
 clear ha hb h0 hn
 go_enter Tryz.func64, Tryz.ntmps64
 go_wp2_with fail
 refine HA.out.mono ?_
 rintro e w1 ⟨p1, c1, rfl, h1, t1⟩
 have H1 := Lib.hid (And.intro h1 t1)
 clear h1 t1
 go_wp2_with fail
 refine (HB.out w1).mono ?_
 rintro e w2 ⟨p2, c2, rfl, h2, t2⟩
 have H2 := Lib.hid (And.intro (H1.out.1.turned t2) (And.intro h2 (H1.out.2.trans t2)))
 rw [HN.out]
 clear h2 t2
 have HBy := Lib.hid (by_dg (natB a) (natB b) p1 p2 c1 c2 w2 H2.out.1 H2.out.2.1 H0.out (by have := HLa.out; omega))
 rw [HN.out] at HBy
 go_wp2_with fail
 refine HBy.out.mono ?_
 rintro e w3 ⟨p3, c3, p4, c4, rfl, h3, h4, t3⟩
 have H3 := Lib.hid (And.intro h3 (And.intro h4 (H2.out.2.2.trans t3)))
 clear h3 h4 t3
 go_wp2_with fail
 refine (text_dg (natB a / natB b) p3 c3 w3 H3.out.1 (Nat.le_trans (digs_mono (by decide) (Nat.div_le_self _ _)) (by have := HLa.out; omega))).mono ?_
 rintro e w4 ⟨rfl, t4⟩
 have H4 := Lib.hid (And.intro (H3.out.2.1.turned t4) (H3.out.2.2.trans t4))
 clear t4
 go_wp2_with fail
 refine (text_dg (natB a % natB b) p4 c4 w4 H4.out.1 (Nat.le_trans (digs_mono (by decide) (Nat.mod_le _ _)) (by have := HLa.out; omega))).mono ?_
 rintro e w5 ⟨rfl, t5⟩
 have H5 := Lib.hid (H4.out.2.trans t5)
 clear t5
 go_wp2_with fail
 go_ret3
 exact ⟨rfl, H5.out⟩
theorem gcdE_any (B : Nat) : ∀ (n a b : Nat) (p q : Option Addr) (c e0 : Nat) (W : World), b < n -> (hx : LA W (fun _ => True) (digs bU a) p c) -> (hy : LA W (fun _ => True) (digs bU b) q e0) -> (digs bU a).length <= 900000000 -> (digs bU b).length <= 900000000 -> W.cell? ⟨B, 0, none⟩ = some (.func (.func 85) #[] #[.pointer (some ⟨B, 0, none⟩)]) ->
  Calls Tryz.prog 85 #[.slice p (digs bU a).length c, .slice q (digs bU b).length e0, .pointer (some ⟨B, 0, none⟩)] W fun e w' => DgR W w' e (Nat.gcd a b) := by
 intro n
 induction n with
 | zero => intro a b p q c e0 W h; omega
 | succ n ih =>
  intro a b p q c e0 W hbn hx hy la lb hcell
  by_cases h0 : b = 0
  ·subst h0
   have HX := Lib.hid hx
   have HE : Hid (Nat.gcd a 0 = a) := Lib.hid (Nat.gcd_zero_right a)
   rw [digs_zero, List.length_nil]
   clear hx hy ih hbn hcell la lb
   go_enter Tryz.func85, Tryz.ntmps85
   go_wp2_with fail
   go_ret
   rw [HE.out]
   exact ⟨p, c, rfl, HX.out, Turned.refl _ _⟩
  ·have hl0 : (((digs bU b).length : Int) == 0) = false := by
    simp
    exact fun h => h0 ((digs_nil (by decide)).1 h)
   have HBy := Lib.hid (by_dg a b p q c e0 W hx hy h0 la)
   obtain ⟨m, hm⟩ : ∃ m, (digs bU b).length = m := ⟨_, rfl⟩
   have HI := Lib.hid (fun (p' : Option Addr) (c' : Nat) (W' : World) h1 h2 (h3 : Turned (fun _ => False) W W') => ih b (a % b) q p' e0 c' W' (by have := Nat.mod_lt a (Nat.pos_of_ne_zero h0); omega) h1 h2 lb (Nat.le_trans (digs_mono (by decide) (Nat.le_of_lt (Nat.mod_lt a (Nat.pos_of_ne_zero h0)))) lb) (cellT h3 id hcell))
   have HY := Lib.hid (And.intro hy hcell)
   have HE : Hid (Nat.gcd a b = Nat.gcd b (a % b)) := Lib.hid (by rw [Nat.gcd_comm a b, Nat.gcd_rec b a, Nat.gcd_comm])
   rw [hm] at hl0 HBy HI ⊢
   clear hx hy ih hbn la lb h0 hm hcell
   go_enter Tryz.func85, Tryz.ntmps85
   go_wp2_with fail
   refine HBy.out.mono ?_
   rintro e w1 ⟨p1, c1, p2, c2, rfl, h1, h2, t1⟩
   have hcell := cellT t1 id HY.out.2
   have HR := Lib.hid (HI.out p2 c2 w1 (HY.out.1.turned t1) h2 t1)
   have HT := Lib.hid t1
   clear h1 h2 t1
   go_wp2_with fail
   refine HR.out.mono ?_
   rintro e w2 ⟨p3, c3, rfl, h3, t3⟩
   have H3 := Lib.hid (And.intro h3 (HT.out.trans t3))
   clear h3 t3
   go_wp2_with fail
   go_ret
   rw [HE.out]
   exact ⟨p3, c3, rfl, H3.out.1, H3.out.2⟩
theorem cell_alloc_one (W : World) (u : Value) (t : TypeId) : (W.alloc (.cells #[u] t)).cell? ⟨W.heap.size, 0, none⟩ = some u := by
 rw [World.cell?_alloc_at _ _ _ _ rfl]; rfl
theorem nGcd_any (a b : ByteArray) (W : World) (ha : a.size <= 400000000) (hb : b.size <= 400000000) : Calls Tryz.prog 55 #[.string a, .string b] W fun e w' => e = .returned (.string (encB (Nat.gcd (natB a) (natB b)))) /\ Turned (fun _ => False) W w' := by
 have HA := Lib.hid (fun W => load_dg a W (by omega))
 have HB := Lib.hid (fun W => load_dg b W (by omega))
 have HLa := Lib.hid (Nat.le_trans (natB_len a) ha)
 have HLb := Lib.hid (Nat.le_trans (natB_len b) hb)
 have HLg : Hid ((digs bU (Nat.gcd (natB a) (natB b))).length <= 900000000) := Lib.hid (by
  rcases Nat.eq_zero_or_pos (natB a) with h | h
  ·rw [h, Nat.gcd_zero_left]; exact Nat.le_trans (natB_len b) (by omega)
  ·exact Nat.le_trans (digs_mono (by decide) (Nat.le_of_dvd h (Nat.gcd_dvd_left _ _))) (Nat.le_trans (natB_len a) (by omega)))
 clear ha hb
 go_enter Tryz.func55, Tryz.ntmps55
 go_wp2_with fail
 obtain ⟨B, hB⟩ : ∃ B, W.heap.size = B := ⟨_, rfl⟩
 have hc0 := cell_alloc_one W (.func (.func 85) #[] #[.pointer (some ⟨W.heap.size, 0, none⟩)]) 152
 have T0 := (Turned.refl (fun _ => False) W).alloc (.cells #[.func (.func 85) #[] #[.pointer (some ⟨W.heap.size, 0, none⟩)]] 152)
 obtain ⟨w0, hw0⟩ : ∃ w0, w0 = W.alloc (.cells #[.func (.func 85) #[] #[.pointer (some ⟨W.heap.size, 0, none⟩)]] 152) := ⟨_, rfl⟩
 rw [<- hw0] at hc0 T0 ⊢
 rw [hB] at hc0 ⊢
 have HT0 := Lib.hid T0.drew
 have HC0 : Hid (w0.drew.cell? ⟨B, 0, none⟩ = some (.func (.func 85) #[] #[.pointer (some ⟨B, 0, none⟩)])) := Lib.hid (cellT ((Turned.refl (fun _ => False) w0).drew) id hc0)
 clear hw0 hB T0
 go_region_held3 (fun W => W.cell? ⟨B, 0, none⟩ = some (.func (.func 85) #[] #[.pointer (some ⟨B, 0, none⟩)]))
  (first | exact HS4.out | exact HS3.out | exact HS2.out | exact HS1.out | exact HC0.out | go_keep)
  (first
   | (have hq := HS3; clear hq; go_at_call 88; refine (text_dg (Nat.gcd (natB a) (natB b)) p3 c3 w3 H3.out.1 HLg.out).mono ?_; rintro e w4 ⟨rfl, t4⟩; have H4 := Lib.hid (H3.out.2.trans t4); have HS4 := Lib.hid (cellT t4 id HS3.out); clear t4)
   | (have hq := HS2; clear hq; go_at_call 85; refine (gcdE_any B (natB b + 1) (natB a) (natB b) p1 p2 c1 c2 w2 (Nat.lt_succ_self _) H2.out.1 H2.out.2.1 (Nat.le_trans HLa.out (by omega)) (Nat.le_trans HLb.out (by omega)) HS2.out).mono ?_; rintro e w3 ⟨p3, c3, rfl, h3, t3⟩; have H3 := Lib.hid (And.intro h3 (H2.out.2.2.trans t3)); have HS3 := Lib.hid (cellT t3 id HS2.out); clear h3 t3)
   | (have hq := HS1; clear hq; go_at_call 87; refine (HB.out w1).mono ?_; rintro e w2 ⟨p2, c2, rfl, h2, t2⟩; have H2 := Lib.hid (And.intro (H1.out.1.turned t2) (And.intro h2 (H1.out.2.trans t2))); have HS2 := Lib.hid (cellT t2 id HS1.out); clear h2 t2)
   | (go_at_call 87; refine (HA.out w0.drew).mono ?_; rintro e w1 ⟨p1, c1, rfl, h1, t1⟩; have H1 := Lib.hid (And.intro h1 (HT0.out.trans t1)); have HS1 := Lib.hid (cellT t1 id HC0.out); clear h1 t1))
 go_wp2_with fail
 go_ret
 exact ⟨rfl, H4.out⟩
theorem LA.two (W : World) {v u : Nat} (h : v < bU) (k : u < bU) : LA (W.alloc (.cells #[.int .u32 v, .int .u32 u] 170)) (fun _ => True) [v, u] (some ⟨W.heap.size, 0, none⟩) 2 :=
 ⟨fun d hd => by
  rcases List.mem_cons.1 hd with rfl | hd
  ·exact h
  ·rw [List.mem_singleton.1 hd]; exact k, by simp, by unfold maxLen; omega, fun i d hi => by
  match i, hi with
  | 0, hi => cases hi; exact ⟨_, 0, rfl, trivial, by rw [World.cell?_alloc_at _ _ _ _ rfl]; rfl⟩
  | 1, hi => cases hi; exact ⟨_, 0, rfl, trivial, by rw [World.cell?_alloc_at _ _ _ _ rfl]; rfl⟩
  | i + 2, hi => simp at hi⟩
theorem nInt_any (n : Nat) (W : World) (hn : n < 9223372036854775808) : Calls Tryz.prog 63 #[.int .i64 n] W fun e w' => e = .returned (.tuple #[.string (encB n), .int .i64 0]) /\ Turned (fun _ => False) W w' := by
 have hz : ¬ (n : Int) < 0 := by omega
 obtain ⟨lo, hlo⟩ : ∃ lo, n % bU = lo := ⟨_, rfl⟩
 obtain ⟨hi, hhi⟩ : ∃ hi, n / bU = hi := ⟨_, rfl⟩
 have e1 : IntKind.u32.wrap (n : Int) = (lo : Int) := by rw [<- hlo]; rfl
 have e2 : (n : Int) / 4294967296 = (hi : Int) := by rw [<- hhi]; rfl
 have b1 : lo < bU := by rw [<- hlo]; exact Nat.mod_lt _ (by decide)
 have b2 : hi < bU := by rw [<- hhi]; unfold bU; omega
 have e3 : IntKind.u32.wrap (hi : Int) = (hi : Int) := by show (hi : Int) % 4294967296 = hi; unfold bU at b2; omega
 have hd : trimL [lo, hi] = digs bU n := by
  rw [<- digs_vL (b := bU) (by decide) (l := [lo, hi]) (by intro d hd; simp at hd; rcases hd with rfl | rfl; exact b1; exact b2)]
  congr 1
  have : vL bU [lo, hi] = lo + bU * hi := by simp [vL]
  rw [this, <- hlo, <- hhi]; exact Nat.mod_add_div n bU
 have HD := Lib.hid hd
 have HB := Lib.hid (And.intro b1 b2)
 have hl : (digs bU n).length <= 900000000 := by
  rw [<- hd]
  exact Nat.le_trans (trimL_len _) (by simp)
 have HL := Lib.hid hl
 clear hlo hhi hd b1 b2 hl hn
 go_enter Tryz.func63, Tryz.ntmps63
 go_wp2_with fail
 refine (trim_any [lo, hi] _ _ _ _ (LA.two W HB.out.1 HB.out.2)).mono ?_
 rintro e w1 ⟨rfl, hw⟩
 rw [hw, HD.out]
 clear hw
 go_wp2_with fail
 refine (text_dg n _ _ _ (by rw [<- HD.out]; exact (LA.two W HB.out.1 HB.out.2).trim) HL.out).mono ?_
 rintro e w2 ⟨rfl, t2⟩
 have H2 := Lib.hid (((Turned.refl (fun _ => False) W).alloc _).trans t2)
 clear t2
 go_wp2_with fail
 go_ret2
 exact ⟨rfl, H2.out⟩
theorem canon_nil {s : ByteArray} (h : s = ⟨#[]⟩) : decide (encB (natB s) = s) = true := by subst h; simp [natB, valB, encB_zero]
theorem canon_of (s : ByteArray) : decide (encB (natB s) = s) = decide (cleanB s.data.toList = s.data.toList) := by
 rw [Bool.eq_iff_iff]
 simp only [decide_eq_true_eq]
 unfold encB natB
 rw [encN_val]
 constructor
 ·intro h
  have := congrArg (fun x => x.data.toList) h
  simpa using this
 ·intro h
  rw [h]
theorem nValid_any (s : ByteArray) (W : World) : Calls Tryz.prog 54 #[.string s] W fun e w' => e = .returned (.bool (decide (encB (natB s) = s))) /\ w' = W := by
 by_cases h0 : s = ⟨#[]⟩
 ·rw [canon_nil h0]
  subst h0
  go_enter Tryz.func54, Tryz.ntmps54
  go_wp2_with fail
  go_ret
  exact ⟨rfl, rfl⟩
 ·have hl1 : ¬ s.toList = [] := by
   rw [ByteArray.toList_eq]
   intro h
   apply h0
   have h3 : s = ⟨(s.data.toList).toArray⟩ := by simp
   rw [h3, h]
  have hl2 : s.toList.isEmpty = false := by simpa using hl1
  have hs : 0 < s.size := by
   rcases Nat.eq_zero_or_pos s.size with h | h
   ·exfalso; apply h0
    have h3 : s = ⟨(s.data.toList).toArray⟩ := by simp
    have h4 : s.data.toList = [] := List.length_eq_zero_iff.1 (by simpa using h)
    rw [h3, h4]
   ·exact h
  have hsi : (0 : Int) < (s.size : Int) := by omega
  by_cases hx : ((s[0].toNat : Int) == 0) = true
  ·have hv : decide (encB (natB s) = s) = false := by
    rw [canon_of]
    obtain ⟨x, l, h1, h2, -⟩ := head_of s hs
    have hx0 : x = 0 := by
     rw [h2] at hx
     have : (x.toNat : Int) = 0 := by simpa using hx
     exact UInt8.toNat_inj.1 (by simpa using this)
    rw [h1, hx0, cleanB_zero]
    have := cleanB_len l
    simp
    intro h
    have := congrArg List.length h
    simp at this
    omega
   rw [hv]
   have hx2 : ((s[0].toNat : Int) != 0) = false := by rw [bne, hx]; rfl
   clear h0 hv
   go_enter Tryz.func54, Tryz.ntmps54
   go_wp2_with fail
   go_ret
   exact ⟨rfl, rfl⟩
  ·have hv : decide (encB (natB s) = s) = true := by
    rw [canon_of, head_ne s hs (by simpa using hx)]
    simp
   rw [hv]
   have hx1 : ((s[0].toNat : Int) == 0) = false := by simpa using hx
   have hx2 : ((s[0].toNat : Int) != 0) = true := by rw [bne, hx1]; rfl
   clear h0 hv hx
   go_enter Tryz.func54, Tryz.ntmps54
   go_wp2_with fail
   go_ret
   exact ⟨rfl, rfl⟩
abbrev ratV (u : Rv) : Value := .agg #[.bool u.neg, .string u.num, .string u.den]
abbrev frV (f : Bool × Nat × Nat) : Value := .agg #[.bool f.1, .string (encB f.2.1), .string (encB f.2.2)]
theorem toList_inj' {a b : ByteArray} : a.toList = b.toList ↔ a = b := by
 rw [ByteArray.toList_eq, ByteArray.toList_eq]
 constructor
 ·intro h
  have h1 : a = ⟨(a.data.toList).toArray⟩ := by simp
  have h2 : b = ⟨(b.data.toList).toArray⟩ := by simp
  rw [h1, h2, h]
 ·rintro rfl; rfl
theorem run_equal_rat (u v : Rv) (W : World) : (Op.equalIn 10000 31 (ratV u) (ratV v)).run Tryz.prog W = .ok (decide (u = v)) W := by
 have hS : Tryz.prog.underlying 31 = some (.struct (Tryz.prog.fieldsOf 31)) := by kernel_rfl
 have hp : Tryz.prog.stoodInHeld 31 = false := by kernel_rfl
 have a1 := Tryz.isAgg9
 have z1 := Tryz.sizeOf9
 have u1 := Tryz.underlying9
 rw [show (10000 : Nat) = 9999 + 1 from rfl, run_equalIn_agg W 9999 31 _ _ hS hp]
 simp only [Program.fieldsOf, Tryz.underlying31]
 go_simp
 simp only [toList_inj']
 obtain ⟨un, unu, ude⟩ := u
 obtain ⟨vn, vnu, vde⟩ := v
 by_cases h1 : un = vn
 ·by_cases h2 : unu = vnu
  ·by_cases h3 : ude = vde
   ·simp [h1, h2, h3]
   ·simp [h1, h2, h3]
  ·simp [h1, h2]
 ·simp [h1]
theorem run_eql_rat (u v : Rv) (W : World) : (binOp .eql 31 (ratV u) (ratV v)).run Tryz.prog W = .ok (.bool (decide (u = v))) W := by
 rw [run_eql_struct, run_equal_rat]; rfl
theorem run_neq_rat (u v : Rv) (W : World) : (binOp .neq 31 (ratV u) (ratV v)).run Tryz.prog W = .ok (.bool (!decide (u = v))) W := by
 rw [run_neq_struct, run_equal_rat]; rfl
theorem rat_guard : Tryz.prog.eqGuardType Tryz.prog.depth 31 = false := by kernel_rfl
def sameR (u v : Rv) : Bool := decide (u = v)
theorem run_eql_rat' (a b : Bool) (n m d e : ByteArray) (W : World) : (binOp .eql 31 (.agg #[.bool a, .string n, .string d]) (.agg #[.bool b, .string m, .string e])).run Tryz.prog W = .ok (.bool (sameR ⟨a, n, d⟩ ⟨b, m, e⟩)) W := run_eql_rat ⟨a, n, d⟩ ⟨b, m, e⟩ W
theorem run_neq_rat' (a b : Bool) (n m d e : ByteArray) (W : World) : (binOp .neq 31 (.agg #[.bool a, .string n, .string d]) (.agg #[.bool b, .string m, .string e])).run Tryz.prog W = .ok (.bool (!sameR ⟨a, n, d⟩ ⟨b, m, e⟩)) W := run_neq_rat ⟨a, n, d⟩ ⟨b, m, e⟩ W
attribute [local go_sem ↓] run_eql_rat' run_neq_rat'
theorem bytesNe {s : ByteArray} (h : s ≠ ⟨#[]⟩) : ¬ s.toList = [] /\ s.toList.isEmpty = false := by
 have h1 : ¬ s.toList = [] := fun h2 => h (toList_inj'.1 (by rw [h2, ByteArray.toList_eq]))
 exact ⟨h1, by simpa using h1⟩
theorem qValid_any (u : Rv) (W : World) (hn : u.num.size <= 400000000) (hd : u.den.size <= 400000000) : Calls Tryz.prog 30 #[ratV u] W fun e w' => e = .returned (.bool (decide (validR u))) /\ Turned (fun _ => False) W w' := by
 obtain ⟨neg, num, den⟩ := u
 have hg := rat_guard
 by_cases hz : (⟨neg, num, den⟩ : Rv) = zeroR
 ·have hv : decide (validR ⟨neg, num, den⟩) = true := by simp [validR, hz]
  rw [hv]
  obtain ⟨rfl, rfl, rfl⟩ : neg = false /\ num = ⟨#[]⟩ /\ den = ⟨#[]⟩ := by
   have := hz
   unfold zeroR at this
   simpa using this
  have h1 : sameR ⟨false, ⟨#[]⟩, ⟨#[]⟩⟩ ⟨false, ⟨#[]⟩, ⟨#[]⟩⟩ = true := by simp [sameR]
  clear hz hv
  go_enter Tryz.func30, Tryz.ntmps30
  go_wp2_with fail
  go_ret
  exact ⟨rfl, (Turned.refl _ W).alloc _⟩
 ·have hz1 : sameR ⟨neg, num, den⟩ ⟨false, ⟨#[]⟩, ⟨#[]⟩⟩ = false := by simpa [zeroR, sameR] using hz
  have hv : decide (validR ⟨neg, num, den⟩) = decide (goodR ⟨neg, num, den⟩) := by simp [validR, hz]
  rw [hv]
  by_cases h1 : num = ⟨#[]⟩
  ·have hv2 : decide (goodR ⟨neg, num, den⟩) = false := by simp [goodR, h1]
   rw [hv2]
   clear hv hv2 hz
   subst h1
   go_enter Tryz.func30, Tryz.ntmps30
   go_wp2_with fail
   go_ret
   exact ⟨rfl, (Turned.refl _ W).alloc _⟩
  obtain ⟨l1, l2⟩ := bytesNe h1
  by_cases h2 : den = ⟨#[]⟩
  ·have hv2 : decide (goodR ⟨neg, num, den⟩) = false := by simp [goodR, h2]
   rw [hv2]
   clear hv hv2 hz
   subst h2
   go_enter Tryz.func30, Tryz.ntmps30
   go_wp2_with fail
   go_ret
   exact ⟨rfl, (Turned.refl _ W).alloc _⟩
  obtain ⟨l3, l4⟩ := bytesNe h2
  have HV1 := Lib.hid (fun W => nValid_any num W)
  by_cases h3 : encB (natB num) = num
  ·rw [decide_eq_true h3] at HV1
   have HV2 := Lib.hid (fun W => nValid_any den W)
   by_cases h4 : encB (natB den) = den
   ·rw [decide_eq_true h4] at HV2
    have HG := Lib.hid (fun W => nGcd_any num den W hn hd)
    obtain ⟨g, hg1⟩ : ∃ g, Nat.gcd (natB num) (natB den) = g := ⟨_, rfl⟩
    rw [hg1] at HG
    have hv2 : decide (goodR ⟨neg, num, den⟩) = decide (g = 1) := by simp [goodR, h1, h2, h3, h4, hg1]
    obtain ⟨G, hG⟩ : ∃ G, encB g = G := ⟨_, rfl⟩
    rw [hG] at HG
    have hv3 : (G.toList == [1]) = decide (g = 1) := by
     have e1 : (⟨#[1]⟩ : ByteArray) = encB 1 := by unfold encB; rw [encN_pos (by decide), show 1 / 256 = 0 from rfl, encN_zero]; rfl
     have e2 : (⟨#[1]⟩ : ByteArray).toList = [1] := by rw [ByteArray.toList_eq]
     rw [<- e2, Bool.eq_iff_iff, beq_iff_eq, toList_inj', decide_eq_true_eq, <- hG, e1]
     exact ⟨encB_inj, congrArg _⟩
    obtain ⟨v, hv4⟩ : ∃ v, decide (g = 1) = v := ⟨_, rfl⟩
    rw [hv2, hv4]
    rw [hv4] at hv3
    clear hv hv2 hz h1 h2 h3 h4 hg1 hG hv4 hn hd
    go_enter Tryz.func30, Tryz.ntmps30
    go_wp2_with (first | (go_at_call 54; (first | ((with_reducible refine (HV1.out _).mono ?_); rintro e w' ⟨rfl, hw⟩; rw [hw]; clear hw) | ((with_reducible refine (HV2.out _).mono ?_); rintro e w' ⟨rfl, hw⟩; rw [hw]; clear hw))) | (go_at_call 55; (with_reducible refine (HG.out _).mono ?_); rintro e w1 ⟨rfl, t1⟩; have H1 := Lib.hid (((Turned.refl (fun _ => False) W).alloc _).trans t1); clear t1))
    go_ret
    exact ⟨rfl, H1.out⟩
   ·rw [decide_eq_false h4] at HV2
    have hv2 : decide (goodR ⟨neg, num, den⟩) = false := by simp [goodR, h4]
    rw [hv2]
    clear hv hv2 hz h1 h2 h3 h4 hn hd
    go_enter Tryz.func30, Tryz.ntmps30
    go_wp2_with (go_at_call 54; (first | ((with_reducible refine (HV1.out _).mono ?_); rintro e w' ⟨rfl, hw⟩; rw [hw]; clear hw) | ((with_reducible refine (HV2.out _).mono ?_); rintro e w' ⟨rfl, hw⟩; rw [hw]; clear hw)))
    go_ret
    exact ⟨rfl, (Turned.refl _ W).alloc _⟩
  ·rw [decide_eq_false h3] at HV1
   have hv2 : decide (goodR ⟨neg, num, den⟩) = false := by simp [goodR, h3]
   rw [hv2]
   clear hv hv2 hz h1 h2 h3 hn hd
   go_enter Tryz.func30, Tryz.ntmps30
   go_wp2_with (go_at_call 54; (with_reducible refine (HV1.out _).mono ?_); rintro e w' ⟨rfl, hw⟩; rw [hw]; clear hw)
   go_ret
   exact ⟨rfl, (Turned.refl _ W).alloc _⟩
theorem encB_one : encB 1 = ⟨#[1]⟩ := by unfold encB; rw [encN_pos (by decide), show 1 / 256 = 0 from rfl, encN_zero]; rfl
theorem new_second (W : World) (o1 o2 : Obj) : ((W.alloc o1).alloc o2).heap[W.heap.size + 1]? = some o2 := by
 have := World.alloc_heap_new (W.alloc o1) o2
 simpa using this
theorem new_first (W : World) (o1 o2 : Obj) : ((W.alloc o1).alloc o2).heap[W.heap.size]? = some o1 := by
 rw [Turned.block (C := fun _ => False) ((Turned.refl _ (W.alloc o1)).alloc o2) _ (by simp) id]
 exact World.alloc_heap_new W o1
theorem box3 {w : World} {b t : Nat} {x y z : Value} (h : w.heap[b]? = some (.cells #[x, y, z] t (0, 0))) : w.cell? ⟨b, 0, none⟩ = some x /\ w.cell? ⟨b, 1, none⟩ = some y /\ w.cell? ⟨b, 2, none⟩ = some z /\ w.frozen? ⟨b, 0, none⟩ = false /\ w.frozen? ⟨b, 1, none⟩ = false /\ w.frozen? ⟨b, 2, none⟩ = false := by
 simp [World.cell?, World.frozen?, h]
theorem set3 {w : World} {b t : Nat} {x y z : Value} (h : w.heap[b]? = some (.cells #[x, y, z] t (0, 0))) (u v r : Value) : (((w.setCell ⟨b, 0, none⟩ u).setCell ⟨b, 1, none⟩ v).setCell ⟨b, 2, none⟩ r).heap[b]? = some (.cells #[u, v, r] t (0, 0)) /\ Turned (fun k => k = b) w (((w.setCell ⟨b, 0, none⟩ u).setCell ⟨b, 1, none⟩ v).setCell ⟨b, 2, none⟩ r) := by
 refine ⟨?_, ((((Turned.refl (fun k => k = b) w).setCell (p := ⟨b, 0, none⟩) rfl u).setCell (p := ⟨b, 1, none⟩) rfl v).setCell (p := ⟨b, 2, none⟩) rfl r)⟩
 rw [setBlock (setBlock (setBlock h 0 u) 1 v) 2 r]
 simp
theorem results_frac (tmps : Array Value) (w : World) (g : Nat) (a b c : Value) (hp : tmps.getD 2 undef = .pointer (some ⟨g, 0, none⟩)) (hg : w.heap[g]? = some (.cells #[a, b, c] 92 (0, 0))) :
  (results Tryz.f38 tmps).run Tryz.prog w = .ok (.agg #[a, b, c]) w :=
 results_cell_row (fn := Tryz.f38) rfl tmps w g 92 #[a, b, c] (0, 0) _ hp hg Tryz.underlying92 rfl (by kernel_rfl)
theorem qOf_any (u : Rv) (W : World) (hn : u.num.size <= 400000000) (hd : u.den.size <= 400000000) : Calls Tryz.prog 38 #[ratV u] W fun e w' => e = .returned (frV (fracR u)) /\ Turned (fun _ => False) W w' := by
 have HV := Lib.hid (fun W => qValid_any u W hn hd)
 obtain ⟨neg, num, den⟩ := u
 by_cases h1 : num = ⟨#[]⟩
 ·have hf : fracR ⟨neg, num, den⟩ = (false, 0, 1) := by unfold fracR; rw [if_neg]; simp [goodR, h1]
  rw [hf]
  clear hf hn hd
  subst h1
  go_enter Tryz.func38, Tryz.ntmps38
  go_wp2_with fail
  refine bodyPost_ret (results_frac _ _ (W.heap.size + 1) _ _ _ rfl (new_second _ _ _)) rfl ?_
  show Ending.returned _ = Ending.returned (.agg #[.bool false, .string (encB 0), .string (encB 1)]) /\ _
  rw [encB_zero, encB_one]
  exact ⟨rfl, ((Turned.refl _ W).alloc _).alloc _⟩
 ·obtain ⟨l1, l2⟩ := bytesNe h1
  have hz : (⟨neg, num, den⟩ : Rv) ≠ zeroR := by simp [zeroR, h1]
  have hvg : decide (validR ⟨neg, num, den⟩) = decide (goodR ⟨neg, num, den⟩) := by simp [validR, hz]
  rw [hvg] at HV
  by_cases h2 : goodR ⟨neg, num, den⟩
  ·rw [decide_eq_true h2] at HV
   have hf : fracR ⟨neg, num, den⟩ = (neg, natB num, natB den) := by unfold fracR; rw [if_pos h2]
   have HE : Hid (encB (natB num) = num /\ encB (natB den) = den) := Lib.hid ⟨h2.2.2.1, h2.2.2.2.1⟩
   rw [hf]
   clear hf hn hd h1 h2 hz hvg
   go_enter Tryz.func38, Tryz.ntmps38
   go_wp2_with fail
   refine (HV.out _).mono ?_
   rintro e w1 ⟨rfl, t1⟩
   have b1 := (t1.block W.heap.size (by simp; omega) id).trans (new_first W _ _)
   have b2 := (t1.block (W.heap.size + 1) (by simp) id).trans (new_second W _ _)
   obtain ⟨c0, c1, c2, -, -, -⟩ := box3 b1
   obtain ⟨d0, d1, d2, f0, f1, f2⟩ := box3 b2
   have HS := Lib.hid (And.intro b2 (((((Turned.refl (fun _ => False) W).alloc _).alloc _).trans t1)))
   clear b1 b2 t1
   go_wp2_with fail
   obtain ⟨k1, k2⟩ := set3 HS.out.1 (.bool neg) (.string num) (.string den)
   refine bodyPost_ret (results_frac _ _ (W.heap.size + 1) _ _ _ rfl k1) rfl ?_
   show Ending.returned _ = Ending.returned (.agg #[.bool neg, .string (encB (natB num)), .string (encB (natB den))]) /\ _
   rw [HE.out.1, HE.out.2]
   exact ⟨rfl, HS.out.2.fresh k2 fun g hg => by omega⟩
  ·rw [decide_eq_false h2] at HV
   have hf : fracR ⟨neg, num, den⟩ = (false, 0, 1) := by unfold fracR; rw [if_neg h2]
   rw [hf]
   clear hf hn hd h1 h2 hz hvg
   go_enter Tryz.func38, Tryz.ntmps38
   go_wp2_with fail
   refine (HV.out _).mono ?_
   rintro e w1 ⟨rfl, t1⟩
   have b2 := (t1.block (W.heap.size + 1) (by simp) id).trans (new_second W _ _)
   obtain ⟨d0, d1, d2, f0, f1, f2⟩ := box3 b2
   have HS := Lib.hid (And.intro b2 (((((Turned.refl (fun _ => False) W).alloc _).alloc _).trans t1)))
   clear b2 t1
   go_wp2_with fail
   obtain ⟨k1, k2⟩ := set3 HS.out.1 (.bool false) (.string ⟨#[]⟩) (.string ⟨#[1]⟩)
   refine bodyPost_ret (results_frac _ _ (W.heap.size + 1) _ _ _ rfl k1) rfl ?_
   show Ending.returned _ = Ending.returned (.agg #[.bool false, .string (encB 0), .string (encB 1)]) /\ _
   rw [encB_zero, encB_one]
   exact ⟨rfl, HS.out.2.fresh k2 fun g hg => by omega⟩
attribute [local go_sem ↓] run_eql_rat' run_neq_rat'
theorem keepB {w w' : World} (t : Turned (fun _ => False) w w') {b : Nat} {o : Obj} (h : w.heap[b]? = some o) : w'.heap[b]? = some o := (t.block b (getElem?_lt h) id).trans h
theorem results_low (tmps : Array Value) (w : World) (g : Nat) (a b c : Value) (hp : tmps.getD 2 undef = .pointer (some ⟨g, 0, none⟩)) (hg : w.heap[g]? = some (.cells #[a, b, c] 31 (0, 0))) :
  (results Tryz.f42 tmps).run Tryz.prog w = .ok (.agg #[a, b, c]) w :=
 results_cell_row (fn := Tryz.f42) rfl tmps w g 31 #[a, b, c] (0, 0) _ hp hg Tryz.underlying31 rfl (by kernel_rfl)
theorem encB_lt (n : Nat) : n < 256 ^ (encB n).size := by
 have h := valB_lt (encB n).data.toList
 have h2 : (encB n).data.toList.length = (encB n).size := by simp
 rw [h2] at h
 have h3 : valB (encB n).data.toList = n := natB_encB n
 rwa [h3] at h
theorem encB_le {n k : Nat} (h : n < 256 ^ k) : (encB n).size <= k := by
 have := encN_len_le h
 have h2 : (encN n).length = (encB n).size := by unfold encB; simp [ByteArray.size]
 omega
theorem encB_mono {m n : Nat} (h : m <= n) : (encB m).size <= (encB n).size := encB_le (Nat.lt_of_le_of_lt h (encB_lt n))
theorem encB_mul (m n : Nat) : (encB (m * n)).size <= (encB m).size + (encB n).size := encB_le (by rw [Nat.pow_add]; exact Nat.mul_lt_mul'' (encB_lt m) (encB_lt n))
theorem encB_add {m n k : Nat} (hm : (encB m).size <= k) (hn : (encB n).size <= k) : (encB (m + n)).size <= k + 1 := encB_le (by
 have h1 := Nat.lt_of_lt_of_le (encB_lt m) (Nat.pow_le_pow_right (by decide : 0 < 256) hm)
 have h2 := Nat.lt_of_lt_of_le (encB_lt n) (Nat.pow_le_pow_right (by decide : 0 < 256) hn)
 rw [Nat.pow_succ]; omega)
theorem encB_ne {n : Nat} (h : n ≠ 0) : encB n ≠ ⟨#[]⟩ := fun h2 => h (encB_nil.1 h2)
theorem low_any (f : Bool × Nat × Nat) (W : World) (hd : f.2.2 ≠ 0) (h1 : (encB f.2.1).size <= 400000000) (h2 : (encB f.2.2).size <= 400000000) : Calls Tryz.prog 42 #[frV f] W fun e w' => e = .returned (ratV (lowR f.1 f.2.1 f.2.2)) /\ Turned (fun _ => False) W w' := by
 obtain ⟨neg, n, d⟩ := f
 by_cases h0 : n = 0
 ·have hf : lowR neg n d = ⟨false, ⟨#[]⟩, ⟨#[]⟩⟩ := by unfold lowR; rw [if_pos h0]; rfl
  show Calls Tryz.prog 42 #[.agg #[.bool neg, .string (encB n), .string (encB d)]] W fun e w' => e = .returned (ratV (lowR neg n d)) /\ _
  rw [hf, h0, encB_zero]
  obtain ⟨D, hD⟩ : ∃ D, encB d = D := ⟨_, rfl⟩
  rw [hD]
  clear hf h0 h1 h2 hd hD
  go_enter Tryz.func42, Tryz.ntmps42
  go_wp2_with fail
  refine bodyPost_ret (results_low _ _ (W.heap.size + 1) _ _ _ rfl (new_second _ _ _)) rfl ?_
  exact ⟨rfl, ((Turned.refl _ W).alloc _).alloc _⟩
 ·have hf : lowR neg n d = ⟨neg, encB (n / Nat.gcd n d), encB (d / Nat.gcd n d)⟩ := by unfold lowR; rw [if_neg h0]
  show Calls Tryz.prog 42 #[.agg #[.bool neg, .string (encB n), .string (encB d)]] W fun e w' => e = .returned (ratV (lowR neg n d)) /\ _
  rw [hf]
  have hg0 : Nat.gcd n d ≠ 0 := fun h => h0 (Nat.gcd_eq_zero_iff.1 h).1
  have h3 : (encB (Nat.gcd n d)).size <= 400000000 := Nat.le_trans (encB_mono (Nat.le_of_dvd (Nat.pos_of_ne_zero h0) (Nat.gcd_dvd_left n d))) h1
  have HG := Lib.hid (fun W => nGcd_any (encB n) (encB d) W h1 h2)
  have HN := Lib.hid (fun W => nDivMod_any (encB n) (encB (Nat.gcd n d)) W h1 h3 (by rw [natB_encB]; exact hg0))
  have HD := Lib.hid (fun W => nDivMod_any (encB d) (encB (Nat.gcd n d)) W h2 h3 (by rw [natB_encB]; exact hg0))
  rw [natB_encB, natB_encB] at HG HN HD
  obtain ⟨l1, l2⟩ := bytesNe (encB_ne h0)
  obtain ⟨N, hN⟩ : ∃ N, encB n = N := ⟨_, rfl⟩
  obtain ⟨D, hD⟩ : ∃ D, encB d = D := ⟨_, rfl⟩
  obtain ⟨G, hG⟩ : ∃ G, encB (Nat.gcd n d) = G := ⟨_, rfl⟩
  obtain ⟨N', hN'⟩ : ∃ N', encB (n / Nat.gcd n d) = N' := ⟨_, rfl⟩
  obtain ⟨D', hD'⟩ : ∃ D', encB (d / Nat.gcd n d) = D' := ⟨_, rfl⟩
  obtain ⟨RN, hRN⟩ : ∃ x, encB (n % Nat.gcd n d) = x := ⟨_, rfl⟩
  obtain ⟨RD, hRD⟩ : ∃ x, encB (d % Nat.gcd n d) = x := ⟨_, rfl⟩
  rw [hN, hD, hG] at HG
  rw [hN, hG, hN', hRN] at HN
  rw [hD, hG, hD', hRD] at HD
  rw [hN] at l1 l2
  rw [hN, hD, hN', hD']
  clear hf h0 hd h1 h2 hg0 h3 hN hD hG hN' hD' hRN hRD
  go_enter Tryz.func42, Tryz.ntmps42
  go_wp2_with fail
  refine (HG.out _).mono ?_
  rintro e w1 ⟨rfl, t1⟩
  have b1 := keepB t1 (new_first W _ _)
  have b2 := keepB t1 (new_second W _ _)
  have T1 := (((Turned.refl (fun _ => False) W).alloc _).alloc _).trans t1
  obtain ⟨c0, c1, c2, -, -, -⟩ := box3 b1
  have HS := Lib.hid (And.intro b1 (And.intro b2 T1))
  clear b1 b2 t1 T1
  go_wp2_with fail
  refine (HN.out _).mono ?_
  rintro e w2 ⟨rfl, t1⟩
  have b1 := keepB t1 HS.out.1
  have b2 := keepB t1 HS.out.2.1
  have T1 := HS.out.2.2.trans t1
  clear c0 c1 c2 HS
  obtain ⟨c0, c1, c2, -, -, -⟩ := box3 b1
  have HS := Lib.hid (And.intro b1 (And.intro b2 T1))
  clear b1 b2 t1 T1
  go_wp2_with fail
  refine (HD.out _).mono ?_
  rintro e w3 ⟨rfl, t1⟩
  have b1 := keepB t1 HS.out.1
  have b2 := keepB t1 HS.out.2.1
  have T1 := HS.out.2.2.trans t1
  clear c0 c1 c2 HS
  obtain ⟨c0, c1, c2, -, -, -⟩ := box3 b1
  obtain ⟨d0, d1, d2, f0, f1, f2⟩ := box3 b2
  have HS := Lib.hid (And.intro b1 (And.intro b2 T1))
  clear b1 b2 t1 T1
  go_wp2_with fail
  obtain ⟨k1, k2⟩ := set3 HS.out.2.1 (.bool neg) (.string N') (.string D')
  refine bodyPost_ret (results_low _ _ (W.heap.size + 1) _ _ _ rfl k1) rfl ?_
  exact ⟨rfl, HS.out.2.2.fresh k2 fun g hg => by omega⟩
attribute [local go_sem ↓] run_eql_rat' run_neq_rat'
theorem results_plus (tmps : Array Value) (w : World) (g : Nat) (a b c : Value) (hp : tmps.getD 4 undef = .pointer (some ⟨g, 0, none⟩)) (hg : w.heap[g]? = some (.cells #[a, b, c] 92 (0, 0))) :
  (results Tryz.f116 tmps).run Tryz.prog w = .ok (.agg #[a, b, c]) w :=
 results_cell_row (fn := Tryz.f116) rfl tmps w g 92 #[a, b, c] (0, 0) _ hp hg Tryz.underlying92 rfl (by kernel_rfl)
theorem new3 (W : World) (o1 o2 o3 : Obj) : (((W.alloc o1).alloc o2).alloc o3).heap[W.heap.size]? = some o1 /\ (((W.alloc o1).alloc o2).alloc o3).heap[W.heap.size + 1]? = some o2 /\ (((W.alloc o1).alloc o2).alloc o3).heap[W.heap.size + 1 + 1]? = some o3 := by
 refine ⟨keepB ((Turned.refl _ _).alloc o3) (new_first W o1 o2), keepB ((Turned.refl _ _).alloc o3) (new_second W o1 o2), ?_⟩
 have := World.alloc_heap_new ((W.alloc o1).alloc o2) o3
 simpa using this
theorem mv3 {W w w' : World} {b0 b1 b2 : Nat} {o0 o1 o2 : Obj} (h : w.heap[b0]? = some o0 /\ w.heap[b1]? = some o1 /\ w.heap[b2]? = some o2 /\ Turned (fun _ => False) W w) (t : Turned (fun _ => False) w w') : w'.heap[b0]? = some o0 /\ w'.heap[b1]? = some o1 /\ w'.heap[b2]? = some o2 /\ Turned (fun _ => False) W w' :=
 ⟨keepB t h.1, keepB t h.2.1, keepB t h.2.2.1, h.2.2.2.trans t⟩
theorem s4 {W w : World} {b0 b1 b2 t1 t2 : Nat} {o2 : Obj} {x0 x1 x2 y0 y1 y2 : Value} (h : w.heap[b0]? = some (.cells #[x0, x1, x2] t1 (0, 0)) /\ w.heap[b1]? = some (.cells #[y0, y1, y2] t2 (0, 0)) /\ w.heap[b2]? = some o2 /\ Turned (fun _ => False) W w) : w.cell? ⟨b0, 1, none⟩ = some x1 /\ w.cell? ⟨b0, 2, none⟩ = some x2 /\ w.cell? ⟨b1, 1, none⟩ = some y1 /\ w.cell? ⟨b1, 2, none⟩ = some y2 :=
 ⟨(box3 h.1).2.1, (box3 h.1).2.2.1, (box3 h.2.1).2.1, (box3 h.2.1).2.2.1⟩
theorem turn_first {W w : World} {b1 b2 t1 : Nat} {o1 o2 : Obj} {x0 x1 x2 : Value} (u : Value) (h : w.heap[W.heap.size]? = some (.cells #[x0, x1, x2] t1 (0, 0)) /\ w.heap[b1]? = some o1 /\ w.heap[b2]? = some o2 /\ Turned (fun _ => False) W w) (n1 : b1 ≠ W.heap.size) (n2 : b2 ≠ W.heap.size) :
  (w.setCell ⟨W.heap.size, 0, none⟩ u).drew.heap[W.heap.size]? = some (.cells #[u, x1, x2] t1 (0, 0)) /\ (w.setCell ⟨W.heap.size, 0, none⟩ u).drew.heap[b1]? = some o1 /\ (w.setCell ⟨W.heap.size, 0, none⟩ u).drew.heap[b2]? = some o2 /\ Turned (fun _ => False) W (w.setCell ⟨W.heap.size, 0, none⟩ u).drew := by
 have t1 : Turned (fun k => k = W.heap.size) w (w.setCell ⟨W.heap.size, 0, none⟩ u) := (Turned.refl (fun k => k = W.heap.size) w).setCell (p := ⟨W.heap.size, 0, none⟩) rfl _
 have e1 := setBlock h.1 0 u
 refine ⟨keepB ((Turned.refl _ _).drew) (e1.trans (by simp)), keepB ((Turned.refl _ _).drew) ((t1.block b1 (getElem?_lt h.2.1) n1).trans h.2.1), keepB ((Turned.refl _ _).drew) ((t1.block b2 (getElem?_lt h.2.2.1) n2).trans h.2.2.1), (h.2.2.2.fresh t1 fun g hg => by omega).drew⟩
theorem plus_any' (fn gn : Bool) (a b c d k : Nat) (W : World) (hk : k <= 100000000) (ha : (encB a).size <= k) (hb : (encB b).size <= k) (hc : (encB c).size <= k) (hd : (encB d).size <= k) :
  Calls Tryz.prog 116 #[frV (fn, a, b), frV (gn, c, d)] W fun e w' => e = .returned (frV (plusF (fn, a, b) (gn, c, d))) /\ Turned (fun _ => False) W w' := by
 have H1 := Lib.hid (fun W => nMul_any (encB a) (encB d) W (by omega) (by omega))
 have H2 := Lib.hid (fun W => nMul_any (encB c) (encB b) W (by omega) (by omega))
 have H3 := Lib.hid (fun W => nMul_any (encB b) (encB d) W (by omega) (by omega))
 rw [natB_encB, natB_encB] at H1 H2 H3
 have hp : (encB (a * d)).size <= 400000000 := Nat.le_trans (encB_mul a d) (by omega)
 have hq : (encB (c * b)).size <= 400000000 := Nat.le_trans (encB_mul c b) (by omega)
 have HA := Lib.hid (fun W => nAdd_any (encB (a * d)) (encB (c * b)) W hp hq)
 have HC := Lib.hid (fun W => nCmp_any (encB (a * d)) (encB (c * b)) W (by omega) (by omega))
 have HS1 := Lib.hid (fun (h : c * b <= a * d) W => nSub_any (encB (a * d)) (encB (c * b)) W hp hq (by rw [natB_encB, natB_encB]; exact h))
 have HS2 := Lib.hid (fun (h : a * d <= c * b) W => nSub_any (encB (c * b)) (encB (a * d)) W hq hp (by rw [natB_encB, natB_encB]; exact h))
 rw [natB_encB, natB_encB] at HA HC HS1 HS2
 obtain ⟨A, hA⟩ : ∃ x, encB a = x := ⟨_, rfl⟩
 obtain ⟨B, hB⟩ : ∃ x, encB b = x := ⟨_, rfl⟩
 obtain ⟨C, hC⟩ : ∃ x, encB c = x := ⟨_, rfl⟩
 obtain ⟨D, hD⟩ : ∃ x, encB d = x := ⟨_, rfl⟩
 obtain ⟨P, hP⟩ : ∃ x, encB (a * d) = x := ⟨_, rfl⟩
 obtain ⟨Q, hQ⟩ : ∃ x, encB (c * b) = x := ⟨_, rfl⟩
 obtain ⟨R, hR⟩ : ∃ x, encB (b * d) = x := ⟨_, rfl⟩
 rw [hA, hD, hP] at H1
 rw [hC, hB, hQ] at H2
 rw [hB, hD, hR] at H3
 rw [hP, hQ] at HA HC HS1 HS2
 have HE := Lib.hid (And.intro hP (And.intro hQ hR))
 obtain ⟨r, hr⟩ : ∃ r, plusF (fn, a, b) (gn, c, d) = r := ⟨_, rfl⟩
 rw [hr]
 have HP := Lib.hid hr
 clear hr
 show Calls Tryz.prog 116 #[.agg #[.bool fn, .string (encB a), .string (encB b)], .agg #[.bool gn, .string (encB c), .string (encB d)]] W _
 rw [hA, hB, hC, hD]
 clear hA hB hC hD hP hQ hR hp hq ha hb hc hd hk
 go_enter Tryz.func116, Tryz.ntmps116
 go_wp2_with fail
 obtain ⟨n0, n1, n2⟩ := new3 W (.cells #[.bool fn, .string A, .string B] 92 (0, 0)) (.cells #[.bool gn, .string C, .string D] 92 (0, 0)) (.cells #[.bool false, .string ⟨#[]⟩, .string ⟨#[]⟩] 92 (0, 0))
 have T0 := (((Turned.refl (fun _ => False) W).alloc (.cells #[.bool fn, .string A, .string B] 92 (0, 0))).alloc (.cells #[.bool gn, .string C, .string D] 92 (0, 0))).alloc (.cells #[.bool false, .string ⟨#[]⟩, .string ⟨#[]⟩] 92 (0, 0))
 obtain ⟨w0, hw0⟩ : ∃ w0, w0 = (((W.alloc (.cells #[.bool fn, .string A, .string B] 92 (0, 0))).alloc (.cells #[.bool gn, .string C, .string D] 92 (0, 0))).alloc (.cells #[.bool false, .string ⟨#[]⟩, .string ⟨#[]⟩] 92 (0, 0))) := ⟨_, rfl⟩
 rw [<- hw0] at n0 n1 n2 T0 ⊢
 have HL0 := Lib.hid (And.intro (keepB ((Turned.refl (fun _ => False) w0).drew) n0) (And.intro (keepB ((Turned.refl (fun _ => False) w0).drew) n1) (And.intro (keepB ((Turned.refl (fun _ => False) w0).drew) n2) T0.drew)))
 clear hw0 n0 n1 n2 T0
 have HK0 := Lib.hid (s4 HL0.out)
 go_region_held3 (fun V => V.cell? ⟨W.heap.size, 1, none⟩ = some (.string A) /\ V.cell? ⟨W.heap.size, 2, none⟩ = some (.string B) /\ V.cell? ⟨W.heap.size + 1, 1, none⟩ = some (.string C) /\ V.cell? ⟨W.heap.size + 1, 2, none⟩ = some (.string D))
  (first | exact HK3.out | exact HK2.out | exact HK1.out | exact HK0.out | go_keep)
  (first
   | (have hq := HK2; clear hq; go_at_call 62; refine (H3.out w2).mono ?_; rintro e w3 ⟨rfl, t3⟩; have HL3 := Lib.hid (mv3 HL2.out t3); have HK3 := Lib.hid (s4 HL3.out); clear t3)
   | (have hq := HK1; clear hq; go_at_call 62; refine (H2.out w1).mono ?_; rintro e w2 ⟨rfl, t2⟩; have HL2 := Lib.hid (mv3 HL1.out t2); have HK2 := Lib.hid (s4 HL2.out); clear t2)
   | (go_at_call 62; refine (H1.out w0.drew).mono ?_; rintro e w1 ⟨rfl, t1⟩; have HL1 := Lib.hid (mv3 HL0.out t1); have HK1 := Lib.hid (s4 HL1.out); clear t1))
 clear H1 H2 H3 HL0 HK0 HL1 HL2 HK1 HK2 HK3
 obtain ⟨c0, c1, c2, -, -, -⟩ := box3 HL3.out.1
 obtain ⟨d0, d1, d2, -, -, -⟩ := box3 HL3.out.2.1
 by_cases hs : fn = gn
 ·have HR : Hid (r = (fn, a * d + c * b, b * d)) := Lib.hid (by rw [<- HP.out]; unfold plusF; rw [if_pos hs])
  subst hs
  obtain ⟨S, hS⟩ : ∃ x, encB (a * d + c * b) = x := ⟨_, rfl⟩
  rw [hS] at HA
  have HSS := Lib.hid hS
  clear hS c1 c2 d1 d2
  have HL4 := Lib.hid (mv3 HL3.out ((Turned.refl (fun _ => False) w3).drew))
  have HK4 := Lib.hid ((box3 HL4.out.1).1)
  go_wp2_with fail
  go_region_held3 (fun V => V.cell? ⟨W.heap.size, 0, none⟩ = some (.bool fn))
   (first | exact HK6.out | exact HK5.out | exact HK4.out | go_keep)
   ((go_at_call 150; refine (HA.out w3.drew).mono ?_; rintro e w5 ⟨rfl, t5⟩; have HL5 := Lib.hid (mv3 HL4.out t5); have HK5 := Lib.hid ((box3 HL5.out.1).1); obtain ⟨e0, e1, e2, g0, g1, g2⟩ := box3 HL5.out.2.2.1; have K6 := set3 HL5.out.2.2.1 (.bool fn) (.string S) (.string R); have HK6 := Lib.hid (cellT K6.2 (by omega) (box3 HL5.out.1).1); have HS6 := Lib.hid K6; clear t5 K6))
  go_wp2_with fail
  refine bodyPost_ret (results_plus _ _ (W.heap.size + 1 + 1) _ _ _ rfl HS6.out.1) rfl ?_
  rw [HR.out]
  show Ending.returned _ = Ending.returned (.agg #[.bool fn, .string (encB (a * d + c * b)), .string (encB (b * d))]) /\ _
  rw [HSS.out, HE.out.2.2]
  exact ⟨rfl, HL5.out.2.2.2.fresh HS6.out.2 fun g hg => by omega⟩
 ·have hsf : (fn == gn) = false := by simpa using hs
  by_cases hlt : a * d < c * b
  ·have HR : Hid (r = (gn, c * b - a * d, b * d)) := Lib.hid (by rw [<- HP.out]; unfold plusF; rw [if_neg hs, if_pos hlt])
   have HS := Lib.hid (HS2.out (Nat.le_of_lt hlt))
   rw [cmpZ_lt (by omega)] at HC
   obtain ⟨S, hS⟩ : ∃ x, encB (c * b - a * d) = x := ⟨_, rfl⟩
   rw [hS] at HS
   have HSS := Lib.hid hS
   clear hS hs hlt HS1 HS2 HA c1 c2 d1 d2
   go_wp2_with fail
   refine (HC.out w3).mono ?_
   rintro e w4 ⟨rfl, t4⟩
   have HL4 := Lib.hid (mv3 HL3.out t4)
   clear t4 c0 d0 HC
   obtain ⟨c0, c1, c2, f0, -, -⟩ := box3 HL4.out.1
   obtain ⟨d0, d1, d2, -, -, -⟩ := box3 HL4.out.2.1
   have hne : ¬ W.heap.size + 1 = W.heap.size := by omega
   go_wp2_with fail
   go_region
   go_wp2_with fail
   have HL5 := Lib.hid (turn_first (.bool gn) HL4.out (by omega) (by omega))
   obtain ⟨w5, hw5⟩ : ∃ w5, w5 = (w4.setCell ⟨W.heap.size, 0, none⟩ (.bool gn)).drew := ⟨_, rfl⟩
   rw [<- hw5] at HL5 ⊢
   clear hw5 c0 c1 c2 f0 d0 d1 d2 hne HL4
   refine (HS.out w5).mono ?_
   rintro e w6 ⟨rfl, t6⟩
   have HL6 := Lib.hid (mv3 HL5.out t6)
   clear t6
   obtain ⟨c0, -, -, -, -, -⟩ := box3 HL6.out.1
   obtain ⟨e0, e1, e2, g0, g1, g2⟩ := box3 HL6.out.2.2.1
   go_wp2_with fail
   obtain ⟨k1, k2⟩ := set3 HL6.out.2.2.1 (.bool gn) (.string S) (.string R)
   refine bodyPost_ret (results_plus _ _ (W.heap.size + 1 + 1) _ _ _ rfl k1) rfl ?_
   rw [HR.out]
   show Ending.returned _ = Ending.returned (.agg #[.bool gn, .string (encB (c * b - a * d)), .string (encB (b * d))]) /\ _
   rw [HSS.out, HE.out.2.2]
   exact ⟨rfl, HL6.out.2.2.2.fresh k2 fun g hg => by omega⟩
  ·have HR : Hid (r = (fn, a * d - c * b, b * d)) := Lib.hid (by rw [<- HP.out]; unfold plusF; rw [if_neg hs, if_neg hlt])
   have HS := Lib.hid (HS1.out (Nat.le_of_not_lt hlt))
   obtain ⟨z, hz⟩ : ∃ z, cmpZ ((a * d : Nat) : Int) ((c * b : Nat) : Int) = z := ⟨_, rfl⟩
   have hzf : decide (z < 0) = false := by rw [<- hz]; unfold cmpZ; split <;> (try split) <;> simp <;> omega
   rw [hz] at HC
   obtain ⟨S, hS⟩ : ∃ x, encB (a * d - c * b) = x := ⟨_, rfl⟩
   rw [hS] at HS
   have HSS := Lib.hid hS
   clear hS hs hlt HS1 HS2 HA c1 c2 d1 d2 hz
   go_wp2_with fail
   refine (HC.out w3).mono ?_
   rintro e w4 ⟨rfl, t4⟩
   have HL4 := Lib.hid (mv3 HL3.out t4)
   clear t4 c0 d0 HC
   go_wp2_with fail
   refine (HS.out w4).mono ?_
   rintro e w6 ⟨rfl, t6⟩
   have HL6 := Lib.hid (mv3 HL4.out t6)
   clear t6
   obtain ⟨c0, -, -, -, -, -⟩ := box3 HL6.out.1
   obtain ⟨e0, e1, e2, g0, g1, g2⟩ := box3 HL6.out.2.2.1
   go_wp2_with fail
   obtain ⟨k1, k2⟩ := set3 HL6.out.2.2.1 (.bool fn) (.string S) (.string R)
   refine bodyPost_ret (results_plus _ _ (W.heap.size + 1 + 1) _ _ _ rfl k1) rfl ?_
   rw [HR.out]
   show Ending.returned _ = Ending.returned (.agg #[.bool fn, .string (encB (a * d - c * b)), .string (encB (b * d))]) /\ _
   rw [HSS.out, HE.out.2.2]
   exact ⟨rfl, HL6.out.2.2.2.fresh k2 fun g hg => by omega⟩
end Go.Proofs.YthejfklieedjmaaGreatDoor
