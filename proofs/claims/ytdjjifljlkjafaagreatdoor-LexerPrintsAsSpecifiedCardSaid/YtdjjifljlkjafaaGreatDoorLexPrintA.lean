/- Walk of the specification's Text: numbers. Conditions: those of each theorem. -/
import Derived.Test.YtdjjifljlkjafaaGreatDoorLexRereadW
namespace Go.Proofs.YtdjjifljlkjafaaGreatDoor
open Go Go.Proofs Go.RowKit
attribute [local go_sem] Oper.semAt_some

theorem bytes_conv {wr : World} {base : Nat} {v : Value} {bs : List UInt8} (h : wr.ownsRow base 5 1 v bs.length (bs.map encB)) : (convert 46 9 v).run Tryz.prog wr = .ok (.string ⟨bs.toArray⟩) wr := by
  obtain ⟨hl, h2⟩ := h
  rcases h2 with ⟨rfl, h0⟩ | ⟨g, cap, cur, rfl, hg, hh, hc, hm, hs, ht⟩
  · have : bs = [] := List.length_eq_zero_iff.1 h0
    subst this
    exact Lib.run_convert_nil_bytes wr 46 9 5 0 Tryz.underlying46 Tryz.underlying5 Tryz.underlying9
  · refine run_convert_bytes_back wr 46 9 5 ⟨g, 0, none⟩ cap bs Tryz.underlying46 Tryz.underlying5 Tryz.underlying9 (fun i hi => ?_)
    have h1 : (bs.map encB)[i]? = some (encB bs[i]) := by simp [hi]
    rw [← ht, List.getElem?_take_of_lt (by omega)] at h1
    rw [show (⟨g, 0, none⟩ : Addr).add i = ⟨g, i, none⟩ by cases i <;> simp [Addr.add]]
    simpa [World.cell?, hh, encB] using h1
theorem own_new (w : World) (bs : List UInt8) (n : Nat) (hn : bs.length = n) (hl : n ≤ maxLen) : (w.alloc (.cells (bs.map encB).toArray 5)).ownsRow w.heap.size 5 1 (.slice (some ⟨w.heap.size, 0, none⟩) n n) n (bs.map encB) := by
  subst hn
  exact ⟨by simp, .inr ⟨w.heap.size, bs.length, (bs.map encB).toArray, rfl, Nat.le_refl _, heap_alloc_new _ _, Nat.le_refl _, hl, by simp, by simp [List.take_of_length_le]⟩⟩

theorem itoa_digit (d : Nat) (h : d < 10) : Lib.itoa (d : Int) = [UInt8.ofNat (48 + d)] := by
  unfold Lib.itoa
  rw [if_neg (by omega), Lib.decDigits, dif_pos (by omega), Int.toNat_natCast]
theorem itoa_up (n : Nat) (h : 10 ≤ n) : Lib.itoa (n : Int) = Lib.itoa ((n / 10 : Nat) : Int) ++ Lib.itoa ((n % 10 : Nat) : Int) := by
  rw [itoa_digit (n % 10) (by omega)]
  unfold Lib.itoa
  rw [if_neg (by omega), if_neg (by omega), Int.toNat_natCast, Int.toNat_natCast]
  conv => lhs; rw [Lib.decDigits, dif_neg (by omega)]
theorem itoa_minus (n : Nat) (h : 0 < n) : Lib.itoa (-(n : Int)) = [45] ++ Lib.itoa (n : Int) := by
  unfold Lib.itoa
  rw [if_pos (by omega), if_neg (by omega), Int.natAbs_neg, Int.natAbs_natCast, Int.toNat_natCast]
  rfl
theorem itoa_down (n : Nat) (h : 10 ≤ n) : Lib.itoa (-(n : Int)) = Lib.itoa (-((n / 10 : Nat) : Int)) ++ Lib.itoa ((n % 10 : Nat) : Int) := by
  rw [itoa_minus n (by omega), itoa_minus (n / 10) (by omega), itoa_up n h, List.append_assoc]
theorem dec_len (k : Nat) : ∀ u : Nat, u < 10 ^ (k + 1) → (Lib.decDigits u).length ≤ k + 1 := by
  induction k with
  | zero => intro u hu; rw [Lib.decDigits, dif_pos (by omega)]; simp
  | succ k ih =>
    intro u hu
    rw [Lib.decDigits]
    split
    · simp
    · have hp : 10 ^ (k + 1 + 1) = 10 ^ (k + 1) * 10 := rfl
      have := ih (u / 10) (by omega)
      simp only [List.length_append, List.length_cons, List.length_nil]
      omega
theorem itoa_len (x : Int) (h0 : -9223372036854775808 ≤ x) (h1 : x ≤ 9223372036854775807) : (Lib.itoa x).length ≤ 20 := by
  unfold Lib.itoa
  split
  · have := dec_len 18 x.natAbs (by omega)
    simp only [List.length_cons]
    omega
  · have := dec_len 18 x.toNat (by omega)
    omega
def itoaB (x : Int) : ByteArray := ⟨(Lib.itoa x).toArray⟩
theorem itoaB_len (x : Int) (h0 : -9223372036854775808 ≤ x) (h1 : x ≤ 9223372036854775807) : (itoaB x).size ≤ 20 := itoa_len x h0 h1
theorem itoaB_app {x y z : Int} (h : Lib.itoa x = Lib.itoa y ++ Lib.itoa z) : itoaB x = itoaB y ++ itoaB z := by
  apply ByteArray.ext
  apply Array.ext'
  simp [itoaB, h]
set_option maxRecDepth 20000 in
set_option maxHeartbeats 2000000 in
theorem rdec_digit (d : Nat) (h : d < 10) (w : World) : Calls Tryz.prog 28 #[(.int .i64 d)] w fun e w' => e = .returned (.string (itoaB d)) ∧ Below w.heap.size w w' := by
  have hw : 48 + (d : Int) = ((UInt8.ofNat (48 + d)).toNat : Int) := by
    rw [UInt8.toNat_ofNat']
    have : (48 + d) % 2 ^ 8 = 48 + d := Nat.mod_eq_of_lt (by omega)
    rw [this]
    omega
  have hcv : (convert 46 9 (.slice (some ⟨w.heap.size, 0, none⟩) 1 1)).run Tryz.prog (w.alloc (.cells #[.int .u8 (48 + (d : Int))] 5)) = .ok (.string (itoaB d)) (w.alloc (.cells #[.int .u8 (48 + (d : Int))] 5)) := by
    have h1 := own_new w [UInt8.ofNat (48 + d)] 1 rfl (by decide)
    have h2 := bytes_conv (bs := [UInt8.ofNat (48 + d)]) h1
    rw [hw, itoaB, itoa_digit d h]
    exact h2
  clear hw
  go_enter Tryz.func28, Tryz.ntmps28
  go_wp2_with fail
  go_ret
  exact ⟨rfl, (Below.refl _ _).alloc (Nat.le_refl _) _⟩
set_option maxRecDepth 20000 in
set_option maxHeartbeats 2000000 in
theorem rdec_any (m : Nat) : ∀ (x : Int), x.natAbs ≤ m → -9223372036854775808 ≤ x → x ≤ 9223372036854775807 → ∀ w, Calls Tryz.prog 28 #[(.int .i64 x)] w fun e w' => e = .returned (.string (itoaB x)) ∧ Below w.heap.size w w' := by
  induction m using Nat.strongRecOn with
  | _ m ih =>
    intro x hm h0 h1 w
    rcases Int.lt_or_le x 0 with hneg | hpos
    · obtain ⟨n, rfl⟩ : ∃ n : Nat, x = -(n : Int) := ⟨x.natAbs, by omega⟩
      rcases Nat.lt_or_ge n 10 with hs | hb
      · have HC := Lib.hid (rdec_digit n hs)
        have HL := Lib.hid (itoa_len n (by omega) (by omega))
        have HE : Hid (itoaB (-(n : Int)) = ⟨#[45]⟩ ++ itoaB n) := by
          show _ = _
          rw [itoaB, itoa_minus n (by omega)]
          apply ByteArray.ext
          apply Array.ext'
          simp [itoaB]
        have hsz : (itoaB n).size ≤ 20 := HL.out
        clear ih hm
        go_enter Tryz.func28, Tryz.ntmps28
        go_wp2_with fail
        refine (HC.out w).mono ?_
        rintro e w1 ⟨rfl, hb⟩
        have HB := Lib.hid hb
        clear hb
        go_wp2_with fail
        go_ret
        rw [HE.out]
        exact ⟨rfl, HB.out⟩
      · obtain ⟨q, hq⟩ : ∃ q, n / 10 = q := ⟨_, rfl⟩
        obtain ⟨r, hr⟩ : ∃ r, n % 10 = r := ⟨_, rfl⟩
        have HC := Lib.hid (ih q (by omega) (-(q : Int)) (by omega) (by omega) (by omega))
        have HD := Lib.hid (rdec_digit r (by omega))
        have HE : Hid (itoaB (-(n : Int)) = itoaB (-(q : Int)) ++ itoaB r) := itoaB_app (by rw [itoa_down n hb, hq, hr])
        have hs1 := itoaB_len (-(q : Int)) (by omega) (by omega)
        have hs2 := itoaB_len r (by omega) (by omega)
        have hwr : wrap64 (-(q : Int)) = -(q : Int) := by unfold wrap64; omega
        have hwr2 : wrap64 (r : Int) = (r : Int) := by unfold wrap64; omega
        have eq1 : Int.tdiv (n : Int) 10 = (q : Int) := by rw [Int.tdiv_eq_ediv_of_nonneg (by omega)]; omega
        have eq2 : Int.tmod (n : Int) 10 = (r : Int) := by rw [Int.tmod_eq_emod_of_nonneg (by omega)]; omega
        clear ih hm hq hr
        go_enter Tryz.func28, Tryz.ntmps28
        go_wp2_with fail
        refine (HC.out w).mono ?_
        rintro e w1 ⟨rfl, hb⟩
        have HB1 := Lib.hid hb
        clear hb
        go_wp2_with fail
        refine (HD.out w1).mono ?_
        rintro e w2 ⟨rfl, hb⟩
        have HB2 := Lib.hid (HB1.out.trans (hb.mono HB1.out.size))
        clear hb HB1
        go_wp2_with fail
        go_ret
        rw [HE.out]
        exact ⟨rfl, HB2.out⟩
    · obtain ⟨n, rfl⟩ : ∃ n : Nat, x = (n : Int) := ⟨x.toNat, by omega⟩
      rcases Nat.lt_or_ge n 10 with hs | hb
      · exact rdec_digit n hs w
      · obtain ⟨q, hq⟩ : ∃ q, n / 10 = q := ⟨_, rfl⟩
        obtain ⟨r, hr⟩ : ∃ r, n % 10 = r := ⟨_, rfl⟩
        have HC := Lib.hid (ih q (by omega) (q : Int) (by omega) (by omega) (by omega))
        have HD := Lib.hid (rdec_digit r (by omega))
        have HE : Hid (itoaB (n : Int) = itoaB (q : Int) ++ itoaB r) := itoaB_app (by rw [itoa_up n hb, hq, hr])
        have hs1 := itoaB_len (q : Int) (by omega) (by omega)
        have hs2 := itoaB_len r (by omega) (by omega)
        have hwr : wrap64 (q : Int) = (q : Int) := by unfold wrap64; omega
        have hwr2 : wrap64 (r : Int) = (r : Int) := by unfold wrap64; omega
        have eq1 : Int.tdiv (n : Int) 10 = (q : Int) := by rw [Int.tdiv_eq_ediv_of_nonneg (by omega)]; omega
        have eq2 : Int.tmod (n : Int) 10 = (r : Int) := by rw [Int.tmod_eq_emod_of_nonneg (by omega)]; omega
        clear ih hm hq hr
        go_enter Tryz.func28, Tryz.ntmps28
        go_wp2_with fail
        refine (HC.out w).mono ?_
        rintro e w1 ⟨rfl, hb⟩
        have HB1 := Lib.hid hb
        clear hb
        go_wp2_with fail
        refine (HD.out w1).mono ?_
        rintro e w2 ⟨rfl, hb⟩
        have HB2 := Lib.hid (HB1.out.trans (hb.mono HB1.out.size))
        clear hb HB1
        go_wp2_with fail
        go_ret
        rw [HE.out]
        exact ⟨rfl, HB2.out⟩
end Go.Proofs.YtdjjifljlkjafaaGreatDoor
