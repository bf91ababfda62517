/- Part 17 of the proof of card: LexNum, LexRefC, ParTok, ParWalkK. Conditions: those of each theorem. -/
import Derived.Test.YtjijdgkccfeeaaaGreatDoorPt01
import Derived.Test.YtjijdgkccfeeaaaGreatDoorPt03
import Derived.Test.YtjijdgkccfeeaaaGreatDoorPt05
import Derived.Test.YtjijdgkccfeeaaaGreatDoorPt06
import Derived.Test.YtjijdgkccfeeaaaGreatDoorPt16
set_option maxRecDepth 20000
set_option maxHeartbeats 8000000
namespace Go.Proofs.YtjijdgkccfeeaaaGreatDoor
open Go Go.Proofs
def isDig (b : UInt8) : Bool := decide (cls b = 2)
def digL (l : List UInt8) : Nat := (l.takeWhile isDig).length
theorem digL_yes {b : UInt8} {l : List UInt8} (h : cls b = 2) : digL (b :: l) = digL l + 1 := by
 unfold digL
 rw [List.takeWhile_cons_of_pos (by simpa [isDig] using h)]
 rfl
theorem digL_no {b : UInt8} {l : List UInt8} (h : cls b ≠ 2) : digL (b :: l) = 0 := by
 unfold digL
 rw [List.takeWhile_cons_of_neg (by simpa [isDig] using h)]
 rfl
theorem digL_le (l : List UInt8) : digL l <= l.length := (List.takeWhile_sublist _).length_le
theorem digL_all : ∀ (l : List UInt8), ∀ b ∈ l.take (digL l), cls b = 2
 | [], b, h => by simp at h
 | c :: l, b, h => by
  by_cases hc : cls c = 2
  ·rw [digL_yes hc, List.take_succ_cons] at h
   rcases List.mem_cons.1 h with rfl | h
   ·exact hc
   ·exact digL_all l b h
  ·rw [digL_no hc] at h
   simp at h
theorem dig_iff (b : UInt8) : cls b = 2 ↔ 48 <= b.toNat /\ b.toNat <= 57 := by
 unfold cls clsI
 split
 ·constructor
  ·intro h; omega
  ·intro h; omega
 ·split
  ·simp_all; omega
  ·split <;> simp_all <;> omega
def valL : Nat -> List UInt8 -> Nat
 | acc, [] => acc
 | acc, c :: r => valL (acc * 10 + (c.toNat - 48)) r
theorem valL_snoc : ∀ (acc : Nat) (l : List UInt8) (c : UInt8), valL acc (l ++ [c]) = valL acc l * 10 + (c.toNat - 48)
 | _, [], _ => rfl
 | _, _ :: l, c => valL_snoc _ l c
theorem valL_lt : ∀ (l : List UInt8) (acc : Nat), (∀ b ∈ l, cls b = 2) -> valL acc l < (acc + 1) * 10 ^ l.length
 | [], acc, _ => by show acc < (acc + 1) * 1; omega
 | c :: l, acc, h => by
  have hc := (dig_iff c).1 (h c (List.mem_cons_self ..))
  have h1 := valL_lt l (acc * 10 + (c.toNat - 48)) fun b hb => h b (List.mem_cons_of_mem _ hb)
  have h2 : (acc * 10 + (c.toNat - 48) + 1) <= (acc + 1) * 10 := by omega
  generalize hp : 10 ^ l.length = p at h1
  have h3 := Nat.mul_le_mul_right p h2
  have h4 : (acc + 1) * 10 * p = (acc + 1) * 10 ^ (c :: l).length := by
   rw [List.length_cons, Nat.pow_succ, hp, Nat.mul_assoc, Nat.mul_comm 10]
  rw [<- h4]
  exact Nat.lt_of_lt_of_le h1 h3
theorem pow_bound {n : Nat} (h : n <= 15) : 10 ^ n <= 10 ^ 15 := Nat.pow_le_pow_right (by omega) h
theorem parse_digits : ∀ (l : List UInt8) (acc : Nat), (∀ b ∈ l, cls b = 2) -> (acc + 1) * 10 ^ l.length <= 10 ^ 15 -> Lib.parseUint10 acc l = .ok (valL acc l)
 | [], acc, _, _ => rfl
 | c :: l, acc, h, hb => by
  have hc := (dig_iff c).1 (h c (List.mem_cons_self ..))
  have h2 : (acc * 10 + (c.toNat - 48) + 1) <= (acc + 1) * 10 := by omega
  have h3 : (acc * 10 + (c.toNat - 48) + 1) * 10 ^ l.length <= 10 ^ 15 := by
   refine Nat.le_trans (Nat.mul_le_mul_right _ h2) ?_
   simp only [List.length_cons, Nat.pow_succ] at hb
   rw [Nat.mul_assoc, Nat.mul_comm 10]; exact hb
  have h4 : acc * 10 + (c.toNat - 48) + 1 <= 10 ^ 15 := Nat.le_trans (Nat.le_mul_of_pos_right _ (Nat.pow_pos (by omega))) h3
  unfold Lib.parseUint10
  rw [if_pos hc, if_neg (by omega), if_neg (by omega)]
  exact parse_digits l _ (fun b hb => h b (List.mem_cons_of_mem _ hb)) h3
theorem parse_bad : ∀ (l : List UInt8) (acc u : Nat), (∃ b ∈ l, cls b ≠ 2) -> Lib.parseUint10 acc l ≠ .ok u
 | [], acc, u, h => by obtain ⟨b, hb, -⟩ := h; cases hb
 | c :: l, acc, u, h => by
  unfold Lib.parseUint10
  split
  ·rename_i hc
   split
   ·simp
   ·split
    ·simp
    ·refine parse_bad l _ u ?_
     obtain ⟨b, hb, hb2⟩ := h
     rcases List.mem_cons.1 hb with rfl | hb
     ·exact absurd ((dig_iff b).2 hc) hb2
     ·exact ⟨b, hb, hb2⟩
  ·simp
theorem atoi_mag {c : UInt8} {l : List UInt8} (hc : cls c = 2) : Lib.atoiAll (c :: l) = (match Lib.parseUint10 0 (c :: l) with | .ok u => if 9223372036854775808 <= u then .range else .ok (u : Int) | .range => .range | _ => Lib.atoiAll []) := by
 have h := (dig_iff c).1 hc
 have h1 : ¬ (c.toNat = 43 \/ c.toNat = 45) := by omega
 have h2 : ¬ c.toNat = 45 := by omega
 simp only [Lib.atoiAll, Lib.parseMag]
 rw [if_neg h1, if_neg (by simp)]
 generalize Lib.parseUint10 0 (c :: l) = r
 cases r <;> simp [h2]
theorem numOf_bad {k tt : Nat} {c : UInt8} {l : List UInt8} (hc : cls c = 2) (h : ∃ b ∈ c :: l, cls b ≠ 2) : numOf k tt ⟨(c :: l).toArray⟩ = .err 27 := by
 have hp := fun u => parse_bad (c :: l) 0 u h
 have ha := atoi_mag (l := l) hc
 unfold numOf
 show (match Lib.atoiAll (c :: l) with | .ok n => _ | _ => _) = _
 rw [ha]
 cases hr : Lib.parseUint10 0 (c :: l) with
 | ok u => exact absurd hr (hp u)
 | range => rfl
 | _ => rfl
theorem numOf_long {k tt : Nat} {s : ByteArray} (h : 15 < s.size) : numOf k tt s = .err 27 := by
 unfold numOf
 split
 ·rw [if_pos (.inl h)]
 ·rfl
theorem numOf_zero {k tt : Nat} {s : ByteArray} (h : 1 < s.size) (h0 : s[0]! = 48) : numOf k tt s = .err 27 := by
 unfold numOf
 split
 ·rw [if_pos (.inr ⟨h, h0⟩)]
 ·rfl
theorem numOf_ok {k tt : Nat} {c : UInt8} {l : List UInt8} (hc : ∀ b ∈ c :: l, cls b = 2) (hl : l.length < 15) (h0 : ¬ (1 < l.length + 1 /\ c = 48)) : numOf k tt ⟨(c :: l).toArray⟩ = .tok ⟨2, k, ⟨#[]⟩, valL 0 (c :: l)⟩ tt := by
 have hb : (0 + 1) * 10 ^ (c :: l).length <= 10 ^ 15 := by rw [Nat.zero_add, Nat.one_mul]; exact pow_bound (by simp; omega)
 have hp := parse_digits (c :: l) 0 hc hb
 have hv := Nat.lt_of_lt_of_le (valL_lt (c :: l) 0 hc) hb
 have ha := atoi_mag (l := l) (hc c (List.mem_cons_self ..))
 rw [hp] at ha
 simp only at ha
 rw [if_neg (by omega)] at ha
 unfold numOf
 show (match Lib.atoiAll (c :: l) with | .ok n => _ | _ => _) = _
 rw [ha]
 simp only
 rw [if_neg]
 rintro (h | ⟨h, h1⟩)
 ·have : 15 < (c :: l).length := h
  simp at this; omega
 ·have h2 : 1 < (c :: l).length := h
  exact h0 ⟨by simpa using h2, h1⟩
theorem span_dig : ∀ (l : List UInt8), digL l <= spanL 2 l /\ (digL l < spanL 2 l -> ∃ h : digL l < l.length, cls l[digL l] = 3) /\ (∀ h : digL l < l.length, cls l[digL l] = 3 -> digL l < spanL 2 l)
 | [] => ⟨by simp [digL], fun h => by simp [spanL] at h, fun h => by simp at h⟩
 | c :: l => by
  obtain ⟨i1, i2, i3⟩ := span_dig l
  have hb := cls_bd c.toNat
  by_cases hc : cls c = 2
  ·have e1 := digL_yes (l := l) hc
   have e2 := spanL_cons_yes (least := 2) (b := c) (l := l) (by omega)
   refine ⟨by omega, fun h => ?_, fun h h3 => ?_⟩
   ·obtain ⟨h4, h5⟩ := i2 (by omega)
    refine ⟨by simp; omega, ?_⟩
    simp only [e1, zz2]
    exact h5
   ·simp only [e1, zz2] at h3
    have h4 : digL l < l.length := by rw [e1] at h; simpa using h
    have := i3 h4 h3
    omega
  ·have e1 := digL_no (l := l) hc
   refine ⟨by omega, fun h => ?_, fun h h3 => ?_⟩
   ·refine ⟨by simp; omega, ?_⟩
    simp only [e1, zz1]
    by_cases h2 : 2 <= cls c
    ·unfold cls at hc h2 ⊢; omega
    ·rw [spanL_cons_no (by omega)] at h; omega
   ·simp only [e1, zz1] at h3
    rw [e1, spanL_cons_yes (by omega)]; omega
open Go.RowKit
attribute [local go_sem] Oper.semAt_some
theorem numT_eq {s : ByteArray} {k : Nat} (hk : k < s.size) (hc : cls s[k] = 2) : numT s k = numOf k (k + spanL 2 (rest s k)) ⟨((rest s k).take (spanL 2 (rest s k))).toArray⟩ := by
 unfold numT
 rw [rest_head s k hk, if_neg (by simpa [cls] using hc)]
 unfold spanTo
 rw [extract_rest]
theorem rest_at {s : ByteArray} {k i : Nat} (h : k + i < s.size) (h2 : i < (rest s k).length) : (rest s k)[i] = s[k + i] := by
 have := rest_get s k i h
 rw [List.getElem?_eq_getElem h2] at this
 exact Option.some.inj this
theorem num_err {s : ByteArray} {k : Nat} (hk : k < s.size) (hc : cls s[k] = 2) (h : 15 < digL (rest s k) \/ (1 < digL (rest s k) /\ s[k] = 48) \/ ∃ h : k + digL (rest s k) < s.size, cls s[k + digL (rest s k)] = 3) : numT s k = .err 27 := by
 rw [numT_eq hk hc]
 obtain ⟨a1, a2, a3⟩ := span_dig (rest s k)
 have hle := spanL_le 2 (rest s k)
 have hsz : (ByteArray.mk ((rest s k).take (spanL 2 (rest s k))).toArray).size = spanL 2 (rest s k) := by
  show ((rest s k).take (spanL 2 (rest s k))).length = _
  rw [List.length_take, Nat.min_eq_left hle]
 rcases h with h | ⟨h, h2⟩ | ⟨h, h2⟩
 ·exact numOf_long (by rw [hsz]; omega)
 ·refine numOf_zero (by rw [hsz]; omega) ?_
  obtain ⟨m, hm⟩ : ∃ m, spanL 2 (rest s k) = m + 1 := ⟨spanL 2 (rest s k) - 1, by omega⟩
  rw [hm, rest_cons s k hk, List.take_succ_cons, <- h2]
  rfl
 ·have hd : digL (rest s k) < (rest s k).length := by rw [rest_len]; omega
  have h3 : cls (rest s k)[digL (rest s k)] = 3 := by rw [rest_at h hd]; exact h2
  have h4 := a3 hd h3
  have h5 : (rest s k)[digL (rest s k)] ∈ (rest s k).take (spanL 2 (rest s k)) := List.mem_take_iff_getElem.2 ⟨digL (rest s k), by omega, rfl⟩
  generalize (rest s k)[digL (rest s k)] = x at h3 h5
  obtain ⟨m, hm⟩ : ∃ m, spanL 2 (rest s k) = m + 1 := ⟨spanL 2 (rest s k) - 1, by omega⟩
  rw [hm, rest_cons s k hk, List.take_succ_cons] at h5 ⊢
  exact numOf_bad hc ⟨x, h5, by omega⟩
theorem num_ok {s : ByteArray} {k : Nat} (hk : k < s.size) (hc : cls s[k] = 2) (h1 : digL (rest s k) <= 15) (h2 : ¬ (1 < digL (rest s k) /\ s[k] = 48)) (h3 : ∀ h : k + digL (rest s k) < s.size, cls s[k + digL (rest s k)] ≠ 3) :
  numT s k = .tok ⟨2, k, ⟨#[]⟩, valL 0 ((rest s k).take (digL (rest s k)))⟩ (k + digL (rest s k)) := by
 rw [numT_eq hk hc]
 obtain ⟨a1, a2, a3⟩ := span_dig (rest s k)
 have e : spanL 2 (rest s k) = digL (rest s k) := by
  rcases Nat.lt_or_ge (digL (rest s k)) (spanL 2 (rest s k)) with h | h
  ·obtain ⟨h4, h5⟩ := a2 h
   have h6 : k + digL (rest s k) < s.size := by rw [rest_len] at h4; omega
   rw [rest_at h6 h4] at h5
   exact absurd h5 (h3 h6)
  ·omega
 have hall := digL_all (rest s k)
 have hle := digL_le (rest s k)
 rw [e]
 have hpos : 0 < digL (rest s k) := by rw [rest_cons s k hk, digL_yes hc]; omega
 obtain ⟨m, hm⟩ : ∃ m, digL (rest s k) = m + 1 := ⟨digL (rest s k) - 1, by omega⟩
 rw [hm] at hall hle h1 h2 ⊢
 rw [rest_cons s k hk, List.take_succ_cons] at hall ⊢
 rw [rest_len] at hle
 have hlen : (List.take m (rest s (k + 1))).length = m := by rw [List.length_take, rest_len]; omega
 exact numOf_ok hall (by omega) (by rw [hlen]; exact h2)
theorem num_step {s : ByteArray} {k i : Nat} (hk : k < s.size) (hi : k <= i) (his : i < s.size) {m : Nat} (hm : i - k < m) (h : ∀ b ∈ (rest s k).take m, cls b = 2) :
  valL 0 ((rest s k).take (i + 1 - k)) = valL 0 ((rest s k).take (i - k)) * 10 + (s[i].toNat - 48) /\ valL 0 ((rest s k).take (i - k)) < 10 ^ (i - k) /\ 48 <= s[i].toNat /\ s[i].toNat <= 57 := by
 have hl : i - k < (rest s k).length := by rw [rest_len]; omega
 have hg : (rest s k)[i - k] = s[i] := by
  rw [rest_at (by omega) hl]
  congr 1; omega
 have h1 : (rest s k).take (i + 1 - k) = (rest s k).take (i - k) ++ [s[i]] := by
  rw [show i + 1 - k = (i - k) + 1 by omega, List.take_succ_eq_append_getElem hl, hg]
 have h2 : cls s[i] = 2 := h _ (List.mem_take_iff_getElem.2 ⟨i - k, by omega, hg⟩)
 have h3 : ∀ b ∈ (rest s k).take (i - k), cls b = 2 := fun b hb => by
  obtain ⟨q, hq, hqe⟩ := List.mem_take_iff_getElem.1 hb
  exact h b (List.mem_take_iff_getElem.2 ⟨q, by omega, hqe⟩)
 have h4 := valL_lt _ 0 h3
 rw [List.length_take, Nat.min_eq_left (by omega), Nat.zero_add, Nat.one_mul] at h4
 exact ⟨by rw [h1, valL_snoc], h4, (dig_iff _).1 h2⟩
theorem rnumber_any (s : ByteArray) (k : Nat) (w : World) (hs : s.size <= 70000) (hk : k < s.size) (hc : clsI s[k].toNat = 2) : Calls Tryz.prog 93 #[.string s, .int .i64 k] w fun e w' => e = .returned (oneV (numT s k)) /\ Turned (fun _ => False) w w' := by
 have HE := Lib.hid (num_err hk hc)
 have HO := Lib.hid (num_ok hk hc)
 have hpos : 0 < digL (rest s k) := by rw [rest_cons s k hk, digL_yes hc]; omega
 have hdle := digL_le (rest s k)
 rw [rest_len] at hdle
 have HA := Lib.hid (digL_all (rest s k))
 clear hc
 go_enter Tryz.func93, Tryz.ntmps93
 go_wp2
 go_loop [5] (fun u => ∃ j : Nat, k <= j /\ j <= s.size /\ u = (.int .i64 j) /\ Hid (j + digL (rest s j) = k + digL (rest s k))) (fun u => s.size - (intOf u).toNat)
 case atStart => exact ⟨k, Nat.le_refl _, by omega, rfl, rfl⟩
 case round =>
  obtain ⟨j, hj1, hj2, rfl, HJ⟩ := hrel
  have HD := Lib.hid (fun (i : Nat) (h : i < s.size) (W : World) => rdigit_any (s[i].toNat : Int) W (by omega) (by have := s[i].toNat_lt; omega))
  have HL := Lib.hid (fun (i : Nat) (h : i < s.size) (W : World) => rletter_any (s[i].toNat : Int) W (by omega) (by have := s[i].toNat_lt; omega))
  by_cases hgo : ∃ h : j < s.size, clsI (s[j].toNat : Int) = 2
  ·obtain ⟨hlt, h2⟩ := hgo
   have HK : Hid (j + 1 + digL (rest s (j + 1)) = k + digL (rest s k)) := by
    show _ = _
    rw [<- HJ.out, rest_cons s j hlt, digL_yes (by exact h2)]; omega
   go_wp2_with (go_at_call 92; refine (HD.out j hlt _).mono ?_; rintro e w' ⟨rfl, rfl⟩)
   go_round
   case rel => exact ⟨j + 1, by omega, by omega, by go_num, HK⟩
   case measure => simp [intOf]; omega
  ·have hj : j = k + digL (rest s k) := by
    rcases Nat.lt_or_ge j s.size with h | h
    ·have := HJ.out
     rw [rest_cons s j h, digL_no (fun h2 => hgo ⟨h, h2⟩)] at this
     omega
    ·have := HJ.out
     rw [rest_nil s j h] at this
     exact this
   clear HJ
   have HA2 : Hid (∀ b ∈ (rest s k).take (j - k), cls b = 2) := by
    show ∀ b ∈ (rest s k).take (j - k), cls b = 2
    rw [show j - k = digL (rest s k) by omega]; exact HA.out
   obtain ⟨d, hd⟩ : ∃ d, digL (rest s k) = d := ⟨_, rfl⟩
   have hw : IntKind.i64.wrap ((j : Int) - k) = d := by rw [show (j : Int) - k = d by omega]; exact IntWalk.i64_in _ (by omega)
   have HHd := Lib.hid hd
   have HJD : Hid (j = k + d) := by show _ = _; omega
   have hj3 : j <= k + d := by omega
   have hj4 : k + d <= j := by omega
   clear hj
   by_cases hlt : j < s.size
   ·have hnd : (clsI (s[j].toNat : Int) = 2) = False := by
     simp only [eq_iff_iff, iff_false]
     exact fun h => hgo ⟨hlt, h⟩
    have hnd2 : ¬ clsI (s[j].toNat : Int) = 2 := fun h => hgo ⟨hlt, h⟩
    clear hgo hnd
    by_cases hA : 15 < d
    ·have HF : Hid (numT s k = .err 27) := HE.out (.inl (by rw [HHd.out]; exact hA))
     have hA2 : (15 : Int) < d := by omega
     clear hd
     go_wp2_with (first | (go_at_call 92; refine (HD.out j hlt _).mono ?_; rintro e w' ⟨rfl, rfl⟩) | (go_at_call 90; refine (HL.out j hlt _).mono ?_; rintro e w' ⟨rfl, rfl⟩))
     exact bodyPost_ret (v := oneV (.err 27)) (by simp [results, Tryz.results93, go_sem, oneV]) rfl ⟨by rw [HF.out], (Turned.refl _ _).alloc _⟩
    ·have hA2 : (d : Int) <= 15 := by omega
     by_cases hB : 1 < d /\ s[k] = 48
     ·have HF : Hid (numT s k = .err 27) := HE.out (.inr (.inl (by rw [HHd.out]; exact hB)))
      have hB1 : (1 : Int) < d := by omega
      have kB : ((s[k].toNat : Int) == 48) = true := by rw [hB.2]; rfl
      clear hd hB
      go_wp2_with (first | (go_at_call 92; refine (HD.out j hlt _).mono ?_; rintro e w' ⟨rfl, rfl⟩) | (go_at_call 90; refine (HL.out j hlt _).mono ?_; rintro e w' ⟨rfl, rfl⟩))
      exact bodyPost_ret (v := oneV (.err 27)) (by simp [results, Tryz.results93, go_sem, oneV]) rfl ⟨by rw [HF.out], (Turned.refl _ _).alloc _⟩
     ·by_cases hC : clsI (s[j].toNat : Int) = 3
      ·have HF : Hid (numT s k = .err 27) := HE.out (.inr (.inr (by rw [HHd.out]; have hjd := HJD.out; subst hjd; exact ⟨hlt, hC⟩)))
       clear hd
       by_cases hB1 : 1 < d
       ·have hB2 : (1 : Int) < d := by omega
        have kB : ((s[k].toNat : Int) == 48) = false := by
         have : s[k].toNat ≠ 48 := fun h => hB ⟨hB1, UInt8.toNat_inj.1 h⟩
         simp; omega
        clear hB
        go_wp2_with (first | (go_at_call 92; refine (HD.out j hlt _).mono ?_; rintro e w' ⟨rfl, rfl⟩) | (go_at_call 90; refine (HL.out j hlt _).mono ?_; rintro e w' ⟨rfl, rfl⟩))
        exact bodyPost_ret (v := oneV (.err 27)) (by simp [results, Tryz.results93, go_sem, oneV]) rfl ⟨by rw [HF.out], (Turned.refl _ _).alloc _⟩
       ·have hB2 : (d : Int) <= 1 := by omega
        clear hB
        go_wp2_with (first | (go_at_call 92; refine (HD.out j hlt _).mono ?_; rintro e w' ⟨rfl, rfl⟩) | (go_at_call 90; refine (HL.out j hlt _).mono ?_; rintro e w' ⟨rfl, rfl⟩))
        exact bodyPost_ret (v := oneV (.err 27)) (by simp [results, Tryz.results93, go_sem, oneV]) rfl ⟨by rw [HF.out], (Turned.refl _ _).alloc _⟩
      ·have HF : Hid (numT s k = .tok ⟨2, k, ⟨#[]⟩, valL 0 ((rest s k).take (j - k))⟩ j) := by
        have := HO.out (by omega) (by rw [HHd.out]; exact hB) (by rw [HHd.out]; have hjd := HJD.out; subst hjd; exact fun _ => hC)
        show _ = _
        rw [this, HHd.out, show j - k = d by omega, HJD.out]
       clear hd
       by_cases hB1 : 1 < d
       ·have hB2 : (1 : Int) < d := by omega
        have kB : ((s[k].toNat : Int) == 48) = false := by
         have : s[k].toNat ≠ 48 := fun h => hB ⟨hB1, UInt8.toNat_inj.1 h⟩
         simp; omega
        clear hB
        go_wp2_with (first | (go_at_call 92; refine (HD.out j hlt _).mono ?_; rintro e w' ⟨rfl, rfl⟩) | (go_at_call 90; refine (HL.out j hlt _).mono ?_; rintro e w' ⟨rfl, rfl⟩))
        go_loop [6, 7] (fun v u => ∃ i : Nat, k <= i /\ i <= j /\ u = (.int .i64 i) /\ v = (.int .i64 ((valL 0 ((rest s k).take (i - k)) : Nat)))) (fun _ u => j - (intOf u).toNat)
        case atStart => exact ⟨k, Nat.le_refl _, by omega, rfl, by rw [Nat.sub_self]; rfl⟩
        case round =>
         obtain ⟨i, hi1, hi2, rfl, rfl⟩ := hrel
         by_cases hlt2 : i < j
         ·have his : i < s.size := by omega
          obtain ⟨hV1, hV2, hV3⟩ := num_step hk hi1 his (by omega) HA2.out
          have hsc : (48 : Int) <= (s[i].toNat : Int) /\ (s[i].toNat : Int) <= 57 := by omega
          have hV4 : valL 0 ((rest s k).take (i - k)) < 1000000000000000 := Nat.lt_of_lt_of_le hV2 (pow_bound (by omega))
          generalize hV : valL 0 ((rest s k).take (i - k)) = V at hV1 hV4
          have hw1 : IntKind.i64.wrap (10 * (V : Int)) = 10 * (V : Int) := IntWalk.i64_in _ (by omega)
          have hw2 : IntKind.u8.wrap ((s[i].toNat : Int) - 48) = (s[i].toNat : Int) - 48 := IntWalk.u8_in _ (by omega)
          have hw3 : IntKind.i64.wrap (10 * (V : Int) + ((s[i].toNat : Int) - 48)) = 10 * (V : Int) + ((s[i].toNat : Int) - 48) := IntWalk.i64_in _ (by omega)
          go_wp2
          go_round
          case rel => exact ⟨i + 1, by omega, by omega, by go_num, by rw [hV1]; congr 1; omega⟩
          case measure => simp [intOf]; omega
         ·obtain rfl : i = j := by omega
          go_wp2
          exact bodyPost_ret (v := oneV (.tok ⟨2, k, ⟨#[]⟩, valL 0 ((rest s k).take (i - k))⟩ i)) (by simp [results, Tryz.results93, go_sem, oneV]) rfl ⟨by rw [HF.out], (Turned.refl _ _).alloc _⟩
       ·have hB2 : (d : Int) <= 1 := by omega
        clear hB
        go_wp2_with (first | (go_at_call 92; refine (HD.out j hlt _).mono ?_; rintro e w' ⟨rfl, rfl⟩) | (go_at_call 90; refine (HL.out j hlt _).mono ?_; rintro e w' ⟨rfl, rfl⟩))
        go_loop [6, 7] (fun v u => ∃ i : Nat, k <= i /\ i <= j /\ u = (.int .i64 i) /\ v = (.int .i64 ((valL 0 ((rest s k).take (i - k)) : Nat)))) (fun _ u => j - (intOf u).toNat)
        case atStart => exact ⟨k, Nat.le_refl _, by omega, rfl, by rw [Nat.sub_self]; rfl⟩
        case round =>
         obtain ⟨i, hi1, hi2, rfl, rfl⟩ := hrel
         by_cases hlt2 : i < j
         ·have his : i < s.size := by omega
          obtain ⟨hV1, hV2, hV3⟩ := num_step hk hi1 his (by omega) HA2.out
          have hsc : (48 : Int) <= (s[i].toNat : Int) /\ (s[i].toNat : Int) <= 57 := by omega
          have hV4 : valL 0 ((rest s k).take (i - k)) < 1000000000000000 := Nat.lt_of_lt_of_le hV2 (pow_bound (by omega))
          generalize hV : valL 0 ((rest s k).take (i - k)) = V at hV1 hV4
          have hw1 : IntKind.i64.wrap (10 * (V : Int)) = 10 * (V : Int) := IntWalk.i64_in _ (by omega)
          have hw2 : IntKind.u8.wrap ((s[i].toNat : Int) - 48) = (s[i].toNat : Int) - 48 := IntWalk.u8_in _ (by omega)
          have hw3 : IntKind.i64.wrap (10 * (V : Int) + ((s[i].toNat : Int) - 48)) = 10 * (V : Int) + ((s[i].toNat : Int) - 48) := IntWalk.i64_in _ (by omega)
          go_wp2
          go_round
          case rel => exact ⟨i + 1, by omega, by omega, by go_num, by rw [hV1]; congr 1; omega⟩
          case measure => simp [intOf]; omega
         ·obtain rfl : i = j := by omega
          go_wp2
          exact bodyPost_ret (v := oneV (.tok ⟨2, k, ⟨#[]⟩, valL 0 ((rest s k).take (i - k))⟩ i)) (by simp [results, Tryz.results93, go_sem, oneV]) rfl ⟨by rw [HF.out], (Turned.refl _ _).alloc _⟩
   ·clear hgo
    by_cases hA : 15 < d
    ·have HF : Hid (numT s k = .err 27) := HE.out (.inl (by rw [HHd.out]; exact hA))
     have hA2 : (15 : Int) < d := by omega
     clear hd
     go_wp2
     exact bodyPost_ret (v := oneV (.err 27)) (by simp [results, Tryz.results93, go_sem, oneV]) rfl ⟨by rw [HF.out], (Turned.refl _ _).alloc _⟩
    ·have hA2 : (d : Int) <= 15 := by omega
     by_cases hB : 1 < d /\ s[k] = 48
     ·have HF : Hid (numT s k = .err 27) := HE.out (.inr (.inl (by rw [HHd.out]; exact hB)))
      have hB1 : (1 : Int) < d := by omega
      have kB : ((s[k].toNat : Int) == 48) = true := by rw [hB.2]; rfl
      clear hd hB
      go_wp2
      exact bodyPost_ret (v := oneV (.err 27)) (by simp [results, Tryz.results93, go_sem, oneV]) rfl ⟨by rw [HF.out], (Turned.refl _ _).alloc _⟩
     ·have HF : Hid (numT s k = .tok ⟨2, k, ⟨#[]⟩, valL 0 ((rest s k).take (j - k))⟩ j) := by
       have := HO.out (by omega) (by rw [HHd.out]; exact hB) (fun h => by rw [HHd.out] at h; omega)
       show _ = _
       rw [this, HHd.out, show j - k = d by omega, HJD.out]
      clear hd
      by_cases hB1 : 1 < d
      ·have hB2 : (1 : Int) < d := by omega
       have kB : ((s[k].toNat : Int) == 48) = false := by
        have : s[k].toNat ≠ 48 := fun h => hB ⟨hB1, UInt8.toNat_inj.1 h⟩
        simp; omega
       clear hB
       go_wp2
       go_loop [6, 7] (fun v u => ∃ i : Nat, k <= i /\ i <= j /\ u = (.int .i64 i) /\ v = (.int .i64 ((valL 0 ((rest s k).take (i - k)) : Nat)))) (fun _ u => j - (intOf u).toNat)
       case atStart => exact ⟨k, Nat.le_refl _, by omega, rfl, by rw [Nat.sub_self]; rfl⟩
       case round =>
        obtain ⟨i, hi1, hi2, rfl, rfl⟩ := hrel
        by_cases hlt2 : i < j
        ·have his : i < s.size := by omega
         obtain ⟨hV1, hV2, hV3⟩ := num_step hk hi1 his (by omega) HA2.out
         have hsc : (48 : Int) <= (s[i].toNat : Int) /\ (s[i].toNat : Int) <= 57 := by omega
         have hV4 : valL 0 ((rest s k).take (i - k)) < 1000000000000000 := Nat.lt_of_lt_of_le hV2 (pow_bound (by omega))
         generalize hV : valL 0 ((rest s k).take (i - k)) = V at hV1 hV4
         have hw1 : IntKind.i64.wrap (10 * (V : Int)) = 10 * (V : Int) := IntWalk.i64_in _ (by omega)
         have hw2 : IntKind.u8.wrap ((s[i].toNat : Int) - 48) = (s[i].toNat : Int) - 48 := IntWalk.u8_in _ (by omega)
         have hw3 : IntKind.i64.wrap (10 * (V : Int) + ((s[i].toNat : Int) - 48)) = 10 * (V : Int) + ((s[i].toNat : Int) - 48) := IntWalk.i64_in _ (by omega)
         go_wp2
         go_round
         case rel => exact ⟨i + 1, by omega, by omega, by go_num, by rw [hV1]; congr 1; omega⟩
         case measure => simp [intOf]; omega
        ·obtain rfl : i = j := by omega
         go_wp2
         exact bodyPost_ret (v := oneV (.tok ⟨2, k, ⟨#[]⟩, valL 0 ((rest s k).take (i - k))⟩ i)) (by simp [results, Tryz.results93, go_sem, oneV]) rfl ⟨by rw [HF.out], (Turned.refl _ _).alloc _⟩
      ·have hB2 : (d : Int) <= 1 := by omega
       clear hB
       go_wp2
       go_loop [6, 7] (fun v u => ∃ i : Nat, k <= i /\ i <= j /\ u = (.int .i64 i) /\ v = (.int .i64 ((valL 0 ((rest s k).take (i - k)) : Nat)))) (fun _ u => j - (intOf u).toNat)
       case atStart => exact ⟨k, Nat.le_refl _, by omega, rfl, by rw [Nat.sub_self]; rfl⟩
       case round =>
        obtain ⟨i, hi1, hi2, rfl, rfl⟩ := hrel
        by_cases hlt2 : i < j
        ·have his : i < s.size := by omega
         obtain ⟨hV1, hV2, hV3⟩ := num_step hk hi1 his (by omega) HA2.out
         have hsc : (48 : Int) <= (s[i].toNat : Int) /\ (s[i].toNat : Int) <= 57 := by omega
         have hV4 : valL 0 ((rest s k).take (i - k)) < 1000000000000000 := Nat.lt_of_lt_of_le hV2 (pow_bound (by omega))
         generalize hV : valL 0 ((rest s k).take (i - k)) = V at hV1 hV4
         have hw1 : IntKind.i64.wrap (10 * (V : Int)) = 10 * (V : Int) := IntWalk.i64_in _ (by omega)
         have hw2 : IntKind.u8.wrap ((s[i].toNat : Int) - 48) = (s[i].toNat : Int) - 48 := IntWalk.u8_in _ (by omega)
         have hw3 : IntKind.i64.wrap (10 * (V : Int) + ((s[i].toNat : Int) - 48)) = 10 * (V : Int) + ((s[i].toNat : Int) - 48) := IntWalk.i64_in _ (by omega)
         go_wp2
         go_round
         case rel => exact ⟨i + 1, by omega, by omega, by go_num, by rw [hV1]; congr 1; omega⟩
         case measure => simp [intOf]; omega
        ·obtain rfl : i = j := by omega
         go_wp2
         exact bodyPost_ret (v := oneV (.tok ⟨2, k, ⟨#[]⟩, valL 0 ((rest s k).take (i - k))⟩ i)) (by simp [results, Tryz.results93, go_sem, oneV]) rfl ⟨by rw [HF.out], (Turned.refl _ _).alloc _⟩
structure GoodT (t : Tok) : Prop where
 kind : t.kind ≠ 5
 zero : t.kind = 1 \/ t.kind = 3 \/ t.kind = 4 -> t.n = 0
 none_ : t.kind = 2 -> t.s = noB /\ 0 <= t.n /\ t.n <= 999999999999999
theorem good_zero {t : Tok} (h : t.kind = 1 \/ t.kind = 3 \/ t.kind = 4) (hn : t.n = 0) : GoodT t := ⟨by omega, fun _ => hn, fun h2 => by omega⟩
theorem text_good (k0 : Nat) (t : Tok) (tt : Nat) (l : List UInt8) (j : Nat) (b : List UInt8) (h : textL k0 l j b = .tok t tt) : GoodT t := by
 fun_induction textL k0 l j b <;> first | (cases h; exact good_zero (.inr (.inl rfl)) rfl) | simp_all
theorem sign_good (s : ByteArray) (k : Nat) (t : Tok) (tt : Nat) : ∀ l, signL s k l = .tok t tt -> GoodT t
 | [], h => by
  unfold signL at h
  split at h
  ·cases h; exact good_zero (.inr (.inr rfl)) rfl
  ·cases h
 | p :: ps, h => by
  unfold signL at h
  split at h
  ·cases h; exact good_zero (.inr (.inr rfl)) rfl
  ·exact sign_good s k t tt ps h
theorem next_good {s : ByteArray} {k : Nat} {t : Tok} {tt : Nat} (hk : k < s.size) (h : nextT s k = .tok t tt) : GoodT t := by
 have hm := firstT_mem _ h
 simp only [List.mem_cons, List.not_mem_nil, or_false] at hm
 rcases hm with hm | hm | hm | hm
 ·unfold nameT at hm
  split at hm
  ·cases hm
  ·split at hm
   ·cases hm
   ·cases hm; exact good_zero (.inl rfl) rfl
 ·by_cases hc : cls s[k] = 2
  ·by_cases h1 : digL (rest s k) <= 15
   ·by_cases h2 : 1 < digL (rest s k) /\ s[k] = 48
    ·rw [num_err hk hc (.inr (.inl h2))] at hm; cases hm
    ·by_cases h3 : ∀ h : k + digL (rest s k) < s.size, cls s[k + digL (rest s k)] ≠ 3
     ·rw [num_ok hk hc h1 h2 h3] at hm
      cases hm
      refine ⟨by simp, fun h => by simp at h, fun _ => ⟨rfl, by simp, ?_⟩⟩
      have h4 := valL_lt ((rest s k).take (digL (rest s k))) 0 (digL_all (rest s k))
      have h5 := pow_bound h1
      rw [List.length_take, Nat.min_eq_left (digL_le (rest s k))] at h4
      simp only
      omega
     ·have h3 : ∃ h : k + digL (rest s k) < s.size, cls s[k + digL (rest s k)] = 3 := by
       refine Classical.byContradiction fun hn => h3 fun h4 h5 => hn ⟨h4, h5⟩
      rw [num_err hk hc (.inr (.inr h3))] at hm; cases hm
   ·rw [num_err hk hc (.inl (by omega))] at hm; cases hm
  ·unfold numT at hm
   rw [rest_head s k hk, if_pos (by simpa [cls] using hc)] at hm
   cases hm
 ·unfold textT at hm
  split at hm
  ·cases hm
  ·exact text_good _ _ _ _ _ _ hm.symm
 ·exact sign_good s k t tt _ hm.symm
theorem lexF_good (s : ByteArray) : ∀ (f k : Nat) (ts out : List Tok), lexF s f k ts = .ok out -> (∀ t ∈ ts, GoodT t) -> ts.length <= k -> k <= s.size -> ∃ us, out = us ++ [endTok s] /\ (∀ t ∈ us, GoodT t) /\ us.length <= s.size
 | 0, k, ts, out, h, _, _, _ => by simp [lexF] at h
 | f + 1, k, ts, out, h, hg, hl, hk => by
  unfold lexF at h
  split at h
  ·rename_i hlt
   cases hT : nextT s k with
   | none => rw [hT] at h; cases h
   | err d => rw [hT] at h; cases h
   | tok t tt =>
    rw [hT] at h
    obtain ⟨h1, h2⟩ := next_fits hlt hT
    have h3 := blankTo_ge s tt
    refine lexF_good s f _ _ out h (fun u hu => ?_) (by simp; omega) (blankTo_le s tt h2)
    rcases List.mem_append.1 hu with hu | hu
    ·exact hg u hu
    ·obtain rfl : u = t := by simpa using hu
     exact next_good hlt hT
  ·cases h
   exact ⟨ts, rfl, hg, by omega⟩
theorem tokens_good {s : ByteArray} {ts : List Tok} (h : tokensP s = .ok ts) : TokOK ts /\ 0 < ts.length /\ ∃ us, ts = us ++ [endTok s] /\ (∀ t ∈ us, GoodT t) /\ us.length <= s.size := by
 unfold tokensP at h
 split at h
 ·cases h
 ·rename_i hs
  obtain ⟨us, rfl, hg, hl⟩ := lexF_good s _ _ _ _ h (by simp) (by simp) (blankTo_le s 0 (by omega))
  refine ⟨⟨fun k t ht h5 => ?_, fun k t ht hk => ?_, fun k t ht hk => ?_, by simp; omega⟩, by simp, us, rfl, hg, hl⟩
  ·rcases Nat.lt_or_ge k us.length with h1 | h1
   ·simp; omega
   ·rw [List.getElem?_append_right h1] at ht
    have h2 := List.mem_of_getElem? ht
    simp at h2
    rw [h2] at h5
    exact absurd rfl h5
  ·rcases Nat.lt_or_ge k us.length with h1 | h1
   ·rw [List.getElem?_append_left h1] at ht
    exact (hg t (List.mem_of_getElem? ht)).zero hk
   ·rw [List.getElem?_append_right h1] at ht
    have h2 := List.mem_of_getElem? ht
    simp at h2
    rw [h2]; rfl
  ·rcases Nat.lt_or_ge k us.length with h1 | h1
   ·rw [List.getElem?_append_left h1] at ht
    exact (hg t (List.mem_of_getElem? ht)).none_ hk
   ·rw [List.getElem?_append_right h1] at ht
    have h2 := List.mem_of_getElem? ht
    simp at h2
    rw [h2] at hk
    simp [endTok] at hk
theorem lexF_err0 (s : ByteArray) : ∀ (f k : Nat) (ts : List Tok) (p : Nat) (c : Int), lexF s f k ts = .err p c -> c ≠ 0
 | 0, k, ts, p, c, h => by simp only [lexF] at h; cases h; decide
 | f + 1, k, ts, p, c, h => by
  unfold lexF at h
  split at h
  ·cases hT : nextT s k with
   | none => rw [hT] at h; cases h; decide
   | err d => rw [hT] at h; cases h; exact next_errs hT
   | tok t tt => rw [hT] at h; exact lexF_err0 s f _ _ p c h
  ·cases h
theorem tokens_err0 {s : ByteArray} {p : Nat} {c : Int} (h : tokensP s = .err p c) : c ≠ 0 := by
 unfold tokensP at h
 split at h
 ·cases h; decide
 ·exact lexF_err0 _ _ _ _ _ _ h
theorem problem_size2 : (Tryz.prog.info? 26).map (·.size) = some 2 := by kernel_rfl
theorem results_pb {fn : Func} {i : Nat} (hf : fn.results = #[ResultVar.cell i 26]) (tmps : Array Value) (w : World) (N : Nat) (a b : Value) (hp : tmps.getD i undef = .pointer (some ⟨N, 0, none⟩)) (hg : w.heap[N]? = some (.cells #[a, b] 26 (0, 0))) :
  (results fn tmps).run Tryz.prog w = .ok (.agg #[a, b]) w := by
 have hp' : tmps[i]?.getD undef = .pointer (some ⟨N, 0, none⟩) := by simpa using hp
 simp [results, hf, hp', asAddr, run_loadVar_row w N 26 26 #[a, b] (0, 0) _ hg Tryz.underlying26 rfl problem_size2]
def runP (lr : LR) (r : List Tok -> PR Unit) : Int × Int :=
 match lr with
 | .err k c => (k, c)
 | .ok ts => match r ts with
  | .err j c => (atT ts j, c)
  | .ok _ j => if (ts[j]?).map (·.kind) = some 5 then (0, 0) else (atT ts j, 5)
theorem turned_narrow {C D : Nat -> Prop} {W W' : World} (h : Turned C W W') (hd : ∀ b, b < W.heap.size -> C b -> D b) : Turned D W W' := ⟨h.os, h.tape, h.output, h.size, fun b hb hn => h.block b hb fun hc => hn (hd b hb hc)⟩
theorem run_forms (s : ByteArray) (ob : Nat) (w : World) (hv : Vars w.heap.size w) (hob : ob < w.heap.size) (r : List Tok -> PR Unit) (Q : Nat -> World -> Prop)
  (hok : ∀ ts, tokensP s = .ok ts -> TokOK ts /\ 0 < ts.length)
  (hQ : ∀ (lo : Nat) (W W' : World) (C : Nat -> Prop), Q lo W -> Turned C W W' -> (∀ b, C b -> b < lo /\ b ≠ ob) -> Q lo W')
  (hHow : ∀ ts, tokensP s = .ok ts -> ∀ (B g cap : Nat) (W : World), ob ≠ B -> g ≠ ob -> PS B g cap ts W 0 0 -> W.heap[ob]? = w.heap[ob]? -> Calls Tryz.prog 28 #[.pointer (some ⟨B, 0, none⟩), .pointer (some ⟨ob, 0, none⟩)] W (HowR B ob g cap ts W (r ts) (Q W.heap.size))) :
  Calls Tryz.prog 27 #[.string s, .func (Fn.func 28) #[] #[.pointer (some ⟨ob, 0, none⟩)]] w fun e w' => e = .returned (.agg #[(.int .i64 ((runP (tokensP s) r).1)), (.int .i64 ((runP (tokensP s) r).2))]) /\ Turned (fun b => b = ob) w w' /\ (∀ ts j, tokensP s = .ok ts -> r ts = .ok () j -> ∃ lo, w.heap.size <= lo /\ Q lo w') := by
 have hmf : ∀ (fn : Fn) (first cap : Array Value) (w : World), (Instr.makeFunc fn first cap).run Tryz.prog w = .ok (.func fn first cap) w := fun _ _ _ _ => rfl
 have hT : Turned (fun _ => False) w (w.alloc (.cells #[.int .i64 0, .int .i64 0] 26)) := (Turned.refl _ _).alloc _
 have HT := Lib.hid (tokens_any s (w.alloc (.cells #[.int .i64 0, .int .i64 0] 26)) ((hv.turned hT fun g hg => id).mono (by simp)))
 cases hL : tokensP s with
 | err k c =>
  rw [hL] at HT
  have hc0 : (c != 0) = true := by simpa using tokens_err0 hL
  go_enter_defers Tryz.func27, Tryz.ntmps27
  go_wp2_with fail
  refine HT.out.mono ?_
  rintro e W1 ⟨rfl, ht⟩
  have hcV : W1.heap[w.heap.size]? = some (.cells #[.int .i64 0, .int .i64 0] 26 (0, 0)) := (ht.block _ (by simp) id).trans (heap_alloc_new _ _)
  obtain ⟨x0, x1, x2, x3⟩ := two_cells hcV
  have HcV := Lib.hid hcV
  have Ht := Lib.hid ht
  clear hcV ht
  go_wp2_with fail
  have b1 : ((((W1.setCell ⟨w.heap.size, 0, none⟩ (.int .i64 k)).setCell ⟨w.heap.size, 1, none⟩ (.int .i64 c)).setCell ⟨w.heap.size, 0, none⟩ (.int .i64 k)).setCell ⟨w.heap.size, 1, none⟩ (.int .i64 c)).heap[w.heap.size]? = some (.cells #[.int .i64 k, .int .i64 c] 26 (0, 0)) := two_set' (two_set' HcV.out)
  refine ⟨_, results_pb rfl _ _ w.heap.size (.int .i64 k) (.int .i64 c) rfl b1, rfl, ?_, fun ts j h => by cases h⟩
  have tA : Turned (fun b => w.heap.size <= b) w ((((W1.setCell ⟨w.heap.size, 0, none⟩ (.int .i64 k)).setCell ⟨w.heap.size, 1, none⟩ (.int .i64 c)).setCell ⟨w.heap.size, 0, none⟩ (.int .i64 k)).setCell ⟨w.heap.size, 1, none⟩ (.int .i64 c)) := (((hT.mono fun _ h => h.elim).trans (Ht.out.mono fun _ h => h.elim)).trans ((two_turned' W1 w.heap.size (.int .i64 k) (.int .i64 c)).mono fun b hb => (by omega))).trans ((two_turned' _ w.heap.size (.int .i64 k) (.int .i64 c)).mono fun b hb => (by omega))
  exact turned_narrow tA fun b hb hc => by omega
 | ok ts =>
  rw [hL] at HT
  obtain ⟨hTok, hpos⟩ := hok ts hL
  go_enter_defers Tryz.func27, Tryz.ntmps27
  go_wp2_with fail
  refine HT.out.mono ?_
  rintro e W1 ⟨v, rfl, hown, ht⟩
  have hcV : W1.heap[w.heap.size]? = some (.cells #[.int .i64 0, .int .i64 0] 26 (0, 0)) := (ht.block _ (by simp) id).trans (heap_alloc_new _ _)
  obtain ⟨x0, x1, x2, x3⟩ := two_cells hcV
  have HcV := Lib.hid hcV
  have Ht := Lib.hid ht
  rcases owns_cell (enc := tokV) (fun _ => rfl) hown with ⟨rfl, hnil⟩ | ⟨g, cap, rfl, h1, h2, h3, h4, h5⟩
  ·rw [hnil] at hpos; simp at hpos
  have H5 := Lib.hid h5
  clear hcV ht hown h5
  go_wp2_with fail
  obtain ⟨W2, hW2⟩ : ∃ W2, W2 = ((W1.setCell ⟨w.heap.size, 0, none⟩ (.int .i64 0)).setCell ⟨w.heap.size, 1, none⟩ (.int .i64 0)) := ⟨_, rfl⟩
  have t2 := two_turned' W1 w.heap.size (.int .i64 0) (.int .i64 0)
  have b2 : W2.heap[w.heap.size]? = some (.cells #[.int .i64 0, .int .i64 0] 26 (0, 0)) := by rw [hW2]; exact two_set' HcV.out
  rw [<- hW2] at t2 ⊢
  have hs2 : W1.heap.size = W2.heap.size := by rw [hW2]; simp
  rw [hs2]
  obtain ⟨W3, hW3⟩ : ∃ W3, W3 = W2.alloc (.cells #[.slice (some ⟨g, 0, none⟩) ts.length cap, .int .i64 0] 71) := ⟨_, rfl⟩
  obtain ⟨B, hB⟩ : ∃ B, B = W2.heap.size := ⟨_, rfl⟩
  have t3 : Turned (fun _ => False) W2 W3 := by rw [hW3]; exact (Turned.refl _ _).alloc _
  have b3 : W3.heap[B]? = some (.cells #[.slice (some ⟨g, 0, none⟩) ts.length cap, .int .i64 0] 71 (0, 0)) := by rw [hW3, hB]; exact heap_alloc_new _ _
  rw [<- hW3, <- hB]
  have hsz : w.heap.size + 1 <= g := by simpa using h3
  have hNB : w.heap.size < B := by have := getElem?_lt HcV.out; omega
  have hgB : g < B := by omega
  have hp : PS B g cap ts W3 0 0 := by
   refine ⟨by simpa using b3, ?_, by omega, hTok, hpos, h1, h2⟩
   intro i hi j u hu
   have hj : j < 4 := by
    have := (List.getElem?_eq_some_iff.1 hu).1
    simpa [tokRow, List.getElem?_eq_getElem hi, tokV] using this
   have h6 := H5.out i j hi hj
   simp only [tokRow, List.getElem?_eq_getElem hi] at hu
   rw [hu] at h6
   exact cell_turned t3 id (cell_turned t2 (by omega) h6)
  have tA : Turned (fun b => w.heap.size <= b) w W3 := (((hT.mono fun _ h => h.elim).trans (Ht.out.mono fun _ h => h.elim)).trans (t2.mono fun b hb => (by omega))).trans (t3.mono fun _ h => h.elim)
  have hobo : W3.heap[ob]? = w.heap[ob]? := tA.block ob hob (by omega)
  have b4 : W3.heap[w.heap.size]? = some (.cells #[.int .i64 0, .int .i64 0] 26 (0, 0)) := (t3.block _ (getElem?_lt b2) id).trans b2
  have hlo : w.heap.size < W3.heap.size := getElem?_lt b4
  have hNW : w.heap.size < W3.heap.size := hlo
  clear hW2 hW3 t2 t3 b2 b3 x0 x1 x2 x3 Ht H5 HcV hs2 hB
  have HC := hHow ts hL B g cap W3 (by omega) (by omega) hp hobo
  cases hr : r ts with
  | err j c =>
   rw [hr] at HC
   have hE : Hid (runP (LR.ok ts) r = (atT ts j, c)) := by show _ = _; unfold runP; simp only [hr]
   refine HC.mono ?_
   rintro e W4 ⟨ht4, rfl⟩
   have b5 : W4.heap[w.heap.size]? = some (.cells #[.int .i64 0, .int .i64 0] 26 (0, 0)) := (ht4.block _ hlo (by omega)).trans b4
   refine leaves_cons (f := 50) (args := #[.pointer (some ⟨w.heap.size, 0, none⟩)]) (by simp) (by simp [go_sem]) ?_
   refine (catch_stop w.heap.size (atT ts j) c 0 0 [] _ b5).mono ?_
   rintro e u' W5 ⟨rfl, rfl, b6, ht5⟩
   have tB := turned_narrow (C := fun b => w.heap.size <= b \/ b = ob) (((tA.mono fun _ h => .inl h).trans (ht4.mono fun b hb => (by omega))).trans (ht5.mono fun b hb => (by omega))) (D := fun b => b = ob) fun b hb hc => by omega
   refine ⟨_, results_pb rfl _ _ w.heap.size (.int .i64 (atT ts j)) (.int .i64 c) rfl b6, ?_, tB, fun ts2 j2 h1 h2 => ?_⟩
   ·rw [hE.out]
   ·cases h1; rw [hr] at h2; cases h2
  | ok x j =>
   rw [hr] at HC
   refine HC.mono ?_
   rintro e W4 ⟨ht4, rfl, ⟨nf, hp4⟩, hq4⟩
   have b5 : W4.heap[w.heap.size]? = some (.cells #[.int .i64 0, .int .i64 0] 26 (0, 0)) := (ht4.block _ hlo (by omega)).trans b4
   obtain ⟨u, hu⟩ := some_of_lt hp4.lt
   obtain ⟨c0, c1⟩ := hp4.cells
   obtain ⟨t0, t1, t2, t3⟩ := hp4.tok hu
   obtain ⟨l, hl2⟩ : ∃ l, ts.length - j = l + 1 := ⟨ts.length - j - 1, by have := hp4.lt; omega⟩
   rw [hl2] at c0
   clear hl2
   have Hp4 := Lib.hid hp4
   have Hb5 := Lib.hid b5
   obtain ⟨x0, x1, x2, x3⟩ := two_cells b5
   have tB0 := (tA.mono (C' := fun b => w.heap.size <= b \/ b = ob) fun _ h => .inl h).trans (ht4.mono fun b hb => (by omega))
   by_cases h5k : u.kind = 5
   ·have hE : Hid (runP (LR.ok ts) r = (0, 0)) := by show _ = _; unfold runP; simp only [hr, hu, Option.map_some, h5k, if_true]
    have bk : (u.kind != 5) = false := by simpa using h5k
    have bk2 : (u.kind == 5) = true := by simpa using h5k
    clear h5k hp4 b5
    go_wp2_with fail
    have t5 := two_turned' W4 w.heap.size (.int .i64 0) (.int .i64 0)
    have b6 : ((W4.setCell ⟨w.heap.size, 0, none⟩ (.int .i64 0)).setCell ⟨w.heap.size, 1, none⟩ (.int .i64 0)).heap[w.heap.size]? = some (.cells #[.int .i64 0, .int .i64 0] 26 (0, 0)) := two_set' Hb5.out
    refine leaves_cons (f := 50) (args := #[.pointer (some ⟨w.heap.size, 0, none⟩)]) (by simp) (by simp [go_sem]) ?_
    refine (catch_idle w.heap.size _).mono ?_
    rintro e u' W5 ⟨rfl, rfl, rfl⟩
    have tB := turned_narrow (tB0.trans (t5.mono fun b hb => (by omega))) (D := fun b => b = ob) fun b hb hc => by omega
    refine ⟨_, results_pb rfl _ _ w.heap.size (.int .i64 0) (.int .i64 0) rfl b6, ?_, tB, fun ts2 j2 h1 h2 => ⟨W3.heap.size, by omega, hQ _ _ _ _ hq4 t5 fun b hb => by omega⟩⟩
    rw [hE.out]
   ·have hE : Hid (runP (LR.ok ts) r = (atT ts j, 5)) := by show _ = _; unfold runP; simp [hr, hu, h5k]
    have bk : (u.kind != 5) = true := by simpa using h5k
    have bk2 : (u.kind == 5) = false := by simpa using h5k
    clear h5k hp4 b5
    go_wp2_with fail
    refine (fail_ps Hp4.out 5).mono ?_
    rintro e W5 ⟨rfl, rfl⟩
    refine leaves_cons (f := 50) (args := #[.pointer (some ⟨w.heap.size, 0, none⟩)]) (by simp) (by simp [go_sem]) ?_
    refine (catch_stop w.heap.size (atT ts j) 5 0 0 [] _ Hb5.out).mono ?_
    rintro e u' W5 ⟨rfl, rfl, b6, ht5⟩
    have tB := turned_narrow (tB0.trans (ht5.mono fun b hb => (by omega))) (D := fun b => b = ob) fun b hb hc => by omega
    refine ⟨_, results_pb rfl _ _ w.heap.size (.int .i64 (atT ts j)) (.int .i64 5) rfl b6, ?_, tB, fun ts2 j2 h1 h2 => ⟨W3.heap.size, by omega, hQ _ _ _ _ hq4 ht5 fun b hb => by omega⟩⟩
    rw [hE.out]
theorem run_expr (s : ByteArray) (ob : Nat) (w : World) (hv : Vars w.heap.size w) (hob : ob < w.heap.size) (r : List Tok -> PR Unit) (Q : Nat -> World -> Prop)
  (hok : ∀ ts, tokensP s = .ok ts -> TokOK ts /\ 0 < ts.length)
  (hQ : ∀ (lo : Nat) (W W' : World) (C : Nat -> Prop), Q lo W -> Turned C W W' -> (∀ b, C b -> b < lo /\ b ≠ ob) -> Q lo W')
  (hHow : ∀ ts, tokensP s = .ok ts -> ∀ (B g cap : Nat) (W : World), ob ≠ B -> g ≠ ob -> PS B g cap ts W 0 0 -> W.heap[ob]? = w.heap[ob]? -> Calls Tryz.prog 30 #[.pointer (some ⟨B, 0, none⟩), .pointer (some ⟨ob, 0, none⟩)] W (HowR B ob g cap ts W (r ts) (Q W.heap.size))) :
  Calls Tryz.prog 27 #[.string s, .func (Fn.func 30) #[] #[.pointer (some ⟨ob, 0, none⟩)]] w fun e w' => e = .returned (.agg #[(.int .i64 ((runP (tokensP s) r).1)), (.int .i64 ((runP (tokensP s) r).2))]) /\ Turned (fun b => b = ob) w w' /\ (∀ ts j, tokensP s = .ok ts -> r ts = .ok () j -> ∃ lo, w.heap.size <= lo /\ Q lo w') := by
 have hmf : ∀ (fn : Fn) (first cap : Array Value) (w : World), (Instr.makeFunc fn first cap).run Tryz.prog w = .ok (.func fn first cap) w := fun _ _ _ _ => rfl
 have hT : Turned (fun _ => False) w (w.alloc (.cells #[.int .i64 0, .int .i64 0] 26)) := (Turned.refl _ _).alloc _
 have HT := Lib.hid (tokens_any s (w.alloc (.cells #[.int .i64 0, .int .i64 0] 26)) ((hv.turned hT fun g hg => id).mono (by simp)))
 cases hL : tokensP s with
 | err k c =>
  rw [hL] at HT
  have hc0 : (c != 0) = true := by simpa using tokens_err0 hL
  go_enter_defers Tryz.func27, Tryz.ntmps27
  go_wp2_with fail
  refine HT.out.mono ?_
  rintro e W1 ⟨rfl, ht⟩
  have hcV : W1.heap[w.heap.size]? = some (.cells #[.int .i64 0, .int .i64 0] 26 (0, 0)) := (ht.block _ (by simp) id).trans (heap_alloc_new _ _)
  obtain ⟨x0, x1, x2, x3⟩ := two_cells hcV
  have HcV := Lib.hid hcV
  have Ht := Lib.hid ht
  clear hcV ht
  go_wp2_with fail
  have b1 : ((((W1.setCell ⟨w.heap.size, 0, none⟩ (.int .i64 k)).setCell ⟨w.heap.size, 1, none⟩ (.int .i64 c)).setCell ⟨w.heap.size, 0, none⟩ (.int .i64 k)).setCell ⟨w.heap.size, 1, none⟩ (.int .i64 c)).heap[w.heap.size]? = some (.cells #[.int .i64 k, .int .i64 c] 26 (0, 0)) := two_set' (two_set' HcV.out)
  refine ⟨_, results_pb rfl _ _ w.heap.size (.int .i64 k) (.int .i64 c) rfl b1, rfl, ?_, fun ts j h => by cases h⟩
  have tA : Turned (fun b => w.heap.size <= b) w ((((W1.setCell ⟨w.heap.size, 0, none⟩ (.int .i64 k)).setCell ⟨w.heap.size, 1, none⟩ (.int .i64 c)).setCell ⟨w.heap.size, 0, none⟩ (.int .i64 k)).setCell ⟨w.heap.size, 1, none⟩ (.int .i64 c)) := (((hT.mono fun _ h => h.elim).trans (Ht.out.mono fun _ h => h.elim)).trans ((two_turned' W1 w.heap.size (.int .i64 k) (.int .i64 c)).mono fun b hb => (by omega))).trans ((two_turned' _ w.heap.size (.int .i64 k) (.int .i64 c)).mono fun b hb => (by omega))
  exact turned_narrow tA fun b hb hc => by omega
 | ok ts =>
  rw [hL] at HT
  obtain ⟨hTok, hpos⟩ := hok ts hL
  go_enter_defers Tryz.func27, Tryz.ntmps27
  go_wp2_with fail
  refine HT.out.mono ?_
  rintro e W1 ⟨v, rfl, hown, ht⟩
  have hcV : W1.heap[w.heap.size]? = some (.cells #[.int .i64 0, .int .i64 0] 26 (0, 0)) := (ht.block _ (by simp) id).trans (heap_alloc_new _ _)
  obtain ⟨x0, x1, x2, x3⟩ := two_cells hcV
  have HcV := Lib.hid hcV
  have Ht := Lib.hid ht
  rcases owns_cell (enc := tokV) (fun _ => rfl) hown with ⟨rfl, hnil⟩ | ⟨g, cap, rfl, h1, h2, h3, h4, h5⟩
  ·rw [hnil] at hpos; simp at hpos
  have H5 := Lib.hid h5
  clear hcV ht hown h5
  go_wp2_with fail
  obtain ⟨W2, hW2⟩ : ∃ W2, W2 = ((W1.setCell ⟨w.heap.size, 0, none⟩ (.int .i64 0)).setCell ⟨w.heap.size, 1, none⟩ (.int .i64 0)) := ⟨_, rfl⟩
  have t2 := two_turned' W1 w.heap.size (.int .i64 0) (.int .i64 0)
  have b2 : W2.heap[w.heap.size]? = some (.cells #[.int .i64 0, .int .i64 0] 26 (0, 0)) := by rw [hW2]; exact two_set' HcV.out
  rw [<- hW2] at t2 ⊢
  have hs2 : W1.heap.size = W2.heap.size := by rw [hW2]; simp
  rw [hs2]
  obtain ⟨W3, hW3⟩ : ∃ W3, W3 = W2.alloc (.cells #[.slice (some ⟨g, 0, none⟩) ts.length cap, .int .i64 0] 71) := ⟨_, rfl⟩
  obtain ⟨B, hB⟩ : ∃ B, B = W2.heap.size := ⟨_, rfl⟩
  have t3 : Turned (fun _ => False) W2 W3 := by rw [hW3]; exact (Turned.refl _ _).alloc _
  have b3 : W3.heap[B]? = some (.cells #[.slice (some ⟨g, 0, none⟩) ts.length cap, .int .i64 0] 71 (0, 0)) := by rw [hW3, hB]; exact heap_alloc_new _ _
  rw [<- hW3, <- hB]
  have hsz : w.heap.size + 1 <= g := by simpa using h3
  have hNB : w.heap.size < B := by have := getElem?_lt HcV.out; omega
  have hgB : g < B := by omega
  have hp : PS B g cap ts W3 0 0 := by
   refine ⟨by simpa using b3, ?_, by omega, hTok, hpos, h1, h2⟩
   intro i hi j u hu
   have hj : j < 4 := by
    have := (List.getElem?_eq_some_iff.1 hu).1
    simpa [tokRow, List.getElem?_eq_getElem hi, tokV] using this
   have h6 := H5.out i j hi hj
   simp only [tokRow, List.getElem?_eq_getElem hi] at hu
   rw [hu] at h6
   exact cell_turned t3 id (cell_turned t2 (by omega) h6)
  have tA : Turned (fun b => w.heap.size <= b) w W3 := (((hT.mono fun _ h => h.elim).trans (Ht.out.mono fun _ h => h.elim)).trans (t2.mono fun b hb => (by omega))).trans (t3.mono fun _ h => h.elim)
  have hobo : W3.heap[ob]? = w.heap[ob]? := tA.block ob hob (by omega)
  have b4 : W3.heap[w.heap.size]? = some (.cells #[.int .i64 0, .int .i64 0] 26 (0, 0)) := (t3.block _ (getElem?_lt b2) id).trans b2
  have hlo : w.heap.size < W3.heap.size := getElem?_lt b4
  have hNW : w.heap.size < W3.heap.size := hlo
  clear hW2 hW3 t2 t3 b2 b3 x0 x1 x2 x3 Ht H5 HcV hs2 hB
  have HC := hHow ts hL B g cap W3 (by omega) (by omega) hp hobo
  cases hr : r ts with
  | err j c =>
   rw [hr] at HC
   have hE : Hid (runP (LR.ok ts) r = (atT ts j, c)) := by show _ = _; unfold runP; simp only [hr]
   refine HC.mono ?_
   rintro e W4 ⟨ht4, rfl⟩
   have b5 : W4.heap[w.heap.size]? = some (.cells #[.int .i64 0, .int .i64 0] 26 (0, 0)) := (ht4.block _ hlo (by omega)).trans b4
   refine leaves_cons (f := 50) (args := #[.pointer (some ⟨w.heap.size, 0, none⟩)]) (by simp) (by simp [go_sem]) ?_
   refine (catch_stop w.heap.size (atT ts j) c 0 0 [] _ b5).mono ?_
   rintro e u' W5 ⟨rfl, rfl, b6, ht5⟩
   have tB := turned_narrow (C := fun b => w.heap.size <= b \/ b = ob) (((tA.mono fun _ h => .inl h).trans (ht4.mono fun b hb => (by omega))).trans (ht5.mono fun b hb => (by omega))) (D := fun b => b = ob) fun b hb hc => by omega
   refine ⟨_, results_pb rfl _ _ w.heap.size (.int .i64 (atT ts j)) (.int .i64 c) rfl b6, ?_, tB, fun ts2 j2 h1 h2 => ?_⟩
   ·rw [hE.out]
   ·cases h1; rw [hr] at h2; cases h2
  | ok x j =>
   rw [hr] at HC
   refine HC.mono ?_
   rintro e W4 ⟨ht4, rfl, ⟨nf, hp4⟩, hq4⟩
   have b5 : W4.heap[w.heap.size]? = some (.cells #[.int .i64 0, .int .i64 0] 26 (0, 0)) := (ht4.block _ hlo (by omega)).trans b4
   obtain ⟨u, hu⟩ := some_of_lt hp4.lt
   obtain ⟨c0, c1⟩ := hp4.cells
   obtain ⟨t0, t1, t2, t3⟩ := hp4.tok hu
   obtain ⟨l, hl2⟩ : ∃ l, ts.length - j = l + 1 := ⟨ts.length - j - 1, by have := hp4.lt; omega⟩
   rw [hl2] at c0
   clear hl2
   have Hp4 := Lib.hid hp4
   have Hb5 := Lib.hid b5
   obtain ⟨x0, x1, x2, x3⟩ := two_cells b5
   have tB0 := (tA.mono (C' := fun b => w.heap.size <= b \/ b = ob) fun _ h => .inl h).trans (ht4.mono fun b hb => (by omega))
   by_cases h5k : u.kind = 5
   ·have hE : Hid (runP (LR.ok ts) r = (0, 0)) := by show _ = _; unfold runP; simp only [hr, hu, Option.map_some, h5k, if_true]
    have bk : (u.kind != 5) = false := by simpa using h5k
    have bk2 : (u.kind == 5) = true := by simpa using h5k
    clear h5k hp4 b5
    go_wp2_with fail
    have t5 := two_turned' W4 w.heap.size (.int .i64 0) (.int .i64 0)
    have b6 : ((W4.setCell ⟨w.heap.size, 0, none⟩ (.int .i64 0)).setCell ⟨w.heap.size, 1, none⟩ (.int .i64 0)).heap[w.heap.size]? = some (.cells #[.int .i64 0, .int .i64 0] 26 (0, 0)) := two_set' Hb5.out
    refine leaves_cons (f := 50) (args := #[.pointer (some ⟨w.heap.size, 0, none⟩)]) (by simp) (by simp [go_sem]) ?_
    refine (catch_idle w.heap.size _).mono ?_
    rintro e u' W5 ⟨rfl, rfl, rfl⟩
    have tB := turned_narrow (tB0.trans (t5.mono fun b hb => (by omega))) (D := fun b => b = ob) fun b hb hc => by omega
    refine ⟨_, results_pb rfl _ _ w.heap.size (.int .i64 0) (.int .i64 0) rfl b6, ?_, tB, fun ts2 j2 h1 h2 => ⟨W3.heap.size, by omega, hQ _ _ _ _ hq4 t5 fun b hb => by omega⟩⟩
    rw [hE.out]
   ·have hE : Hid (runP (LR.ok ts) r = (atT ts j, 5)) := by show _ = _; unfold runP; simp [hr, hu, h5k]
    have bk : (u.kind != 5) = true := by simpa using h5k
    have bk2 : (u.kind == 5) = false := by simpa using h5k
    clear h5k hp4 b5
    go_wp2_with fail
    refine (fail_ps Hp4.out 5).mono ?_
    rintro e W5 ⟨rfl, rfl⟩
    refine leaves_cons (f := 50) (args := #[.pointer (some ⟨w.heap.size, 0, none⟩)]) (by simp) (by simp [go_sem]) ?_
    refine (catch_stop w.heap.size (atT ts j) 5 0 0 [] _ Hb5.out).mono ?_
    rintro e u' W5 ⟨rfl, rfl, b6, ht5⟩
    have tB := turned_narrow (tB0.trans (ht5.mono fun b hb => (by omega))) (D := fun b => b = ob) fun b hb hc => by omega
    refine ⟨_, results_pb rfl _ _ w.heap.size (.int .i64 (atT ts j)) (.int .i64 5) rfl b6, ?_, tB, fun ts2 j2 h1 h2 => ⟨W3.heap.size, by omega, hQ _ _ _ _ hq4 ht5 fun b hb => by omega⟩⟩
    rw [hE.out]
end Go.Proofs.YtjijdgkccfeeaaaGreatDoor
