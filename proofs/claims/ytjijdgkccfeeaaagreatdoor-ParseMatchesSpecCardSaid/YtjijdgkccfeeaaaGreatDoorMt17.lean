/- Part 17 of the proof of lawMatches.card: LexRefC, ParTok. Conditions: those of each theorem. -/
import Derived.Test.YtjijdgkccfeeaaaGreatDoorMt01
import Derived.Test.YtjijdgkccfeeaaaGreatDoorMt16
namespace Go.Proofs.YtjijdgkccfeeaaaGreatDoor
open Go Go.Proofs Go.RowKit
attribute [local go_sem] Oper.semAt_some
theorem numT_eq {s : ByteArray} {k : Nat} (hk : k < s.size) (hc : cls s[k] = 2) : numT s k = numOf k (k + spanL 2 (rest s k)) ⟨((rest s k).take (spanL 2 (rest s k))).toArray⟩ := by
  unfold numT
  rw [rest_head s k hk, if_neg (by simpa [cls] using hc)]
  unfold spanTo
  rw [extract_rest]
theorem rest_at {s : ByteArray} {k i : Nat} (h : k + i < s.size) (h2 : i < (rest s k).length) : (rest s k)[i] = s[k + i] := by
  have := rest_get s k i h
  rw [List.getElem?_eq_getElem h2] at this
  exact Option.some.inj this
theorem num_err {s : ByteArray} {k : Nat} (hk : k < s.size) (hc : cls s[k] = 2) (h : 15 < digL (rest s k) ∨ (1 < digL (rest s k) ∧ s[k] = 48) ∨ ∃ h : k + digL (rest s k) < s.size, cls s[k + digL (rest s k)] = 3) : numT s k = .err 27 := by
  rw [numT_eq hk hc]
  obtain ⟨a1, a2, a3⟩ := span_dig (rest s k)
  have hle := spanL_le 2 (rest s k)
  have hsz : (ByteArray.mk ((rest s k).take (spanL 2 (rest s k))).toArray).size = spanL 2 (rest s k) := by
    show ((rest s k).take (spanL 2 (rest s k))).length = _
    rw [List.length_take, Nat.min_eq_left hle]
  rcases h with h | ⟨h, h2⟩ | ⟨h, h2⟩
  · exact numOf_long (by rw [hsz]; omega)
  · refine numOf_zero (by rw [hsz]; omega) ?_
    obtain ⟨m, hm⟩ : ∃ m, spanL 2 (rest s k) = m + 1 := ⟨spanL 2 (rest s k) - 1, by omega⟩
    rw [hm, rest_cons s k hk, List.take_succ_cons, ← h2]
    rfl
  · have hd : digL (rest s k) < (rest s k).length := by rw [rest_len]; omega
    have h3 : cls (rest s k)[digL (rest s k)] = 3 := by rw [rest_at h hd]; exact h2
    have h4 := a3 hd h3
    have h5 : (rest s k)[digL (rest s k)] ∈ (rest s k).take (spanL 2 (rest s k)) := List.mem_take_iff_getElem.2 ⟨digL (rest s k), by omega, rfl⟩
    generalize (rest s k)[digL (rest s k)] = x at h3 h5
    obtain ⟨m, hm⟩ : ∃ m, spanL 2 (rest s k) = m + 1 := ⟨spanL 2 (rest s k) - 1, by omega⟩
    rw [hm, rest_cons s k hk, List.take_succ_cons] at h5 ⊢
    exact numOf_bad hc ⟨x, h5, by omega⟩
theorem num_ok {s : ByteArray} {k : Nat} (hk : k < s.size) (hc : cls s[k] = 2) (h1 : digL (rest s k) ≤ 15) (h2 : ¬ (1 < digL (rest s k) ∧ s[k] = 48)) (h3 : ∀ h : k + digL (rest s k) < s.size, cls s[k + digL (rest s k)] ≠ 3) :
    numT s k = .tok ⟨2, k, ⟨#[]⟩, valL 0 ((rest s k).take (digL (rest s k)))⟩ (k + digL (rest s k)) := by
  rw [numT_eq hk hc]
  obtain ⟨a1, a2, a3⟩ := span_dig (rest s k)
  have e : spanL 2 (rest s k) = digL (rest s k) := by
    rcases Nat.lt_or_ge (digL (rest s k)) (spanL 2 (rest s k)) with h | h
    · obtain ⟨h4, h5⟩ := a2 h
      have h6 : k + digL (rest s k) < s.size := by rw [rest_len] at h4; omega
      rw [rest_at h6 h4] at h5
      exact absurd h5 (h3 h6)
    · omega
  have hall := digL_all (rest s k)
  have hle := digL_le (rest s k)
  rw [e]
  have hpos : 0 < digL (rest s k) := by rw [rest_cons s k hk, digL_yes hc]; omega
  obtain ⟨m, hm⟩ : ∃ m, digL (rest s k) = m + 1 := ⟨digL (rest s k) - 1, by omega⟩
  rw [hm] at hall hle h1 h2 ⊢
  rw [rest_cons s k hk, List.take_succ_cons] at hall ⊢
  rw [rest_len] at hle
  have hlen : (List.take m (rest s (k + 1))).length = m := by rw [List.length_take, rest_len]; omega
  exact numOf_ok hall (by omega) (by rw [hlen]; exact h2)
theorem num_step {s : ByteArray} {k i : Nat} (hk : k < s.size) (hi : k ≤ i) (his : i < s.size) {m : Nat} (hm : i - k < m) (h : ∀ b ∈ (rest s k).take m, cls b = 2) :
    valL 0 ((rest s k).take (i + 1 - k)) = valL 0 ((rest s k).take (i - k)) * 10 + (s[i].toNat - 48) ∧ valL 0 ((rest s k).take (i - k)) < 10 ^ (i - k) ∧ 48 ≤ s[i].toNat ∧ s[i].toNat ≤ 57 := by
  have hl : i - k < (rest s k).length := by rw [rest_len]; omega
  have hg : (rest s k)[i - k] = s[i] := by
    rw [rest_at (by omega) hl]
    congr 1; omega
  have h1 : (rest s k).take (i + 1 - k) = (rest s k).take (i - k) ++ [s[i]] := by
    rw [show i + 1 - k = (i - k) + 1 by omega, List.take_succ_eq_append_getElem hl, hg]
  have h2 : cls s[i] = 2 := h _ (List.mem_take_iff_getElem.2 ⟨i - k, by omega, hg⟩)
  have h3 : ∀ b ∈ (rest s k).take (i - k), cls b = 2 := fun b hb => by
    obtain ⟨q, hq, hqe⟩ := List.mem_take_iff_getElem.1 hb
    exact h b (List.mem_take_iff_getElem.2 ⟨q, by omega, hqe⟩)
  have h4 := valL_lt _ 0 h3
  rw [List.length_take, Nat.min_eq_left (by omega), Nat.zero_add, Nat.one_mul] at h4
  exact ⟨by rw [h1, valL_snoc], h4, (dig_iff _).1 h2⟩
set_option maxRecDepth 20000 in
set_option maxHeartbeats 8000000 in
theorem rnumber_any (s : ByteArray) (k : Nat) (w : World) (hs : s.size ≤ 70000) (hk : k < s.size) (hc : clsI s[k].toNat = 2) : Calls Tryz.prog 93 #[.string s, (.int .i64 k)] w fun e w' => e = .returned (oneV (numT s k)) ∧ Turned (fun _ => False) w w' := by
  have HE := Lib.hid (num_err hk hc)
  have HO := Lib.hid (num_ok hk hc)
  have hpos : 0 < digL (rest s k) := by rw [rest_cons s k hk, digL_yes hc]; omega
  have hdle := digL_le (rest s k)
  rw [rest_len] at hdle
  have HA := Lib.hid (digL_all (rest s k))
  clear hc
  go_enter Tryz.func93, Tryz.ntmps93
  go_wp2
  go_loop [5] (fun u => ∃ j : Nat, k ≤ j ∧ j ≤ s.size ∧ u = (.int .i64 j) ∧ Hid (j + digL (rest s j) = k + digL (rest s k))) (fun u => s.size - (intOf u).toNat)
  case atStart => exact ⟨k, Nat.le_refl _, by omega, rfl, rfl⟩
  case round =>
    obtain ⟨j, hj1, hj2, rfl, HJ⟩ := hrel
    have HD := Lib.hid (fun (i : Nat) (h : i < s.size) (W : World) => rdigit_any (s[i].toNat : Int) W (by omega) (by have := s[i].toNat_lt; omega))
    have HL := Lib.hid (fun (i : Nat) (h : i < s.size) (W : World) => rletter_any (s[i].toNat : Int) W (by omega) (by have := s[i].toNat_lt; omega))
    by_cases hgo : ∃ h : j < s.size, clsI (s[j].toNat : Int) = 2
    · obtain ⟨hlt, h2⟩ := hgo
      have HK : Hid (j + 1 + digL (rest s (j + 1)) = k + digL (rest s k)) := by
        show _ = _
        rw [← HJ.out, rest_cons s j hlt, digL_yes (by exact h2)]; omega
      go_wp2_with (go_at_call 92; refine (HD.out j hlt _).mono ?_; rintro e w' ⟨rfl, rfl⟩)
      go_round
      case rel => exact ⟨j + 1, by omega, by omega, by go_num, HK⟩
      case measure => simp [intOf]; omega
    · have hj : j = k + digL (rest s k) := by
        rcases Nat.lt_or_ge j s.size with h | h
        · have := HJ.out
          rw [rest_cons s j h, digL_no (fun h2 => hgo ⟨h, h2⟩)] at this
          omega
        · have := HJ.out
          rw [rest_nil s j h] at this
          exact this
      clear HJ
      have HA2 : Hid (∀ b ∈ (rest s k).take (j - k), cls b = 2) := by
        show ∀ b ∈ (rest s k).take (j - k), cls b = 2
        rw [show j - k = digL (rest s k) by omega]; exact HA.out
      obtain ⟨d, hd⟩ : ∃ d, digL (rest s k) = d := ⟨_, rfl⟩
      have hw : IntKind.i64.wrap ((j : Int) - k) = d := by rw [show (j : Int) - k = d by omega]; exact IntWalk.i64_in _ (by omega)
      have HHd := Lib.hid hd
      have HJD : Hid (j = k + d) := by show _ = _; omega
      have hj3 : j ≤ k + d := by omega
      have hj4 : k + d ≤ j := by omega
      clear hj
      by_cases hlt : j < s.size
      · have hnd : (clsI (s[j].toNat : Int) = 2) = False := by
          simp only [eq_iff_iff, iff_false]
          exact fun h => hgo ⟨hlt, h⟩
        have hnd2 : ¬ clsI (s[j].toNat : Int) = 2 := fun h => hgo ⟨hlt, h⟩
        clear hgo hnd
        by_cases hA : 15 < d
        · have HF : Hid (numT s k = .err 27) := HE.out (.inl (by rw [HHd.out]; exact hA))
          have hA2 : (15 : Int) < d := by omega
          clear hd
          go_wp2_with (first | (go_at_call 92; refine (HD.out j hlt _).mono ?_; rintro e w' ⟨rfl, rfl⟩) | (go_at_call 90; refine (HL.out j hlt _).mono ?_; rintro e w' ⟨rfl, rfl⟩))
          exact bodyPost_ret (v := oneV (.err 27)) (by simp [results, Tryz.results93, go_sem, oneV]) rfl ⟨by rw [HF.out], (Turned.refl _ _).alloc _⟩
        · have hA2 : (d : Int) ≤ 15 := by omega
          by_cases hB : 1 < d ∧ s[k] = 48
          · have HF : Hid (numT s k = .err 27) := HE.out (.inr (.inl (by rw [HHd.out]; exact hB)))
            have hB1 : (1 : Int) < d := by omega
            have kB : ((s[k].toNat : Int) == 48) = true := by rw [hB.2]; rfl
            clear hd hB
            go_wp2_with (first | (go_at_call 92; refine (HD.out j hlt _).mono ?_; rintro e w' ⟨rfl, rfl⟩) | (go_at_call 90; refine (HL.out j hlt _).mono ?_; rintro e w' ⟨rfl, rfl⟩))
            exact bodyPost_ret (v := oneV (.err 27)) (by simp [results, Tryz.results93, go_sem, oneV]) rfl ⟨by rw [HF.out], (Turned.refl _ _).alloc _⟩
          · by_cases hC : clsI (s[j].toNat : Int) = 3
            · have HF : Hid (numT s k = .err 27) := HE.out (.inr (.inr (by rw [HHd.out]; have hjd := HJD.out; subst hjd; exact ⟨hlt, hC⟩)))
              clear hd
              by_cases hB1 : 1 < d
              · have hB2 : (1 : Int) < d := by omega
                have kB : ((s[k].toNat : Int) == 48) = false := by
                  have : s[k].toNat ≠ 48 := fun h => hB ⟨hB1, UInt8.toNat_inj.1 h⟩
                  simp; omega
                clear hB
                go_wp2_with (first | (go_at_call 92; refine (HD.out j hlt _).mono ?_; rintro e w' ⟨rfl, rfl⟩) | (go_at_call 90; refine (HL.out j hlt _).mono ?_; rintro e w' ⟨rfl, rfl⟩))
                exact bodyPost_ret (v := oneV (.err 27)) (by simp [results, Tryz.results93, go_sem, oneV]) rfl ⟨by rw [HF.out], (Turned.refl _ _).alloc _⟩
              · have hB2 : (d : Int) ≤ 1 := by omega
                clear hB
                go_wp2_with (first | (go_at_call 92; refine (HD.out j hlt _).mono ?_; rintro e w' ⟨rfl, rfl⟩) | (go_at_call 90; refine (HL.out j hlt _).mono ?_; rintro e w' ⟨rfl, rfl⟩))
                exact bodyPost_ret (v := oneV (.err 27)) (by simp [results, Tryz.results93, go_sem, oneV]) rfl ⟨by rw [HF.out], (Turned.refl _ _).alloc _⟩
            · have HF : Hid (numT s k = .tok ⟨2, k, ⟨#[]⟩, valL 0 ((rest s k).take (j - k))⟩ j) := by
                have := HO.out (by omega) (by rw [HHd.out]; exact hB) (by rw [HHd.out]; have hjd := HJD.out; subst hjd; exact fun _ => hC)
                show _ = _
                rw [this, HHd.out, show j - k = d by omega, HJD.out]
              clear hd
              by_cases hB1 : 1 < d
              · have hB2 : (1 : Int) < d := by omega
                have kB : ((s[k].toNat : Int) == 48) = false := by
                  have : s[k].toNat ≠ 48 := fun h => hB ⟨hB1, UInt8.toNat_inj.1 h⟩
                  simp; omega
                clear hB
                go_wp2_with (first | (go_at_call 92; refine (HD.out j hlt _).mono ?_; rintro e w' ⟨rfl, rfl⟩) | (go_at_call 90; refine (HL.out j hlt _).mono ?_; rintro e w' ⟨rfl, rfl⟩))
                go_loop [6, 7] (fun v u => ∃ i : Nat, k ≤ i ∧ i ≤ j ∧ u = (.int .i64 i) ∧ v = (.int .i64 ((valL 0 ((rest s k).take (i - k)) : Nat)))) (fun _ u => j - (intOf u).toNat)
                case atStart => exact ⟨k, Nat.le_refl _, by omega, rfl, by rw [Nat.sub_self]; rfl⟩
                case round =>
                  obtain ⟨i, hi1, hi2, rfl, rfl⟩ := hrel
                  by_cases hlt2 : i < j
                  · have his : i < s.size := by omega
                    obtain ⟨hV1, hV2, hV3⟩ := num_step hk hi1 his (by omega) HA2.out
                    have hsc : (48 : Int) ≤ (s[i].toNat : Int) ∧ (s[i].toNat : Int) ≤ 57 := by omega
                    have hV4 : valL 0 ((rest s k).take (i - k)) < 1000000000000000 := Nat.lt_of_lt_of_le hV2 (pow_bound (by omega))
                    generalize hV : valL 0 ((rest s k).take (i - k)) = V at hV1 hV4
                    have hw1 : IntKind.i64.wrap (10 * (V : Int)) = 10 * (V : Int) := IntWalk.i64_in _ (by omega)
                    have hw2 : IntKind.u8.wrap ((s[i].toNat : Int) - 48) = (s[i].toNat : Int) - 48 := IntWalk.u8_in _ (by omega)
                    have hw3 : IntKind.i64.wrap (10 * (V : Int) + ((s[i].toNat : Int) - 48)) = 10 * (V : Int) + ((s[i].toNat : Int) - 48) := IntWalk.i64_in _ (by omega)
                    go_wp2
                    go_round
                    case rel => exact ⟨i + 1, by omega, by omega, by go_num, by rw [hV1]; congr 1; omega⟩
                    case measure => simp [intOf]; omega
                  · obtain rfl : i = j := by omega
                    go_wp2
                    exact bodyPost_ret (v := oneV (.tok ⟨2, k, ⟨#[]⟩, valL 0 ((rest s k).take (i - k))⟩ i)) (by simp [results, Tryz.results93, go_sem, oneV]) rfl ⟨by rw [HF.out], (Turned.refl _ _).alloc _⟩
              · have hB2 : (d : Int) ≤ 1 := by omega
                clear hB
                go_wp2_with (first | (go_at_call 92; refine (HD.out j hlt _).mono ?_; rintro e w' ⟨rfl, rfl⟩) | (go_at_call 90; refine (HL.out j hlt _).mono ?_; rintro e w' ⟨rfl, rfl⟩))
                go_loop [6, 7] (fun v u => ∃ i : Nat, k ≤ i ∧ i ≤ j ∧ u = (.int .i64 i) ∧ v = (.int .i64 ((valL 0 ((rest s k).take (i - k)) : Nat)))) (fun _ u => j - (intOf u).toNat)
                case atStart => exact ⟨k, Nat.le_refl _, by omega, rfl, by rw [Nat.sub_self]; rfl⟩
                case round =>
                  obtain ⟨i, hi1, hi2, rfl, rfl⟩ := hrel
                  by_cases hlt2 : i < j
                  · have his : i < s.size := by omega
                    obtain ⟨hV1, hV2, hV3⟩ := num_step hk hi1 his (by omega) HA2.out
                    have hsc : (48 : Int) ≤ (s[i].toNat : Int) ∧ (s[i].toNat : Int) ≤ 57 := by omega
                    have hV4 : valL 0 ((rest s k).take (i - k)) < 1000000000000000 := Nat.lt_of_lt_of_le hV2 (pow_bound (by omega))
                    generalize hV : valL 0 ((rest s k).take (i - k)) = V at hV1 hV4
                    have hw1 : IntKind.i64.wrap (10 * (V : Int)) = 10 * (V : Int) := IntWalk.i64_in _ (by omega)
                    have hw2 : IntKind.u8.wrap ((s[i].toNat : Int) - 48) = (s[i].toNat : Int) - 48 := IntWalk.u8_in _ (by omega)
                    have hw3 : IntKind.i64.wrap (10 * (V : Int) + ((s[i].toNat : Int) - 48)) = 10 * (V : Int) + ((s[i].toNat : Int) - 48) := IntWalk.i64_in _ (by omega)
                    go_wp2
                    go_round
                    case rel => exact ⟨i + 1, by omega, by omega, by go_num, by rw [hV1]; congr 1; omega⟩
                    case measure => simp [intOf]; omega
                  · obtain rfl : i = j := by omega
                    go_wp2
                    exact bodyPost_ret (v := oneV (.tok ⟨2, k, ⟨#[]⟩, valL 0 ((rest s k).take (i - k))⟩ i)) (by simp [results, Tryz.results93, go_sem, oneV]) rfl ⟨by rw [HF.out], (Turned.refl _ _).alloc _⟩
      · clear hgo
        by_cases hA : 15 < d
        · have HF : Hid (numT s k = .err 27) := HE.out (.inl (by rw [HHd.out]; exact hA))
          have hA2 : (15 : Int) < d := by omega
          clear hd
          go_wp2
          exact bodyPost_ret (v := oneV (.err 27)) (by simp [results, Tryz.results93, go_sem, oneV]) rfl ⟨by rw [HF.out], (Turned.refl _ _).alloc _⟩
        · have hA2 : (d : Int) ≤ 15 := by omega
          by_cases hB : 1 < d ∧ s[k] = 48
          · have HF : Hid (numT s k = .err 27) := HE.out (.inr (.inl (by rw [HHd.out]; exact hB)))
            have hB1 : (1 : Int) < d := by omega
            have kB : ((s[k].toNat : Int) == 48) = true := by rw [hB.2]; rfl
            clear hd hB
            go_wp2
            exact bodyPost_ret (v := oneV (.err 27)) (by simp [results, Tryz.results93, go_sem, oneV]) rfl ⟨by rw [HF.out], (Turned.refl _ _).alloc _⟩
          · have HF : Hid (numT s k = .tok ⟨2, k, ⟨#[]⟩, valL 0 ((rest s k).take (j - k))⟩ j) := by
              have := HO.out (by omega) (by rw [HHd.out]; exact hB) (fun h => by rw [HHd.out] at h; omega)
              show _ = _
              rw [this, HHd.out, show j - k = d by omega, HJD.out]
            clear hd
            by_cases hB1 : 1 < d
            · have hB2 : (1 : Int) < d := by omega
              have kB : ((s[k].toNat : Int) == 48) = false := by
                have : s[k].toNat ≠ 48 := fun h => hB ⟨hB1, UInt8.toNat_inj.1 h⟩
                simp; omega
              clear hB
              go_wp2
              go_loop [6, 7] (fun v u => ∃ i : Nat, k ≤ i ∧ i ≤ j ∧ u = (.int .i64 i) ∧ v = (.int .i64 ((valL 0 ((rest s k).take (i - k)) : Nat)))) (fun _ u => j - (intOf u).toNat)
              case atStart => exact ⟨k, Nat.le_refl _, by omega, rfl, by rw [Nat.sub_self]; rfl⟩
              case round =>
                obtain ⟨i, hi1, hi2, rfl, rfl⟩ := hrel
                by_cases hlt2 : i < j
                · have his : i < s.size := by omega
                  obtain ⟨hV1, hV2, hV3⟩ := num_step hk hi1 his (by omega) HA2.out
                  have hsc : (48 : Int) ≤ (s[i].toNat : Int) ∧ (s[i].toNat : Int) ≤ 57 := by omega
                  have hV4 : valL 0 ((rest s k).take (i - k)) < 1000000000000000 := Nat.lt_of_lt_of_le hV2 (pow_bound (by omega))
                  generalize hV : valL 0 ((rest s k).take (i - k)) = V at hV1 hV4
                  have hw1 : IntKind.i64.wrap (10 * (V : Int)) = 10 * (V : Int) := IntWalk.i64_in _ (by omega)
                  have hw2 : IntKind.u8.wrap ((s[i].toNat : Int) - 48) = (s[i].toNat : Int) - 48 := IntWalk.u8_in _ (by omega)
                  have hw3 : IntKind.i64.wrap (10 * (V : Int) + ((s[i].toNat : Int) - 48)) = 10 * (V : Int) + ((s[i].toNat : Int) - 48) := IntWalk.i64_in _ (by omega)
                  go_wp2
                  go_round
                  case rel => exact ⟨i + 1, by omega, by omega, by go_num, by rw [hV1]; congr 1; omega⟩
                  case measure => simp [intOf]; omega
                · obtain rfl : i = j := by omega
                  go_wp2
                  exact bodyPost_ret (v := oneV (.tok ⟨2, k, ⟨#[]⟩, valL 0 ((rest s k).take (i - k))⟩ i)) (by simp [results, Tryz.results93, go_sem, oneV]) rfl ⟨by rw [HF.out], (Turned.refl _ _).alloc _⟩
            · have hB2 : (d : Int) ≤ 1 := by omega
              clear hB
              go_wp2
              go_loop [6, 7] (fun v u => ∃ i : Nat, k ≤ i ∧ i ≤ j ∧ u = (.int .i64 i) ∧ v = (.int .i64 ((valL 0 ((rest s k).take (i - k)) : Nat)))) (fun _ u => j - (intOf u).toNat)
              case atStart => exact ⟨k, Nat.le_refl _, by omega, rfl, by rw [Nat.sub_self]; rfl⟩
              case round =>
                obtain ⟨i, hi1, hi2, rfl, rfl⟩ := hrel
                by_cases hlt2 : i < j
                · have his : i < s.size := by omega
                  obtain ⟨hV1, hV2, hV3⟩ := num_step hk hi1 his (by omega) HA2.out
                  have hsc : (48 : Int) ≤ (s[i].toNat : Int) ∧ (s[i].toNat : Int) ≤ 57 := by omega
                  have hV4 : valL 0 ((rest s k).take (i - k)) < 1000000000000000 := Nat.lt_of_lt_of_le hV2 (pow_bound (by omega))
                  generalize hV : valL 0 ((rest s k).take (i - k)) = V at hV1 hV4
                  have hw1 : IntKind.i64.wrap (10 * (V : Int)) = 10 * (V : Int) := IntWalk.i64_in _ (by omega)
                  have hw2 : IntKind.u8.wrap ((s[i].toNat : Int) - 48) = (s[i].toNat : Int) - 48 := IntWalk.u8_in _ (by omega)
                  have hw3 : IntKind.i64.wrap (10 * (V : Int) + ((s[i].toNat : Int) - 48)) = 10 * (V : Int) + ((s[i].toNat : Int) - 48) := IntWalk.i64_in _ (by omega)
                  go_wp2
                  go_round
                  case rel => exact ⟨i + 1, by omega, by omega, by go_num, by rw [hV1]; congr 1; omega⟩
                  case measure => simp [intOf]; omega
                · obtain rfl : i = j := by omega
                  go_wp2
                  exact bodyPost_ret (v := oneV (.tok ⟨2, k, ⟨#[]⟩, valL 0 ((rest s k).take (i - k))⟩ i)) (by simp [results, Tryz.results93, go_sem, oneV]) rfl ⟨by rw [HF.out], (Turned.refl _ _).alloc _⟩
end Go.Proofs.YtjijdgkccfeeaaaGreatDoor
namespace Go.Proofs.YtjijdgkccfeeaaaGreatDoor
open Go Go.Proofs
structure GoodT (t : Tok) : Prop where
  kind : t.kind ≠ 5
  zero : t.kind = 1 ∨ t.kind = 3 ∨ t.kind = 4 → t.n = 0
  none_ : t.kind = 2 → t.s = noB ∧ 0 ≤ t.n ∧ t.n ≤ 999999999999999
theorem good_zero {t : Tok} (h : t.kind = 1 ∨ t.kind = 3 ∨ t.kind = 4) (hn : t.n = 0) : GoodT t := ⟨by omega, fun _ => hn, fun h2 => by omega⟩
theorem text_good (k0 : Nat) (t : Tok) (tt : Nat) (l : List UInt8) (j : Nat) (b : List UInt8) (h : textL k0 l j b = .tok t tt) : GoodT t := by
  fun_induction textL k0 l j b <;> first | (cases h; exact good_zero (.inr (.inl rfl)) rfl) | simp_all
theorem sign_good (s : ByteArray) (k : Nat) (t : Tok) (tt : Nat) : ∀ l, signL s k l = .tok t tt → GoodT t
  | [], h => by
    unfold signL at h
    split at h
    · cases h; exact good_zero (.inr (.inr rfl)) rfl
    · cases h
  | p :: ps, h => by
    unfold signL at h
    split at h
    · cases h; exact good_zero (.inr (.inr rfl)) rfl
    · exact sign_good s k t tt ps h
theorem next_good {s : ByteArray} {k : Nat} {t : Tok} {tt : Nat} (hk : k < s.size) (h : nextT s k = .tok t tt) : GoodT t := by
  have hm := firstT_mem _ h
  simp only [List.mem_cons, List.not_mem_nil, or_false] at hm
  rcases hm with hm | hm | hm | hm
  · unfold nameT at hm
    split at hm
    · cases hm
    · split at hm
      · cases hm
      · cases hm; exact good_zero (.inl rfl) rfl
  · by_cases hc : cls s[k] = 2
    · by_cases h1 : digL (rest s k) ≤ 15
      · by_cases h2 : 1 < digL (rest s k) ∧ s[k] = 48
        · rw [num_err hk hc (.inr (.inl h2))] at hm; cases hm
        · by_cases h3 : ∀ h : k + digL (rest s k) < s.size, cls s[k + digL (rest s k)] ≠ 3
          · rw [num_ok hk hc h1 h2 h3] at hm
            cases hm
            refine ⟨by simp, fun h => by simp at h, fun _ => ⟨rfl, by simp, ?_⟩⟩
            have h4 := valL_lt ((rest s k).take (digL (rest s k))) 0 (digL_all (rest s k))
            have h5 := pow_bound h1
            rw [List.length_take, Nat.min_eq_left (digL_le (rest s k))] at h4
            simp only
            omega
          · have h3 : ∃ h : k + digL (rest s k) < s.size, cls s[k + digL (rest s k)] = 3 := by
              refine Classical.byContradiction fun hn => h3 fun h4 h5 => hn ⟨h4, h5⟩
            rw [num_err hk hc (.inr (.inr h3))] at hm; cases hm
      · rw [num_err hk hc (.inl (by omega))] at hm; cases hm
    · unfold numT at hm
      rw [rest_head s k hk, if_pos (by simpa [cls] using hc)] at hm
      cases hm
  · unfold textT at hm
    split at hm
    · cases hm
    · exact text_good _ _ _ _ _ _ hm.symm
  · exact sign_good s k t tt _ hm.symm
theorem lexF_good (s : ByteArray) : ∀ (f k : Nat) (ts out : List Tok), lexF s f k ts = .ok out → (∀ t ∈ ts, GoodT t) → ts.length ≤ k → k ≤ s.size → ∃ us, out = us ++ [endTok s] ∧ (∀ t ∈ us, GoodT t) ∧ us.length ≤ s.size
  | 0, k, ts, out, h, _, _, _ => by simp [lexF] at h
  | f + 1, k, ts, out, h, hg, hl, hk => by
    unfold lexF at h
    split at h
    · rename_i hlt
      cases hT : nextT s k with
      | none => rw [hT] at h; cases h
      | err d => rw [hT] at h; cases h
      | tok t tt =>
        rw [hT] at h
        obtain ⟨h1, h2⟩ := next_fits hlt hT
        have h3 := blankTo_ge s tt
        refine lexF_good s f _ _ out h (fun u hu => ?_) (by simp; omega) (blankTo_le s tt h2)
        rcases List.mem_append.1 hu with hu | hu
        · exact hg u hu
        · obtain rfl : u = t := by simpa using hu
          exact next_good hlt hT
    · cases h
      exact ⟨ts, rfl, hg, by omega⟩
theorem tokens_good {s : ByteArray} {ts : List Tok} (h : tokensP s = .ok ts) : TokOK ts ∧ 0 < ts.length ∧ ∃ us, ts = us ++ [endTok s] ∧ (∀ t ∈ us, GoodT t) ∧ us.length ≤ s.size := by
  unfold tokensP at h
  split at h
  · cases h
  · rename_i hs
    obtain ⟨us, rfl, hg, hl⟩ := lexF_good s _ _ _ _ h (by simp) (by simp) (blankTo_le s 0 (by omega))
    refine ⟨⟨fun k t ht h5 => ?_, fun k t ht hk => ?_, fun k t ht hk => ?_, by simp; omega⟩, by simp, us, rfl, hg, hl⟩
    · rcases Nat.lt_or_ge k us.length with h1 | h1
      · simp; omega
      · rw [List.getElem?_append_right h1] at ht
        have h2 := List.mem_of_getElem? ht
        simp at h2
        rw [h2] at h5
        exact absurd rfl h5
    · rcases Nat.lt_or_ge k us.length with h1 | h1
      · rw [List.getElem?_append_left h1] at ht
        exact (hg t (List.mem_of_getElem? ht)).zero hk
      · rw [List.getElem?_append_right h1] at ht
        have h2 := List.mem_of_getElem? ht
        simp at h2
        rw [h2]; rfl
    · rcases Nat.lt_or_ge k us.length with h1 | h1
      · rw [List.getElem?_append_left h1] at ht
        exact (hg t (List.mem_of_getElem? ht)).none_ hk
      · rw [List.getElem?_append_right h1] at ht
        have h2 := List.mem_of_getElem? ht
        simp at h2
        rw [h2] at hk
        simp [endTok] at hk
theorem lexF_err0 (s : ByteArray) : ∀ (f k : Nat) (ts : List Tok) (p : Nat) (c : Int), lexF s f k ts = .err p c → c ≠ 0
  | 0, k, ts, p, c, h => by simp only [lexF] at h; cases h; decide
  | f + 1, k, ts, p, c, h => by
    unfold lexF at h
    split at h
    · cases hT : nextT s k with
      | none => rw [hT] at h; cases h; decide
      | err d => rw [hT] at h; cases h; exact next_errs hT
      | tok t tt => rw [hT] at h; exact lexF_err0 s f _ _ p c h
    · cases h
theorem tokens_err0 {s : ByteArray} {p : Nat} {c : Int} (h : tokensP s = .err p c) : c ≠ 0 := by
  unfold tokensP at h
  split at h
  · cases h; decide
  · exact lexF_err0 _ _ _ _ _ _ h
end Go.Proofs.YtjijdgkccfeeaaaGreatDoor
