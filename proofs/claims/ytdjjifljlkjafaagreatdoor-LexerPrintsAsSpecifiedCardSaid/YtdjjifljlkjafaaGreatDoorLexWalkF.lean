/- Walk of the lexer: sign. Conditions: those of each theorem. -/
import Derived.Test.YtdjjifljlkjafaaGreatDoorLexWalkD
namespace Go.Proofs.YtdjjifljlkjafaaGreatDoor
open Go Go.Proofs Go.RowKit
attribute [local go_sem] Oper.semAt_some

/-- the signs of two bytes, in the order of the search -/
def pairs : List (List UInt8) := [[45, 62], [58, 61], [61, 61], [33, 61], [60, 61], [62, 61], [38, 38], [124, 124], [46, 46]]
def pairText : ByteArray := ⟨#[45, 62, 32, 58, 61, 32, 61, 61, 32, 33, 61, 32, 60, 61, 32, 62, 61, 32, 38, 38, 32, 124, 124, 32, 46, 46]⟩
def signText : ByteArray := ⟨#[40, 41, 123, 125, 91, 93, 44, 59, 58, 46, 43, 45, 42, 47, 37, 60, 62, 61, 33, 38, 124, 64, 63, 94, 126]⟩
theorem fields_pairs : Lib.fields pairText.data.toList = pairs := by decide
/-- what 'sign' finds, with the pairs that are left -/
def signL (s : ByteArray) (k : Nat) : List (List UInt8) → TR
  | [] => if 0 ≤ Lib.indexByte signText.data.toList (rest s k)[0]! then .tok ⟨4, k, ⟨#[(rest s k)[0]!]⟩, 0⟩ (k + 1) else .none
  | p :: ps => if Lib.hasPrefix (rest s k) p then .tok ⟨4, k, ⟨p.toArray⟩, 0⟩ (k + 2) else signL s k ps
def signT (s : ByteArray) (k : Nat) : TR := signL s k pairs
def pairAt (j : Nat) : List UInt8 := pairs[j]!
theorem pairs_drop (j : Nat) (h : j < 9) : pairs.drop j = pairAt j :: pairs.drop (j + 1) := by
  have : ∀ j : Fin 9, pairs.drop j.1 = pairAt j.1 :: pairs.drop (j.1 + 1) := by decide
  exact this ⟨j, h⟩
theorem pairAt_len (j : Nat) (h : j < 9) : (pairAt j).length = 2 := by
  have : ∀ j : Fin 9, (pairAt j.1).length = 2 := by decide
  exact this ⟨j, h⟩
theorem pair_fits {s : ByteArray} {k j : Nat} (h : j < 9) (hp : Lib.hasPrefix (rest s k) (pairAt j) = true) : k + 2 ≤ s.size := by
  have h1 := (List.isPrefixOf_iff_prefix.1 hp).length_le
  rw [pairAt_len j h, rest_len] at h1
  omega
def pairCells : Array Value := (pairs.map fun l => Value.string ⟨l.toArray⟩).toArray
theorem pairCells_at (j : Nat) (h : j < 9) : pairCells[j]? = some (.string ⟨(pairAt j).toArray⟩) := by
  have : ∀ j : Nat, j < 9 → pairCells[j]? = some (.string ⟨(pairAt j).toArray⟩) := by
    intro j hj
    match j, hj with
    | 0, _ => rfl
    | 1, _ => rfl
    | 2, _ => rfl
    | 3, _ => rfl
    | 4, _ => rfl
    | 5, _ => rfl
    | 6, _ => rfl
    | 7, _ => rfl
    | 8, _ => rfl
  exact this j h
theorem fields_any (w : World) (n : Nat) (hv : Vars n w) : Calls Tryz.prog 51 #[.string pairText] w fun e w' => e = .returned (.slice (some ⟨w.heap.size, 0, none⟩) 9 9) ∧ w' = w.alloc (.cells pairCells 9) := by
  have h := Tryz.strings_Fields pairText w (by decide) (fun j b hj => by
    have : ∀ b ∈ pairText.data.toList, b.toNat < 128 := by decide
    exact this b (List.mem_of_getElem? hj)) hv.tab.1
  rw [fields_pairs] at h
  exact h
theorem head_str (s : ByteArray) (k : Nat) (hk : k < s.size) : (s.extract k s.size).extract 0 1 = ⟨#[s[k]]⟩ := by
  apply ByteArray.ext
  apply Array.ext
  · simp; omega
  · intro i h1 h2
    simp at h2
    subst h2
    simp
    rfl
set_option maxRecDepth 20000 in
set_option maxHeartbeats 2000000 in
theorem sign_any (B base : Nat) (s : ByteArray) (k : Nat) (v : Value) (ts : List Tok) (w : World) (h : At w B base s k v ts) (hs : s.size ≤ 65536) (hk : k < s.size) :
    Calls Tryz.prog 35 #[.pointer (some ⟨B, 0, none⟩)] w (Took w B base s v k ts (signT s k)) := by
  obtain ⟨c0, c1, c2⟩ := h.rd.cells
  have H := Lib.hid h
  clear h
  have HFi := Lib.hid (fun (W : World) (ht : Turned (fun _ => False) w W) => fields_any W B (H.out.same ht).vars)
  go_enter Tryz.func35, Tryz.ntmps35
  go_wp2_with fail
  go_quiet (fail)
  have hrs : (s.extract k s.size).size = s.size - k := by simp
  have hrl : (s.extract k s.size).data.toList = rest s k := Lib.extract_to_end s k
  have hr1 := head_str s k hk
  generalize s.extract k s.size = rs at hrs hrl hr1 ⊢
  have hr0 : 1 ≤ rs.size := by omega
  have HQ := Lib.hid (fun (p : ByteArray) (W : World) => (Tryz.strings_HasPrefix rs p W).mono fun e w' h => (⟨h.1, h.2.symm⟩ : _ ∧ W = w'))
  have HO := Lib.hid (fun (W : World) => (Tryz.strings_Contains_one signText s[k] W).mono fun e w' h => (⟨h.1, h.2.symm⟩ : _ ∧ W = w'))
  rw [← hr1] at HO
  rw [hrl] at HQ
  clear hrl
  have HT0 : Hid (Turned (fun _ => False) w (w.drewN nq)) := drewN_turned _ _ _
  generalize hN : w.drewN nq = W at HT0 ⊢
  clear hN
  go_wp2_with (go_at_call 51; refine (HFi.out _ HT0.out).mono ?_; rintro e w' ⟨rfl, rfl⟩)
  have hcell : ∀ j : Nat, j < 9 → (W.alloc (.cells pairCells 9)).cell? ⟨W.heap.size, j, none⟩ = some (.string ⟨(pairAt j).toArray⟩) := fun j hj => by
    have : (W.alloc (.cells pairCells 9)).heap[W.heap.size]? = some (.cells pairCells 9 (0, 0)) := Array.getElem?_push_size
    unfold World.cell?
    rw [this]
    exact pairCells_at j hj
  have HT : Hid (Turned (fun _ => False) w (W.alloc (.cells pairCells 9))) := HT0.out.alloc _
  have hNs : W.heap.size < (W.alloc (.cells pairCells 9)).heap.size := by simp
  generalize W.alloc (.cells pairCells 9) = W1 at hcell HT hNs ⊢
  generalize W.heap.size = N at hcell hNs ⊢
  obtain ⟨d0, d1, d2⟩ := (H.out.same HT.out).rd.cells
  clear c0 c1 c2 HT0 HFi
  go_loop [18] (fun u => ∃ j : Nat, j ≤ 9 ∧ u = (.int .i64 j) ∧ Hid (signL s k (pairs.drop j) = signT s k)) (fun u => 9 - (intOf u).toNat)
  case atStart => exact ⟨0, by omega, rfl, rfl⟩
  case round =>
    obtain ⟨j, hj, rfl, HJ⟩ := hrel
    by_cases hj9 : j < 9
    · have dc := hcell j hj9
      have HD : Hid (signT s k = if Lib.hasPrefix (rest s k) (pairAt j) then .tok ⟨4, k, ⟨(pairAt j).toArray⟩, 0⟩ (k + 2) else signL s k (pairs.drop (j + 1))) := by
        show _ = _
        rw [← HJ.out, pairs_drop j hj9]; rfl
      by_cases hp : Lib.hasPrefix (rest s k) (pairAt j) = true
      · have hfit := pair_fits hj9 hp
        have HF : Hid (signT s k = .tok ⟨4, k, ⟨(pairAt j).toArray⟩, 0⟩ (k + 2)) := by show _ = _; rw [HD.out, if_pos hp]
        have HP := Lib.hid (put_at (H.out.same HT.out) 4 0 ⟨(pairAt j).toArray⟩ (k + 2) (by omega) (by omega) ((k : Int) + 2) (by omega))
        have HX : Hid (∀ W, Calls Tryz.prog 52 #[.string rs, .string ⟨(pairAt j).toArray⟩] W fun e w' => e = .returned (.bool true) ∧ W = w') := fun W => by
          have := HQ.out ⟨(pairAt j).toArray⟩ W
          simpa [hp] using this
        clear hp
        go_wp2_with (first | (go_at_call 52; refine (HX.out _).mono ?_; rintro e w' ⟨rfl, rfl⟩) | (go_at_call 22; refine (HP.out.mono ?_); rintro e w6 ⟨rfl, HQ2⟩; have HQ2 := Lib.hid HQ2))
        refine bodyPost_ret (results_tmp2 rfl _ _ _) rfl ?_
        rw [HF.out]
        obtain ⟨v', q1, q2⟩ := HQ2.out
        exact ⟨rfl, v', q1, (Moved.of HT.out).trans q2⟩
      · have hp' : Lib.hasPrefix (rest s k) (pairAt j) = false := by simpa using hp
        have HE : Hid (signL s k (pairs.drop (j + 1)) = signT s k) := by show _ = _; rw [HD.out, if_neg hp]
        have HX : Hid (∀ W, Calls Tryz.prog 52 #[.string rs, .string ⟨(pairAt j).toArray⟩] W fun e w' => e = .returned (.bool false) ∧ W = w') := fun W => by
          have := HQ.out ⟨(pairAt j).toArray⟩ W
          simpa [hp'] using this
        clear hp hp'
        go_wp2_with (go_at_call 52; refine (HX.out _).mono ?_; rintro e w' ⟨rfl, rfl⟩)
        go_round
        case rel => exact ⟨j + 1, by omega, by go_num, HE⟩
        case measure => simp [intOf]; omega
    · obtain rfl : j = 9 := by omega
      have HD : Hid (signT s k = if 0 ≤ Lib.indexByte signText.data.toList s[k] then .tok ⟨4, k, ⟨#[s[k]]⟩, 0⟩ (k + 1) else .none) := by
        show _ = _
        rw [← HJ.out]
        show signL s k [] = _
        unfold signL
        rw [rest_head s k hk]
        rfl
      by_cases hc : 0 ≤ Lib.indexByte signText.data.toList s[k]
      · have HF : Hid (signT s k = .tok ⟨4, k, ⟨#[s[k]]⟩, 0⟩ (k + 1)) := by show _ = _; rw [HD.out, if_pos hc]
        have HX : Hid (∀ W, Calls Tryz.prog 53 #[.string signText, .string (rs.extract 0 1)] W fun e w' => e = .returned (.bool true) ∧ W = w') := fun W => by simpa [hc] using HO.out W
        have HP : Hid (∀ W, Turned (fun _ => False) w W → Calls Tryz.prog 22 #[.pointer (some ⟨B, 0, none⟩), (.int .i64 4), (.int .i64 ((k : Int) + 1)), .string (rs.extract 0 1), (.int .i64 0)] W (PutR W B base s (k + 1) (ts ++ [Tok.mk 4 k ⟨#[s[k]]⟩ 0]))) := fun W ht => by
          have := put_at (H.out.same ht) 4 0 ⟨#[s[k]]⟩ (k + 1) (by omega) (by omega) ((k : Int) + 1) (by omega)
          rw [← hr1] at this ⊢
          exact this
        clear hc hr1
        go_wp2_with (go_at_call 53; refine (HX.out _).mono ?_; rintro e w' ⟨rfl, rfl⟩)
        refine region_tail HT.out 8 (by kernel_rfl) (by kernel_rfl) (fun V hT => ?_)
        obtain ⟨e0, e1, e2⟩ := (H.out.same hT).rd.cells
        have HV := Lib.hid (HP.out V hT)
        have HT2 := Lib.hid hT
        clear hT
        simp only [List.take_succ_cons, List.take_zero, List.drop_succ_cons, List.drop_zero]
        have hw : IntKind.i64.wrap ((k : Int) + 1) = (k : Int) + 1 := IntWalk.i64_in _ (by omega)
        have hx : (1 : Int) ≤ ((s.size - k : Nat) : Int) := by omega
        repeat still_step
        refine wpStill_nil ?_
        go_wp2_with (go_at_call 22; refine (HV.out.mono ?_); rintro e w6 ⟨rfl, HQ2⟩; have HQ2 := Lib.hid HQ2)
        refine bodyPost_ret (results_tmp2 rfl _ _ _) rfl ?_
        rw [HF.out]
        obtain ⟨v', q1, q2⟩ := HQ2.out
        exact ⟨rfl, v', q1, (Moved.of HT2.out).trans q2⟩
      · have HF : Hid (signT s k = .none) := by show _ = _; rw [HD.out, if_neg hc]
        have HX : Hid (∀ W, Calls Tryz.prog 53 #[.string signText, .string (rs.extract 0 1)] W fun e w' => e = .returned (.bool false) ∧ W = w') := fun W => by simpa [hc] using HO.out W
        clear hc hr1
        go_wp2_with (go_at_call 53; refine (HX.out _).mono ?_; rintro e w' ⟨rfl, rfl⟩)
        refine bodyPost_ret (results_tmp2 rfl _ _ _) rfl ?_
        rw [HF.out]
        exact ⟨rfl, H.out.same HT.out, Moved.of HT.out⟩
end Go.Proofs.YtdjjifljlkjafaaGreatDoor
