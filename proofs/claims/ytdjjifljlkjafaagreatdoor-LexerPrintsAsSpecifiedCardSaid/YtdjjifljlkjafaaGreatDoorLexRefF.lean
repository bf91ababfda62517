/- Walk of the specification's lexer: token. Conditions: those of each theorem. -/
import Derived.Test.YtdjjifljlkjafaaGreatDoorLexRefC
import Derived.Test.YtdjjifljlkjafaaGreatDoorLexRefE
namespace Go.Proofs.YtdjjifljlkjafaaGreatDoor
open Go Go.Proofs Go.RowKit
attribute [local go_sem] Oper.semAt_some

theorem idx_mem (l : List UInt8) (c : UInt8) : 0 ≤ Lib.indexByte l c ↔ c ∈ l := by
  rcases indexByte_spec c l with ⟨h1, h2⟩ | ⟨n, h1, h2, h3⟩
  · rw [h1]
    constructor
    · intro h; omega
    · intro h; exact absurd rfl (h2 c h)
  · rw [h1]
    exact ⟨fun _ => List.mem_of_getElem? h2, fun _ => by omega⟩
theorem has_take {l p : List UInt8} (hp : p.length = 2) : Lib.hasPrefix l p = true ↔ l.take 2 = p := by
  unfold Lib.hasPrefix
  rw [List.isPrefixOf_iff_prefix, List.prefix_iff_eq_take, hp]
  exact eq_comm
theorem sgn_pairs (l : List UInt8) : ∀ ps : List (List UInt8), (∀ p ∈ ps, p.length = 2) → sgnL l ps = if l.take 2 ∈ ps then .tok ⟨4, 0, ⟨(l.take 2).toArray⟩, 0⟩ 2 else sgnL l []
  | [], _ => by simp
  | p :: ps, h => by
    have hp := h p (List.mem_cons_self ..)
    conv => lhs; unfold sgnL
    rw [sgn_pairs l ps fun q hq => h q (List.mem_cons_of_mem _ hq)]
    by_cases h1 : l.take 2 = p
    · rw [if_pos ((has_take hp).2 h1), if_pos (by rw [h1]; exact List.mem_cons_self ..), h1]
    · rw [if_neg (fun h2 => h1 ((has_take hp).1 h2))]
      by_cases h2 : l.take 2 ∈ ps
      · rw [if_pos h2, if_pos (List.mem_cons_of_mem _ h2)]
      · rw [if_neg h2, if_neg (by simp [h1, h2])]
theorem next_sign {s : ByteArray} {k : Nat} (hk : k < s.size) (h : clsI s[k].toNat < 2) (h2 : s[k] ≠ 34) : nextT s k = if signOf (rest s k) = [] then .err 26 else .tok ⟨4, k, ⟨(signOf (rest s k)).toArray⟩, 0⟩ (k + (signOf (rest s k)).length) := by
  rw [next_head s k hk, rest_cons s k hk, head_sign h h2, sgn_pairs _ pairs pairs_len]
  generalize hl : s[k] :: rest s (k + 1) = l
  have hn : 1 ≤ l.length := by rw [← hl]; simp
  have hh : l[0]! = s[k] := by rw [← hl]; rfl
  have ht : l.take 1 = [s[k]] := by rw [← hl]; rfl
  by_cases h3 : l.take 2 ∈ pairs
  · have h4 : (l.take 2).length = 2 := pairs_len _ h3
    have h5 : 2 ≤ l.length := by rw [List.length_take] at h4; omega
    have hS : signOf l = l.take 2 := by unfold signOf; rw [if_pos ⟨h5, h3⟩]
    rw [if_pos h3, hS, if_neg (by intro h6; rw [h6] at h4; simp at h4), h4]
    simp [orChar, TR.shift, Tok.shift, Nat.add_comm]
  · rw [if_neg h3]
    by_cases h6 : s[k] ∈ signText.data.toList
    · have h7 : [s[k]] ∈ shorts := List.mem_map.2 ⟨_, h6, rfl⟩
      have hS : signOf l = [s[k]] := by unfold signOf; rw [if_neg (fun h => h3 h.2), ht, if_pos ⟨hn, h7⟩]
      have hG : sgnL l [] = .tok ⟨4, 0, ⟨#[l[0]!]⟩, 0⟩ 1 := if_pos ((idx_mem _ _).2 (hh ▸ h6))
      rw [hG, hS, hh, if_neg (by simp)]
      simp [orChar, TR.shift, Tok.shift, Nat.add_comm]
    · have h7 : ¬ [s[k]] ∈ shorts := fun h8 => by
        obtain ⟨b, hb, hb2⟩ := List.mem_map.1 h8
        simp at hb2
        exact h6 (hb2 ▸ hb)
      have hS : signOf l = [] := by unfold signOf; rw [if_neg (fun h => h3 h.2), ht, if_neg (fun h => h7 h.2)]
      have hG : sgnL l [] = .none := if_neg (fun h => h6 (hh ▸ (idx_mem _ _).1 h))
      rw [hG, hS, if_pos rfl]
      rfl
theorem nameT_none {s : ByteArray} {k : Nat} (hk : k < s.size) (h : clsI s[k].toNat ≠ 3) : nameT s k = .none := by
  unfold nameT; rw [rest_head s k hk, if_pos h]
theorem numT_none {s : ByteArray} {k : Nat} (hk : k < s.size) (h : clsI s[k].toNat ≠ 2) : numT s k = .none := by
  unfold numT; rw [rest_head s k hk, if_pos h]
theorem next_name {s : ByteArray} {k : Nat} (hk : k < s.size) (h : clsI s[k].toNat = 3) : nextT s k = nameT s k ∧ nameT s k ≠ .none := by
  have : nameT s k ≠ .none := by
    unfold nameT; rw [rest_head s k hk, if_neg (by simpa using h)]; split <;> simp
  refine ⟨?_, this⟩
  unfold nextT
  generalize nameT s k = r at this ⊢
  cases r <;> simp_all [firstT]
theorem next_num {s : ByteArray} {k : Nat} (hk : k < s.size) (h : clsI s[k].toNat = 2) : nextT s k = numT s k ∧ numT s k ≠ .none := by
  have : numT s k ≠ .none := by
    unfold numT; rw [rest_head s k hk, if_neg (by simpa using h)]; exact numOf_some _ _ _
  refine ⟨?_, this⟩
  unfold nextT
  rw [nameT_none hk (by omega)]
  generalize numT s k = r at this ⊢
  cases r <;> simp_all [firstT]
theorem next_text {s : ByteArray} {k : Nat} (hk : k < s.size) (h : s[k] = 34) : nextT s k = textT s k ∧ textT s k ≠ .none := by
  have : textT s k ≠ .none := by
    unfold textT; rw [rest_head s k hk, if_neg (by simpa using h)]; exact textL_some _ _ _ _
  refine ⟨?_, this⟩
  unfold nextT
  rw [nameT_none hk (by rw [h]; decide), numT_none hk (by rw [h]; decide)]
  generalize textT s k = r at this ⊢
  cases r <;> simp_all [firstT]
theorem results_rtoken (tmps : Array Value) (w : World) (g : Nat) (a b c d e f : Value) (hp : tmps.getD 4 undef = .pointer (some ⟨g, 0, none⟩)) (hg : w.heap[g]? = some (.cells #[a, b, c, d, e, f] 55 (0, 0))) :
    (results Tryz.f23 tmps).run Tryz.prog w = .ok (.agg #[a, b, c, d, e, f]) w :=
  results_cell_row (fn := Tryz.f23) rfl tmps w g 55 #[a, b, c, d, e, f] (0, 0) _ hp hg Tryz.underlying55 rfl one_size
theorem str_nil (l : List UInt8) : (ByteArray.mk l.toArray).toList.isEmpty = decide (l = []) := by
  rw [Bool.eq_iff_iff]
  simp [ByteArray.toList_eq]
set_option maxRecDepth 20000 in
set_option maxHeartbeats 4000000 in
theorem rtoken_any (s : ByteArray) (k : Nat) (w : World) (hs : s.size ≤ 65536) (hk : k < s.size) : Calls Tryz.prog 23 #[.string s, (.int .i64 k)] w fun e w' => e = .returned (oneV (nextT s k)) ∧ Turned (fun _ => False) w w' := by
  have hb : (s[k].toNat : Int) ≤ 255 := by have := s[k].toNat_lt; omega
  have HL := Lib.hid (fun W => rletter_any (s[k].toNat : Int) W (by omega) hb)
  have HD := Lib.hid (fun W => rdigit_any (s[k].toNat : Int) W (by omega) hb)
  obtain ⟨w1, hw1⟩ : ∃ w1, w1 = w.alloc (.cells #[(.int .i64 0), (.int .i64 0), .string ⟨#[]⟩, (.int .i64 0), (.int .i64 0), (.int .i64 0)] 55) := ⟨_, rfl⟩
  have HB : Hid (w1.heap[w.heap.size]? = some (.cells #[(.int .i64 0), (.int .i64 0), .string ⟨#[]⟩, (.int .i64 0), (.int .i64 0), (.int .i64 0)] 55 (0, 0))) := by show _ = _; rw [hw1]; exact heap_alloc_new _ _
  have HT : Hid (Turned (fun i => w.heap.size ≤ i) w w1) := by rw [hw1]; exact (Turned.refl _ _).alloc _
  have HX : Hid (∀ X, Turned (fun _ => False) w1 X → X.heap[w.heap.size]? = some (.cells #[(.int .i64 0), (.int .i64 0), .string ⟨#[]⟩, (.int .i64 0), (.int .i64 0), (.int .i64 0)] 55 (0, 0)) ∧ Turned (fun i => w.heap.size ≤ i) w X) := fun X hX => by
    have hw1s : w1.heap.size = w.heap.size + 1 := by rw [hw1]; simp
    exact ⟨(hX.block _ (by omega) id).trans HB.out, HT.out.trans (hX.mono fun _ h => h.elim)⟩
  have HE : Hid (w.alloc (.cells #[(.int .i64 0), (.int .i64 0), .string ⟨#[]⟩, (.int .i64 0), (.int .i64 0), (.int .i64 0)] 55) = w1) := hw1.symm
  clear hw1 hb
  go_enter Tryz.func23, Tryz.ntmps23
  by_cases h3 : clsI s[k].toNat = 3
  · have HN := Lib.hid (rname_any s k w1 (by omega) hk h3)
    obtain ⟨e1, e2⟩ := next_name hk h3
    have HF : Hid (nextT s k = nameT s k) := e1
    cases hT : nameT s k with
    | none => exact absurd hT e2
    | err c =>
      have HU := Lib.hid hT
      rw [hT] at HN
      clear e1 e2 hT
      go_wp2_with (first | (go_at_call 36; refine (HL.out _).mono ?_; rintro e w' ⟨rfl, rfl⟩) | (go_at_call 38; refine (HD.out _).mono ?_; rintro e w' ⟨rfl, rfl⟩))
      rw [HE.out]
      refine HN.out.mono ?_
      rintro e X ⟨rfl, ht⟩
      obtain ⟨hB, ht2⟩ := HX.out X ht
      obtain ⟨x0, x1, x2, x3, x4, x5⟩ := six_cells hB
      have xf := six_free hB
      have HB2 := Lib.hid hB
      have HT2 := Lib.hid ht2
      clear ht hB ht2
      simp only [oneV]
      go_wp2_with fail
      refine bodyPost_ret (results_rtoken _ _ w.heap.size _ _ _ _ _ _ rfl (six_set HB2.out)) rfl ?_
      rw [HF.out, HU.out]
      exact ⟨rfl, (six_turned HT2.out (Nat.le_refl _)).strip⟩
    | tok t tt =>
      have HU := Lib.hid hT
      rw [hT] at HN
      clear e1 e2 hT
      go_wp2_with (first | (go_at_call 36; refine (HL.out _).mono ?_; rintro e w' ⟨rfl, rfl⟩) | (go_at_call 38; refine (HD.out _).mono ?_; rintro e w' ⟨rfl, rfl⟩))
      rw [HE.out]
      refine HN.out.mono ?_
      rintro e X ⟨rfl, ht⟩
      obtain ⟨hB, ht2⟩ := HX.out X ht
      obtain ⟨x0, x1, x2, x3, x4, x5⟩ := six_cells hB
      have xf := six_free hB
      have HB2 := Lib.hid hB
      have HT2 := Lib.hid ht2
      clear ht hB ht2
      simp only [oneV]
      go_wp2_with fail
      refine bodyPost_ret (results_rtoken _ _ w.heap.size _ _ _ _ _ _ rfl (six_set HB2.out)) rfl ?_
      rw [HF.out, HU.out]
      exact ⟨rfl, (six_turned HT2.out (Nat.le_refl _)).strip⟩
  by_cases h2 : clsI s[k].toNat = 2
  · have HN := Lib.hid (rnumber_any s k w1 (by omega) hk h2)
    obtain ⟨e1, e2⟩ := next_num hk h2
    have HF : Hid (nextT s k = numT s k) := e1
    cases hT : numT s k with
    | none => exact absurd hT e2
    | err c =>
      have HU := Lib.hid hT
      rw [hT] at HN
      clear e1 e2 hT
      go_wp2_with (first | (go_at_call 36; refine (HL.out _).mono ?_; rintro e w' ⟨rfl, rfl⟩) | (go_at_call 38; refine (HD.out _).mono ?_; rintro e w' ⟨rfl, rfl⟩))
      rw [HE.out]
      refine HN.out.mono ?_
      rintro e X ⟨rfl, ht⟩
      obtain ⟨hB, ht2⟩ := HX.out X ht
      obtain ⟨x0, x1, x2, x3, x4, x5⟩ := six_cells hB
      have xf := six_free hB
      have HB2 := Lib.hid hB
      have HT2 := Lib.hid ht2
      clear ht hB ht2
      simp only [oneV]
      go_wp2_with fail
      refine bodyPost_ret (results_rtoken _ _ w.heap.size _ _ _ _ _ _ rfl (six_set HB2.out)) rfl ?_
      rw [HF.out, HU.out]
      exact ⟨rfl, (six_turned HT2.out (Nat.le_refl _)).strip⟩
    | tok t tt =>
      have HU := Lib.hid hT
      rw [hT] at HN
      clear e1 e2 hT
      go_wp2_with (first | (go_at_call 36; refine (HL.out _).mono ?_; rintro e w' ⟨rfl, rfl⟩) | (go_at_call 38; refine (HD.out _).mono ?_; rintro e w' ⟨rfl, rfl⟩))
      rw [HE.out]
      refine HN.out.mono ?_
      rintro e X ⟨rfl, ht⟩
      obtain ⟨hB, ht2⟩ := HX.out X ht
      obtain ⟨x0, x1, x2, x3, x4, x5⟩ := six_cells hB
      have xf := six_free hB
      have HB2 := Lib.hid hB
      have HT2 := Lib.hid ht2
      clear ht hB ht2
      simp only [oneV]
      go_wp2_with fail
      refine bodyPost_ret (results_rtoken _ _ w.heap.size _ _ _ _ _ _ rfl (six_set HB2.out)) rfl ?_
      rw [HF.out, HU.out]
      exact ⟨rfl, (six_turned HT2.out (Nat.le_refl _)).strip⟩
  by_cases h34 : s[k] = 34
  · have k34 : ((s[k].toNat : Int) == 34) = true := by rw [h34]; rfl
    have HN := Lib.hid (rtext_any s k w1 hs hk h34)
    obtain ⟨e1, e2⟩ := next_text hk h34
    have HF : Hid (nextT s k = textT s k) := e1
    cases hT : textT s k with
    | none => exact absurd hT e2
    | err c =>
      have HU := Lib.hid hT
      rw [hT] at HN
      clear e1 e2 hT h34
      go_wp2_with (first | (go_at_call 36; refine (HL.out _).mono ?_; rintro e w' ⟨rfl, rfl⟩) | (go_at_call 38; refine (HD.out _).mono ?_; rintro e w' ⟨rfl, rfl⟩))
      rw [HE.out]
      refine HN.out.mono ?_
      rintro e X ⟨rfl, ht⟩
      obtain ⟨hB, ht2⟩ := HX.out X ht
      obtain ⟨x0, x1, x2, x3, x4, x5⟩ := six_cells hB
      have xf := six_free hB
      have HB2 := Lib.hid hB
      have HT2 := Lib.hid ht2
      clear ht hB ht2
      simp only [oneV]
      go_wp2_with fail
      refine bodyPost_ret (results_rtoken _ _ w.heap.size _ _ _ _ _ _ rfl (six_set HB2.out)) rfl ?_
      rw [HF.out, HU.out]
      exact ⟨rfl, (six_turned HT2.out (Nat.le_refl _)).strip⟩
    | tok t tt =>
      have HU := Lib.hid hT
      rw [hT] at HN
      clear e1 e2 hT h34
      go_wp2_with (first | (go_at_call 36; refine (HL.out _).mono ?_; rintro e w' ⟨rfl, rfl⟩) | (go_at_call 38; refine (HD.out _).mono ?_; rintro e w' ⟨rfl, rfl⟩))
      rw [HE.out]
      refine HN.out.mono ?_
      rintro e X ⟨rfl, ht⟩
      obtain ⟨hB, ht2⟩ := HX.out X ht
      obtain ⟨x0, x1, x2, x3, x4, x5⟩ := six_cells hB
      have xf := six_free hB
      have HB2 := Lib.hid hB
      have HT2 := Lib.hid ht2
      clear ht hB ht2
      simp only [oneV]
      go_wp2_with fail
      refine bodyPost_ret (results_rtoken _ _ w.heap.size _ _ _ _ _ _ rfl (six_set HB2.out)) rfl ?_
      rw [HF.out, HU.out]
      exact ⟨rfl, (six_turned HT2.out (Nat.le_refl _)).strip⟩
  have k34 : ((s[k].toNat : Int) == 34) = false := by
    have : s[k].toNat ≠ 34 := fun h => h34 (UInt8.toNat_inj.1 h)
    simp; omega
  have hlt2 : clsI s[k].toNat < 2 := by have := cls_bd (s[k].toNat : Int); omega
  have HF := Lib.hid (next_sign hk hlt2 h34)
  have hsz : (s.extract k s.size).size = s.size - k := by simp
  have HN := Lib.hid (rsign_any (s.extract k s.size) w1 (by omega))
  rw [show (s.extract k s.size).data.toList = rest s k from Lib.extract_to_end s k] at HN
  clear hlt2 h34 hsz
  by_cases h0 : signOf (rest s k) = []
  · have HU : Hid (nextT s k = .err 26) := by show _ = _; rw [HF.out, if_pos h0]
    have kz := str_nil (signOf (rest s k))
    rw [decide_eq_true h0] at kz
    clear h0
    generalize ByteArray.mk (signOf (rest s k)).toArray = sg at HN kz
    go_wp2_with (first | (go_at_call 36; refine (HL.out _).mono ?_; rintro e w' ⟨rfl, rfl⟩) | (go_at_call 38; refine (HD.out _).mono ?_; rintro e w' ⟨rfl, rfl⟩))
    rw [HE.out]
    refine HN.out.mono ?_
    rintro e X ⟨rfl, ht⟩
    obtain ⟨hB, ht2⟩ := HX.out X ht
    obtain ⟨x0, x1, x2, x3, x4, x5⟩ := six_cells hB
    have xf := six_free hB
    have HB2 := Lib.hid hB
    have HT2 := Lib.hid ht2
    clear ht hB ht2
    go_wp2_with fail
    refine bodyPost_ret (results_rtoken _ _ w.heap.size _ _ _ _ _ _ rfl (six_set HB2.out)) rfl ?_
    rw [HU.out]
    exact ⟨rfl, (six_turned HT2.out (Nat.le_refl _)).strip⟩
  · have HU : Hid (nextT s k = .tok ⟨4, k, ⟨(signOf (rest s k)).toArray⟩, 0⟩ (k + (signOf (rest s k)).length)) := by show _ = _; rw [HF.out, if_neg h0]
    have kz := str_nil (signOf (rest s k))
    rw [decide_eq_false h0] at kz
    have hz : (ByteArray.mk (signOf (rest s k)).toArray).size = (signOf (rest s k)).length := rfl
    have hz2 : (signOf (rest s k)).length ≤ 2 := by
      unfold signOf
      split
      · simp; omega
      · split
        · simp; omega
        · simp
    clear h0 HF
    generalize (signOf (rest s k)).length = n at HU hz hz2
    generalize ByteArray.mk (signOf (rest s k)).toArray = sg at HN kz HU hz
    subst hz
    go_wp2_with (first | (go_at_call 36; refine (HL.out _).mono ?_; rintro e w' ⟨rfl, rfl⟩) | (go_at_call 38; refine (HD.out _).mono ?_; rintro e w' ⟨rfl, rfl⟩))
    rw [HE.out]
    refine HN.out.mono ?_
    rintro e X ⟨rfl, ht⟩
    obtain ⟨hB, ht2⟩ := HX.out X ht
    obtain ⟨x0, x1, x2, x3, x4, x5⟩ := six_cells hB
    have xf := six_free hB
    have HB2 := Lib.hid hB
    have HT2 := Lib.hid ht2
    clear ht hB ht2
    go_wp2_with fail
    refine bodyPost_ret (results_rtoken _ _ w.heap.size _ _ _ _ _ _ rfl (six_set HB2.out)) rfl ?_
    rw [HU.out]
    exact ⟨rfl, (six_turned HT2.out (Nat.le_refl _)).strip⟩
end Go.Proofs.YtdjjifljlkjafaaGreatDoor
