/- Part 9 of the proof of lawDue.card: OrdSum, OrdWalkA, OrdIter. Conditions: those of each theorem. -/
import Derived.Deep.LoopGhost
import Derived.Test.YtanhhdndgkhcfaaGreatDoorDt01
import Derived.Test.YtanhhdndgkhcfaaGreatDoorDt08
namespace Go.Proofs.YtanhhdndgkhcfaaGreatDoor
def addAt (s : Nat → Rat) (g : Nat) (a : Rat) : Nat → Rat := fun h => if h = g then s h + a else s h
def addWay (s : Nat → Rat) (l : List Nat) (a : Rat) : Nat → Rat := l.foldl (fun s g => addAt s g a) s
def addAll (ds : List Int) (pl : Nat → Int) (am : Nat → Rat) (s : Nat → Rat) (xs : List Nat) : Nat → Rat := xs.foldl (fun s k => addWay s (way ds (pl k)) (am k)) s
def repL (n : Nat) (s : Nat → Rat) : List Rv := (List.range n).map fun g => repR (s g)
theorem repL_len (n : Nat) (s : Nat → Rat) : (repL n s).length = n := by unfold repL; simp
theorem repL_get {n g : Nat} (s : Nat → Rat) (h : g < n) : (repL n s)[g]? = some (repR (s g)) := by unfold repL; simp [h]
theorem repL_zero (n : Nat) : List.replicate n zeroR = repL n fun _ => 0 := by
  unfold repL
  rw [← repR_zero]
  apply List.ext_getElem
  · simp
  · intro i h1 h2; simp
theorem repL_at (n : Nat) (s : Nat → Rat) (i : Nat) : (repL n s)[i]? = if i < n then some (repR (s i)) else none := by
  unfold repL
  rw [List.getElem?_map]
  by_cases h : i < n
  · simp [h]
  · rw [List.getElem?_eq_none (by simp; omega), if_neg h]; rfl
theorem repL_set {n g : Nat} (s : Nat → Rat) (a : Rat) : (repL n s).set g (repR (s g + a)) = repL n (addAt s g a) := by
  apply List.ext_getElem?
  intro i
  rw [List.getElem?_set, repL_at, repL_at, repL_len]
  by_cases h : g = i
  · subst h
    rw [if_pos rfl, show addAt s g a g = s g + a from if_pos rfl]
  · rw [if_neg h, show addAt s g a i = s i from if_neg fun e => h e.symm]
theorem addWay_take {s : Nat → Rat} {l : List Nat} {a : Rat} {i g : Nat} (h : l[i]? = some g) : addWay s (l.take (i + 1)) a = addAt (addWay s (l.take i) a) g a := by
  obtain ⟨hlt, rfl⟩ := List.getElem?_eq_some_iff.1 h
  unfold addWay
  rw [List.take_succ_eq_append_getElem hlt, List.foldl_append]
  rfl
theorem addAll_take {ds : List Int} {pl : Nat → Int} {am : Nat → Rat} {s : Nat → Rat} {xs : List Nat} {i k : Nat} (h : xs[i]? = some k) : addAll ds pl am s (xs.take (i + 1)) = addWay (addAll ds pl am s (xs.take i)) (way ds (pl k)) (am k) := by
  obtain ⟨hlt, rfl⟩ := List.getElem?_eq_some_iff.1 h
  unfold addAll
  rw [List.take_succ_eq_append_getElem hlt, List.foldl_append]
  rfl
theorem addAt_bytes {s : Nat → Rat} {g : Nat} {a : Rat} {b m : Nat} (h : ∀ h, BytesQ (s h) b) (ha : BytesQ a m) : ∀ h, BytesQ (addAt s g a h) (b + (m + 1)) := by
  intro i
  unfold addAt
  split
  · exact ((h i).add ha).mono (by omega)
  · exact (h i).mono (by omega)
theorem addWay_bytes {a : Rat} {m : Nat} (ha : BytesQ a m) : ∀ (l : List Nat) (s : Nat → Rat) (b : Nat), (∀ h, BytesQ (s h) b) → ∀ h, BytesQ (addWay s l a h) (b + l.length * (m + 1))
  | [], s, b, h => by intro i; simpa [addWay] using h i
  | g :: l, s, b, h => by
    intro i
    have := addWay_bytes ha l (addAt s g a) (b + (m + 1)) (addAt_bytes h ha) i
    refine this.mono ?_
    rw [List.length_cons, Nat.add_mul]
    omega
theorem addAll_bytes {ds : List Int} {pl : Nat → Int} {am : Nat → Rat} {m : Nat} : ∀ (xs : List Nat) (s : Nat → Rat) (b : Nat), (∀ k ∈ xs, BytesQ (am k) m) → (∀ h, BytesQ (s h) b) → ∀ h, BytesQ (addAll ds pl am s xs h) (b + xs.length * ((ds.length + 1) * (m + 1)))
  | [], s, b, _, h => by intro i; simpa [addAll] using h i
  | k :: xs, s, b, ha, h => by
    intro i
    have h1 := addWay_bytes (ha k (by simp)) (way ds (pl k)) s b h
    have h2 : (way ds (pl k)).length * (m + 1) ≤ (ds.length + 1) * (m + 1) := Nat.mul_le_mul_right _ (way_len ds (pl k))
    have := addAll_bytes (ds := ds) (pl := pl) xs _ (b + (ds.length + 1) * (m + 1)) (fun k hk => ha k (by simp [hk])) (fun j => (h1 j).mono (by omega)) i
    refine this.mono ?_
    rw [List.length_cons, Nat.add_mul xs.length 1]
    omega
end Go.Proofs.YtanhhdndgkhcfaaGreatDoor
namespace Go.Proofs.YtanhhdndgkhcfaaGreatDoor
open Go Go.Proofs Go.RowKit
attribute [local go_sem] Oper.semAt_some
set_option maxRecDepth 20000 in
theorem total_any (ws : List Int) (p : Option Addr) (c N : Nat) (W : World) (h : At N W 1 intCells ws p c) (hr : ∀ x ∈ ws, 0 ≤ x ∧ x ≤ 999999999999999) (hl : ws.length ≤ 400) :
    Calls Tryz.prog 140 #[.agg #[.slice p ws.length c]] W fun e w' => e = .returned (.int .i64 (ws.sum)) ∧ Turned (fun _ => False) W w' := by
  have HW := Lib.hid (h.turned ((Turned.refl (fun _ => False) W).alloc (.cells #[.slice p ws.length c] 121)))
  have HS := Lib.hid (fun k => sum_bound (ws := ws.take k) fun x hx => hr x (List.mem_of_mem_take hx))
  have HR := Lib.hid hr
  obtain ⟨n, hn⟩ : ∃ n, ws.length = n := ⟨_, rfl⟩
  have HN := Lib.hid hn
  rw [hn] at hl HW ⊢
  clear h hr hn
  go_enter Tryz.func140, Tryz.ntmps140
  go_wp2_with fail
  go_loop [3, 9] (fun s i => ∃ k : Nat, k ≤ n ∧ i = (.int .i64 k) ∧ s = (.int .i64 ((ws.take k).sum))) (fun _ i => n - (intOf i).toNat)
  case atStart => exact ⟨0, Nat.zero_le _, rfl, rfl⟩
  case round =>
    obtain ⟨k, hk, rfl, rfl⟩ := hrel
    by_cases hlt : k < n
    · have hx : ws[k]? = some (ws[k]'(by rw [HN.out]; exact hlt)) := List.getElem?_eq_getElem _
      obtain ⟨x, hxe⟩ : ∃ x, ws[k]'(by rw [HN.out]; exact hlt) = x := ⟨_, rfl⟩
      rw [hxe] at hx
      obtain ⟨b, a, rfl, -, hc⟩ := HW.out.ints hx
      have HE := Lib.hid (sum_take_succ hx)
      have hb := (HS.out k)
      have hb2 := HR.out x (List.mem_of_getElem? hx)
      have hlen : (ws.take k).length ≤ 400 := by rw [List.length_take]; omega
      have b0 := hb.1
      have b1 : (ws.take k).sum ≤ 400000000000000000 := by have := hb.2; omega
      have b2 := hb2.1
      have b3 := hb2.2
      clear hxe hx hb hb2 hlen
      obtain ⟨t, ht⟩ : ∃ t, (ws.take k).sum = t := ⟨_, rfl⟩
      rw [ht] at b0 b1 HE ⊢
      clear ht
      go_wp2
      go_round
      case rel => exact ⟨k + 1, by omega, by go_num, by rw [HE.out]⟩
      case measure => simp [intOf]; omega
    · obtain rfl : k = n := by omega
      have HT : Hid (ws.take k = ws) := Lib.hid (List.take_of_length_le (by rw [HN.out]; omega))
      go_wp2
      go_ret
      rw [HT.out]
      exact ⟨rfl, (Turned.refl _ W).alloc _⟩
set_option maxRecDepth 20000 in
set_option maxHeartbeats 1000000 in
theorem kCheck_any (ws : List Int) (p : Option Addr) (c N : Nat) (W : World) (h : At N W 1 intCells ws p c) :
    Calls Tryz.prog 117 #[.agg #[.slice p ws.length c]] W fun e w' => e = .returned (.int .i64 (kerE ws)) ∧ Turned (fun _ => False) W w' := by
  have HW := Lib.hid (h.turned ((Turned.refl (fun _ => False) W).alloc (.cells #[.slice p ws.length c] 121)))
  have HC := Lib.hid (fun (hr : ∀ x ∈ ws, 0 ≤ x ∧ x ≤ 999999999999999) (hl : ws.length ≤ 400) => total_any ws p c N _ HW.out hr hl)
  have hmx : (ws.length : Int) ≤ 9223372036854775807 := by have := h.len; unfold maxLen at this; omega
  obtain ⟨n, hn⟩ : ∃ n, ws.length = n := ⟨_, rfl⟩
  have HN := Lib.hid hn
  have HKE : Hid (kerE ws = if n < 1 ∨ 400 < n then 2 else if ws.any badW = true then 3 else if 999999999999999 < ws.sum then 3 else if ws.sum = 0 then 1 else 0) := Lib.hid (by unfold kerE; rw [hn])
  rw [hn] at HW HC hmx ⊢
  clear h hn
  by_cases h1 : n < 1
  · have HK2 : Hid (kerE ws = 2) := Lib.hid (by rw [HKE.out, if_pos (.inl h1)])
    clear HKE HC
    go_enter Tryz.func117, Tryz.ntmps117
    go_wp2_with fail
    go_ret
    rw [HK2.out]
    exact ⟨rfl, (Turned.refl _ W).alloc _⟩
  by_cases h2 : 400 < n
  · have HK2 : Hid (kerE ws = 2) := Lib.hid (by rw [HKE.out, if_pos (.inr h2)])
    clear HKE HC
    go_enter Tryz.func117, Tryz.ntmps117
    go_wp2_with fail
    go_ret
    rw [HK2.out]
    exact ⟨rfl, (Turned.refl _ W).alloc _⟩
  replace HKE := Lib.hid (HKE.out.trans (if_neg (by omega)))
  have h1' : ¬ (n : Int) < 1 := by omega
  have h2' : ¬ (400 : Int) < (n : Int) := by omega
  go_enter Tryz.func117, Tryz.ntmps117
  go_wp2_with fail
  go_loop [19] (fun i => ∃ k : Nat, k ≤ n ∧ i = (.int .i64 k) ∧ Hid ((ws.take k).any badW = false)) (fun i => n - (intOf i).toNat)
  case atStart => exact ⟨0, Nat.zero_le _, rfl, Lib.hid rfl⟩
  case round =>
    obtain ⟨k, hk, rfl, HA⟩ := hrel
    by_cases hlt : k < n
    · have hx : ws[k]? = some (ws[k]'(by rw [HN.out]; exact hlt)) := List.getElem?_eq_getElem _
      obtain ⟨x, hxe⟩ : ∃ x, ws[k]'(by rw [HN.out]; exact hlt) = x := ⟨_, rfl⟩
      rw [hxe] at hx
      obtain ⟨b, a, rfl, -, hc⟩ := HW.out.ints hx
      have HX := Lib.hid hx
      clear hxe hx
      by_cases g1 : x < 0
      · have HK2 : Hid (kerE ws = 3) := Lib.hid (by rw [HKE.out, if_pos (any_of HX.out (by unfold badW; simp [g1]))])
        go_wp2
        go_ret
        rw [HK2.out]
        exact ⟨rfl, (Turned.refl _ W).alloc _⟩
      by_cases g2 : 999999999999999 < x
      · have HK2 : Hid (kerE ws = 3) := Lib.hid (by rw [HKE.out, if_pos (any_of HX.out (by unfold badW; simp [g2]))])
        go_wp2
        go_ret
        rw [HK2.out]
        exact ⟨rfl, (Turned.refl _ W).alloc _⟩
      have HB : Hid ((ws.take (k + 1)).any badW = false) := Lib.hid (by rw [any_take_succ HX.out HA.out]; unfold badW; simp [g1, g2])
      go_wp2
      go_round
      case rel => exact ⟨k + 1, by omega, by go_num, HB⟩
      case measure => simp [intOf]; omega
    · obtain rfl : k = n := by omega
      have hA2 : ws.any badW = false := by
        have := HA.out
        rwa [List.take_of_length_le (by rw [HN.out]; omega)] at this
      have hall : ∀ x ∈ ws, 0 ≤ x ∧ x ≤ 999999999999999 := fun x hx => by
        have := List.any_eq_false.1 hA2 x hx
        unfold badW at this
        simp at this
        omega
      have HT := Lib.hid (HC.out hall (by omega))
      replace HKE := Lib.hid (HKE.out.trans (if_neg (by rw [hA2]; simp)))
      clear hA2 HA HC hlt
      have hsb := sum_bound hall
      rw [HN.out] at hsb
      clear hall
      obtain ⟨t, ht⟩ : ∃ t, ws.sum = t := ⟨_, rfl⟩
      rw [ht] at hsb HKE HT
      clear ht
      by_cases g1 : 999999999999999 < t
      · have HK2 : Hid (kerE ws = 3) := Lib.hid (by rw [HKE.out, if_pos g1])
        go_wp2_with (go_at_call 140; refine HT.out.mono ?_; rintro e w1 ⟨rfl, t1⟩)
        go_ret
        rw [HK2.out]
        exact ⟨rfl, ((Turned.refl _ W).alloc _).trans t1⟩
      replace HKE := Lib.hid (HKE.out.trans (if_neg g1))
      by_cases g2 : t = 0
      · have HK2 : Hid (kerE ws = 1) := Lib.hid (by rw [HKE.out, if_pos g2])
        subst g2
        go_wp2_with (go_at_call 140; refine HT.out.mono ?_; rintro e w1 ⟨rfl, t1⟩)
        go_ret
        rw [HK2.out]
        exact ⟨rfl, ((Turned.refl _ W).alloc _).trans t1⟩
      have HK2 : Hid (kerE ws = 0) := Lib.hid (by rw [HKE.out, if_neg g2])
      have g3 : (t == 0) = false := by simpa using g2
      clear g2
      go_wp2_with (go_at_call 140; refine HT.out.mono ?_; rintro e w1 ⟨rfl, t1⟩)
      go_ret
      rw [HK2.out]
      exact ⟨rfl, ((Turned.refl _ W).alloc _).trans t1⟩
end Go.Proofs.YtanhhdndgkhcfaaGreatDoor
namespace Go.Proofs.YtanhhdndgkhcfaaGreatDoor
open Go Go.Proofs Go.RowKit
attribute [local go_sem] Oper.semAt_some
def gEncs (g : Nat) : Array Value := #[(.int .i64 g)]
structure HeadD (ds : List Int) (p : Nat) (c1 n : Nat) (pp : Option Addr) (cc N : Nat) (rs : List Rc) (J : Nat → Nat → World → Prop) (wr : World) (k : Nat) (q : Int) : Prop where
  j : J k wr.heap.size wr
  q0 : q = stepN ds k p
  kle : k ≤ (way ds p).length
  h1 : wr.cell? ⟨c1, 0, none⟩ = some (.slice pp n cc)
  riv : RivAt N wr rs pp cc
theorem down_get {rs : List Rc} {ds : List Int} (hds : ds = rs.map (·.down)) {q : Int} (h0 : 0 ≤ q) (h1 : q < ds.length) : ∃ r, rs[q.toNat]? = some r ∧ ds[q.toNat]? = some r.down := by
  subst hds
  rw [List.length_map] at h1
  have hq : q.toNat < rs.length := by omega
  exact ⟨rs[q.toNat], List.getElem?_eq_getElem hq, by rw [List.getElem?_map, List.getElem?_eq_getElem hq]; rfl⟩
set_option maxHeartbeats 2000000 in
theorem eDown_iter (rs : List Rc) (ds : List Int) (pp : Option Addr) (cc N c0 c1 : Nat) (p : Nat) (w : World) (hds : ds = rs.map (·.down)) (hriv : RivAt N w rs pp cc) (hp : p < ds.length) (hd : ∀ x ∈ ds, x < ds.length)
    (h0 : w.cell? ⟨c0, 0, none⟩ = some (.int .i64 p)) (h1 : w.cell? ⟨c1, 0, none⟩ = some (.slice pp rs.length cc)) :
    IterE (stepN ds (ds.length + 1) p < 0) Tryz.prog 141 #[.pointer (some ⟨c0, 0, none⟩), .pointer (some ⟨c1, 0, none⟩)] gEncs (way ds p) (fun _ => False) (fun k => k < N ∨ k = c0 ∨ k = c1) w := by
  intro r J Jx W hsz hkeep hJm hJ hJx hY hends hJ0
  refine callsIn_of_wp Tryz.func141 rfl trivial ?_ rfl
  simp only [Tryz.ntmps141, List.size_toArray, List.length_cons, List.length_nil, Nat.reduceAdd, Nat.reduceSub, Array.replicate_succ, Array.replicate_zero, List.push_toArray, List.append_toArray, List.nil_append, List.cons_append]
  have hS : Same N w W := fun k hk => hkeep k (.inl (.inl hk))
  have hE0 : W.cell? ⟨c0, 0, none⟩ = w.cell? ⟨c0, 0, none⟩ := World.cell?_of_block (w := w) (a := ⟨c0, 0, none⟩) (hkeep c0 (.inl (.inr (.inl rfl))))
  have hE1 : W.cell? ⟨c1, 0, none⟩ = w.cell? ⟨c1, 0, none⟩ := World.cell?_of_block (w := w) (a := ⟨c1, 0, none⟩) (hkeep c1 (.inl (.inr (.inr rfl))))
  have HH : Hid (HeadD ds p c1 rs.length pp cc N rs J W 0 p) := Lib.hid ⟨hJ0, rfl, Nat.zero_le _, hE1.trans h1, hriv.same hS⟩
  have g0 : W.cell? ⟨c0, 0, none⟩ = some (.int .i64 p) := hE0.trans h0
  have HJ2 : Hid (∀ k A B, J k A.heap.size A → Turned (fun _ => False) A B → J k B.heap.size B) := Lib.hid fun k A B h ht => hJm _ _ _ _ (hJ k _ A B h (Nat.le_refl _) ht) ht.size
  have HJ3 : Hid (∀ k A B, J k A.heap.size A → Turned (fun _ => False) A B → J k A.heap.size B) := Lib.hid fun k A B h ht => hJ k _ A B h (Nat.le_refl _) ht
  have HY := Lib.hid hY
  have HE := Lib.hid hends
  have HB := Lib.hid (step_bound hd hp)
  have HP := Lib.hid hds
  have hnl : rs.length = ds.length := by rw [hds, List.length_map]
  obtain ⟨n, hn⟩ : ∃ n, ds.length = n := ⟨_, rfl⟩
  have HNL := Lib.hid (hnl.trans hn)
  have HN := Lib.hid hn
  clear hkeep h0 h1 hS hJ0 hJm hJ hJx hY hends hd hp hds hriv hE0 hE1 hnl hn hsz
  gi_wp2
  gi_loopw [4] (fun g wr => ∃ m k q, m = n + 2 - k ∧ g = (.int .i64 q) ∧ Hid (HeadD ds p c1 rs.length pp cc N rs J wr k q)) (fun g wr => leastOf fun m => ∃ k q, m = n + 2 - k ∧ g = (.int .i64 q) ∧ Hid (HeadD ds p c1 rs.length pp cc N rs J wr k q))
  case atStart => exact ⟨n + 2, 0, p, rfl, rfl, HH⟩
  case round =>
    obtain ⟨hm, -⟩ := leastOf_spec hrel
    obtain ⟨m, hme⟩ : ∃ m, leastOf (fun m => ∃ k q, m = n + 2 - k ∧ u4 = (.int .i64 q) ∧ Hid (HeadD ds p c1 rs.length pp cc N rs J wr k q)) = m := ⟨_, rfl⟩
    rw [hme] at hm
    have HM := Lib.hid hme
    clear hme hrel HH g0
    obtain ⟨k, q, hmk, rfl, HH⟩ := hm
    have HMK := Lib.hid hmk
    clear hmk
    by_cases hq : q < 0
    · have hk : k = (way ds p).length := way_end (by have := HH.out.kle; have := way_len ds p; omega) HH.out.kle (by rw [← HH.out.q0]; exact hq)
      have HF : Hid (J (way ds p).length wr.heap.size wr) := Lib.hid (by rw [← hk]; exact HH.out.j)
      have hq2 : ¬ 0 ≤ q := by omega
      clear hk hq
      gi_wp2
      go_end0
      exact ⟨⟨_, rfl⟩, .inl HF.out⟩
    · have hq2 : 0 ≤ q := by omega
      have hkl := HH.out.kle
      have hqn : ¬ stepN ds k p < 0 := by rw [← HH.out.q0]; exact hq
      have hkn : k ≤ n := by
        have h1 := way_len ds p
        rw [HN.out] at h1
        rcases Nat.lt_or_ge n k with h2 | h2
        · exfalso
          obtain rfl : k = n + 1 := by omega
          rw [← HN.out] at hqn
          have h3 := way_full hqn
          exact HE.out (by omega) _ _ (by rw [h3, HN.out]; exact HH.out.j)
        · exact h2
      obtain ⟨hx, hlt⟩ := way_next (p := p) (by rw [HN.out]; exact hkn) hqn
      rw [← HH.out.q0] at hx
      have hqb := HB.out k
      rw [← HH.out.q0] at hqb
      obtain ⟨rr, hr1, hr2⟩ := down_get HP.out hq2 hqb
      obtain ⟨t, ht⟩ : ∃ t : Nat, q = t := ⟨q.toNat, by omega⟩
      subst ht
      rw [Int.toNat_natCast] at hx hr1 hr2
      have HNX := Lib.hid (step_next hqn (by rw [← HH.out.q0, Int.toNat_natCast]; exact hr2))
      obtain ⟨fn, tmps, assign, body, hy, hR⟩ := HY.out k wr.heap.size t wr HH.out.j (Nat.le_refl _) hx
      simp only [gEncs] at hy
      have HR2 := Lib.hid hR
      have HG := Lib.hid (And.intro hr1 hlt)
      have HKN := Lib.hid hkn
      clear hqn hkl hx hlt hqb hr1 hr2 hR hq hkn
      gi_wp2
      refine ⟨rfl, HR2.out.mono ?_⟩
      rintro e W4 (⟨rfl, hj4, hk4⟩ | ⟨rfl, hjx4⟩)
      · have hs4 : Same N wr W4 := fun i hi => hk4.block i (.inl (.inl (.inl hi)))
        have hc1 : W4.cell? ⟨c1, 0, none⟩ = some (.slice pp rs.length cc) := (World.cell?_of_block (w := wr) (a := ⟨c1, 0, none⟩) (hk4.block c1 (.inl (.inl (.inr (.inr rfl)))))).trans HH.out.h1
        obtain ⟨b, a, rfl, -, hcd, -⟩ := (HH.out.riv.same hs4).at_.reaches HG.out.1
        have HH2 : Hid (HeadD ds p c1 rs.length (some ⟨b, a, none⟩) cc N rs J W4 (k + 1) rr.down) := Lib.hid ⟨hj4, HNX.out.symm, HG.out.2, hc1, HH.out.riv.same hs4⟩
        have ht0 : (0 : Int) ≤ (t : Int) := by omega
        have htn : (t : Int) < (rs.length : Int) := by
          have := (List.getElem?_eq_some_iff.1 HG.out.1).1
          omega
        clear hs4 hk4 hj4
        gi_wp2
        go_roundw
        case rel => exact ⟨_, k + 1, _, rfl, rfl, HH2⟩
        case measure =>
          rw [HM.out, HMK.out]
          exact Nat.lt_of_le_of_lt ((leastOf_spec ⟨_, k + 1, _, rfl, rfl, HH2⟩).2 _ ⟨k + 1, _, rfl, rfl, HH2⟩) (by have := HKN.out; omega)
      · gi_wp2
        refine bodyPost_ret (results_none rfl _ _ _) rfl ?_
        exact ⟨⟨_, rfl⟩, .inr hjx4⟩
structure HeadR (ds : List Int) (p : Nat) (c0 c1 n : Nat) (pp : Option Addr) (cc N : Nat) (rs : List Rc) (J : Nat → Nat → World → Prop) (wr : World) (k : Nat) (q : Int) : Prop where
  hd : HeadD ds p c1 n pp cc N rs J wr k q
  h0 : wr.cell? ⟨c0, 0, none⟩ = some (.int .i64 q)
  f0 : wr.frozen? ⟨c0, 0, none⟩ = false
theorem cell_size {W : World} {b o : Nat} {u : Value} (hc : W.cell? ⟨b, o, none⟩ = some u) : b < W.heap.size := by
  rcases Nat.lt_or_ge b W.heap.size with h1 | h1
  · exact h1
  · simp [World.cell?, h1] at hc
set_option maxHeartbeats 2000000 in
theorem hDown_iter (rs : List Rc) (ds : List Int) (pp : Option Addr) (cc N c0 c1 : Nat) (p : Nat) (w : World) (hds : ds = rs.map (·.down)) (hriv : RivAt N w rs pp cc) (hp : p < ds.length) (hd : ∀ x ∈ ds, x < ds.length)
    (h0 : w.cell? ⟨c0, 0, none⟩ = some (.int .i64 p)) (hf0 : w.frozen? ⟨c0, 0, none⟩ = false) (h1 : w.cell? ⟨c1, 0, none⟩ = some (.slice pp rs.length cc)) (hc0 : N ≤ c0) (hc1 : c1 ≠ c0) (hN : N ≤ w.heap.size) (hcz : c0 < w.heap.size) :
    IterE (stepN ds (ds.length + 1) p < 0) Tryz.prog 104 #[.pointer (some ⟨c0, 0, none⟩), .pointer (some ⟨c1, 0, none⟩)] gEncs (way ds p) (fun k => k = c0) (fun k => k < N ∨ k = c1) w := by
  intro r J Jx W hsz hkeep hJm hJ hJx hY hends hJ0
  refine callsIn_of_wp Tryz.func104 rfl trivial ?_ rfl
  simp only [Tryz.ntmps104, List.size_toArray, List.length_cons, List.length_nil, Nat.reduceAdd, Nat.reduceSub, Array.replicate_succ, Array.replicate_zero, List.push_toArray, List.append_toArray, List.nil_append, List.cons_append]
  have hS : Same N w W := fun k hk => hkeep k (.inl (.inl hk))
  have hE1 : W.cell? ⟨c1, 0, none⟩ = w.cell? ⟨c1, 0, none⟩ := World.cell?_of_block (w := w) (a := ⟨c1, 0, none⟩) (hkeep c1 (.inl (.inr rfl)))
  have hcell : ∀ A B : World, B.heap[c0]? = A.heap[c0]? → B.cell? ⟨c0, 0, none⟩ = A.cell? ⟨c0, 0, none⟩ ∧ B.frozen? ⟨c0, 0, none⟩ = A.frozen? ⟨c0, 0, none⟩ := fun A B h => ⟨World.cell?_of_block (w := A) (a := ⟨c0, 0, none⟩) h, World.frozen?_of_block (w := A) (a := ⟨c0, 0, none⟩) h⟩
  have HCE := Lib.hid hcell
  have hk0 := hcell w W (hkeep c0 (.inr rfl))
  have HH : Hid (HeadR ds p c0 c1 rs.length pp cc N rs J W 0 p) := Lib.hid ⟨⟨hJ0, rfl, Nat.zero_le _, hE1.trans h1, hriv.same hS⟩, hk0.1.trans h0, hk0.2.trans hf0⟩
  have HJ2 : Hid (∀ k A B, J k A.heap.size A → Turned (fun k => k = c0) A B → J k B.heap.size B) := Lib.hid fun k A B h ht => hJm _ _ _ _ (hJ k _ A B h (Nat.le_refl _) ht) ht.size
  have HY := Lib.hid hY
  have HE := Lib.hid hends
  have HB := Lib.hid (step_bound hd hp)
  have HP := Lib.hid hds
  have HW1 := Lib.hid (And.intro hc1 (And.intro hc0 (And.intro hN (Nat.lt_of_lt_of_le hcz hsz))))
  have hnl : rs.length = ds.length := by rw [hds, List.length_map]
  obtain ⟨n, hn⟩ : ∃ n, ds.length = n := ⟨_, rfl⟩
  have HNL := Lib.hid (hnl.trans hn)
  have HN := Lib.hid hn
  clear hcell hk0 hkeep h0 hf0 h1 hS hJ0 hJm hJ hJx hY hends hd hp hds hriv hE1 hc0 hc1 hN hnl hn hsz hcz
  gi_wp2
  gi_loopw [4] (fun _ wr => ∃ m k q, m = n + 2 - k ∧ Hid (HeadR ds p c0 c1 rs.length pp cc N rs J wr k q)) (fun _ wr => leastOf fun m => ∃ k q, m = n + 2 - k ∧ Hid (HeadR ds p c0 c1 rs.length pp cc N rs J wr k q))
  case atStart => exact ⟨n + 2, 0, p, rfl, HH⟩
  case round =>
    obtain ⟨hm, -⟩ := leastOf_spec hrel
    obtain ⟨m, hme⟩ : ∃ m, leastOf (fun m => ∃ k q, m = n + 2 - k ∧ Hid (HeadR ds p c0 c1 rs.length pp cc N rs J wr k q)) = m := ⟨_, rfl⟩
    rw [hme] at hm
    have HM := Lib.hid hme
    clear hme hrel HH
    obtain ⟨k, q, hmk, HR⟩ := hm
    have HH := Lib.hid HR.out.hd
    have g0 := HR.out.h0
    have gf := HR.out.f0
    have HMK := Lib.hid hmk
    clear hmk
    by_cases hq : q < 0
    · have hk : k = (way ds p).length := way_end (by have := HH.out.kle; have := way_len ds p; omega) HH.out.kle (by rw [← HH.out.q0]; exact hq)
      have HF : Hid (J (way ds p).length wr.heap.size wr) := Lib.hid (by rw [← hk]; exact HH.out.j)
      have hq2 : ¬ 0 ≤ q := by omega
      clear hk hq
      gi_wp2
      go_end0
      exact ⟨⟨_, rfl⟩, .inl HF.out⟩
    · have hq2 : 0 ≤ q := by omega
      have hkl := HH.out.kle
      have hqn : ¬ stepN ds k p < 0 := by rw [← HH.out.q0]; exact hq
      have hkn : k ≤ n := by
        have h1 := way_len ds p
        rw [HN.out] at h1
        rcases Nat.lt_or_ge n k with h2 | h2
        · exfalso
          obtain rfl : k = n + 1 := by omega
          rw [← HN.out] at hqn
          have h3 := way_full hqn
          exact HE.out (by omega) _ _ (by rw [h3, HN.out]; exact HH.out.j)
        · exact h2
      obtain ⟨hx, hlt⟩ := way_next (p := p) (by rw [HN.out]; exact hkn) hqn
      rw [← HH.out.q0] at hx
      have hqb := HB.out k
      rw [← HH.out.q0] at hqb
      obtain ⟨rr, hr1, hr2⟩ := down_get HP.out hq2 hqb
      obtain ⟨t, ht⟩ : ∃ t : Nat, q = t := ⟨q.toNat, by omega⟩
      subst ht
      rw [Int.toNat_natCast] at hx hr1 hr2
      have HNX := Lib.hid (step_next hqn (by rw [← HH.out.q0, Int.toNat_natCast]; exact hr2))
      obtain ⟨fn, tmps, assign, body, hy, hR⟩ := HY.out k wr.heap.size t wr HH.out.j (Nat.le_refl _) hx
      simp only [gEncs] at hy
      have HR2 := Lib.hid hR
      have HG := Lib.hid (And.intro hr1 hlt)
      have HKN := Lib.hid hkn
      clear hqn hkl hx hlt hqb hr1 hr2 hR hq hkn
      gi_wp2
      refine ⟨rfl, HR2.out.mono ?_⟩
      rintro e W4 (⟨rfl, hj4, hk4⟩ | ⟨rfl, hjx4⟩)
      · have hs4 : Same N wr W4 := fun i hi => hk4.block i (.inl (.inl (.inl hi)))
        have hc1 : W4.cell? ⟨c1, 0, none⟩ = some (.slice pp rs.length cc) := (World.cell?_of_block (w := wr) (a := ⟨c1, 0, none⟩) (hk4.block c1 (.inl (.inl (.inr rfl))))).trans HH.out.h1
        have hce := HCE.out wr W4 (hk4.block c0 (.inl (.inr rfl)))
        have r0 : W4.cell? ⟨c0, 0, none⟩ = some (.int .i64 t) := hce.1.trans g0
        have rf : W4.frozen? ⟨c0, 0, none⟩ = false := hce.2.trans gf
        obtain ⟨b, a, rfl, -, hcd, -⟩ := (HH.out.riv.same hs4).at_.reaches HG.out.1
        have ht1 : Turned (fun k => k = c0) W4 (W4.setCell ⟨c0, 0, none⟩ (.int .i64 (rr.down))) := (Turned.refl (fun k => k = c0) _).setCell (p := ⟨c0, 0, none⟩) rfl _
        have hs5 : Same N wr (W4.setCell ⟨c0, 0, none⟩ (.int .i64 (rr.down))) := hs4.trans (ht1.same (by have := cell_size r0; have := HW1.out.2.1; omega) fun k hk h => by have := HW1.out.2.1; omega)
        have HH2 : Hid (HeadR ds p c0 c1 rs.length (some ⟨b, a, none⟩) cc N rs J (W4.setCell ⟨c0, 0, none⟩ (.int .i64 (rr.down))) (k + 1) rr.down) := Lib.hid ⟨⟨HJ2.out _ _ _ hj4 ht1, HNX.out.symm, HG.out.2, cellT ht1 HW1.out.1 hc1, HH.out.riv.same hs5⟩, World.cell?_setCell_same' _ _ _ (by rw [r0]; rfl), by rw [World.frozen?_setCell]; exact rf⟩
        have ht0 : (0 : Int) ≤ (t : Int) := by omega
        have htn : (t : Int) < (rs.length : Int) := by
          have := (List.getElem?_eq_some_iff.1 HG.out.1).1
          omega
        clear hs4 hs5 hk4 hj4 hce ht1
        gi_wp2
        go_roundw
        case rel => exact ⟨_, k + 1, _, rfl, HH2⟩
        case measure =>
          rw [HM.out, HMK.out]
          exact Nat.lt_of_le_of_lt ((leastOf_spec ⟨_, k + 1, _, rfl, HH2⟩).2 _ ⟨k + 1, _, rfl, HH2⟩) (by have := HKN.out; omega)
      · gi_wp2
        refine bodyPost_ret (results_none rfl _ _ _) rfl ?_
        exact ⟨⟨_, rfl⟩, .inr hjx4⟩
end Go.Proofs.YtanhhdndgkhcfaaGreatDoor
