/- Part 12 of the proof of lawDue.card: OrdWalkG, OrdWalkE, OrdWalkF, OrdWalkH, OrdWalkI. Conditions: those of each theorem. -/
import Derived.Test.YtanhhdndgkhcfaaGreatDoorDt01
import Derived.Test.YtanhhdndgkhcfaaGreatDoorDt09
import Derived.Test.YtanhhdndgkhcfaaGreatDoorDt10
import Derived.Test.YtanhhdndgkhcfaaGreatDoorDt11
namespace Go.Proofs.YtanhhdndgkhcfaaGreatDoor
open Go Go.Proofs Go.RowKit
attribute [local go_sem] Oper.semAt_some
attribute [local go_sem ↓] run_eql_rat' run_neq_rat'
theorem Turned.cut {W A B : World} {C D : Nat → Prop} (h : Turned C W A) (k : Turned D A B) (hD : ∀ g, D g → C g ∨ W.heap.size ≤ g) : Turned C W B :=
  ⟨k.os.trans h.os, k.tape.trans h.tape, k.output.trans h.output, Nat.le_trans h.size k.size, fun i hi hn => (k.block i (Nat.lt_of_lt_of_le hi h.size) (fun c => by
    rcases hD i c with h1 | h1
    · exact hn h1
    · omega)).trans (h.block i hi hn)⟩
theorem way_get {d : List Int} {p : Int} {i y : Nat} (h : (way d p)[i]? = some y) : (y : Int) = stepN d i p := by
  have hlt : i < (way d p).length := (List.getElem?_eq_some_iff.1 h).1
  have h1 := way_drop (p := p) (show i ≤ d.length + 1 by have := way_len d p; omega)
  have h2 := List.getElem?_drop (xs := way d p) (i := i) (j := 0)
  rw [Nat.add_zero, h, h1] at h2
  generalize d.length + 1 - i = f at h2
  cases f with
  | zero => simp [wayN] at h2
  | succ f =>
    rw [wayN] at h2
    split at h2
    · simp at h2
    · simp at h2
      omega
theorem BytesQ.szr {q : Rat} {k : Nat} (h : BytesQ q k) : SzR (repR q) k := repR_size h
set_option maxRecDepth 100000 in
set_option maxHeartbeats 8000000 in
theorem summed_any (rs : List Rc) (ds : List Int) (rp : Option Addr) (rc gf m : Nat) (lb : Array Value) (xs : List Nat) (pl : Nat → Int) (av : Nat → Rv) (am : Nat → Rat) (W : World) (hr : RivAt W.heap.size W rs rp rc)
    (hit : ∀ w, Turned (fun _ => False) W w → IterE True Tryz.prog gf lb (cEncs pl av) xs (fun _ => False) (fun k => k < W.heap.size) w) (eg : ∀ args w, (callFunc gf args).run Tryz.prog w = .ok (.enter gf args) w)
    (hds : ds = rs.map (·.down)) (hd : ∀ x ∈ ds, x < ds.length)
    (hx : ∀ k ∈ xs, ∃ p : Nat, pl k = p ∧ p < ds.length ∧ av k = repR (am k) ∧ BytesQ (am k) m) (hb : xs.length * ((ds.length + 1) * (m + 1)) + (ds.length + 1) * (m + 1) + m + 10 ≤ 100000000) (hn40 : ds.length ≤ 40) (hends : ∀ p : Nat, p < ds.length → stepN ds (ds.length + 1) p < 0) :
    Calls Tryz.prog 60 #[.slice rp rs.length rc, .func (.func gf) #[] lb] W fun e w' => ∃ arr, e = .returned (.slice (some ⟨arr, 0, none⟩) rs.length rs.length) ∧ W.heap.size ≤ arr ∧ OwnR w' arr (repL rs.length (addAll ds pl am (fun _ => 0) xs)) ∧ Turned (fun _ => False) W w' := by
  refine callsIn_wide (n := 0).1 ?_
  refine callsIn_of_wp_marks Tryz.func60 rfl trivial ?_ rfl
  simp only [Tryz.ntmps60, List.size_toArray, List.length_cons, List.length_nil, Nat.reduceAdd, Nat.reduceSub, Array.replicate_succ, Array.replicate_zero, List.push_toArray, List.append_toArray, List.nil_append, List.cons_append]
  have hnl : rs.length = ds.length := by rw [hds, List.length_map]
  obtain ⟨i0, hif, hz0, hz1, hz2⟩ := info_parts infoRat
  have hmake : ∀ w : World, (Instr.makeSlice 23 (.int .i64 (rs.length)) (.int .i64 (rs.length))).run Tryz.prog w = .ok (.slice (some ⟨w.heap.size, 0, none⟩) rs.length rs.length) (w.alloc (.cells (madeCells #[.bool false, .string ⟨#[]⟩, .string ⟨#[]⟩] (rs.length * 3)) 68)) := fun w => by
    have := run_make (P := Tryz.prog) w 23 68 i0 (ratV zeroR) Tryz.underlying23 hif hz0 .i64 .i64 rs.length rs.length (by omega) (Int.le_refl _) (by rw [hz2]; omega) (by omega)
    simpa [hz1, Value.cells, zeroR] using this
  have hmx : (rs.length : Int) ≤ 40 := by omega
  obtain ⟨n, hn⟩ : ∃ n, rs.length = n := ⟨_, rfl⟩
  have HRN := Lib.hid hn
  rw [hn] at hmake hmx hnl ⊢
  have HNL := Lib.hid hnl
  have HDS := Lib.hid hds
  have HD := Lib.hid hd
  have HEN := Lib.hid hends
  have HX := Lib.hid hx
  have HB := Lib.hid hb
  have HR := Lib.hid hr
  have HIT := Lib.hid hit
  have HEG := Lib.hid eg
  have hn0 : (0 : Int) ≤ n := by omega
  clear hif hz0 hz1 hz2 hn hnl hds hd hends hx hb hr hit eg hn40
  gi_wp2_with fail
  clear hmake
  have B1 := new3 W (.cells #[.slice rp n rc] 22) (.cells (madeCells #[.bool false, .string ⟨#[]⟩, .string ⟨#[]⟩] (n * 3)) 68) (.cells #[.slice (some ⟨W.heap.size + 1, 0, none⟩) n n] 23)
  have O1 := (OwnR.made (W.alloc (.cells #[.slice rp n rc] 22)) n).turned ((Turned.refl (fun _ => False) _).alloc (.cells #[.slice (some ⟨W.heap.size + 1, 0, none⟩) n n] 23)) id
  have T1 := (((Turned.refl (fun _ => False) W).alloc (.cells #[.slice rp n rc] 22)).alloc (.cells (madeCells #[.bool false, .string ⟨#[]⟩, .string ⟨#[]⟩] (n * 3)) 68)).alloc (.cells #[.slice (some ⟨W.heap.size + 1, 0, none⟩) n n] 23)
  have hz1 : (((W.alloc (.cells #[.slice rp n rc] 22)).alloc (.cells (madeCells #[.bool false, .string ⟨#[]⟩, .string ⟨#[]⟩] (n * 3)) 68)).alloc (.cells #[.slice (some ⟨W.heap.size + 1, 0, none⟩) n n] 23)).heap.size = W.heap.size + 3 := by simp
  rw [show (W.alloc (.cells #[.slice rp n rc] 22)).heap.size = W.heap.size + 1 by simp, repL_zero] at O1
  obtain ⟨w1, hw1⟩ : ∃ w1, w1 = ((W.alloc (.cells #[.slice rp n rc] 22)).alloc (.cells (madeCells #[.bool false, .string ⟨#[]⟩, .string ⟨#[]⟩] (n * 3)) 68)).alloc (.cells #[.slice (some ⟨W.heap.size + 1, 0, none⟩) n n] 23) := ⟨_, rfl⟩
  rw [← hw1] at B1 O1 T1 hz1 ⊢
  have z1 := Nat.le_of_eq hz1
  have z1' := Nat.le_of_eq hz1.symm
  have HB1 := Lib.hid B1
  have HO1 := Lib.hid O1
  have HT1 := Lib.hid T1
  clear hw1 B1 O1 T1 hz1
  refine range_lawE (rfl : _ = Value.func (.func gf) #[] lb) HEG.out (HIT.out w1 HT1.out) (fun _ => rfl) (by
      intro j hj
      rcases hj with h | h
      · exact Nat.lt_of_lt_of_le h (by omega)
      · exact h.elim)
    (fun k N A => w1.heap.size ≤ N ∧ OwnR A (W.heap.size + 1) (repL n (addAll ds pl am (fun _ => 0) (xs.take k))) ∧ Turned (fun i => i = W.heap.size + 1) w1 A) (fun _ _ => False)
    (fun _ _ _ _ h hN => ⟨Nat.le_trans h.1 hN, h.2⟩) ?stab (fun _ _ _ h _ => h) (fun h => absurd trivial h) ⟨Nat.le_refl _, HO1.out, Turned.refl _ _⟩
    (fun x => #[.slice rp n rc, .func (.func gf) #[] lb, .pointer (some ⟨W.heap.size, 0, none⟩), undef, .slice none 0 0, .pointer (some ⟨W.heap.size + 1 + 1, 0, none⟩), undef, undef, undef, .slice rp n rc, (.int .i64 n), .slice (some ⟨W.heap.size + 1, 0, none⟩) n n, .func (.func gf) #[] lb, (.int .i64 (pl x)), ratV (av x), undef, undef, undef, undef, undef, undef, undef, undef, undef, undef, undef, undef, undef, undef]) (fun x => by simp [cEncs])
    (fun k N M x a' A => ∃ B, a' = { tmps := #[.slice rp n rc, .func (.func gf) #[] lb, .pointer (some ⟨W.heap.size, 0, none⟩), undef, .slice none 0 0, .pointer (some ⟨W.heap.size + 1 + 1, 0, none⟩), (.int .i64 (pl x)), .pointer (some ⟨B, 0, none⟩), undef, .slice rp n rc, (.int .i64 n), .slice (some ⟨W.heap.size + 1, 0, none⟩) n n, .func (.func gf) #[] lb, (.int .i64 (pl x)), ratV (av x), undef, undef, undef, undef, undef, undef, undef, undef, undef, undef, undef, undef, undef, undef], defers := [] } ∧ w1.heap.size ≤ N ∧ A.heap[B]? = some (.cells #[.bool (av x).neg, .string (av x).num, .string (av x).den] 68 (0, 0)) ∧ (M ≤ B ∧ w1.heap.size + 2 ≤ M) ∧ OwnR A (W.heap.size + 1) (repL n (addAll ds pl am (fun _ => 0) (xs.take k))) ∧ Turned (fun i => i = W.heap.size + 1) w1 A)
    ?stabA ?assign ?body ?done (fun _ _ h => h.elim)
  case stab =>
    rintro k N A B ⟨h1, h2, h3⟩ hN ht
    exact ⟨h1, h2.turned ht (by rintro (h | h | h); exact h; omega; omega), h3.freshC ht (by rintro i (h | h | h); exact h.elim; omega; omega)⟩
  case stabA =>
    rintro k N M x a' A B ⟨B0, rfl, h1, h2, h3, h4, h5⟩ ht
    exact ⟨B0, rfl, h1, (ht.block _ (getElem?_lt h2) (by have := h3.1; have := h3.2; omega)).trans h2, h3, h4.turned ht (by omega), h5.freshC ht (by rintro i h; omega)⟩
  case assign =>
    rintro k N x A hxk ⟨h1, h2, h3⟩ hN hsz
    have HQ := Lib.hid (And.intro h1 (And.intro h2 h3))
    obtain ⟨⟨un, ux, ud⟩, hu⟩ : ∃ u, av x = u := ⟨_, rfl⟩
    rw [hu]
    clear h1 h2 h3 hu
    gi_wp2
    have TA := (Turned.refl (fun _ => False) A).alloc (.cells #[.bool un, .string ux, .string ud] 68)
    refine ⟨⟨A.heap.size, rfl, HQ.out.1, World.alloc_heap_new _ _, ⟨Nat.le_refl _, hsz⟩, HQ.out.2.1.turned TA id, HQ.out.2.2.freshC TA fun _ h => h.elim⟩, TA.kept fun i hi => ⟨?_, id⟩⟩
    have hi' := hi
    simp only [or_false] at hi'
    omega
  case body =>
    rintro k N M x a' A hxk ⟨B, rfl, h1, hB, ⟨hMB, hM2⟩, hO, hT⟩ hNM hMA hsz hrec
    obtain ⟨p, hp1, hp2, hav, hbq⟩ := HX.out x (List.mem_of_getElem? hxk)
    have hAT := Lib.hid (addAll_take (ds := ds) (pl := pl) (am := am) (s := fun _ => 0) hxk)
    obtain ⟨⟨un, ux, ud⟩, hu⟩ : ∃ u, av x = u := ⟨_, rfl⟩
    have hkx : k < xs.length := (List.getElem?_eq_some_iff.1 hxk).1
    have hSB : ∀ h, BytesQ (addAll ds pl am (fun _ => 0) (xs.take k) h) (1 + k * ((ds.length + 1) * (m + 1))) := fun h => by
      have := addAll_bytes (ds := ds) (pl := pl) (am := am) (m := m) (xs.take k) (fun _ => 0) 1 (fun j hj => by
        obtain ⟨q, -, -, -, h4⟩ := HX.out j (List.mem_of_mem_take hj)
        exact h4) (fun _ => bytes_zero 0) h
      rwa [List.length_take, Nat.min_eq_left (Nat.le_of_lt hkx)] at this
    rw [hp1] at hAT
    rw [hp1, hu]
    rw [hu] at hB hav
    have HAT := Lib.hid (And.intro hAT.out (And.intro hav (And.intro hbq hSB)))
    obtain ⟨s0, hs0⟩ : ∃ s0, addAll ds pl am (fun _ => 0) (xs.take k) = s0 := ⟨_, rfl⟩
    rw [hs0] at hO HAT
    have HLB : Hid (1 + k * ((ds.length + 1) * (m + 1)) + (ds.length + 1) * (m + 1) + m + 5 ≤ 100000000) := Lib.hid (by
      have h2 : k * ((ds.length + 1) * (m + 1)) ≤ xs.length * ((ds.length + 1) * (m + 1)) := Nat.mul_le_mul_right _ (Nat.le_of_lt hkx)
      have := HB.out
      omega)
    have HP2 := Lib.hid hp2
    clear hp1 hu hav hbq hAT hSB hs0 hkx hp2
    have b0 : A.heap[W.heap.size]? = some (.cells #[.slice rp n rc] 22 (0, 0)) := (hT.block _ (by omega) (by omega)).trans HB1.out.1
    have b2 : A.heap[W.heap.size + 1 + 1]? = some (.cells #[.slice (some ⟨W.heap.size + 1, 0, none⟩) n n] 23 (0, 0)) := (hT.block _ (by omega) (by omega)).trans HB1.out.2.2
    have hrv : RivAt W.heap.size A rs rp rc := (HR.out.turned HT1.out).same (hT.same (by omega) fun i hi h => by omega)
    have d0 := cell_of_box b0
    gi_wp2_with fail
    refine ⟨trivial, rfl, (CallsIn.inRound _ (callsIn_wide.2 (hDown_any rp n rc p _))).mono ?_⟩
    rintro e w2 ⟨rfl, rfl⟩
    gi_wp2_with fail
    have T2 := ((Turned.refl (fun _ => False) A).alloc (.cells #[.slice rp n rc] 22)).alloc (.cells #[(.int .i64 p)] 3)
    have n0 := new_first A (.cells #[.slice rp n rc] 22) (.cells #[(.int .i64 p)] 3)
    have n1 := new_second A (.cells #[.slice rp n rc] 22) (.cells #[(.int .i64 p)] 3)
    have hz2 : ((A.alloc (.cells #[.slice rp n rc] 22)).alloc (.cells #[(.int .i64 p)] 3)).heap.size = A.heap.size + 2 := by simp
    obtain ⟨A2, hA2⟩ : ∃ A2, A2 = (A.alloc (.cells #[.slice rp n rc] 22)).alloc (.cells #[(.int .i64 p)] 3) := ⟨_, rfl⟩
    rw [← hA2] at T2 n0 n1 hz2 ⊢
    have z2 := Nat.le_of_eq hz2
    have z2' := Nat.le_of_eq hz2.symm
    clear hA2 hz2 d0
    obtain ⟨rl, hrl⟩ := hrec
    have hit2 := hDown_iter rs ds rp rc W.heap.size (A.heap.size + 1) A.heap.size p A2 HDS.out (hrv.turned T2) HP2.out HD.out (cell_of_box n1) (free_of_box n1 0) (by rw [HRN.out]; exact cell_of_box n0) (by omega) (by omega) (by omega) (by omega)
    have HT2 := Lib.hid T2
    have HB2 := Lib.hid (keepB T2 b2)
    have HBB := Lib.hid (keepB T2 hB)
    have HOO := Lib.hid (hO.turned T2 id)
    have HTT := Lib.hid hT
    have hBlt := getElem?_lt hB
    clear T2 n0 n1 b0 b2 hrv hB hO hT
    refine range_lawN (keepB HT2.out hrl) (rfl : _ = Value.func (.func 104) #[] #[.pointer (some ⟨A.heap.size + 1, 0, none⟩), .pointer (some ⟨A.heap.size, 0, none⟩)]) (enters_of Tryz.func104 (by kernel_rfl) rfl) hit2 (fun _ => rfl) (by
        intro j hj
        rcases hj with (h | h) | h
        · exact Nat.lt_of_lt_of_le h (by omega)
        · rw [h]; omega
        · rw [h]; omega)
      (fun i N' A' => A2.heap.size ≤ N' ∧ OwnR A' (W.heap.size + 1) (repL n (addWay s0 ((way ds p).take i) (am x))) ∧ Turned (fun j => j = W.heap.size + 1 ∨ j = A.heap.size + 1) A2 A') (fun _ _ => False)
      (fun _ _ _ _ h hN => ⟨Nat.le_trans h.1 hN, h.2⟩) ?stab2 (fun _ _ _ h _ => h) (fun h => absurd (HEN.out p HP2.out) h) ⟨Nat.le_refl _, HOO.out, Turned.refl _ _⟩
      (fun (y : Nat) => #[.slice rp n rc, .func (.func gf) #[] lb, .pointer (some ⟨W.heap.size, 0, none⟩), undef, .slice none 0 0, .pointer (some ⟨W.heap.size + 1 + 1, 0, none⟩), (.int .i64 p), .pointer (some ⟨B, 0, none⟩), undef, .slice rp n rc, (.int .i64 n), .slice (some ⟨W.heap.size + 1, 0, none⟩) n n, .func (.func gf) #[] lb, (.int .i64 p), .agg #[.bool un, .string ux, .string ud], .slice rp n rc, (.int .i64 p), .func (.func 104) #[] #[.pointer (some ⟨A.heap.size + 1, 0, none⟩), .pointer (some ⟨A.heap.size, 0, none⟩)], (.int .i64 y), undef, undef, undef, undef, undef, undef, undef, undef, undef, undef]) (fun y => by simp [gEncs])
      (fun i N' M' y a' A' => a' = { tmps := #[.slice rp n rc, .func (.func gf) #[] lb, .pointer (some ⟨W.heap.size, 0, none⟩), undef, .slice none 0 0, .pointer (some ⟨W.heap.size + 1 + 1, 0, none⟩), (.int .i64 p), .pointer (some ⟨B, 0, none⟩), (.int .i64 y), .slice rp n rc, (.int .i64 n), .slice (some ⟨W.heap.size + 1, 0, none⟩) n n, .func (.func gf) #[] lb, (.int .i64 p), .agg #[.bool un, .string ux, .string ud], .slice rp n rc, (.int .i64 p), .func (.func 104) #[] #[.pointer (some ⟨A.heap.size + 1, 0, none⟩), .pointer (some ⟨A.heap.size, 0, none⟩)], (.int .i64 y), undef, undef, undef, undef, undef, undef, undef, undef, undef, undef], defers := [] } ∧ A2.heap.size ≤ N' ∧ OwnR A' (W.heap.size + 1) (repL n (addWay s0 ((way ds p).take i) (am x))) ∧ Turned (fun j => j = W.heap.size + 1 ∨ j = A.heap.size + 1) A2 A')
      ?stabA2 ?assign2 ?body2 ?done2 (fun _ _ h => h.elim)
    case stab2 =>
      rintro i N' A' A'' ⟨h1, h2, h3⟩ hN ht
      refine ⟨h1, h2.turned ht (by rintro (h | h); omega; omega), ?_⟩
      exact h3.cut ht (by rintro j (h | h); exact .inl (.inr h); exact .inr (by omega))
    case stabA2 =>
      rintro i N' M' y a' A' A'' ⟨rfl, h1, h2, h3⟩ ht
      exact ⟨rfl, h1, h2.turned ht (by omega), h3.freshC ht (by rintro j h; omega)⟩
    case assign2 =>
      rintro i N' y A' hy ⟨h1, h2, h3⟩ hN hsz'
      have HQ := Lib.hid (And.intro h1 (And.intro h2 h3))
      clear h1 h2 h3
      gi_wp2
      exact ⟨⟨trivial, HQ.out⟩, Kept.refl _ _⟩
    case body2 =>
      rintro i N' M' y a' A' hy ⟨rfl, h1, h2, h3⟩ hNM' hMA' hsz' hrec'
      have hyn : y < n := by
        have h4 := way_get hy
        have h5 := step_bound HD.out HP2.out i
        rw [← h4] at h5
        have := HNL.out
        omega
      have hil : i < (way ds p).length := (List.getElem?_eq_some_iff.1 hy).1
      obtain ⟨s1, hs1⟩ : ∃ s1, addWay s0 ((way ds p).take i) (am x) = s1 := ⟨_, rfl⟩
      have hT1 : addWay s0 ((way ds p).take (i + 1)) (am x) = addAt s1 y (am x) := by rw [addWay_take hy, hs1]
      have hsz1 : SzR (repR (s1 y)) (1 + k * ((ds.length + 1) * (m + 1)) + (ds.length + 1) * (m + 1) + m + 1) := by
        have h4 := addWay_bytes HAT.out.2.2.1 ((way ds p).take i) s0 _ HAT.out.2.2.2 y
        rw [hs1] at h4
        refine (h4.mono ?_).szr
        have h5 : ((way ds p).take i).length * (m + 1) ≤ (ds.length + 1) * (m + 1) := Nat.mul_le_mul_right _ (Nat.le_trans (by rw [List.length_take]; omega) (way_len ds p))
        omega
      have hsz2 : SzR ⟨un, ux, ud⟩ (1 + k * ((ds.length + 1) * (m + 1)) + (ds.length + 1) * (m + 1) + m + 1) := by
        rw [HAT.out.2.1]
        exact (HAT.out.2.2.1.mono (by omega)).szr
      have HADD := Lib.hid (fun W => qAdd_any (repR (s1 y)) ⟨un, ux, ud⟩ _ W (by omega) (by have := HLB.out; omega) hsz1 hsz2)
      rw [show qR (⟨un, ux, ud⟩ : Rv) = am x by rw [HAT.out.2.1, qR_repR], qR_repR] at HADD
      rw [hs1] at h2
      have hcell := h2.cells (repL_get s1 hyn)
      have HSET := Lib.hid (fun (V : World) (hV : OwnR V (W.heap.size + 1) (repL n s1)) => hV.set (i := y) (by rw [repL_len]; exact hyn) (repR (s1 y + am x)))
      rw [repL_set, ← hT1] at HSET
      obtain ⟨⟨vn, vx, vd⟩, hv⟩ : ∃ v, repR (s1 y) = v := ⟨_, rfl⟩
      obtain ⟨⟨qn, qx, qd⟩, hq⟩ : ∃ v, repR (s1 y + am x) = v := ⟨_, rfl⟩
      rw [hv] at HADD hcell
      rw [hq] at HADD HSET
      obtain ⟨k0, k1, k2⟩ := hcell
      have b2 := (h3.block _ (by omega) (by omega)).trans HB2.out
      have bB := (h3.block B (by omega) (by omega)).trans HBB.out
      have d2 := cell_of_box b2
      obtain ⟨u0, u1, u2, -, -, -⟩ := box3 bB
      have hy0 : (0 : Int) ≤ y := by omega
      have hy1 : (y : Int) < n := by omega
      have HS := Lib.hid (And.intro h2 (And.intro h3 (And.intro h1 b2)))
      clear hyn hil hs1 hT1 hsz1 hsz2 hv hq b2 bB h1 h2 h3 hy hit2 hrl HIT HEG HX HB HR HDS HD HEN HRN HNL HLB HAT HP2 HTT HOO HBB HB2 HT2 HO1 HB1 HT1 hxk hrec'
      gi_wp2_with fail
      have hS0 : (A'.drew).cell? ⟨W.heap.size + 1 + 1, 0, none⟩ = some (.slice (some ⟨W.heap.size + 1, 0, none⟩) n n) ∧ (A'.drew).cell? ⟨B, 0, none⟩ = some (.bool un) ∧ (A'.drew).cell? ⟨B, 1, none⟩ = some (.string ux) ∧ (A'.drew).cell? ⟨B, 2, none⟩ = some (.string ud) :=
        ⟨cellT ((Turned.refl (fun _ => False) A').drew) id d2, cellT ((Turned.refl (fun _ => False) A').drew) id u0, cellT ((Turned.refl (fun _ => False) A').drew) id u1, cellT ((Turned.refl (fun _ => False) A').drew) id u2⟩
      have j0 := cellT ((Turned.refl (fun _ => False) A').drew) id k0
      have j1 := cellT ((Turned.refl (fun _ => False) A').drew) id k1
      have j2 := cellT ((Turned.refl (fun _ => False) A').drew) id k2
      clear d2 k0 k1 k2 u0 u1 u2
      refine wpIn_region_round (S := fun V => V.cell? ⟨W.heap.size + 1 + 1, 0, none⟩ = some (.slice (some ⟨W.heap.size + 1, 0, none⟩) n n) ∧ V.cell? ⟨B, 0, none⟩ = some (.bool un) ∧ V.cell? ⟨B, 1, none⟩ = some (.string ux) ∧ V.cell? ⟨B, 2, none⟩ = some (.string ud)) (by kernel_rfl) (by kernel_rfl) ?_
      refine wpAnyH_take (i := 0) (oi := _) (v := .slice (some ⟨W.heap.size + 1, 0, none⟩) n n) rfl (by kernel_rfl) (by kernel_rfl) (by kernel_rfl) (fun _ _ _ h => h) (Or.inl ⟨by rfl, fun V hV => ?_⟩) hS0 ?_
      · obtain ⟨e0, e1, e2, e3⟩ := hV
        go_simp
      refine wpAnyH_take (i := 1) (oi := _) (v := (.int .i64 y)) rfl (by kernel_rfl) (by kernel_rfl) (by kernel_rfl) (fun _ _ _ h => h) (Or.inl ⟨by rfl, fun V hV => ?_⟩) hS0 ?_
      · obtain ⟨e0, e1, e2, e3⟩ := hV
        go_simp
      refine wpAnyH_take (i := 2) (oi := _) (v := .slice (some ⟨W.heap.size + 1, 0, none⟩) n n) rfl (by kernel_rfl) (by kernel_rfl) (by kernel_rfl) (fun _ _ _ h => h) (Or.inl ⟨by rfl, fun V hV => ?_⟩) hS0 ?_
      · obtain ⟨e0, e1, e2, e3⟩ := hV
        go_simp
      refine wpAnyH_take (i := 3) (oi := _) (v := (.int .i64 y)) rfl (by kernel_rfl) (by kernel_rfl) (by kernel_rfl) (fun _ _ _ h => h) (Or.inl ⟨by rfl, fun V hV => ?_⟩) hS0 ?_
      · obtain ⟨e0, e1, e2, e3⟩ := hV
        go_simp
      refine wpAnyH_take (i := 4) (oi := _) (v := .pointer (some ⟨W.heap.size + 1, y * 3, none⟩)) rfl (by kernel_rfl) (by kernel_rfl) (by kernel_rfl) (fun _ _ _ h => h) (Or.inl ⟨by rfl, fun V hV => ?_⟩) hS0 ?_
      · obtain ⟨e0, e1, e2, e3⟩ := hV
        go_simp
      refine wpAnyH_take (i := 6) (oi := _) (v := .agg #[.bool un, .string ux, .string ud]) rfl (by kernel_rfl) (by kernel_rfl) (by kernel_rfl) (fun _ _ _ h => h) (Or.inl ⟨by rfl, fun V hV => ?_⟩) hS0 ?_
      · obtain ⟨e0, e1, e2, e3⟩ := hV
        go_simp
      simp only [Act.put, List.setIfInBounds_toArray]
      refine wpAnyH_ready (rs := [5]) (by kernel_rfl) (by simp) ?_
      refine AllReadyH.cons (o := _) rfl (fun K hK => ?_) AllReadyH.nil
      go_simp
      refine hK.out _ _ hS0 (fun _ => ?_)
      clear hK j0 j1 j2
      refine wpAnyH_ready (rs := [7]) (by kernel_rfl) (by simp) ?_
      refine AllReadyH.cons (o := _) rfl (fun K hK => ?_) AllReadyH.nil
      go_simp
      refine (HADD.out _).mono ?_
      rintro e w4 ⟨rfl, t4⟩
      have hS1 : w4.cell? ⟨W.heap.size + 1 + 1, 0, none⟩ = some (.slice (some ⟨W.heap.size + 1, 0, none⟩) n n) ∧ w4.cell? ⟨B, 0, none⟩ = some (.bool un) ∧ w4.cell? ⟨B, 1, none⟩ = some (.string ux) ∧ w4.cell? ⟨B, 2, none⟩ = some (.string ud) := ⟨cellT t4 id hS0.1, cellT t4 id hS0.2.1, cellT t4 id hS0.2.2.1, cellT t4 id hS0.2.2.2⟩
      have t5 := ((Turned.refl (fun _ => False) A').drew).trans t4
      have O4 := HS.out.1.turned t5 id
      refine hK.out _ _ hS1 (fun _ => ?_)
      clear hK hS0 t4 HADD
      obtain ⟨o4, o5, o6⟩ := O4.cells (repL_get (g := y) s1 (by omega))
      have o1 := O4.free (y * 3)
      have o2 := O4.free (y * 3 + 1)
      have o3 := O4.free (y * 3 + 2)
      have HO4 := Lib.hid (And.intro O4 t5)
      clear O4 t5
      refine wpAnyH_take (i := 8) (oi := _) (v := .pointer (some ⟨W.heap.size + 1, y * 3, none⟩)) rfl (by kernel_rfl) (by kernel_rfl) (by kernel_rfl) (fun _ _ _ h => h) (Or.inl ⟨by rfl, fun V hV => ?_⟩) hS1 ?_
      · obtain ⟨e0, e1, e2, e3⟩ := hV
        go_simp
      simp only [Act.put, List.setIfInBounds_toArray]
      refine wpAnyH_ready (rs := [9]) (by kernel_rfl) (by simp) ?_
      refine AllReadyH.cons (o := _) rfl (fun K hK => ?_) AllReadyH.nil
      go_simp
      have hst := HSET.out w4 HO4.out.1
      have hS2 : (((w4.setCell ⟨W.heap.size + 1, y * 3, none⟩ (.bool qn)).setCell ⟨W.heap.size + 1, y * 3 + 1, none⟩ (.string qx)).setCell ⟨W.heap.size + 1, y * 3 + 2, none⟩ (.string qd)).cell? ⟨W.heap.size + 1 + 1, 0, none⟩ = some (.slice (some ⟨W.heap.size + 1, 0, none⟩) n n) ∧ (((w4.setCell ⟨W.heap.size + 1, y * 3, none⟩ (.bool qn)).setCell ⟨W.heap.size + 1, y * 3 + 1, none⟩ (.string qx)).setCell ⟨W.heap.size + 1, y * 3 + 2, none⟩ (.string qd)).cell? ⟨B, 0, none⟩ = some (.bool un) ∧ (((w4.setCell ⟨W.heap.size + 1, y * 3, none⟩ (.bool qn)).setCell ⟨W.heap.size + 1, y * 3 + 1, none⟩ (.string qx)).setCell ⟨W.heap.size + 1, y * 3 + 2, none⟩ (.string qd)).cell? ⟨B, 1, none⟩ = some (.string ux) ∧ (((w4.setCell ⟨W.heap.size + 1, y * 3, none⟩ (.bool qn)).setCell ⟨W.heap.size + 1, y * 3 + 1, none⟩ (.string qx)).setCell ⟨W.heap.size + 1, y * 3 + 2, none⟩ (.string qd)).cell? ⟨B, 2, none⟩ = some (.string ud) :=
        ⟨cellT hst.2 (by omega) hS1.1, cellT hst.2 (by omega) hS1.2.1, cellT hst.2 (by omega) hS1.2.2.1, cellT hst.2 (by omega) hS1.2.2.2⟩
      refine hK.out _ _ hS2 (fun _ => ?_)
      refine wpAnyH_done (by kernel_rfl) ?_ _
      have ht9 := (HO4.out.2.mono (C' := fun j => j = W.heap.size + 1) fun _ h => h.elim).trans hst.2
      have ht10 := HS.out.2.1.cut ht9 (fun j h => Or.inl (Or.inl h))
      have hN2 := HS.out.2.2.1
      refine ⟨ht9.kept fun j hj => ?_, ht10.size, hst.1, ht10⟩
      show j < A'.heap.size ∧ ¬ j = W.heap.size + 1
      have hj' : (((j < W.heap.size ∨ j = A.heap.size) ∨ j = A.heap.size + 1) ∨ (N' ≤ j ∧ j < M')) ∨ j = A2.heap.size := hj
      clear hj hst hS1 hS2 ht9 ht10
      omega
    case done2 =>
      rintro A' ⟨h1, h2, h3⟩ hsz'
      rw [List.take_length] at h2
      have HF : Hid (OwnR A' (W.heap.size + 1) (repL n (addAll ds pl am (fun _ => 0) (xs.take (k + 1)))) ∧ Turned (fun i => i = W.heap.size + 1) w1 A') := Lib.hid ⟨by rw [HAT.out.1]; exact h2, HTT.out.cut ((HT2.out.mono fun _ h => h.elim).cut (C := fun j => j = W.heap.size + 1 ∨ j = A.heap.size + 1) h3 (fun j h => .inl h)) (by rintro j (h | h); exact .inl h; exact .inr (by omega))⟩
      have HKP : Hid (Kept (fun i => ((i < W.heap.size ∨ False) ∨ (N ≤ i ∧ i < M)) ∨ i = w1.heap.size ∨ i = w1.heap.size + 1) A A') := Lib.hid (((HT2.out.mono fun _ h => h.elim).cut (C := fun j => j = W.heap.size + 1 ∨ j = A.heap.size + 1) h3 (fun j h => .inl h)).kept fun i hi => by
        show i < A.heap.size ∧ ¬ (i = W.heap.size + 1 ∨ i = A.heap.size + 1)
        have hi' : ((i < W.heap.size ∨ False) ∨ (N ≤ i ∧ i < M)) ∨ i = w1.heap.size ∨ i = w1.heap.size + 1 := hi
        simp only [or_false] at hi'
        clear hi
        omega)
      have hsz9 := h3.size
      clear h2 h3
      gi_wp2_with fail
      refine ⟨?_, ?_, HF.out.1, HF.out.2⟩
      · have := HKP.out
        simpa using this
      · omega
  case done =>
    rintro A ⟨h1, h2, h3⟩ hD hsz
    rw [List.take_length] at h2
    have HF := Lib.hid (And.intro h2 h3)
    have b2 : A.heap[W.heap.size + 1 + 1]? = some (.cells #[.slice (some ⟨W.heap.size + 1, 0, none⟩) n n] 23 (0, 0)) := (h3.block _ (by omega) (by omega)).trans HB1.out.2.2
    have d2 := cell_of_box b2
    have HDD := Lib.hid hD
    clear h2 h3 hD
    gi_wp2_with fail
    refine ⟨by simp, .inl ⟨_, _, rfl, run_takeDeferred HDD.out, ?_⟩⟩
    refine ⟨_, results_tmp rfl _ _ _, W.heap.size + 1, rfl, by omega, ?_, ?_⟩
    · exact HF.out.1.turned ((Turned.refl (fun k => k = w1.heap.size) A).putObj rfl _) (by omega)
    · exact (HT1.out.fresh HF.out.2 (by rintro i h; omega)).fresh ((Turned.refl (fun k => k = w1.heap.size) A).putObj rfl _) (by rintro i h; omega)
end Go.Proofs.YtanhhdndgkhcfaaGreatDoor
namespace Go.Proofs.YtanhhdndgkhcfaaGreatDoor
open Go Go.Proofs Go.RowKit
attribute [local go_sem] Oper.semAt_some
attribute [local go_sem ↓] run_eql_rat' run_neq_rat'
def natR (u : Rv) : Bool := decide (validR u) && !u.neg
def badC (n : Nat) (c : Cl) : Int := if (c.place < 0 ∨ (n : Int) ≤ c.place) ∨ (c.rank < 0 ∨ 100 < c.rank) then 3 else if natR c.amt = false then 1 else 0
def claimsE (n : Nat) : List Cl → Int
  | [] => 0
  | c :: l => if badC n c = 0 then claimsE n l else badC n c
def supE (rs : List Rc) (us : List Rv) (cs : List Cl) : Int :=
  if rivE rs ≠ 0 then rivE rs else if us.length ≠ rs.length ∨ (us.any fun u => !natR u) = true then 1 else if 200 < cs.length then 2 else claimsE rs.length cs
theorem hZero_any (W : World) : Calls Tryz.prog 57 #[] W fun e w' => e = .returned (ratV zeroR) ∧ Turned (fun _ => False) W w' := by
  go_enter Tryz.func57, Tryz.ntmps57
  go_wp2_with fail
  refine bodyPost_ret (results_cell_row (fn := Tryz.f57) rfl _ _ W.heap.size 68 #[.bool false, .string ⟨#[]⟩, .string ⟨#[]⟩] (0, 0) _ rfl (World.alloc_heap_new _ _) Tryz.underlying68 rfl (by kernel_rfl)) rfl ?_
  exact ⟨rfl, (Turned.refl _ W).alloc _⟩
theorem hNatural_any (u : Rv) (W : World) (hu : SzR u 400000000) : Calls Tryz.prog 89 #[ratV u] W fun e w' => e = .returned (.bool (natR u)) ∧ Turned (fun _ => False) W w' := by
  have HV := Lib.hid (fun W => qValid_any u W hu.1 hu.2)
  obtain ⟨un, ux, ud⟩ := u
  obtain ⟨v, hv⟩ : ∃ v, decide (validR ⟨un, ux, ud⟩) = v := ⟨_, rfl⟩
  have HR : Hid (natR ⟨un, ux, ud⟩ = (v && !un)) := Lib.hid (by unfold natR; rw [hv])
  rw [hv] at HV
  clear hu hv
  cases v
  · go_enter Tryz.func89, Tryz.ntmps89
    go_wp2_with fail
    refine (HV.out _).mono ?_
    rintro e w1 ⟨rfl, t1⟩
    have HT := Lib.hid (((Turned.refl (fun _ => False) W).alloc _).trans t1)
    clear t1 HV
    go_wp2_with fail
    go_ret
    rw [HR.out]
    exact ⟨rfl, HT.out⟩
  · go_enter Tryz.func89, Tryz.ntmps89
    go_wp2_with fail
    refine (HV.out _).mono ?_
    rintro e w1 ⟨rfl, t1⟩
    have c0 := (box3 (keepB t1 (World.alloc_heap_new W _))).1
    have HT := Lib.hid (((Turned.refl (fun _ => False) W).alloc _).trans t1)
    clear t1 HV
    go_wp2_with fail
    go_ret
    rw [HR.out]
    exact ⟨rfl, HT.out⟩
theorem hCheckE_any (u : Rv) (W : World) (hu : SzR u 400000000) : Calls Tryz.prog 88 #[ratV u] W fun e w' => e = .returned (.bool (!natR u)) ∧ Turned (fun _ => False) W w' := by
  have HV := Lib.hid (fun W => hNatural_any u W hu)
  obtain ⟨un, ux, ud⟩ := u
  obtain ⟨v, hv⟩ : ∃ v, natR ⟨un, ux, ud⟩ = v := ⟨_, rfl⟩
  rw [hv] at HV ⊢
  clear hu hv
  go_enter Tryz.func88, Tryz.ntmps88
  go_wp2_with fail
  refine (HV.out _).mono ?_
  rintro e w1 ⟨rfl, t1⟩
  have HT := Lib.hid (((Turned.refl (fun _ => False) W).alloc _).trans t1)
  clear t1 HV
  go_wp2_with fail
  go_ret
  exact ⟨rfl, HT.out⟩
def firstBad : List Rv → Nat → Int
  | [], _ => -1
  | u :: l, k => if natR u = true then firstBad l (k + 1) else k
theorem firstBad_any : ∀ (l : List Rv) (k : Nat), decide (0 ≤ firstBad l k) = l.any fun u => !natR u
  | [], k => by rfl
  | u :: l, k => by
    rw [firstBad, List.any_cons]
    split
    · rename_i h
      rw [h, firstBad_any l (k + 1)]; rfl
    · rename_i h
      simp [h]
theorem firstBad_drop : ∀ (l : List Rv) (k i : Nat), (∀ j u, j < k → l[j]? = some u → natR u = true) → firstBad l i = firstBad (l.drop k) (i + k)
  | [], k, i, _ => by rw [List.drop_nil]; rfl
  | u :: l, 0, i, _ => rfl
  | u :: l, k + 1, i, h => by
    rw [firstBad, if_pos (h 0 u (by omega) rfl), List.drop_succ_cons, firstBad_drop l k (i + 1) fun j v hj hv => h (j + 1) v (by omega) (by simpa using hv), show i + 1 + k = i + (k + 1) by omega]
set_option maxRecDepth 20000 in
set_option maxHeartbeats 2000000 in
theorem slIndF_any (us : List Rv) (p : Option Addr) (c N : Nat) (W : World) (h : At N W 3 ratCells us p c) (hs : ∀ u ∈ us, SzR u 400000000) :
    Calls Tryz.prog 119 #[.slice p us.length c, .func (.func 88) #[] #[]] W fun e w' => e = .returned (.int .i64 (firstBad us 0)) ∧ Turned (fun _ => False) W w' := by
  have HL := Lib.hid h
  have HS := Lib.hid hs
  have hmx : (us.length : Int) ≤ 9223372036854775807 := by have := h.len; unfold maxLen at this; omega
  obtain ⟨n, hn⟩ : ∃ n, us.length = n := ⟨_, rfl⟩
  have HN := Lib.hid hn
  rw [hn] at hmx ⊢
  clear h hs hn
  go_enter Tryz.func119, Tryz.ntmps119
  go_wp2_with fail
  go_loopw [8] (fun i wr => ∃ k : Nat, k ≤ n ∧ i = (.int .i64 k) ∧ Hid (Turned (fun _ => False) W wr ∧ ∀ j u, j < k → us[j]? = some u → natR u = true)) (fun i _ => n - (intOf i).toNat)
  case atStart => exact ⟨0, Nat.zero_le _, rfl, Lib.hid ⟨Turned.refl _ _, fun j u h => by omega⟩⟩
  case round =>
    obtain ⟨k, hk, rfl, HH⟩ := hrel
    by_cases hlt : k < n
    · have hx : us[k]? = some (us[k]'(by rw [HN.out]; exact hlt)) := List.getElem?_eq_getElem _
      obtain ⟨⟨un, ux, ud⟩, hxe⟩ : ∃ u, us[k]'(by rw [HN.out]; exact hlt) = u := ⟨_, rfl⟩
      rw [hxe] at hx
      obtain ⟨b, a, rfl, -, e0, e1, e2⟩ := (HL.out.turned HH.out.1).rats hx
      have HC := Lib.hid (fun W => hCheckE_any ⟨un, ux, ud⟩ W (HS.out _ (List.mem_of_getElem? hx)))
      have HFB : Hid (firstBad us 0 = if natR ⟨un, ux, ud⟩ = true then firstBad (us.drop (k + 1)) (k + 1) else k) := Lib.hid (by
        rw [firstBad_drop us k 0 HH.out.2, List.drop_eq_getElem_cons (by rw [HN.out]; exact hlt), hxe, firstBad, Nat.zero_add])
      have HX := Lib.hid hx
      clear hx hxe
      by_cases hv : natR ⟨un, ux, ud⟩ = true
      · rw [hv] at HC
        have HG : ∀ A, Turned (fun _ => False) wr A → Hid (Turned (fun _ => False) W A ∧ ∀ j u, j < k + 1 → us[j]? = some u → natR u = true) := fun A hA => Lib.hid ⟨HH.out.1.trans hA, fun j u hj hu => by
          rcases Nat.lt_or_ge j k with h1 | h1
          · exact HH.out.2 j u h1 hu
          · obtain rfl : j = k := by omega
            rw [HX.out] at hu; cases hu; exact hv⟩
        have HGG := Lib.hid HG
        clear HG hv
        go_wp2_with fail
        refine (HC.out _).mono ?_
        rintro e w1 ⟨rfl, t1⟩
        have T1 := Lib.hid t1
        clear t1
        go_wp2_with fail
        go_roundw
        case rel => exact ⟨k + 1, by omega, by go_num, HGG.out _ T1.out⟩
        case measure => simp [intOf]; omega
      · have hv2 : natR ⟨un, ux, ud⟩ = false := by simpa using hv
        rw [hv2] at HC
        have HFB2 : Hid (firstBad us 0 = k) := Lib.hid (by rw [HFB.out, if_neg hv])
        clear hv hv2
        go_wp2_with fail
        refine (HC.out _).mono ?_
        rintro e w1 ⟨rfl, t1⟩
        have T1 := Lib.hid (HH.out.1.trans t1)
        clear t1
        go_wp2_with fail
        go_ret
        rw [HFB2.out]
        exact ⟨rfl, T1.out⟩
    · obtain rfl : k = n := by omega
      have HFB2 : Hid (firstBad us 0 = -1) := Lib.hid (by
        rw [firstBad_drop us k 0 HH.out.2, List.drop_eq_nil_of_le (by rw [HN.out]; exact Nat.le_refl _)]; rfl)
      go_wp2_with fail
      go_ret
      rw [HFB2.out]
      exact ⟨rfl, HH.out.1⟩
theorem slContF_any (us : List Rv) (p : Option Addr) (c N : Nat) (W : World) (h : At N W 3 ratCells us p c) (hs : ∀ u ∈ us, SzR u 400000000) :
    Calls Tryz.prog 87 #[.slice p us.length c, .func (.func 88) #[] #[]] W fun e w' => e = .returned (.bool (us.any fun u => !natR u)) ∧ Turned (fun _ => False) W w' := by
  have HC := Lib.hid (slIndF_any us p c N W h hs)
  obtain ⟨z, hz⟩ : ∃ z, firstBad us 0 = z := ⟨_, rfl⟩
  rw [← firstBad_any us 0]
  rw [hz] at HC ⊢
  clear h hs hz
  go_enter Tryz.func87, Tryz.ntmps87
  go_wp2_with fail
  refine HC.out.mono ?_
  rintro e w1 ⟨rfl, t1⟩
  have T1 := Lib.hid t1
  clear t1
  go_wp2_with fail
  go_ret
  exact ⟨rfl, T1.out⟩
end Go.Proofs.YtanhhdndgkhcfaaGreatDoor
namespace Go.Proofs.YtanhhdndgkhcfaaGreatDoor
open Go Go.Proofs Go.RowKit
attribute [local go_sem] Oper.semAt_some
attribute [local go_sem ↓] run_eql_rat' run_neq_rat'
theorem claimsE_drop (n : Nat) : ∀ (l : List Cl) (k : Nat), (∀ j u, j < k → l[j]? = some u → badC n u = 0) → claimsE n l = claimsE n (l.drop k)
  | [], k, _ => by rw [List.drop_nil]
  | u :: l, 0, _ => rfl
  | u :: l, k + 1, h => by
    rw [claimsE, if_pos (h 0 u (by omega) rfl), List.drop_succ_cons, claimsE_drop n l k fun j v hj hv => h (j + 1) v (by omega) (by simpa using hv)]
set_option maxRecDepth 100000 in
set_option maxHeartbeats 8000000 in
theorem hCheck_any (rs : List Rc) (us : List Rv) (cs : List Cl) (rp gp cp : Option Addr) (rc gc cc : Nat) (W : World) (hr : RivAt W.heap.size W rs rp rc) (hg : At W.heap.size W 3 ratCells us gp gc) (hc : At W.heap.size W 5 claimCells cs cp cc)
    (su : ∀ u ∈ us, SzR u 400000000) (sc : ∀ c ∈ cs, SzR c.amt 400000000) :
    Calls Tryz.prog 49 #[.agg #[.slice rp rs.length rc, .slice gp us.length gc], .slice cp cs.length cc] W fun e w' => e = .returned (.int .i64 (supE rs us cs)) ∧ Turned (fun _ => False) W w' := by
  have T0 := (Turned.refl (fun _ => False) W).alloc (.cells #[.slice rp rs.length rc, .slice gp us.length gc] 65)
  have B0 := World.alloc_heap_new W (.cells #[.slice rp rs.length rc, .slice gp us.length gc] 65)
  have HB0 := Lib.hid B0
  have hr0 := (hr.turned T0).mono T0.size
  have HE := Lib.hid (eCheck_any rs rp rc _ hr0)
  have HG := Lib.hid (fun A (hA : Turned (fun _ => False) (W.alloc (.cells #[.slice rp rs.length rc, .slice gp us.length gc] 65)) A) => slContF_any us gp gc W.heap.size A ((hg.turned T0).turned hA) su)
  have HC := Lib.hid (hc.turned T0)
  have HSC := Lib.hid sc
  have m1 : (cs.length : Int) ≤ 9223372036854775807 := by have := hc.len; unfold maxLen at this; omega
  have m2 : (us.length : Int) ≤ 9223372036854775807 := by have := hg.len; unfold maxLen at this; omega
  have m3 : (rs.length : Int) ≤ 9223372036854775807 := by have := hr.at_.len; unfold maxLen at this; omega
  have HV : Hid (supE rs us cs = if rivE rs ≠ 0 then rivE rs else if us.length ≠ rs.length ∨ (us.any fun u => !natR u) = true then 1 else if 200 < cs.length then 2 else claimsE rs.length cs) := Lib.hid rfl
  obtain ⟨nr, hnr⟩ : ∃ n, rs.length = n := ⟨_, rfl⟩
  obtain ⟨nu, hnu⟩ : ∃ n, us.length = n := ⟨_, rfl⟩
  obtain ⟨nc, hnc⟩ : ∃ n, cs.length = n := ⟨_, rfl⟩
  have HNC := Lib.hid hnc
  obtain ⟨rv, hrv⟩ : ∃ v, rivE rs = v := ⟨_, rfl⟩
  obtain ⟨av, hav⟩ : ∃ v, (us.any fun u => !natR u) = v := ⟨_, rfl⟩
  obtain ⟨sv, hsv⟩ : ∃ v, supE rs us cs = v := ⟨_, rfl⟩
  rw [hnr, hnu] at B0 T0 HB0 HG HE HC
  rw [hrv] at HE
  rw [hav] at HG
  rw [hnr, hnu, hnc, hrv, hav, hsv] at HV
  rw [hnr] at m3
  rw [hnu] at m2
  rw [hnc] at m1
  rw [hnr, hnu, hnc, hsv]
  obtain ⟨w0, hw0⟩ : ∃ w0, w0 = W.alloc (.cells #[.slice rp nr rc, .slice gp nu gc] 65) := ⟨_, rfl⟩
  rw [← hw0] at B0 T0 HB0 HG HE HC
  have HT0 := Lib.hid T0
  clear hr hg hc su sc hr0 hnr hnu hnc hrv hav hsv B0 T0
  have CE : ∀ A, Turned (fun _ => False) w0 A → A.cell? ⟨W.heap.size, 0, none⟩ = some (.slice rp nr rc) ∧ A.cell? ⟨W.heap.size, 1, none⟩ = some (.slice gp nu gc) := fun A hA => by
    have := keepB hA HB0.out
    constructor <;> simp [World.cell?, this]
  have HCE := Lib.hid CE
  clear CE
  go_enter Tryz.func49, Tryz.ntmps49
  go_wp2_with fail
  rw [← hw0]
  refine HE.out.mono ?_
  rintro e w1 ⟨rfl, t1⟩
  have HT1 := Lib.hid t1
  obtain ⟨c0, c1⟩ := HCE.out w1 t1
  clear t1 HE hw0
  by_cases h1 : rv = 0
  · subst h1
    replace HV := Lib.hid (HV.out.trans (if_neg (by simp)))
    by_cases h2 : nu = nr
    · subst h2
      have hG1 := Lib.hid (HG.out w1 HT1.out)
      clear HG
      cases av
      · replace HV := Lib.hid (HV.out.trans (if_neg (by simp)))
        by_cases h5 : 200 < nc
        · replace HV := Lib.hid (HV.out.trans (if_pos h5))
          have h6 : (200 : Int) < nc := by omega
          go_wp2_with (refine hG1.out.mono ?_; rintro e w2 ⟨rfl, t2⟩; have HT2 := Lib.hid (HT1.out.trans t2); clear t2)
          go_ret
          rw [HV.out]
          exact ⟨rfl, HT0.out.trans HT2.out⟩
        have h6 : ¬ (200 : Int) < nc := by omega
        replace HV := Lib.hid (HV.out.trans (if_neg h5))
        clear h5
        go_wp2_with (refine hG1.out.mono ?_; rintro e w2 ⟨rfl, t2⟩; have HT2 := Lib.hid (HT1.out.trans t2); clear t2)
        clear hG1 c0 c1 HT1
        go_loopw [31] (fun i wr => ∃ k : Nat, k ≤ nc ∧ i = (.int .i64 k) ∧ Hid (Turned (fun _ => False) w0 wr ∧ ∀ j u, j < k → cs[j]? = some u → badC nu u = 0)) (fun i _ => nc - (intOf i).toNat)
        case atStart => exact ⟨0, Nat.zero_le _, rfl, Lib.hid ⟨HT2.out, fun j u h => by omega⟩⟩
        case round =>
          clear HT2
          obtain ⟨k, hk, rfl, HH⟩ := hrel
          by_cases hlt : k < nc
          · have hx : cs[k]? = some (cs[k]'(by rw [HNC.out]; exact hlt)) := List.getElem?_eq_getElem _
            obtain ⟨⟨pl, rk, ⟨un, ux, ud⟩⟩, hxe⟩ : ∃ u, cs[k]'(by rw [HNC.out]; exact hlt) = u := ⟨_, rfl⟩
            rw [hxe] at hx
            obtain ⟨b, a, rfl, -, e0, e1, e2, e3, e4⟩ := (HC.out.turned HH.out.1).claims hx
            have TA := (Turned.refl (fun _ => False) wr).alloc (.cells #[(.int .i64 pl), (.int .i64 rk), .bool un, .string ux, .string ud] 75)
            have ce := HCE.out _ (HH.out.1.trans TA)
            obtain ⟨k0, k1⟩ := ce
            have HN := Lib.hid (fun W => hNatural_any ⟨un, ux, ud⟩ W (HSC.out _ (List.mem_of_getElem? hx)))
            have HCL : Hid (claimsE nu cs = if badC nu ⟨pl, rk, ⟨un, ux, ud⟩⟩ = 0 then claimsE nu (cs.drop (k + 1)) else badC nu ⟨pl, rk, ⟨un, ux, ud⟩⟩) := Lib.hid (by
              rw [claimsE_drop nu cs k HH.out.2, List.drop_eq_getElem_cons (by rw [HNC.out]; exact hlt), hxe, claimsE])
            have HX := Lib.hid hx
            have HTA := Lib.hid (HH.out.1.trans TA)
            have HBAD : Hid (∀ v, badC nu ⟨pl, rk, ⟨un, ux, ud⟩⟩ = v → v ≠ 0 → sv = v) := Lib.hid fun v h1 h2 => by
              rw [HV.out, HCL.out, if_neg (by rw [h1]; exact h2), h1]
            have HNX : Hid (badC nu ⟨pl, rk, ⟨un, ux, ud⟩⟩ = 0 → ∀ A, Turned (fun _ => False) w0 A → Hid (Turned (fun _ => False) w0 A ∧ ∀ j u, j < k + 1 → cs[j]? = some u → badC nu u = 0)) := Lib.hid fun h0 A hA => Lib.hid ⟨hA, fun j u hj hu => by
              rcases Nat.lt_or_ge j k with h1 | h1
              · exact HH.out.2 j u h1 hu
              · obtain rfl : j = k := by omega
                rw [HX.out] at hu; cases hu; exact h0⟩
            clear hx hxe
            by_cases g : (pl < 0 ∨ (nu : Int) ≤ pl) ∨ (rk < 0 ∨ 100 < rk)
            · have HS3 : Hid (sv = 3) := Lib.hid (HBAD.out 3 (by unfold badC; rw [if_pos g]) (by decide))
              rcases g with (g | g) | (g | g)
              · go_wp2_with fail
                go_ret
                rw [HS3.out]
                exact ⟨rfl, HT0.out.trans HTA.out⟩
              · by_cases g1 : pl < 0
                · omega
                go_wp2_with fail
                go_ret
                rw [HS3.out]
                exact ⟨rfl, HT0.out.trans HTA.out⟩
              · by_cases g1 : pl < 0 ∨ (nu : Int) ≤ pl
                · rcases g1 with g1 | g1
                  · go_wp2_with fail
                    go_ret
                    rw [HS3.out]
                    exact ⟨rfl, HT0.out.trans HTA.out⟩
                  · have g2 : ¬ pl < 0 := by omega
                    go_wp2_with fail
                    go_ret
                    rw [HS3.out]
                    exact ⟨rfl, HT0.out.trans HTA.out⟩
                · have g2 : ¬ pl < 0 := by omega
                  have g3 : ¬ (nu : Int) ≤ pl := by omega
                  clear g1
                  go_wp2_with fail
                  go_ret
                  rw [HS3.out]
                  exact ⟨rfl, HT0.out.trans HTA.out⟩
              · by_cases g1 : pl < 0 ∨ (nu : Int) ≤ pl
                · rcases g1 with g1 | g1
                  · go_wp2_with fail
                    go_ret
                    rw [HS3.out]
                    exact ⟨rfl, HT0.out.trans HTA.out⟩
                  · have g2 : ¬ pl < 0 := by omega
                    go_wp2_with fail
                    go_ret
                    rw [HS3.out]
                    exact ⟨rfl, HT0.out.trans HTA.out⟩
                · have g2 : ¬ pl < 0 := by omega
                  have g3 : ¬ (nu : Int) ≤ pl := by omega
                  have g4 : ¬ rk < 0 := by omega
                  clear g1
                  go_wp2_with fail
                  go_ret
                  rw [HS3.out]
                  exact ⟨rfl, HT0.out.trans HTA.out⟩
            have g1 : ¬ pl < 0 := by omega
            have g2 : ¬ (nu : Int) ≤ pl := by omega
            have g3 : ¬ rk < 0 := by omega
            have g4 : ¬ 100 < rk := by omega
            have HBC : Hid (badC nu ⟨pl, rk, ⟨un, ux, ud⟩⟩ = if natR ⟨un, ux, ud⟩ = false then 1 else 0) := Lib.hid (by unfold badC; rw [if_neg g])
            clear g
            obtain ⟨nv, hnv⟩ : ∃ v, natR ⟨un, ux, ud⟩ = v := ⟨_, rfl⟩
            rw [hnv] at HBC HN
            clear hnv
            cases nv
            · have HS1 : Hid (sv = 1) := Lib.hid (HBAD.out 1 (by rw [HBC.out]; rfl) (by decide))
              go_wp2_with (refine (HN.out _).mono ?_; rintro e w3 ⟨rfl, t3⟩; have T3 := Lib.hid t3; clear t3)
              go_ret
              rw [HS1.out]
              exact ⟨rfl, HT0.out.trans (HTA.out.trans T3.out)⟩
            · have HG2 := Lib.hid (HNX.out (by rw [HBC.out]; rfl))
              go_wp2_with (refine (HN.out _).mono ?_; rintro e w3 ⟨rfl, t3⟩; have T3 := Lib.hid t3; clear t3)
              go_roundw
              case rel => exact ⟨k + 1, by omega, by go_num, HG2.out _ (HTA.out.trans T3.out)⟩
              case measure => simp [intOf]; omega
          · obtain rfl : k = nc := by omega
            have HS0 : Hid (sv = 0) := Lib.hid (by
              rw [HV.out, claimsE_drop nu cs k HH.out.2, List.drop_eq_nil_of_le (by rw [HNC.out]; exact Nat.le_refl _)]; rfl)
            go_wp2_with fail
            go_ret
            rw [HS0.out]
            exact ⟨rfl, HT0.out.trans HH.out.1⟩
      · replace HV := Lib.hid (HV.out.trans (if_pos (by simp)))
        go_wp2_with (refine hG1.out.mono ?_; rintro e w2 ⟨rfl, t2⟩; have HT2 := Lib.hid (HT1.out.trans t2); clear t2)
        go_ret
        rw [HV.out]
        exact ⟨rfl, HT0.out.trans HT2.out⟩
    · replace HV := Lib.hid (HV.out.trans (if_pos (.inl h2)))
      have h3 : ((nu : Int) == (nr : Int)) = false := by simpa using fun h => h2 (by omega)
      have h4 : ((nu : Int) != (nr : Int)) = true := by simpa using fun h => h2 (by omega)
      clear h2
      go_wp2_with fail
      go_ret
      rw [HV.out]
      exact ⟨rfl, HT0.out.trans HT1.out⟩
  · replace HV := Lib.hid (HV.out.trans (if_pos h1))
    have h2 : (rv == 0) = false := by simpa using h1
    have h3 : (rv != 0) = true := by simpa using h1
    clear h1
    go_wp2_with fail
    go_ret
    rw [HV.out]
    exact ⟨rfl, HT0.out.trans HT1.out⟩
end Go.Proofs.YtanhhdndgkhcfaaGreatDoor
namespace Go.Proofs.YtanhhdndgkhcfaaGreatDoor
open Go Go.Proofs Go.RowKit
attribute [local go_sem] Oper.semAt_some
attribute [local go_sem ↓] run_eql_rat' run_neq_rat'
theorem reachesE_zero (n : Nat) : ∀ (l : List Rc) (g : Nat), reachesE n g l = 0 → ∀ (i : Nat) (x : Rc), l[i]? = some x → reachBad n (g + i) x = 0
  | [], g, _, i, x, h => by simp at h
  | y :: l, g, h, i, x, hi => by
    rw [reachesE] at h
    split at h
    · rename_i h0
      cases i with
      | zero => simp at hi; subst hi; exact h0
      | succ i =>
        have := reachesE_zero n l (g + 1) h i x (by simpa using hi)
        rwa [show g + 1 + i = g + (i + 1) by omega] at this
    · rename_i h0
      exact absurd h h0
structure RivOK (ds : List Int) : Prop where
  len : ds.length ≤ 40
  bd : ∀ x ∈ ds, -1 ≤ x ∧ x < ds.length
  ends : ∀ p : Nat, p < ds.length → stepN ds ds.length p < 0
theorem rivE_zero {rs : List Rc} (h : rivE rs = 0) : RivOK (rs.map (·.down)) := by
  unfold rivE at h
  split at h
  · cases h
  rename_i h40
  split at h
  · rename_i h1; exact absurd h h1
  rename_i h1
  rw [Classical.not_not] at h1
  split at h
  · rename_i h2
    refine ⟨by rw [List.length_map]; omega, fun x hx => ?_, fun p hp => ?_⟩
    · obtain ⟨y, hy, rfl⟩ := List.mem_map.1 hx
      obtain ⟨i, hi⟩ := List.mem_iff_getElem?.1 hy
      have h3 := reachesE_zero _ _ _ h1 i y hi
      rw [List.length_map]
      unfold reachBad at h3
      split at h3
      · cases h3
      · omega
    · unfold endsB at h2
      exact of_decide_eq_true ((List.all_eq_true.1 h2) p (List.mem_range.2 hp))
  · cases h
theorem RivOK.next {ds : List Int} (h : RivOK ds) : ∀ p : Nat, p < ds.length → stepN ds (ds.length + 1) p < 0 := fun p hp => by
  have h1 := h.ends p hp
  rw [step_last]
  unfold downOf
  rw [if_pos h1]
  exact h1
theorem RivOK.lt {ds : List Int} (h : RivOK ds) : ∀ x ∈ ds, x < ds.length := fun x hx => (h.bd x hx).2
theorem claimsE_zero {n : Nat} : ∀ {l : List Cl}, claimsE n l = 0 → ∀ c ∈ l, badC n c = 0
  | [], _, c, h => by cases h
  | y :: l, h, c, hc => by
    rw [claimsE] at h
    split at h
    · rename_i h0
      rcases List.mem_cons.1 hc with rfl | hc
      · exact h0
      · exact claimsE_zero h c hc
    · rename_i h0; exact absurd h h0
structure SupOK (rs : List Rc) (us : List Rv) (cs : List Cl) : Prop where
  riv : RivOK (rs.map (·.down))
  len : us.length = rs.length
  nat : ∀ u ∈ us, natR u = true
  many : cs.length ≤ 200
  cl : ∀ c ∈ cs, 0 ≤ c.place ∧ c.place < rs.length ∧ 0 ≤ c.rank ∧ c.rank ≤ 100 ∧ natR c.amt = true
theorem supE_zero {rs : List Rc} {us : List Rv} {cs : List Cl} (h : supE rs us cs = 0) : SupOK rs us cs := by
  unfold supE at h
  split at h
  · rename_i h1; exact absurd h h1
  rename_i h1
  rw [Classical.not_not] at h1
  split at h
  · cases h
  rename_i h2
  split at h
  · cases h
  rename_i h3
  have hl : us.length = rs.length := by
    by_cases e : us.length = rs.length
    · exact e
    · exact absurd (Or.inl e) h2
  refine ⟨rivE_zero h1, hl, fun u hu => ?_, by omega, fun c hc => ?_⟩
  · cases hn : natR u with
    | true => rfl
    | false => exact absurd (Or.inr (List.any_eq_true.2 ⟨u, hu, by rw [hn]; rfl⟩)) h2
  · have := claimsE_zero h c hc
    unfold badC at this
    split at this
    · cases this
    rename_i h4
    split at this
    · cases this
    rename_i h5
    exact ⟨by omega, by omega, by omega, by omega, by simpa using h5⟩
theorem supE_nil {rs : List Rc} {us : List Rv} {cs : List Cl} (h : supE rs us cs = 0) : supE rs us [] = 0 := by
  unfold supE at h ⊢
  split at h
  · rename_i h1; exact absurd h h1
  rename_i h1
  rw [if_neg h1]
  split at h
  · cases h
  rename_i h2
  rw [if_neg h2, if_neg (by simp)]
  rfl
def passF (ds : List Int) (us : List Rv) : Nat → Rat := addAll ds (fun k => (k : Int)) (fun k => qR (us.getD k zeroR)) (fun _ => 0) (List.range us.length)
theorem natR_valid {u : Rv} (h : natR u = true) : validR u ∧ u.neg = false := by
  unfold natR at h
  simp at h
  exact h
set_option maxRecDepth 20000 in
set_option maxHeartbeats 4000000 in
theorem hPassing_any (rs : List Rc) (us : List Rv) (rp gp : Option Addr) (rc gc m : Nat) (W : World) (hr : RivAt W.heap.size W rs rp rc) (hg : At W.heap.size W 3 ratCells us gp gc) (hok : supE rs us [] = 0) (hm : m ≤ 1000) (su : ∀ u ∈ us, SzR u m) :
    Calls Tryz.prog 54 #[.agg #[.slice rp rs.length rc, .slice gp us.length gc]] W fun e w' => ∃ arr, e = .returned (.tuple #[.slice (some ⟨arr, 0, none⟩) rs.length rs.length, (.int .i64 0)]) ∧ W.heap.size ≤ arr ∧ OwnR w' arr (repL rs.length (passF (rs.map (·.down)) us)) ∧ Turned (fun _ => False) W w' := by
  have hS := supE_zero hok
  have T0 := (Turned.refl (fun _ => False) W).alloc (.cells #[.slice rp rs.length rc, .slice gp us.length gc] 65)
  have B0 := World.alloc_heap_new W (.cells #[.slice rp rs.length rc, .slice gp us.length gc] 65)
  have HC := Lib.hid (hCheck_any rs us [] rp gp none rc gc 0 _ ((hr.turned T0).mono T0.size) ((hg.turned T0).mono T0.size) (At.nil _ _ _ _) (fun u hu => (su u hu).mono (by omega)) (fun c hc => by cases hc))
  rw [hok] at HC
  have hdl : (rs.map (·.down)).length = rs.length := List.length_map ..
  have hn40 : rs.length ≤ 40 := by have := hS.riv.len; rwa [hdl] at this
  have hmul : ((rs.map (·.down)).length + 1) * (m + 1 + 1) ≤ 41 * 1002 := Nat.mul_le_mul (by rw [hdl]; omega) (by omega)
  have hmul2 : us.length * (((rs.map (·.down)).length + 1) * (m + 1 + 1)) ≤ 40 * (41 * 1002) := Nat.mul_le_mul (by rw [hS.len]; exact hn40) hmul
  have HSM : ∀ (V : World) (c1 : Nat), Turned (fun _ => False) W V → V.cell? ⟨c1, 0, none⟩ = some (.slice gp us.length gc) → c1 < V.heap.size →
      Calls Tryz.prog 60 #[.slice rp rs.length rc, .func (.func 125) #[] #[.pointer (some ⟨c1, 0, none⟩)]] V fun e w' => ∃ arr, e = .returned (.slice (some ⟨arr, 0, none⟩) rs.length rs.length) ∧ V.heap.size ≤ arr ∧ OwnR w' arr (repL rs.length (passF (rs.map (·.down)) us)) ∧ Turned (fun _ => False) V w' := fun V c1 hV hc hlt => by
    refine summed_any rs (rs.map (·.down)) rp rc 125 (m + 1) #[.pointer (some ⟨c1, 0, none⟩)] (List.range us.length) (fun k => (k : Int)) (fun k => us.getD k zeroR) (fun k => qR (us.getD k zeroR)) V ((hr.turned hV).mono hV.size)
      (fun w hw => allRat_iter us gp gc V.heap.size c1 w (((hg.turned hV).turned hw).mono hV.size) (cellT hw id hc) hlt hw.size) (enters_of Tryz.func125 (by kernel_rfl) rfl) rfl hS.riv.lt (fun k hk => ?_) (by rw [List.length_range]; omega) hS.riv.len hS.riv.next
    have hk2 : k < us.length := List.mem_range.1 hk
    have hmem : us.getD k zeroR ∈ us := by
      rw [List.getD_eq_getElem?_getD, List.getElem?_eq_getElem hk2]
      exact List.getElem_mem hk2
    refine ⟨k, rfl, by rw [hdl, ← hS.len]; exact hk2, (repR_qR (natR_valid (hS.nat _ hmem)).1).symm, qR_bytes (su _ hmem).1 (su _ hmem).2⟩
  have HSM2 := Lib.hid HSM
  have hul := hS.len
  obtain ⟨arrv, hav⟩ : ∃ x, repL rs.length (passF (rs.map (·.down)) us) = x := ⟨_, rfl⟩
  rw [hav] at HSM2 ⊢
  rw [hul] at HSM2 HC T0 B0 ⊢
  obtain ⟨n, hn⟩ : ∃ n, rs.length = n := ⟨_, rfl⟩
  rw [hn] at HSM2 HC T0 B0 ⊢
  have HB0 := Lib.hid B0
  have HT0 := Lib.hid T0
  clear hr hg hok su hS hdl hn40 hmul hmul2 HSM hul hav hn B0 T0 hm
  go_enter Tryz.func54, Tryz.ntmps54
  go_wp2_with fail
  refine HC.out.mono ?_
  rintro e w1 ⟨rfl, t1⟩
  have hb1 := keepB t1 HB0.out
  have HT1 := Lib.hid (HT0.out.trans t1)
  clear t1 HC HB0 HT0
  go_wp2_with fail
  have HD := Lib.hid (HT1.out.drew)
  have HK0 : Hid (w1.drew.cell? ⟨W.heap.size, 0, none⟩ = some (.slice rp n rc) ∧ w1.drew.cell? ⟨W.heap.size, 1, none⟩ = some (.slice gp n gc)) := Lib.hid (by
    have := keepB ((Turned.refl (fun _ => False) w1).drew) hb1
    constructor <;> simp [World.cell?, this])
  clear hb1
  go_region_held3 (fun V => V.cell? ⟨W.heap.size, 0, none⟩ = some (.slice rp n rc) ∧ V.cell? ⟨W.heap.size, 1, none⟩ = some (.slice gp n gc))
    (first | exact HK2.out | exact HK1.out | exact HK0.out | go_keep)
    (first
      | (have hq := HK1; clear hq; go_at_call 60; refine (HSM2.out w2 w1.drew.heap.size HT2.out HC2.out.1 HC2.out.2).mono ?_; rintro e w3 ⟨arr, rfl, h1, h2, t3⟩; have HK2 : Hid _ := Lib.hid (And.intro (cellT t3 id HK1.out.1) (cellT t3 id HK1.out.2)); have HR3 := Lib.hid (And.intro (Nat.le_trans HT2.out.size h1) (And.intro h2 (HT2.out.trans t3))); clear h1 h2 t3)
      | (go_at_call 96; refine (slAll_any gp n gc w1.drew).mono ?_; rintro e w2 ⟨rfl, t2, hc2, hs2⟩; have HK1 : Hid _ := Lib.hid (And.intro (cellT t2 id HK0.out.1) (cellT t2 id HK0.out.2)); have HT2 := Lib.hid (HD.out.trans t2); have HC2 : Hid (w2.cell? ⟨w1.drew.heap.size, 0, none⟩ = some (.slice gp n gc) ∧ w1.drew.heap.size < w2.heap.size) := Lib.hid ⟨hc2, by rw [hs2]; exact Nat.lt_succ_self _⟩; clear t2 hc2 hs2))
  go_wp2_with fail
  go_ret2
  exact ⟨arr, rfl, HR3.out⟩
end Go.Proofs.YtanhhdndgkhcfaaGreatDoor
namespace Go.Proofs.YtanhhdndgkhcfaaGreatDoor
open Go Go.Proofs Go.RowKit
attribute [local go_sem] Oper.semAt_some
attribute [local go_sem ↓] run_eql_rat' run_neq_rat'
def firstTrue : List Bool → Nat → Int
  | [], _ => -1
  | b :: l, k => if b = true then k else firstTrue l (k + 1)
theorem firstTrue_any : ∀ (l : List Bool) (k : Nat), decide (0 ≤ firstTrue l k) = l.contains true
  | [], k => by rfl
  | b :: l, k => by
    rw [firstTrue]
    cases b
    · rw [if_neg (by simp), firstTrue_any l (k + 1)]
      simp
    · simp
theorem firstTrue_drop : ∀ (l : List Bool) (k i : Nat), (∀ j u, j < k → l[j]? = some u → u = false) → firstTrue l i = firstTrue (l.drop k) (i + k)
  | [], k, i, _ => by rw [List.drop_nil]; rfl
  | u :: l, 0, i, _ => rfl
  | u :: l, k + 1, i, h => by
    rw [firstTrue, if_neg (by rw [h 0 u (by omega) rfl]; simp), List.drop_succ_cons, firstTrue_drop l k (i + 1) fun j v hj hv => h (j + 1) v (by omega) (by simpa using hv), show i + 1 + k = i + (k + 1) by omega]
set_option maxRecDepth 20000 in
set_option maxHeartbeats 2000000 in
theorem slIndB_any (us : List Bool) (p : Option Addr) (c N : Nat) (W : World) (h : At N W 1 boolCells us p c) :
    Calls Tryz.prog 100 #[.slice p us.length c, .bool true] W fun e w' => e = .returned (.int .i64 (firstTrue us 0)) ∧ w' = W := by
  have HL := Lib.hid h
  have hmx : (us.length : Int) ≤ 9223372036854775807 := by have := h.len; unfold maxLen at this; omega
  obtain ⟨n, hn⟩ : ∃ n, us.length = n := ⟨_, rfl⟩
  have HN := Lib.hid hn
  rw [hn] at hmx ⊢
  clear h hn
  go_enter Tryz.func100, Tryz.ntmps100
  go_wp2_with fail
  go_loop [8] (fun i => ∃ k : Nat, k ≤ n ∧ i = (.int .i64 k) ∧ Hid (∀ j u, j < k → us[j]? = some u → u = false)) (fun i => n - (intOf i).toNat)
  case atStart => exact ⟨0, Nat.zero_le _, rfl, Lib.hid fun j u h => by omega⟩
  case round =>
    obtain ⟨k, hk, rfl, HH⟩ := hrel
    by_cases hlt : k < n
    · have hx : us[k]? = some (us[k]'(by rw [HN.out]; exact hlt)) := List.getElem?_eq_getElem _
      obtain ⟨u, hxe⟩ : ∃ u, us[k]'(by rw [HN.out]; exact hlt) = u := ⟨_, rfl⟩
      rw [hxe] at hx
      obtain ⟨b, a, rfl, -, e0⟩ := HL.out.bools hx
      have HFB : Hid (firstTrue us 0 = if u = true then (k : Int) else firstTrue (us.drop (k + 1)) (k + 1)) := Lib.hid (by
        rw [firstTrue_drop us k 0 HH.out, List.drop_eq_getElem_cons (by rw [HN.out]; exact hlt), hxe, firstTrue, Nat.zero_add])
      have HX := Lib.hid hx
      clear hx hxe
      cases u
      · have HG : Hid (∀ j u, j < k + 1 → us[j]? = some u → u = false) := Lib.hid fun j u hj hu => by
          rcases Nat.lt_or_ge j k with h1 | h1
          · exact HH.out j u h1 hu
          · obtain rfl : j = k := by omega
            rw [HX.out] at hu; cases hu; rfl
        go_wp2_with fail
        go_round
        case rel => exact ⟨k + 1, by omega, by go_num, HG⟩
        case measure => simp [intOf]; omega
      · have HFB2 : Hid (firstTrue us 0 = k) := Lib.hid (by rw [HFB.out]; rfl)
        go_wp2_with fail
        go_ret
        rw [HFB2.out]
        exact ⟨rfl, rfl⟩
    · obtain rfl : k = n := by omega
      have HFB2 : Hid (firstTrue us 0 = -1) := Lib.hid (by
        rw [firstTrue_drop us k 0 HH.out, List.drop_eq_nil_of_le (by rw [HN.out]; exact Nat.le_refl _)]; rfl)
      go_wp2_with fail
      go_ret
      rw [HFB2.out]
      exact ⟨rfl, rfl⟩
theorem slContB_any (us : List Bool) (p : Option Addr) (c N : Nat) (W : World) (h : At N W 1 boolCells us p c) :
    Calls Tryz.prog 59 #[.slice p us.length c, .bool true] W fun e w' => e = .returned (.bool (us.contains true)) ∧ w' = W := by
  have HC := Lib.hid (slIndB_any us p c N W h)
  obtain ⟨z, hz⟩ : ∃ z, firstTrue us 0 = z := ⟨_, rfl⟩
  rw [← firstTrue_any us 0]
  rw [hz] at HC ⊢
  clear h hz
  go_enter Tryz.func59, Tryz.ntmps59
  go_wp2_with (go_at_call 100; refine HC.out.mono ?_; rintro e w' ⟨rfl, rfl⟩)
  go_ret
  exact ⟨rfl, rfl⟩
theorem hAllotE_any (us : List Bool) (p : Option Addr) (c N b k : Nat) (u : Bool) (W : World) (h : At N W 1 boolCells us p c) (hc : W.cell? ⟨b, 0, none⟩ = some (.slice p us.length c)) (hk : us[k]? = some u) :
    Calls Tryz.prog 58 #[(.int .i64 k), .pointer (some ⟨b, 0, none⟩)] W fun e w' => e = .returned (.bool u) ∧ w' = W := by
  obtain ⟨g, a, rfl, -, e0⟩ := h.bools hk
  have h1 : (0 : Int) ≤ k := by omega
  have h2 : (k : Int) < us.length := by have := (List.getElem?_eq_some_iff.1 hk).1; omega
  obtain ⟨n, hn⟩ : ∃ n, us.length = n := ⟨_, rfl⟩
  rw [hn] at hc h2
  clear h hk hn
  go_enter Tryz.func58, Tryz.ntmps58
  go_wp2_with fail
  go_ret
  exact ⟨rfl, rfl⟩
theorem hAllotF_any (cs : List Cl) (p : Option Addr) (c N b k : Nat) (x : Cl) (W : World) (h : At N W 5 claimCells cs p c) (hc : W.cell? ⟨b, 0, none⟩ = some (.slice p cs.length c)) (hk : cs[k]? = some x) :
    Calls Tryz.prog 62 #[(.int .i64 k), .pointer (some ⟨b, 0, none⟩)] W fun e w' => e = .returned (ratV x.amt) ∧ Turned (fun _ => False) W w' := by
  obtain ⟨g, a, rfl, -, e0, e1, e2, e3, e4⟩ := h.claims hk
  have h1 : (0 : Int) ≤ k := by omega
  have h2 : (k : Int) < cs.length := by have := (List.getElem?_eq_some_iff.1 hk).1; omega
  obtain ⟨n, hn⟩ : ∃ n, cs.length = n := ⟨_, rfl⟩
  rw [hn] at hc h2
  obtain ⟨pl, rk, ⟨un, ux, ud⟩⟩ := x
  have T := (Turned.refl (fun _ => False) W).alloc (.cells #[.bool false, .string ⟨#[]⟩, .string ⟨#[]⟩] 68)
  have f0 := cellT T id hc
  have f2 := cellT T id e2
  have f3 := cellT T id e3
  have f4 := cellT T id e4
  clear h hk hn hc e0 e1 e2 e3 e4 T
  go_enter Tryz.func62, Tryz.ntmps62
  go_wp2_with fail
  refine bodyPost_ret (results_cell_row (fn := Tryz.f62) rfl _ _ W.heap.size 68 #[.bool un, .string ux, .string ud] (0, 0) _ rfl (World.alloc_heap_new _ _) Tryz.underlying68 rfl (by kernel_rfl)) rfl ?_
  exact ⟨rfl, (Turned.refl (fun _ => False) W).alloc _⟩
end Go.Proofs.YtanhhdndgkhcfaaGreatDoor
