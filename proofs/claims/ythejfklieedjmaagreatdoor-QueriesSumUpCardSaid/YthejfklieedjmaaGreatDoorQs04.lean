/- Part 4 of the proof of lawSum.card: NatWalkF, NatWalkG, NatPut, NatWalkH, NatDiv, NatDivB, NatWalkI, NatWalkD, NatCopy. Conditions: those of each theorem. -/
import Derived.Laws.CopyOwn
import Derived.Laws.IdiomCopy
import Derived.Lib.SliceRun
import Derived.WalkMore
import Derived.Test.YthejfklieedjmaaGreatDoorProg
import Derived.Test.YthejfklieedjmaaGreatDoorQs01
import Derived.Test.YthejfklieedjmaaGreatDoorQs03
set_option maxRecDepth 100000
set_option maxHeartbeats 4000000
namespace Go.Proofs.YthejfklieedjmaaGreatDoor
open Go Go.Proofs Go.RowKit
attribute [local go_sem] Oper.semAt_some
structure Rows (x y : List Nat) (i : Nat) (out : List Nat) : Prop where
 len : out.length = x.length + y.length + 1
 dig : ∀ d ∈ out, d < bU
 val : vL bU out = vL bU (x.take i) * vL bU y
theorem Rows.start (x y : List Nat) : Rows x y 0 (List.replicate (x.length + y.length + 1) 0) :=
 ⟨by simp, fun d hd => by rw [(List.mem_replicate.1 hd).2]; decide, by rw [vL_zeros]; simp [vL]⟩
theorem times_any (x y : List Nat) (p q : Option Addr) (c e0 : Nat) (W : World) (N M : Nat -> Prop) (hx : LA W N x p c) (hy : LA W M y q e0) (lx : x.length <= 1000000000) (ly : y.length <= 1000000000) :
  Calls Tryz.prog 99 #[.slice p x.length c, .slice q y.length e0] W fun e w' => RetL W w' e (vL bU x * vL bU y) := by
 obtain ⟨i0, hif, hz0, hz1, hz2⟩ := info_parts infoU
 have HX := Lib.hid hx
 have HY := Lib.hid hy
 obtain ⟨n, hn⟩ : ∃ n, x.length + y.length + 1 = n := ⟨_, rfl⟩
 have hmake := fun W => run_make_row 154 170 i0 (uV 0) Tryz.underlying154 hif hz0 hz1 rfl .i64 .i64 n (by rw [hz2]; omega) (by omega) W
 have hsum : ((x.length : Int) + (y.length : Int) + 1) = (n : Int) := by omega
 have HN := Lib.hid hn
 clear hx hy hn
 go_enter Tryz.func99, Tryz.ntmps99
 go_wp2_with fail
 have HR0 := Lib.hid (RU.made W n)
 have HT0 := Lib.hid ((Turned.refl (fun _ => False) W).alloc (.cells (madeCells #[uV 0] n) 170))
 obtain ⟨w1, hw1⟩ : ∃ w1, w1 = W.alloc (.cells (madeCells #[uV 0] n) 170) := ⟨_, rfl⟩
 rw [<- hw1] at HR0 HT0
 rw [<- hw1]
 clear hw1 hmake hif hz0 hz1 hz2 hsum
 go_loopw [20] (fun i wr => ∃ (k : Nat) (out : List Nat), i = (.int .i64 k) /\ k <= x.length /\ Hid (Rows x y k out /\ RU wr W.heap.size out /\ Turned (fun _ => False) W wr)) (fun i _ => x.length - (intOf i).toNat)
 case atStart => exact ⟨0, _, rfl, by omega, Lib.hid ⟨Rows.start x y, by rw [HN.out]; exact HR0.out, HT0.out⟩⟩
 case round =>
  clear HR0 HT0
  obtain ⟨k, out, rfl, hk, HR⟩ := hrel
  by_cases hkB : k < x.length
  ·obtain ⟨b, a0, a, rfl, -, ha, -, hab, d1⟩ := (HX.out.turned HR.out.2.2).get (i := k) hkB
   have hki : (k : Int) < (x.length : Int) := by omega
   have HA := Lib.hid ha
   have HP := Lib.hid (rows_lt (b := bU) (by decide) HX.out.dig HY.out.dig ha)
   clear ha hkB
   go_wp2_with fail
   obtain ⟨wo, rfl⟩ : ∃ wo, wo = wr := ⟨_, rfl⟩
   go_loopw [8, 9] (fun cv jv wr => ∃ (cc j : Nat) (o : List Nat), cv = .int .u64 cc /\ jv = (.int .i64 j) /\ j <= x.length + y.length + 1 /\ Hid (Row bU y out a k j o cc /\ RU wr W.heap.size o /\ Turned (fun _ => False) W wr)) (fun _ jv _ => x.length + y.length + 2 - (intOf jv).toNat)
   case atStart => exact ⟨0, 0, out, rfl, rfl, by omega, Lib.hid ⟨Row.start (by decide) HR.out.1.dig, HR.out.2.1, HR.out.2.2⟩⟩
   case round =>
    obtain ⟨cc, j, o, rfl, rfl, hj, HI⟩ := hrel
    have lc := HI.out.1.car
    by_cases hgo : j < y.length \/ 0 < cc
    ·have hin : k + j < x.length + y.length := by
      by_cases h0 : 0 < cc
      ·refine HI.out.1.inside (by decide) ?_ h0
       rw [HR.out.1.val]; exact HP.out
      ·omega
     obtain ⟨db, hdb⟩ : ∃ db, digAt y j = db := ⟨_, rfl⟩
     obtain ⟨dc, hdc⟩ : ∃ dc, digAt o (k + j) = dc := ⟨_, rfl⟩
     have HB := Lib.hid (fun n => at_any y q e0 j (wr.drewN n) M (HY.out.turned (HI.out.2.2.trans (drewNT _ _ n))))
     have lb : db < bU := hdb ▸ digAt_lt (by decide) HY.out.dig j
     have lo : dc < bU := hdc ▸ digAt_lt (by decide) HI.out.1.dig (k + j)
     rw [hdb] at HB
     have HS := Lib.hid (HI.out.1.step (by decide) hab HY.out.dig (by rw [HR.out.1.len]; omega))
     rw [hdb, hdc] at HS
     have hol : o.length = x.length + y.length + 1 := by rw [HI.out.1.len, HR.out.1.len]
     have hout := HI.out.2.1.some (i := k + j) (by omega)
     rw [hdc] at hout
     have hfr := HI.out.2.1.free (k + j)
     obtain ⟨m, hm⟩ : ∃ m, a * db = m := ⟨_, rfl⟩
     have hmb : m <= 18446744065119617025 := by rw [<- hm]; exact Nat.mul_le_mul (show a <= 4294967295 by unfold bU at *; omega) (show db <= 4294967295 by unfold bU at *; omega)
     obtain ⟨s, hs⟩ : ∃ s, m + dc + cc = s := ⟨_, rfl⟩
     rw [hm, hs] at HS
     have hsb : s < 18446744073709551616 := HS.out.1
     have f1 : IntKind.u64.wrap (a : Int) = (a : Int) := IntWalk.u64_in _ (by unfold bU at *; omega)
     have hmi : (a : Int) * (db : Int) = (m : Int) := by rw [<- hm, Int.natCast_mul]
     have f2 : IntKind.u64.wrap ((a : Int) * (db : Int)) = (m : Int) := by rw [hmi]; exact IntWalk.u64_in _ (by omega)
     have f3 : IntKind.u64.wrap (dc : Int) = (dc : Int) := IntWalk.u64_in _ (by unfold bU at *; omega)
     have f4 : IntKind.u64.wrap ((m : Int) + (dc : Int)) = ((m + dc : Nat) : Int) := by rw [Int.natCast_add]; exact IntWalk.u64_in _ (by unfold bU at *; omega)
     have f5 : IntKind.u64.wrap ((m : Int) + (dc : Int) + (cc : Int)) = (s : Int) := by rw [<- hs, Int.natCast_add (m + dc), Int.natCast_add]; exact IntWalk.u64_in _ (by omega)
     have f6 : IntKind.i64.wrap ((k : Int) + (j : Int)) = ((k + j : Nat) : Int) := by rw [Int.natCast_add]; exact IntWalk.i64_in _ (by omega)
     obtain ⟨slo, hslo⟩ : ∃ slo, s % bU = slo := ⟨_, rfl⟩
     obtain ⟨shi, hshi⟩ : ∃ shi, s / bU = shi := ⟨_, rfl⟩
     have f7 : (s : Int) % 4294967296 = (slo : Int) := by rw [<- hslo]; rfl
     have f8 : (s : Int) / 4294967296 = (shi : Int) := by rw [<- hshi]; rfl
     rw [hslo, hshi] at HS
     have hkj : ((k + j : Nat) : Int) < (n : Int) := by have := HN.out; omega
     have hj2 : IntKind.i64.wrap ((j : Int) + 1) = ((j + 1 : Nat) : Int) := by rw [Int.natCast_add]; exact IntWalk.i64_in _ (by omega)
     have HJ := Lib.hid (And.intro hin hol)
     clear hin hol hm hmb hs hsb hslo hshi hmi hdb hdc
     by_cases hlt : j < y.length
     ·have hlti : (j : Int) < (y.length : Int) := by omega
      clear hgo hlt
      go_wp2_with fail
      go_quiet ((go_at_call 137; (first | exact quiet_add_same (HB.out _) | exact Calls.quiet_of_same (HB.out _))))
      go_wp2_with fail
      refine ⟨⟨shi, j + 1, o.set (k + j) slo, rfl, rfl, by have := HJ.out.1; omega, Lib.hid ⟨HS.out.2, (HI.out.2.1.turned (drewNT (fun _ => False) wr nq) (fun h => h)).set (k + j) slo, ?_⟩⟩, ?_⟩
      ·exact HI.out.2.2.fresh (((drewNT (fun g => g = W.heap.size) wr nq)).setCell (p := ⟨W.heap.size, k + j, none⟩) rfl _) fun g h => by omega
      ·show x.length + y.length + 2 - (intOf (.int .i64 ((j : Int) + 1))).toNat < x.length + y.length + 2 - (intOf (.int .i64 ((j : Int)))).toNat
       have := HJ.out.1
       simp only [intOf]
       omega
     ·have hlti : ¬ (j : Int) < (y.length : Int) := by omega
      have hcc : (0 : Int) < (cc : Int) := by omega
      clear hgo hlt
      go_wp2_with fail
      go_quiet ((go_at_call 137; (first | exact quiet_add_same (HB.out _) | exact Calls.quiet_of_same (HB.out _))))
      go_wp2_with fail
      refine ⟨⟨shi, j + 1, o.set (k + j) slo, rfl, rfl, by have := HJ.out.1; omega, Lib.hid ⟨HS.out.2, (HI.out.2.1.turned (drewNT (fun _ => False) wr nq) (fun h => h)).set (k + j) slo, ?_⟩⟩, ?_⟩
      ·exact HI.out.2.2.fresh (((drewNT (fun g => g = W.heap.size) wr nq)).setCell (p := ⟨W.heap.size, k + j, none⟩) rfl _) fun g h => by omega
      ·show x.length + y.length + 2 - (intOf (.int .i64 ((j : Int) + 1))).toNat < x.length + y.length + 2 - (intOf (.int .i64 ((j : Int)))).toNat
       have := HJ.out.1
       simp only [intOf]
       omega
    ·have hlti : ¬ (j : Int) < (y.length : Int) := by omega
     obtain rfl : cc = 0 := by omega
     have HD := Lib.hid (Row.done (by omega) HI.out.1)
     clear hgo
     go_wp2_with fail
     refine ⟨⟨k + 1, o, rfl, by omega, Lib.hid ⟨⟨?_, HI.out.1.dig, ?_⟩, HI.out.2.1, HI.out.2.2⟩⟩, ?_⟩
     ·rw [HI.out.1.len, HR.out.1.len]
     ·rw [HD.out, HR.out.1.val, rows_step HA.out]
     ·show x.length - (intOf (.int .i64 ((k : Int) + 1))).toNat < x.length - (intOf (.int .i64 ((k : Int)))).toNat
      simp only [intOf]
      omega
  ·have hki : ¬ (k : Int) < (x.length : Int) := by omega
   obtain rfl : k = x.length := by omega
   have hol : out.length = n := by rw [HR.out.1.len, HN.out]
   have hv := HR.out.1.val
   rw [List.take_length] at hv
   have HL := Lib.hid (HR.out.2.1.la (base := W.heap.size) (Nat.le_refl _) HR.out.1.dig (by have := HN.out; unfold maxLen; omega))
   have HE : Hid (digs bU (vL bU x * vL bU y) = trimL out) := Lib.hid (by rw [<- hv]; exact digs_vL (by decide) HR.out.1.dig)
   have HT := Lib.hid (trim_any out _ _ wr _ HL.out)
   rw [hol] at HT HL
   clear hv hol hkB
   go_wp2_with (go_at_call 100; refine HT.out.mono ?_; rintro e w' ⟨rfl, hw⟩; rw [hw]; clear hw)
   go_ret
   unfold RetL
   rw [HE.out]
   exact ⟨_, _, rfl, HL.out.trim, HR.out.2.2⟩
theorem LA.one (W : World) {v : Nat} (h : v < bU) : LA (W.alloc (.cells #[.int .u32 v] 170)) (fun b => W.heap.size <= b) [v] (some ⟨W.heap.size, 0, none⟩) 1 :=
 ⟨fun d hd => by rw [List.mem_singleton.1 hd]; exact h, by simp, by unfold maxLen; omega, fun i d hi => by
  cases i with
  | zero => cases hi; exact ⟨_, _, rfl, Nat.le_refl _, cell_alloc_new _ _ _⟩
  | succ i => simp at hi⟩
theorem RetL.of {W W1 w' : World} {e : Ending} {n : Nat} (h : RetL W1 w' e n) (ht : Turned (fun _ => False) W W1) : RetL W w' e n := by
 obtain ⟨p, c, h1, h2, h3⟩ := h
 exact ⟨p, c, h1, h2.move (Turned.refl (fun _ => False) _) (fun _ _ => id) fun b hb => Nat.le_trans ht.size hb, ht.trans h3⟩
theorem pow_mod {k : Nat} (hk : k <= 31) : (2 : Int) ^ k % 4294967296 = ((2 ^ k : Nat) : Int) := by
 have h2 : 2 ^ k <= 2 ^ 31 := Nat.pow_le_pow_right (by decide) hk
 have e : ((2 ^ k : Nat) : Int) = (2 : Int) ^ k := by rw [Int.natCast_pow]; rfl
 rw [<- e]
 generalize 2 ^ k = v at *
 exact Int.emod_eq_of_lt (by omega) (by omega)
theorem shift_up (x : List Nat) (p : Option Addr) (c k : Nat) (W : World) (N : Nat -> Prop) (hx : LA W N x p c) (lx : x.length <= 1000000000) (hk : k <= 31) :
  Calls Tryz.prog 120 #[.slice p x.length c, .int .i64 k] W fun e w' => RetL W w' e (vL bU x * 2 ^ k) := by
 have hnn : ¬ (k : Int) < 0 := by omega
 have h2 : 2 ^ k <= 2 ^ 31 := Nat.pow_le_pow_right (by decide) hk
 have HT := Lib.hid (times_any x [2 ^ k] p (some ⟨W.heap.size, 0, none⟩) c 1 (W.alloc (.cells #[.int .u32 (2 ^ k : Nat)] 170)) N _ (hx.turned ((Turned.refl _ W).alloc _)) (LA.one W (v := 2 ^ k) (by unfold bU; omega)) lx (by simp))
 have hpm := pow_mod hk
 have hv : vL bU [2 ^ k] = 2 ^ k := by simp [vL]
 rw [hv] at HT
 obtain ⟨v, hv2⟩ : ∃ v, 2 ^ k = v := ⟨_, rfl⟩
 rw [hv2] at HT hpm ⊢
 rw [<- hpm] at HT
 clear hx h2 hv hv2 hpm
 go_enter Tryz.func120, Tryz.ntmps120
 go_wp2_with (go_at_call 99; refine HT.out.mono ?_; rintro e w' ⟨p', c', rfl, h2, h3⟩; have HS := Lib.hid (And.intro h2 h3); clear h2 h3)
 go_ret
 exact RetL.of ⟨p', c', rfl, HS.out.1, HS.out.2⟩ ((Turned.refl _ W).alloc _)
theorem shift_down (x : List Nat) (p : Option Addr) (c k : Nat) (W : World) (N : Nat -> Prop) (hx : LA W N x p c) (lx : x.length <= 1000000000) (hk : k <= 31) (h0 : 0 < k) :
  Calls Tryz.prog 120 #[.slice p x.length c, (.int .i64 (-(k : Int)))] W fun e w' => RetL W w' e (vL bU x / 2 ^ k) := by
 have hnn : -(k : Int) < 0 := by omega
 have h2 : 2 ^ k <= 2 ^ 31 := Nat.pow_le_pow_right (by decide) hk
 have h3 : 0 < 2 ^ k := Nat.pow_pos (by decide)
 have HT := Lib.hid (small_any x p c (2 ^ k) W N hx lx h3 (by unfold bU; omega))
 have hpm := pow_mod hk
 have hneg : IntKind.i64.wrap (- -(k : Int)) = (k : Int) := by rw [Int.neg_neg]; exact IntWalk.i64_in _ (by omega)
 obtain ⟨v, hv2⟩ : ∃ v, 2 ^ k = v := ⟨_, rfl⟩
 rw [hv2] at HT hpm ⊢
 rw [<- hpm] at HT
 clear hx h2 hv2 h3 hpm
 go_enter Tryz.func120, Tryz.ntmps120
 go_wp2_with (go_at_call 119; (with_reducible refine HT.out.mono ?_); rintro e w' ⟨p', c', rfl, h2, h3⟩; have HS := Lib.hid (And.intro h2 h3); clear h2 h3)
 go_ret
 exact ⟨p', c', rfl, HS.out.1, HS.out.2⟩
theorem shift_neg (x : List Nat) (p : Option Addr) (c k : Nat) (z : Int) (hz : z = -(k : Int)) (W : World) (N : Nat -> Prop) (hx : LA W N x p c) (lx : x.length <= 1000000000) (hk : k <= 31) :
  Calls Tryz.prog 120 #[.slice p x.length c, .int .i64 z] W fun e w' => RetL W w' e (vL bU x / 2 ^ k) := by
 subst hz
 cases k with
 | zero =>
  have h := shift_up x p c 0 W N hx lx (by omega)
  rw [Nat.pow_zero, Nat.mul_one] at h
  rw [Nat.pow_zero, Nat.div_one]
  exact h
 | succ k => exact shift_down x p c (k + 1) W N hx lx hk (by omega)
def PU (W : World) (g : Nat) (l : List Nat) : Prop := ∃ tl : List Value, W.heap[g]? = some (.cells (l.map uV ++ tl).toArray 170 (0, 0))
theorem map_set (l : List Nat) (tl : List Value) (i d : Nat) (hi : i < l.length) : (l.map uV ++ tl).set i (uV d) = (l.set i d).map uV ++ tl := by
 rw [List.set_append_left _ _ (by simpa using hi), List.map_set]
section
variable {W W' : World} {g : Nat} {l : List Nat}
theorem PU.lt (h : PU W g l) : g < W.heap.size := by obtain ⟨tl, h⟩ := h; exact getElem?_lt h
theorem PU.cell (h : PU W g l) {i d : Nat} (hi : l[i]? = some d) : W.cell? ⟨g, i, none⟩ = some (uV d) := by
 obtain ⟨tl, h⟩ := h
 have hlt : i < l.length := (List.getElem?_eq_some_iff.1 hi).1
 have e : (l.map uV ++ tl)[i]? = some (uV d) := by rw [List.getElem?_append_left (by simpa using hlt), List.getElem?_map, hi]; rfl
 simp [World.cell?, h]
 simpa using e
theorem PU.some (h : PU W g l) {i : Nat} (hi : i < l.length) : W.cell? ⟨g, i, none⟩ = Option.some (uV (digAt l i)) := by
 rw [h.cell (List.getElem?_eq_getElem hi), digAt_some (List.getElem?_eq_getElem hi)]
theorem PU.free (h : PU W g l) (i : Nat) : W.frozen? ⟨g, i, none⟩ = false := by
 obtain ⟨tl, h⟩ := h
 simp [World.frozen?, h]
theorem PU.turned (h : PU W g l) {C : Nat -> Prop} (ht : Turned C W W') (hC : ¬ C g) : PU W' g l := by
 obtain ⟨tl, h⟩ := h
 exact ⟨tl, (ht.block g (getElem?_lt h) hC).trans h⟩
theorem PU.set (h : PU W g l) (i d : Nat) (hi : i < l.length) : PU (W.setCell ⟨g, i, none⟩ (uV d)) g (l.set i d) := by
 obtain ⟨tl, h⟩ := h
 refine ⟨tl, ?_⟩
 rw [setBlock h i (uV d), <- map_set l tl i d hi]
 simp
theorem PU.la (h : PU W g l) {M : Nat -> Prop} (hM : M g) (hd : ∀ d ∈ l, d < bU) {c : Nat} (hc : l.length <= c) (hm : c <= maxLen) : LA W M l (Option.some ⟨g, 0, none⟩) c :=
 ⟨hd, hc, hm, fun i d hi => ⟨g, 0, rfl, hM, by rw [Nat.zero_add]; exact h.cell hi⟩⟩
theorem PU.part (h : PU W g l) {M : Nat -> Prop} (hM : M g) (hd : ∀ d ∈ l, d < bU) (j k : Nat) {c : Nat} (hc : ((l.drop j).take k).length <= c) (hm : c <= maxLen) : LA W M ((l.drop j).take k) (Option.some ⟨g, j, none⟩) c :=
 ⟨fun d hx => hd d (List.mem_of_mem_drop (List.mem_of_mem_take hx)), hc, hm, fun i d hi => ⟨g, j, rfl, hM, h.cell (by
  rw [List.getElem?_take] at hi
  split at hi
  ·rwa [List.getElem?_drop] at hi
  ·cases hi)⟩⟩
theorem PU.cells : ∀ (vs : List Nat) (o : Nat) (W : World) (l : List Nat), PU W g l -> o + vs.length <= l.length -> PU (W.setCells g o (vs.map uV)) g (l.take o ++ vs ++ l.drop (o + vs.length)) /\ Turned (fun k => k = g) W (W.setCells g o (vs.map uV))
 | [], o, W, l, h, _ => by
  simp only [List.map_nil, World.setCells, List.append_nil, List.length_nil, Nat.add_zero, List.take_append_drop]
  exact ⟨h, Turned.refl _ _⟩
 | v :: vs, o, W, l, h, hl => by
  rw [List.length_cons] at hl
  obtain ⟨h1, h2⟩ := PU.cells vs (o + 1) _ _ (h.set o v (by omega)) (by rw [List.length_set]; omega)
  rw [List.map_cons, World.setCells]
  refine ⟨?_, ((Turned.refl (fun k => k = g) W).setCell (p := ⟨g, o, none⟩) rfl _).trans h2⟩
  have e : (l.set o v).take (o + 1) ++ vs ++ (l.set o v).drop (o + 1 + vs.length) = l.take o ++ v :: vs ++ l.drop (o + (vs.length + 1)) := by
   rw [List.drop_set_of_lt (by omega), List.take_add_one, List.take_set_of_le (by omega), List.getElem?_set_self (by omega), show o + 1 + vs.length = o + (vs.length + 1) by omega]
   simp
  rw [e] at h1
  exact h1
theorem setRow_turned (W : World) (g : Nat) (cs : Array Value) : Turned (fun k => k = g) W (W.setRow g cs) :=
 ⟨rfl, rfl, rfl, by simp [World.setRow], fun k _ hk => setRow_other W g k cs hk⟩
end
theorem OU.pu {W : World} {base : Nat} {v : Value} {L : List Nat} (h : OU W base v L) (hne : L ≠ []) : ∃ g c, v = .slice (some ⟨g, 0, none⟩) L.length c /\ base <= g /\ PU W g L /\ L.length <= c /\ c <= maxLen := by
 obtain ⟨-, ⟨hv, hn⟩ | ⟨g, cap, cur, hv, hg, hh, h1, h2, hcs, htk⟩⟩ := h
 ·exact absurd (List.length_eq_zero_iff.1 hn) hne
 ·refine ⟨g, cap, hv, hg, ⟨cur.toList.drop (L.length * 1), ?_⟩, h1, h2⟩
  rw [hh, <- htk, List.take_append_drop]
theorem la_news {W : World} {N : Nat -> Prop} {l : List Nat} {b a c : Nat} (h : LA W N l (some ⟨b, a, none⟩) c) : ∀ (j : Nat) (u : Value), (l.map uV)[j]? = some u -> W.cell? ((⟨b, a, none⟩ : Addr).add j) = some u := by
 intro j u hu
 rw [List.getElem?_map] at hu
 cases hj : l[j]? with
 | none => rw [hj] at hu; cases hu
 | some d =>
  rw [hj] at hu
  cases hu
  obtain ⟨b', a', h1, -, h3⟩ := h.cel j d hj
  cases h1
  unfold Addr.add
  split
  ·rename_i h0; subst h0; exact h3
  ·exact h3
theorem cellLt {W : World} {b o : Nat} {u : Value} (h : W.cell? ⟨b, o, none⟩ = some u) : b < W.heap.size := by
 rcases Nat.lt_or_ge b W.heap.size with h1 | h1
 ·exact h1
 ·simp [World.cell?, h1] at h
theorem LA.old {W : World} {N : Nat -> Prop} {l : List Nat} {p : Option Addr} {c : Nat} (h : LA W N l p c) : LA W (fun b => b < W.heap.size) l p c :=
 ⟨h.dig, h.cap, h.mx, fun i d hd => by
  obtain ⟨b, a, h1, -, h3⟩ := h.cel i d hd
  exact ⟨b, a, h1, cellLt h3, h3⟩⟩
theorem zeros_new (W : World) : ∀ (j : Nat) (u : Value), [uV 0, uV 0][j]? = some u -> (W.alloc (.cells #[.int .u32 0, .int .u32 0] 170)).cell? ((⟨W.heap.size, 0, none⟩ : Addr).add j) = some u := by
 intro j u hj
 match j, hj with
 | 0, hj => cases hj; rw [show (⟨W.heap.size, 0, none⟩ : Addr).add 0 = ⟨W.heap.size, 0, none⟩ from rfl, World.cell?_alloc_at _ _ _ _ rfl]; rfl
 | 1, hj => cases hj; rw [show (⟨W.heap.size, 0, none⟩ : Addr).add 1 = ⟨W.heap.size, 1, none⟩ from rfl, World.cell?_alloc_at _ _ _ _ rfl]; rfl
 | j + 2, hj => simp at hj
theorem ow_empty (W : World) : (W.alloc (.cells #[] 170)).ownsRow W.heap.size 170 1 (.slice (some ⟨W.heap.size, 0, none⟩) 0 0) 0 [] :=
 ⟨rfl, .inr ⟨W.heap.size, 0, #[], rfl, Nat.le_refl _, heap_alloc_new _ _, Nat.le_refl _, Nat.zero_le _, rfl, rfl⟩⟩
theorem clone_any (l : List Nat) (p : Option Addr) (c : Nat) (W : World) (N : Nat -> Prop) (h : LA W N l p c) (hl : l.length <= 1000000002) :
  Calls Tryz.prog 121 #[.slice p l.length c] W fun e w' => ∃ v, e = .returned v /\ OU w' W.heap.size v l /\ Turned (fun _ => False) W w' := by
 obtain ⟨i0, hif, hz0, hz1, hz2⟩ := info_parts infoU
 have heq := fun W a n c => Go.Lib.run_eql_slice_nil (P := Tryz.prog) W 154 170 a n c 0 0 Tryz.underlying154
 cases p with
 | none =>
  have hn : l = [] := by
   cases l with
   | nil => rfl
   | cons d l =>
    obtain ⟨b, a, h1, -⟩ := h.cel 0 d rfl
    cases h1
  subst hn
  clear h hl
  go_enter Tryz.func121, Tryz.ntmps121
  go_wp2_with fail
  go_ret
  exact ⟨_, rfl, OU.nil _ _, Turned.refl _ _⟩
 | some ad =>
  obtain ⟨b, a, sp⟩ := ad
  have hsp : l ≠ [] -> sp = none := fun hne => by
   cases l with
   | nil => exact absurd rfl hne
   | cons d l =>
    obtain ⟨b', a', h1, -⟩ := h.cel 0 d rfl
    cases h1; rfl
  have hc : ∀ (j : Nat) (u : Value), (l.map uV)[j]? = some u -> (W.alloc (.cells #[] 170)).cell? ((⟨b, a, sp⟩ : Addr).add j) = some u := by
   intro j u hu
   have hne : l ≠ [] := by rintro rfl; simp at hu
   have e := hsp hne
   subst e
   exact la_news (h.turned ((Turned.refl _ W).alloc _)) j u hu
  have HC := Lib.hid hc
  have hm : l.length <= maxLen := by unfold maxLen; omega
  clear h hsp hc
  go_enter Tryz.func121, Tryz.ntmps121
  go_wp2_with (at_builtin; refine wpList_append_exact _ rfl _ _ 154 rfl W.heap.size 170 i0 (uV 0) 1 4 Tryz.underlying154 hif hz0 hz1 hz2 rfl (by decide) (.slice (some ⟨W.heap.size, 0, none⟩) 0 0) 0 [] rfl (ow_empty W) ⟨b, a, sp⟩ l.length c (l.map uV) rfl (by simp) HC.out (by intro u hu; obtain ⟨d, -, rfl⟩ := List.mem_map.1 hu; rfl) (by omega) (by omega) (by simp) ?_; intro v' w' h1 h2 h3; have HS := Lib.hid (And.intro h1 h2); clear h1 h2 h3)
  go_ret
  refine ⟨_, rfl, ?_, ?_⟩
  ·have h1 := HS.out.1
   rw [Nat.zero_add, List.nil_append] at h1
   exact h1
  ·exact ((Turned.refl (fun _ => False) W).alloc (.cells #[] 170)).fresh (Turned.of_grown (C := fun g => W.heap.size = g) HS.out.2 fun k hk => by simpa [Value.ownBlock] using hk) fun g hg => by omega
theorem vL_split (b : Nat) (l : List Nat) (k : Nat) (hk : k <= l.length) : vL b l = vL b (l.take k) + b ^ k * vL b (l.drop k) := by
 have h := vL_app b (l.take k) (l.drop k)
 rw [List.take_append_drop, List.length_take, Nat.min_eq_left hk] at h
 exact h
theorem digAt_drop (l : List Nat) (j k : Nat) : digAt (l.drop j) k = digAt l (j + k) := by
 unfold digAt
 rw [List.getD_eq_getElem?_getD, List.getD_eq_getElem?_getD, List.getElem?_drop]
theorem digAt_take {l : List Nat} {j k : Nat} (h : k < j) : digAt (l.take j) k = digAt l k := by
 unfold digAt
 rw [List.getD_eq_getElem?_getD, List.getD_eq_getElem?_getD, List.getElem?_take_of_lt h]
theorem split1 {l : List Nat} {k : Nat} (h : l.length = k + 1) : l = l.take k ++ [digAt l k] := by
 have h1 : l[k]? = some l[k] := List.getElem?_eq_getElem (by omega)
 conv => lhs; rw [<- List.take_of_length_le (l := l) (i := k + 1) (by omega), List.take_add_one, h1]
 rw [digAt_some h1]; rfl
theorem split2 {l : List Nat} {k : Nat} (h : l.length = k + 2) : l = l.take k ++ [digAt l k, digAt l (k + 1)] := by
 have h1 := split1 (l := l.take (k + 1)) (k := k) (by rw [List.length_take]; omega)
 rw [List.take_take, Nat.min_eq_left (by omega), digAt_take (by omega)] at h1
 have h2 := split1 (l := l) (k := k + 1) h
 rw [h1] at h2
 simpa using h2
theorem split3 {l : List Nat} {k : Nat} (h : l.length = k + 3) : l = l.take k ++ [digAt l k, digAt l (k + 1), digAt l (k + 2)] := by
 have h1 := split2 (l := l.take (k + 2)) (k := k) (by rw [List.length_take]; omega)
 rw [List.take_take, Nat.min_eq_left (by omega), digAt_take (by omega), digAt_take (by omega)] at h1
 have h2 := split1 (l := l) (k := k + 2) h
 rw [h1] at h2
 simpa using h2
structure Dv (b X V n : Nat) (j : Nat) (R q : List Nat) : Prop where
 dig : ∀ d ∈ R, d < b
 qdig : ∀ d ∈ q, d < b
 zero : ∀ i, i < j -> digAt q i = 0
 top : vL b (R.drop j) < V
 val : X = vL b R + V * vL b q
section
variable {b X V n j : Nat} {R q vs : List Nat}
theorem Dv.part (hb : 2 <= b) (h : Dv b X V n (j + 1) R q) (hV : V < b ^ n) (hj : j + n + 1 <= R.length) :
  vL b (R.drop j) = vL b ((R.drop j).take (n + 1)) /\ vL b (R.drop j) < b * V := by
 have ht := h.top
 have e0 : R.drop j = digAt R j :: R.drop (j + 1) := by
  rw [List.drop_eq_getElem_cons (by omega), digAt_some (List.getElem?_eq_getElem (by omega))]
 have hl : (R.drop (j + 1)).length = R.length - (j + 1) := List.length_drop
 have e1 := vL_split b (R.drop (j + 1)) n (by omega)
 have hz : vL b ((R.drop (j + 1)).drop n) = 0 := by
  rcases Nat.eq_zero_or_pos (vL b ((R.drop (j + 1)).drop n)) with h0 | h0
  ·exact h0
  ·have := Nat.mul_le_mul_left (b ^ n) h0
   omega
 rw [hz, Nat.mul_zero, Nat.add_zero] at e1
 have hd := digAt_lt (show 0 < b by omega) h.dig j
 constructor
 ·rw [e0, List.take_succ_cons, vL_cons, vL_cons, e1, Nat.add_zero]
 ·rw [e0, vL]
  have : b * (vL b (R.drop (j + 1)) + 1) <= b * V := Nat.mul_le_mul_left _ ht
  rw [Nat.mul_add] at this
  omega
theorem guess_facts (hb : 2 <= b) {p : List Nat} (hp : ∀ d ∈ p, d < b) (hv : ∀ d ∈ vs, d < b) (lp : p.length = n + 1) (lv : vs.length = n) (hn : 2 <= n) {t : Nat} (ht : t * vL b vs <= vL b p) :
  (0 < digAt vs (n - 1) -> t <= (digAt p n * b + digAt p (n - 1)) / digAt vs (n - 1)) /\
  (∀ left g, left + g * digAt vs (n - 1) = digAt p n * b + digAt p (n - 1) -> left * b + digAt p (n - 2) < g * digAt vs (n - 2) -> t + 1 <= g) := by
 obtain ⟨k, rfl⟩ : ∃ k, n = k + 2 := ⟨n - 2, by omega⟩
 have ep := split3 lp
 have ev := split2 lv
 have f1 : k + 2 - 1 = k + 1 := rfl
 have f2 : k + 2 - 2 = k := rfl
 rw [f1, f2]
 have ev1 : vs = (vs.take k ++ [digAt vs k]) ++ [digAt vs (k + 1)] := by simpa using ev
 have ep2 : p = (p.take k ++ [digAt p k]) ++ [digAt p (k + 1), digAt p (k + 2)] := by simpa using ep
 have a1 := vL_top (show 0 < b by omega) (l := vs.take k ++ [digAt vs k]) (d := digAt vs (k + 1)) (by rw [<- ev1]; exact hv)
 rw [<- ev1] at a1
 have a2 := vL_top2 (show 0 < b by omega) (l := vs.take k) (c := digAt vs k) (d := digAt vs (k + 1)) (by rw [<- ev]; exact hv)
 rw [<- ev] at a2
 have a3 := vL_top2 (show 0 < b by omega) (l := p.take k ++ [digAt p k]) (c := digAt p (k + 1)) (d := digAt p (k + 2)) (by rw [<- ep2]; exact hp)
 rw [<- ep2] at a3
 have a4 := vL_top3 (show 0 < b by omega) (l := p.take k) (r := digAt p k) (c := digAt p (k + 1)) (d := digAt p (k + 2)) (by rw [<- ep]; exact hp)
 rw [<- ep] at a4
 have g1 : (vs.take k ++ [digAt vs k]).length = k + 1 := by rw [List.length_append, List.length_take]; simp; omega
 have g2 : (p.take k ++ [digAt p k]).length = k + 1 := by rw [List.length_append, List.length_take]; simp; omega
 have g3 : (vs.take k).length = k := by rw [List.length_take]; omega
 have g4 : (p.take k).length = k := by rw [List.length_take]; omega
 rw [g1] at a1
 rw [g2] at a3
 rw [g3] at a2
 rw [g4] at a4
 refine ⟨fun h0 => guess_div h0 a1.1 a3.2 ht, fun left g hl hg => ?_⟩
 exact guess_less a2.1 a4 hl hg ht (Nat.pow_pos (by omega))
theorem Dv.skip (h : Dv b X V n (j + 1) R q) (h0 : vL b (R.drop j) < V) : Dv b X V n j R q :=
 ⟨h.dig, h.qdig, fun i hi => h.zero i (by omega), h0, h.val⟩
theorem put_digits {l d : List Nat} {j k : Nat} (hj : j + k <= l.length) (hd : d.length <= k) :
  vL b (l.take j ++ (d ++ List.replicate (k - d.length) 0) ++ l.drop (j + k)) + b ^ j * vL b ((l.drop j).take k) = vL b l + b ^ j * vL b d := by
 have e1 := vL_split b l j (by omega)
 have e2 := vL_split b (l.drop j) k (by rw [List.length_drop]; omega)
 rw [List.drop_drop] at e2
 rw [vL_app, vL_app, vL_app, vL_zeros, List.length_append, List.length_append, List.length_replicate, List.length_take, Nat.min_eq_left (by omega)]
 have e3 : j + (d.length + (k - d.length)) = j + k := by omega
 rw [e3, Nat.mul_zero, Nat.add_zero, Nat.pow_add, Nat.mul_assoc]
 have e4 := congrArg (fun z => b ^ j * z) e2
 simp only [Nat.mul_add] at e4
 omega
theorem put_len {l d : List Nat} {j k : Nat} (hj : j + k <= l.length) (hd : d.length <= k) : (l.take j ++ (d ++ List.replicate (k - d.length) 0) ++ l.drop (j + k)).length = l.length := by
 simp only [List.length_append, List.length_take, List.length_replicate, List.length_drop]; omega
theorem put_drop {l d : List Nat} {j k : Nat} (hj : j + k <= l.length) : (l.take j ++ (d ++ List.replicate (k - d.length) 0) ++ l.drop (j + k)).drop j = d ++ List.replicate (k - d.length) 0 ++ l.drop (j + k) := by
 rw [List.append_assoc, List.drop_append_of_le_length (by rw [List.length_take]; omega), List.drop_take, Nat.sub_self, List.take_zero, List.nil_append]
theorem Dv.step (hb : 2 <= b) (h : Dv b X V n (j + 1) R q) (hV : V < b ^ n) (hj : j + n + 1 <= R.length) (hq : j < q.length) {t : Nat} (ht : t = vL b (R.drop j) / V) {d : List Nat} (hd : ∀ x ∈ d, x < b) (ld : d.length <= n + 1) (hdv : vL b d = vL b (R.drop j) - V * t) :
  Dv b X V n j (R.take j ++ (d ++ List.replicate (n + 1 - d.length) 0) ++ R.drop (j + (n + 1))) (q.set j t) := by
 obtain ⟨p1, p2⟩ := h.part hb hV hj
 have hV0 : 0 < V := by have := h.top; omega
 have hm := Nat.div_add_mod (vL b (R.drop j)) V
 have hml := Nat.mod_lt (vL b (R.drop j)) hV0
 have ht2 : t < b := by rw [ht]; exact Nat.div_lt_of_lt_mul (by rw [Nat.mul_comm]; exact p2)
 rw [<- ht] at hm
 have hz : vL b (R.drop (j + (n + 1))) = 0 := by
  have e2 := vL_split b (R.drop j) (n + 1) (by rw [List.length_drop]; omega)
  rw [List.drop_drop, p1] at e2
  rcases Nat.eq_zero_or_pos (vL b (R.drop (j + (n + 1)))) with h0 | h0
  ·exact h0
  ·have h1 := Nat.mul_le_mul_left (b ^ (n + 1)) h0
   have h2 : 0 < b ^ (n + 1) := Nat.pow_pos (by omega)
   omega
 refine ⟨fun x hx => ?_, set_lt h.qdig ht2, fun i hi => ?_, ?_, ?_⟩
 ·simp only [List.mem_append] at hx
  rcases hx with (hx | hx | hx) | hx
  ·exact h.dig x (List.mem_of_mem_take hx)
  ·exact hd x hx
  ·rw [(List.mem_replicate.1 hx).2]; omega
  ·exact h.dig x (List.mem_of_mem_drop hx)
 ·rw [digAt_set_ne (by omega)]; exact h.zero i (by omega)
 ·rw [put_drop (by omega), vL_app, vL_app, hz, vL_zeros, hdv]; simp; omega
 ·have e1 := put_digits (b := b) (l := R) (d := d) (j := j) (k := n + 1) (by omega) ld
  rw [<- p1, hdv] at e1
  have e2 := vL_set b q j t hq
  rw [h.zero j (by omega), Nat.mul_zero, Nat.add_zero] at e2
  rw [e2, h.val, Nat.mul_add]
  have e3 : V * (b ^ j * t) = b ^ j * (V * t) := Nat.mul_left_comm _ _ _
  rw [e3]
  have e4 : b ^ j * vL b (R.drop j) = b ^ j * (vL b (R.drop j) - V * t) + b ^ j * (V * t) := by rw [<- Nat.mul_add]; congr 1; omega
  omega
theorem Dv.done (h : Dv b X V n 0 R q) : vL b q = X / V /\ vL b R = X % V := by
 have ht := h.top
 rw [List.drop_zero] at ht
 rw [h.val]
 constructor
 ·rw [Nat.add_comm, Nat.mul_add_div (by omega), Nat.div_eq_of_lt ht, Nat.add_zero]
 ·rw [Nat.add_comm, Nat.mul_add_mod, Nat.mod_eq_of_lt ht]
end
theorem Dv.start {b X V n j : Nat} {R : List Nat} {m : Nat} (hd : ∀ d ∈ R, d < b) (hb : 0 < b) (_hV : 0 < V) (hX : vL b R = X) (ht : vL b (R.drop j) < V) : Dv b X V n j R (List.replicate m 0) :=
 ⟨hd, fun d h => by rw [(List.mem_replicate.1 h).2]; exact hb, fun i _ => by
  rcases Nat.lt_or_ge i m with h | h
  ·rw [digAt_some (d := 0) (by simp [h])]
  ·rw [digAt_none (by simpa using h)], ht, by rw [vL_zeros]; omega⟩
theorem scaled {x y s : Nat} (hs : 0 < s) : (x * s) / (y * s) = x / y /\ (x * s) % (y * s) / s = x % y := by
 refine ⟨Nat.mul_div_mul_right _ _ hs, ?_⟩
 rw [Nat.mul_mod_mul_right, Nat.mul_div_cancel _ hs]
theorem digs_mono {b : Nat} (hb : 2 <= b) {m n : Nat} (h : m <= n) : (digs b m).length <= (digs b n).length := by
 rcases Nat.lt_or_ge (digs b n).length (digs b m).length with h1 | h1
 ·have := lt_of_len hb h1; omega
 ·exact h1
theorem digs_lt_pow {b : Nat} (hb : 2 <= b) (n : Nat) : n < b ^ (digs b n).length := by
 have := vL_lt (show 0 < b by omega) (digs_lt hb n)
 rwa [vL_digs hb] at this
theorem pow_le_digs {b : Nat} (hb : 2 <= b) {n k : Nat} (h : k < (digs b n).length) : b ^ k <= n := by
 rcases Nat.lt_or_ge n (b ^ k) with h1 | h1
 ·have := digs_len_le hb h1; omega
 ·exact h1
theorem trim_top {l : List Nat} (h : trimL l = l) (hne : l ≠ []) : 0 < digAt l (l.length - 1) := by
 have hl : 0 < l.length := List.length_pos_iff.2 hne
 have e := split1 (l := l) (k := l.length - 1) (by omega)
 rcases Nat.eq_zero_or_pos (digAt l (l.length - 1)) with h0 | h0
 ·exfalso
  rw [h0] at e
  have e2 := trim_snoc_zero (l.take (l.length - 1))
  rw [<- e, h] at e2
  have e3 := trimL_len (l.take (l.length - 1))
  rw [<- e2, List.length_take] at e3
  omega
 ·exact h0
theorem digs_trimmed {b : Nat} (hb : 2 <= b) {l : List Nat} (hd : ∀ d ∈ l, d < b) (ht : trimL l = l) : digs b (vL b l) = l := by rw [digs_vL hb hd, ht]
structure Begin (b : Nat) (lx X V n m : Nat) (vs R : List Nat) : Prop where
 n2 : 2 <= n
 nm : n + 2 <= m
 mx : m <= lx + 3
 lv : vs.length = n
 lr : R.length = m
 vdig : ∀ d ∈ vs, d < b
 vv : vL b vs = V
 v0 : 0 < V
 vb : V < b ^ n
 vt : 0 < digAt vs (n - 1)
 start : ∀ k, Dv b X V n (m - n) R (List.replicate k 0)
 z1 : digAt R (m - 1) = 0
 z2 : digAt R (m - 2) = 0
theorem begin_of {b : Nat} (hb : 2 <= b) {x y : List Nat} {s : Nat} (hx : ∀ d ∈ x, d < b) (hy : ∀ d ∈ y, d < b) (ty : trimL y = y) (hxy : vL b y <= vL b x) (hy2 : 2 <= y.length) (hs : 0 < s) (hsb : s <= b) :
  Begin b x.length (vL b x * s) (vL b y * s) (digs b (vL b y * s)).length ((digs b (vL b x * s)).length + 2) (digs b (vL b y * s)) (digs b (vL b x * s) ++ [0, 0]) := by
 have e1 := digs_trimmed hb hy ty
 have h1 : vL b y <= vL b y * s := Nat.le_mul_of_pos_right _ hs
 have h2 := digs_mono hb h1
 rw [e1] at h2
 have h3 : vL b y * s <= vL b x * s := Nat.mul_le_mul_right _ hxy
 have h4 := digs_mono hb h3
 have h5 : vL b x * s < b ^ (x.length + 1) := by
  rw [Nat.pow_succ]
  have a1 := vL_lt (show 0 < b by omega) hx
  calc vL b x * s <= vL b x * b := Nat.mul_le_mul_left _ hsb
   _ < b ^ x.length * b := Nat.mul_lt_mul_of_pos_right a1 (by omega)
 have h6 := digs_len_le hb h5
 have hV := pow_le_digs hb (n := vL b y * s) (k := (digs b (vL b y * s)).length - 1) (by omega)
 have hV0 : 0 < vL b y * s := Nat.lt_of_lt_of_le (Nat.pow_pos (by omega)) hV
 have hRd : ∀ d ∈ digs b (vL b x * s) ++ [0, 0], d < b := fun d hd => by
  rcases List.mem_append.1 hd with hd | hd
  ·exact digs_lt hb _ d hd
  ·simp at hd; omega
 refine ⟨by omega, by omega, by omega, rfl, by simp, digs_lt hb _, vL_digs hb _, hV0, digs_lt_pow hb _, ?_, fun k => ?_, ?_, ?_⟩
 ·exact trim_top (digs_trim hb _) (by intro h; rw [h] at h2; simp only [List.length_nil] at h2; omega)
 ·refine Dv.start hRd (by omega) hV0 (by rw [vL_app, vL_digs hb]; simp [vL]) ?_
  rw [List.drop_append_of_le_length (by omega), vL_app]
  have e2 : vL b [0, 0] = 0 := by simp [vL]
  rw [e2, Nat.mul_zero, Nat.add_zero]
  have a2 := vL_lt (show 0 < b by omega) (l := (digs b (vL b x * s)).drop ((digs b (vL b x * s)).length + 2 - (digs b (vL b y * s)).length)) fun d hd => digs_lt hb _ d (List.mem_of_mem_drop hd)
  have a3 : b ^ ((digs b (vL b x * s)).drop ((digs b (vL b x * s)).length + 2 - (digs b (vL b y * s)).length)).length <= b ^ ((digs b (vL b y * s)).length - 1) := Nat.pow_le_pow_right (by omega) (by rw [List.length_drop]; omega)
  omega
 ·unfold digAt
  rw [List.getD_eq_getElem?_getD, List.getElem?_append_right (by omega), show (digs b (vL b x * s)).length + 2 - 1 - (digs b (vL b x * s)).length = 1 by omega]
  rfl
 ·unfold digAt
  rw [List.getD_eq_getElem?_getD, List.getElem?_append_right (by omega), show (digs b (vL b x * s)).length + 2 - 2 - (digs b (vL b x * s)).length = 0 by omega]
  rfl
theorem Dv.nth {b X V n j i : Nat} {R q : List Nat} (h : Dv b X V n j R q) (hi : i < R.length) : ∃ d, R[i]? = some d /\ digAt R i = d /\ d < b := ⟨R[i], List.getElem?_eq_getElem hi, digAt_some (List.getElem?_eq_getElem hi), h.dig _ (List.getElem_mem hi)⟩
def ByR (W w' : World) (e : Ending) (n r : Nat) : Prop := ∃ p1 c1 p2 c2, e = .returned (.tuple #[.slice p1 (digs bU n).length c1, .slice p2 (digs bU r).length c2]) /\ LA w' (fun _ => True) (digs bU n) p1 c1 /\ LA w' (fun _ => True) (digs bU r) p2 c2 /\ Turned (fun _ => False) W w'
theorem LA.any {W : World} {N : Nat -> Prop} {l : List Nat} {p : Option Addr} {c : Nat} (h : LA W N l p c) : LA W (fun _ => True) l p c := h.move (Turned.refl (fun _ => False) _) (fun _ _ => id) fun _ _ => trivial
theorem one_digit {v : Nat} (h : v < bU) : trimL [v] = digs bU v := by
 have := digs_vL (b := bU) (by decide) (l := [v]) (fun d hd => by rw [List.mem_singleton.1 hd]; exact h)
 rw [<- this]; simp [vL]
theorem by_less (x y : List Nat) (p q : Option Addr) (c e0 : Nat) (W : World) (N M : Nat -> Prop) (hx : LA W N x p c) (hy : LA W M y q e0) (tx : trimL x = x) (ty : trimL y = y) (hlt : vL bU x < vL bU y) :
  Calls Tryz.prog 86 #[.slice p x.length c, .slice q y.length e0] W fun e w' => ByR W w' e (vL bU x / vL bU y) (vL bU x % vL bU y) := by
 have HC := Lib.hid (compare_any x y p q c e0 W N M hx hy tx ty)
 rw [cmpZ_lt (by omega)] at HC
 have HX := Lib.hid hx
 have HE : Hid (digs bU (vL bU x / vL bU y) = [] /\ digs bU (vL bU x % vL bU y) = x) := Lib.hid ⟨by rw [Nat.div_eq_of_lt hlt, digs_zero], by rw [Nat.mod_eq_of_lt hlt]; exact digs_trimmed (by decide) hx.dig tx⟩
 clear hx hy tx ty hlt
 go_enter Tryz.func86, Tryz.ntmps86
 go_wp2_with fail
 go_step3
 go_wp2_with (go_at_call 118; (with_reducible refine HC.out.mono ?_); rintro e w' ⟨rfl, hw⟩; have HW := Lib.hid hw; clear hw)
 try rw [Exit.noGoto_ret]
 go_ret2
 unfold ByR
 rw [HE.out.1, HE.out.2]
 exact ⟨none, 0, p, c, rfl, LA.nil _ _, (HX.out.turned HW.out).any, HW.out⟩
theorem by_digit (x : List Nat) (d : Nat) (p q : Option Addr) (c e0 : Nat) (W : World) (N M : Nat -> Prop) (hx : LA W N x p c) (hy : LA W M [d] q e0) (tx : trimL x = x) (h0 : 0 < d) (hle : d <= vL bU x) (lx : x.length <= 1000000000) :
  Calls Tryz.prog 86 #[.slice p x.length c, .slice q 1 e0] W fun e w' => ByR W w' e (vL bU x / d) (vL bU x % d) := by
 have ev : vL bU [d] = d := by simp [vL]
 have hdb := hy.dig d (by simp)
 obtain ⟨b, a, d', rfl, -, hd', -, -, -⟩ := hy.get (i := 0) (by simp)
 clear hd' d'
 have HC := Lib.hid (compare_any x [d] p (some ⟨b, a, none⟩) c e0 W N M hx hy tx (by simp [trimL]; omega))
 rw [ev] at HC
 obtain ⟨z, hz⟩ : ∃ z, cmpZ (vL bU x) d = z := ⟨_, rfl⟩
 have hz2 : ¬ z < 0 := by rw [<- hz]; unfold cmpZ; split <;> (try split) <;> omega
 rw [hz] at HC
 have HX := Lib.hid hx
 have HY := Lib.hid hy
 have HS := Lib.hid (fun W (h : LA W N x p c) => small_any x p c d W N h lx h0 hdb)
 obtain ⟨r, hr⟩ : ∃ r, vL bU x % d = r := ⟨_, rfl⟩
 have hrb : r < bU := by rw [<- hr]; exact Nat.lt_trans (Nat.mod_lt _ h0) hdb
 rw [hr] at HS ⊢
 have HO := Lib.hid (And.intro hrb (one_digit hrb))
 clear hx hy tx hle hz hr hrb
 go_enter Tryz.func86, Tryz.ntmps86
 go_wp2_with fail
 go_step3
 go_wp2_with (go_at_call 118; refine HC.out.mono ?_; rintro e w' ⟨rfl, hw⟩; obtain ⟨b', a', d', hq, -, hd', -, -, d1⟩ := (HY.out.turned hw).get (i := 0) (by simp); cases hq; cases hd'; rw [Nat.add_zero] at d1; have HW := Lib.hid hw; clear hw; have HS' := Lib.hid (HS.out w' (HX.out.turned HW.out)))
 go_wp2_with (go_at_call 119; (with_reducible refine HS'.out.mono ?_); rintro e w2 ⟨p1, c1, rfl, h1, h2⟩; have HP := Lib.hid (And.intro h1 h2); clear h1 h2)
 have HT := Lib.hid (trim_any [r] _ _ _ _ (LA.one w2 HO.out.1))
 go_wp2_with (go_at_call 100; refine HT.out.mono ?_; rintro e w3 ⟨rfl, hw⟩; rw [hw]; clear hw)
 rw [Exit.noGoto_ret]
 go_ret2
 unfold ByR
 rw [<- HO.out.2]
 exact ⟨p1, c1, _, 1, rfl, (HP.out.1.turned ((Turned.refl _ w2).alloc _)).any, ((LA.one w2 HO.out.1).trim).any, (HW.out.trans HP.out.2).alloc _⟩
theorem wrapU_sub (a b c : Nat) (ha : a < bU) (hb : b < bU) (hc : c <= 1) : ((IntKind.u64.wrap (IntKind.u64.wrap ((a : Int) - b) - c)) % 4294967296 = (subD bU a b c : Nat)) /\ ((IntKind.u64.wrap (IntKind.u64.wrap ((a : Int) - b) - c)) / 9223372036854775808 = (subC a b c : Nat)) := by
 unfold bU at *
 have e : ∀ z : Int, IntKind.u64.wrap z = z % 18446744073709551616 := fun z => rfl
 rw [e, e]
 unfold subD subC
 constructor
 ·split <;> omega
 ·split <;> omega
theorem minus_any (x y : List Nat) (p q : Option Addr) (c e0 : Nat) (W : World) (N M : Nat -> Prop) (hx : LA W N x p c) (hy : LA W M y q e0) (lx : x.length <= 1000000000) (ly : y.length <= x.length) (hle : vL bU y <= vL bU x) :
  Calls Tryz.prog 122 #[.slice p x.length c, .slice q y.length e0] W fun e w' => RetL W w' e (vL bU x - vL bU y) := by
 have HX := Lib.hid hx
 have HY := Lib.hid hy
 have HL0 := Lib.hid (And.intro ly hle)
 clear hx hy ly hle
 go_enter Tryz.func122, Tryz.ntmps122
 go_wp2_with fail
 go_loopw [5, 6, 11] (fun v cy i wr => ∃ (k cc : Nat) (L : List Nat), cy = .int .u64 cc /\ i = (.int .i64 k) /\ k <= x.length /\ Hid (Minus bU x y k L cc /\ OU wr W.heap.size v L /\ Turned (fun _ => False) W wr)) (fun _ _ i _ => x.length - (intOf i).toNat)
 case atStart => exact ⟨0, 0, [], rfl, rfl, by omega, Lib.hid ⟨Minus.start _ _ _, OU.nil _ _, Turned.refl _ _⟩⟩
 case round =>
  obtain ⟨k, cc, L, rfl, rfl, hk, HR⟩ := hrel
  obtain ⟨vp, vc, hv⟩ := HR.out.2.1.shape
  have hlen := HR.out.1.len
  rw [hlen] at hv
  subst hv
  by_cases hkB : k < x.length
  ·obtain ⟨db, hdb⟩ : ∃ db, digAt y k = db := ⟨_, rfl⟩
   obtain ⟨b, a, d, rfl, -, -, hda, hdb1, d1⟩ := (HX.out.turned HR.out.2.2).get (i := k) hkB
   have HB := Lib.hid (fun n => at_any y q e0 k (wr.drewN n) M (HY.out.turned (HR.out.2.2.trans (drewNT _ _ n))))
   have lb : db < bU := hdb ▸ digAt_lt (by decide) HY.out.dig k
   have lc := HR.out.1.car
   rw [hdb] at HB
   have hki : (k : Int) < (x.length : Int) := by omega
   have hcv : IntKind.u64.wrap (d : Int) = (d : Int) := IntWalk.u64_in _ (by omega)
   obtain ⟨V1, hV1⟩ : ∃ V1, IntKind.u64.wrap ((d : Int) - (db : Int)) = V1 := ⟨_, rfl⟩
   obtain ⟨V2, hV2⟩ : ∃ V2, IntKind.u64.wrap (V1 - (cc : Int)) = V2 := ⟨_, rfl⟩
   have HF := Lib.hid (wrapU_sub d db cc hdb1 lb lc)
   rw [hV1, hV2] at HF
   have HD := HB
   go_wp2_with fail
   go_quiet ((go_at_call 137; (first | exact quiet_add_same (HD.out _) | exact Calls.quiet_of_same (HD.out _))))
   have HN := Lib.hid (And.intro (HR.out.2.1.turned (drewNT (fun _ => False) wr nq) fun _ h => h.elim) (HR.out.2.2.trans (drewNT _ _ nq)))
   go_wp2_with (at_builtin; (refine app_u32 (wr.drewN nq) rfl _ _ rfl W.heap.size (.slice vp k vc) _ (subD bU d db cc) HF.out.1 L rfl rfl HN.out.1 HN.out.2.size (by rw [hlen]; omega) ?_); intro vp' vc' w4 ho4 ht4; have HS := Lib.hid (And.intro ho4 ht4); clear ho4 ht4)
   refine ⟨⟨k + 1, subC d db cc, L ++ [subD bU d db cc], congrArg (Value.int .u64) HF.out.2, rfl, by omega, Lib.hid ⟨?_, ?_, HN.out.2.fresh HS.out.2 fun _ => id⟩⟩, ?_⟩
   ·have h := HR.out.1.step (by decide) HX.out.dig HY.out.dig
    rw [hda, hdb] at h
    exact h
   ·have h := HS.out.1
    rw [hlen] at h
    exact h
   ·show x.length - (intOf (.int .i64 ((k : Int) + 1))).toNat < x.length - (intOf (.int .i64 ((k : Int)))).toNat
    simp only [intOf]
    omega
  ·have hki : ¬ (k : Int) < (x.length : Int) := by omega
   have hdn := Minus.done (by decide) (by omega) HL0.out.1 HL0.out.2 HR.out.1
   have HL := Lib.hid (HR.out.2.1.la hdn.2)
   have HE : Hid (digs bU (vL bU x - vL bU y) = trimL L) := Lib.hid (by rw [<- hdn.1]; exact digs_vL (by decide) hdn.2)
   have HT := Lib.hid (trim_any L vp vc wr (fun b => W.heap.size <= b) HL.out)
   rw [hlen] at HT
   clear hdn hkB
   go_wp2_with (go_at_call 100; refine HT.out.mono ?_; rintro e w' ⟨rfl, hw⟩; rw [hw]; clear hw)
   go_ret
   unfold RetL
   rw [HE.out]
   exact ⟨vp, vc, rfl, HL.out.trim, HR.out.2.2⟩
theorem copy_u32 {W : World} {ops : Array Oper} {rest : List Oper} {o : Oper} {a : Act} {Q : Exit -> Act -> World -> Prop} (hgd : o.guard = none) (d s : Operand)
  (ho : o.op = .call { callee := .builtin .copy, args := #[d, s], argTypes := #[154, 154] }) (g off dl dc : Nat) (hd : a.eval d = .slice (some ⟨g, off, none⟩) dl dc) (ps : Option Addr) (sc : Nat) (ds : List Nat) (hs : a.eval s = .slice ps ds.length sc)
  (l : List Nat) (hpu : PU W g l) {N : Nat -> Prop} (hla : LA W N ds ps sc) (hle : ds.length <= dl) (hfit : off + dl <= l.length)
  (hK : ∀ w', Hid (PU w' g (l.take off ++ ds ++ l.drop (off + ds.length)) /\ Turned (fun k => k = g) W w') -> wpList Tryz.prog ops Q rest (a.put o.dst (goInt ds.length)) w') : wpList Tryz.prog ops Q (o :: rest) a W := by
 cases ds with
 | nil =>
  refine wpList_copy_nothing hgd d s _ _ ho 170 Tryz.underlying154 (by kernel_rfl) _ ps dl dc 0 sc hd hs (Nat.zero_min _) ?_
  refine hK W (Lib.hid ⟨?_, Turned.refl _ _⟩)
  simpa using hpu
 | cons x ds =>
  obtain ⟨b, ao, hp, -, -⟩ := hla.cel 0 x rfl
  subst hp
  obtain ⟨tl, hg⟩ := hpu
  have hmin : ((x :: ds).map uV).length = Nat.min (x :: ds).length dl := by rw [List.length_map]; exact (Nat.min_eq_left hle).symm
  refine wpList_copy_own hgd d s _ _ ho 170 Tryz.underlying154 (by kernel_rfl) g off dl dc _ _ sc hd hs _ _ hg ((x :: ds).map uV) hmin (la_news hla) (by simp; simp at hle hfit; omega) (by intro v hv; obtain ⟨d, -, rfl⟩ := List.mem_map.1 hv; rfl) ?_
  rw [List.length_map]
  refine hK _ (Lib.hid ⟨⟨tl, ?_⟩, setRow_turned _ _ _⟩)
  rw [setRow_heap _ _ _ _ _ _ hg]
  have e1 : (l.map uV ++ tl).take off = (l.take off).map uV := by rw [List.take_append_of_le_length (by simp; omega), List.map_take]
  have e2 : (l.map uV ++ tl).drop (off + (x :: ds).length) = (l.drop (off + (x :: ds).length)).map uV ++ tl := by rw [List.drop_append_of_le_length (by rw [List.length_map]; omega), List.map_drop]
  rw [e1, e2, List.map_append, List.map_append, List.append_assoc, List.append_assoc]
theorem clear_u32 {W : World} {g off n c : Nat} {l : List Nat} (ty : TypeId) (hpu : PU W g l) (hn : 0 < n) (hfit : off + n <= l.length) :
  (Builtin.clear_ #[154] ty #[.slice (some ⟨g, off, none⟩) n c]).run Tryz.prog W = .ok (.tuple #[]) (W.setCells g off (List.replicate n (uV 0))) := by
 refine Go.Lib.run_clear_slice W 154 170 ty (uV 0) Tryz.underlying154 Tryz.zeroValue170 rfl rfl g off n c hn (fun j hj => ?_) (fun j _ => hpu.free _)
 rw [hpu.some (i := off + j) (by omega)]; rfl
theorem cleared {W : World} {g off n : Nat} {l : List Nat} (hpu : PU W g l) (hfit : off + n <= l.length) :
  PU (W.setCells g off (List.replicate n (uV 0))) g (l.take off ++ List.replicate n 0 ++ l.drop (off + n)) /\ Turned (fun k => k = g) W (W.setCells g off (List.replicate n (uV 0))) := by
 have h := PU.cells (List.replicate n 0) off W l hpu (by simpa using hfit)
 rw [List.map_replicate, List.length_replicate] at h
 exact h
theorem put_two {l d : List Nat} {j k : Nat} (hj : j + k <= l.length) (hd : d.length <= k) :
  (l.take j ++ List.replicate k 0 ++ l.drop (j + k)).take j ++ d ++ (l.take j ++ List.replicate k 0 ++ l.drop (j + k)).drop (j + d.length) = l.take j ++ (d ++ List.replicate (k - d.length) 0) ++ l.drop (j + k) := by
 have h1 : (l.take j).length = j := by rw [List.length_take]; omega
 have e1 : (l.take j ++ List.replicate k 0 ++ l.drop (j + k)).take j = l.take j := by
  rw [List.append_assoc, List.take_append_of_le_length (by omega), List.take_take, Nat.min_self]
 have e2 : (l.take j ++ List.replicate k 0 ++ l.drop (j + k)).drop (j + d.length) = List.replicate (k - d.length) 0 ++ l.drop (j + k) := by
  have e3 : (l.take j ++ (List.replicate k 0 ++ l.drop (j + k))).drop (j + d.length) = (List.replicate k 0 ++ l.drop (j + k)).drop d.length := by
   have := List.drop_append (l₁ := l.take j) (l₂ := List.replicate k 0 ++ l.drop (j + k)) (i := j + d.length)
   rw [this, List.drop_eq_nil_of_le (by omega), List.nil_append, h1, Nat.add_sub_cancel_left]
  rw [List.append_assoc, e3, List.drop_append_of_le_length (by simpa using hd), List.drop_replicate]
 rw [e1, e2]
 simp [List.append_assoc]
end Go.Proofs.YthejfklieedjmaaGreatDoor
