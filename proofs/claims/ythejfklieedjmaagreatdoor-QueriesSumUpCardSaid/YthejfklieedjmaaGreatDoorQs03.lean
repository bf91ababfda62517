/- Part 3 of the proof of lawSum.card: NatWalkB, NatWalkC, NatRow, NatWalkE, NatBytes, NatWalkK, NatWalkL, NatWalkM, NatWalkN. Conditions: those of each theorem. -/
import Derived.Deep.OwnRows
import Derived.Laws.BitsAllLaws
import Derived.Lib.ConvBytes
import Derived.BigRegion
import Derived.Laws.IdiomStrings
import Derived.Lib.BufferRead
import Derived.Test.YthejfklieedjmaaGreatDoorQs01
import Derived.Test.YthejfklieedjmaaGreatDoorQs02
set_option maxRecDepth 20000
set_option maxHeartbeats 2000000
namespace Go.Proofs.YthejfklieedjmaaGreatDoor
open Go Go.Proofs Go.RowKit
attribute [local go_sem] Oper.semAt_some
theorem cmpZ_lt {x y : Int} (h : x < y) : cmpZ x y = -1 := if_pos h
theorem cmpZ_gt {x y : Int} (h : y < x) : cmpZ x y = 1 := by unfold cmpZ; rw [if_neg (by omega), if_pos h]
theorem cmpZ_eq {x y : Int} (h : x = y) : cmpZ x y = 0 := by unfold cmpZ; rw [if_neg (by omega), if_neg (by omega)]
theorem compare_any (x y : List Nat) (p q : Option Addr) (c e0 : Nat) (W : World) (N M : Nat -> Prop) (hx : LA W N x p c) (hy : LA W M y q e0) (tx : trimL x = x) (ty : trimL y = y) :
  Calls Tryz.prog 118 #[.slice p x.length c, .slice q y.length e0] W fun e w' => e = .returned (.int .i64 (cmpZ (vL bU x) (vL bU y))) /\ Turned (fun _ => False) W w' := by
 have HC := Lib.hid (fun W => cmpI_any x.length y.length W)
 have cx := hx.cap
 have mx := hx.mx
 unfold maxLen at mx
 by_cases h1 : x.length < y.length
 ·rw [cmpZ_lt (by omega)] at HC
  have HR : Hid (cmpZ (vL bU x) (vL bU y) = -1) := Lib.hid (cmpZ_lt (by have := trim_len_lt (b := bU) (by decide) hx.dig hy.dig tx ty h1; omega))
  clear hx hy tx ty h1
  go_enter Tryz.func118, Tryz.ntmps118
  go_wp2_with (go_at_call 153; refine (HC.out _).mono ?_; rintro e w' ⟨rfl, hw⟩; rw [hw]; clear hw)
  go_ret
  rw [HR.out]
  exact ⟨rfl, Turned.refl _ _⟩
 by_cases h2 : y.length < x.length
 ·rw [cmpZ_gt (by omega)] at HC
  have HR : Hid (cmpZ (vL bU x) (vL bU y) = 1) := Lib.hid (cmpZ_gt (by have := trim_len_lt (b := bU) (by decide) hy.dig hx.dig ty tx h2; omega))
  clear hx hy tx ty h1 h2
  go_enter Tryz.func118, Tryz.ntmps118
  go_wp2_with (go_at_call 153; refine (HC.out _).mono ?_; rintro e w' ⟨rfl, hw⟩; rw [hw]; clear hw)
  go_ret
  rw [HR.out]
  exact ⟨rfl, Turned.refl _ _⟩
 have hlen : y.length = x.length := by omega
 rw [cmpZ_eq (by omega)] at HC
 have HX := Lib.hid hx
 have HY := Lib.hid hy
 have HLE := Lib.hid hlen
 have hw0 : IntKind.i64.wrap ((x.length : Int) - 1) = (x.length : Int) - 1 := IntWalk.i64_in _ (by omega)
 clear hx hy tx ty h1 h2 hlen
 go_enter Tryz.func118, Tryz.ntmps118
 go_wp2_with (go_at_call 153; refine (HC.out _).mono ?_; rintro e w' ⟨rfl, hw⟩; rw [hw]; clear hw)
 clear HC hw0
 go_loopw [6] (fun i wr => ∃ j : Nat, i = (.int .i64 ((j : Int) - 1)) /\ j <= x.length /\ Hid (x.drop j = y.drop j /\ Turned (fun _ => False) W wr)) (fun i _ => (intOf i + 1).toNat)
 case atStart => exact ⟨x.length, rfl, Nat.le_refl _, Lib.hid ⟨by rw [List.drop_length, <- HLE.out, List.drop_length], Turned.refl _ _⟩⟩
 case round =>
  obtain ⟨j, rfl, hj, HR⟩ := hrel
  cases j with
  | zero =>
   have hneg : ¬ (0 : Int) <= ((0 : Nat) : Int) - 1 := by omega
   have HE : Hid (cmpZ (vL bU x) (vL bU y) = 0) := Lib.hid (by
    have h := HR.out.1
    rw [List.drop_zero, List.drop_zero] at h
    rw [h]; exact cmpZ_eq rfl)
   go_wp2_with fail
   go_ret
   rw [HE.out]
   exact ⟨rfl, HR.out.2⟩
  | succ k =>
   have hk0 : k < x.length := by omega
   obtain ⟨b, a, d, rfl, -, hd, -, hdb, d1⟩ := (HX.out.turned HR.out.2).get (i := k) (by omega)
   obtain ⟨b2, a2, d2, rfl, -, hd2, -, hdb2, d3⟩ := (HY.out.turned HR.out.2).get (i := k) (by have := HLE.out; omega)
   have hpos : (0 : Int) <= ((k + 1 : Nat) : Int) - 1 := by omega
   obtain ⟨f1, f2, f3⟩ := cmp_digits (b := bU) HX.out.dig HY.out.dig hd hd2 HR.out.1
   have HD := Lib.hid (fun W => cmpU_any d d2 W)
   have hle : y.length = x.length := HLE.out
   have hi1 : ((k + 1 : Nat) : Int) - 1 = (k : Int) := by omega
   rw [hi1] at hpos ⊢
   clear hi1
   have hw1 : IntKind.i64.wrap ((k : Int) - 1) = (k : Int) - 1 := IntWalk.i64_in _ (by omega)
   have hkl : (k : Int) < (x.length : Int) := by omega
   have hkl2 : (k : Int) < (y.length : Int) := by omega
   by_cases g1 : d < d2
   ·rw [cmpZ_lt (by omega)] at HD
    have HE : Hid (cmpZ (vL bU x) (vL bU y) = -1) := Lib.hid (cmpZ_lt (by have := f1 g1; omega))
    clear f1 f2 f3 g1 HLE
    go_wp2_with fail
    go_quiet ((go_at_call 154; (first | exact quiet_add_same (HD.out _) | exact Calls.quiet_of_same (HD.out _))))
    go_wp2_with fail
    go_ret
    rw [HE.out]
    exact ⟨rfl, HR.out.2.trans (drewNT _ _ _)⟩
   by_cases g2 : d2 < d
   ·rw [cmpZ_gt (by omega)] at HD
    have HE : Hid (cmpZ (vL bU x) (vL bU y) = 1) := Lib.hid (cmpZ_gt (by have := f2 g2; omega))
    clear f1 f2 f3 g1 g2 HLE
    go_wp2_with fail
    go_quiet ((go_at_call 154; (first | exact quiet_add_same (HD.out _) | exact Calls.quiet_of_same (HD.out _))))
    go_wp2_with fail
    go_ret
    rw [HE.out]
    exact ⟨rfl, HR.out.2.trans (drewNT _ _ _)⟩
   ·rw [cmpZ_eq (by omega)] at HD
    have HS : Hid (x.drop k = y.drop k) := Lib.hid (f3 (by omega))
    clear f1 f2 f3 g1 g2 HLE
    go_wp2_with fail
    go_quiet ((go_at_call 154; (first | exact quiet_add_same (HD.out _) | exact Calls.quiet_of_same (HD.out _))))
    go_wp2_with fail
    refine ⟨⟨k, rfl, by omega, Lib.hid ⟨HS.out, HR.out.2.trans (drewNT _ _ _)⟩⟩, ?_⟩
    show (intOf (.int .i64 ((k : Int) - 1)) + 1).toNat < (intOf (.int .i64 ((k : Int))) + 1).toNat
    simp only [intOf]
    omega
abbrev uV (d : Nat) : Value := .int .u32 d
def OU (W : World) (base : Nat) (v : Value) (L : List Nat) : Prop := W.ownsRow base 170 1 v L.length (L.map uV)
theorem OU.nil (W : World) (base : Nat) : OU W base (.slice none 0 0) [] := ⟨rfl, .inl ⟨rfl, rfl⟩⟩
theorem OU.shape {W : World} {base : Nat} {v : Value} {L : List Nat} (h : OU W base v L) : ∃ p c, v = .slice p L.length c := owns_shape h
theorem OU.turned {W W' : World} {base : Nat} {v : Value} {L : List Nat} (h : OU W base v L) {C : Nat -> Prop} (ht : Turned C W W') (hC : ∀ k, C k -> k < base) : OU W' base v L := ownsRow_turned ht hC h
theorem OU.la {W : World} {base : Nat} {p : Option Addr} {n c : Nat} {L : List Nat} (h : OU W base (.slice p n c) L) (hd : ∀ d ∈ L, d < bU) : LA W (fun b => base <= b) L p c := by
 obtain ⟨-, ⟨hv, hn⟩ | ⟨g, cap, cur, hv, hg, hh, h1, h2, hcs, htk⟩⟩ := h
 ·have : L = [] := List.length_eq_zero_iff.1 hn
  subst this
  cases hv
  exact LA.nil W _
 ·cases hv
  refine ⟨hd, h1, h2, fun i d hi => ⟨g, 0, rfl, hg, ?_⟩⟩
  have hlt : i < L.length := (List.getElem?_eq_some_iff.1 hi).1
  have e : (L.map uV)[i]? = some (uV d) := by rw [List.getElem?_map, hi]; rfl
  rw [<- htk, List.getElem?_take_of_lt (by omega)] at e
  simpa [World.cell?, hh] using e
theorem Turned.fresh {W A B : World} {C : Nat -> Prop} (h : Turned (fun _ => False) W A) (k : Turned C A B) (hC : ∀ g, C g -> W.heap.size <= g) : Turned (fun _ => False) W B :=
 ⟨k.os.trans h.os, k.tape.trans h.tape, k.output.trans h.output, Nat.le_trans h.size k.size, fun i hi hn => (k.block i (Nat.lt_of_lt_of_le hi h.size) (fun c => by have := hC i c; omega)).trans (h.block i hi hn)⟩
theorem infoU : (Tryz.prog.info? 170).map (fun i => (i.zero, i.size, i.bytes)) = some (some (uV 0), 1, 4) := by kernel_rfl
theorem cell_alloc_new (W : World) (u : Value) (t : TypeId) : (W.alloc (.cells #[u] t)).cell? ⟨W.heap.size, 0, none⟩ = some u := by
 rw [World.cell?_alloc_at _ _ _ _ rfl]; rfl
theorem app_u32 (W : World) {ops : Array Oper} {rest : List Oper} {o : Oper} {a : Act} {Q : Exit -> Act -> World -> Prop} (hg : o.guard = none) (s x : Operand) (hop : o.op = Op.call { callee := Callee.builtin Builtin.append, args := #[s, x], argTypes := #[154, 154] })
  (base : Nat) (v : Value) (z : Int) (d : Nat) (hz : z = d) (L : List Nat) (hs : a.eval s = v) (hx : a.eval x = .slice (some ⟨W.heap.size, 0, none⟩) 1 1) (hown : OU W base v L) (hb : base <= W.heap.size) (hl : L.length <= 4000000000)
  (hK : ∀ p c w', OU w' base (.slice p (L.length + 1) c) (L ++ [d]) -> Turned (fun g => base <= g) W w' -> wpList Tryz.prog ops Q rest (a.put o.dst (.slice p (L.length + 1) c)) w') :
  wpList Tryz.prog ops Q (o :: rest) a (W.alloc (.cells #[.int .u32 z] 170)) := by
 subst hz
 obtain ⟨i0, hif, hz0, hz1, hz2⟩ := info_parts infoU
 have ta : Turned (fun g => base <= g) W (W.alloc (.cells #[uV d] 170)) := (Turned.refl _ _).alloc _
 refine wpList_append_exact _ hg s x 154 hop base 170 i0 (uV 0) 1 4 Tryz.underlying154 hif hz0 hz1 hz2 rfl (by decide) v L.length (L.map uV) hs (ownsRow_turned ((Turned.refl (fun _ => False) W).alloc _) (fun k hk => hk.elim) hown) ⟨W.heap.size, 0, none⟩ 1 1 [uV d] hx rfl (fun j u hj => ?_) (by intro u hu; rw [List.mem_singleton.1 hu]; rfl) (by unfold maxLen; omega) (by omega) (by simp; omega) ?_
 ·cases j with
  | zero => cases hj; exact cell_alloc_new _ _ _
  | succ j => simp at hj
 ·intro v' w' hown' hgrow hex
  obtain ⟨p, c, rfl⟩ := owns_shape hown'
  refine hK p c w' (by rw [OU, List.length_append, List.map_append]; exact hown') (ta.trans (Turned.of_grown hgrow fun k hk => ?_))
  exact (ownsRow_block hown k hk).1
def RetL (W w' : World) (e : Ending) (n : Nat) : Prop := ∃ p c, e = .returned (.slice p (digs bU n).length c) /\ LA w' (fun b => W.heap.size <= b) (digs bU n) p c /\ Turned (fun _ => False) W w'
theorem plus_any (x y : List Nat) (p q : Option Addr) (c e0 : Nat) (W : World) (N M : Nat -> Prop) (hx : LA W N x p c) (hy : LA W M y q e0) (lx : x.length <= 1000000000) (ly : y.length <= 1000000000) :
  Calls Tryz.prog 172 #[.slice p x.length c, .slice q y.length e0] W fun e w' => RetL W w' e (vL bU x + vL bU y) := by
 have HX := Lib.hid hx
 have HY := Lib.hid hy
 clear hx hy
 by_cases hlt : x.length < y.length
 ·have HM : Hid (y.length = max x.length y.length) := Lib.hid (by omega)
  go_enter Tryz.func172, Tryz.ntmps172
  go_wp2_with fail
  go_loopw [5, 6, 15] (fun v cy i wr => ∃ (k cc : Nat) (L : List Nat), cy = .int .u64 cc /\ i = (.int .i64 k) /\ k <= y.length + 1 /\ Hid (Plus bU x y k L cc /\ OU wr W.heap.size v L /\ Turned (fun _ => False) W wr)) (fun _ _ i _ => y.length + 1 - (intOf i).toNat)
  case atStart => exact ⟨0, 0, [], rfl, rfl, by omega, Lib.hid ⟨Plus.start _ _ _, OU.nil _ _, Turned.refl _ _⟩⟩
  case round =>
   obtain ⟨k, cc, L, rfl, rfl, hk, HR⟩ := hrel
   obtain ⟨vp, vc, hv⟩ := HR.out.2.1.shape
   have hlen := HR.out.1.len
   rw [hlen] at hv
   subst hv
   by_cases hkB : k < y.length + 1
   ·obtain ⟨da, hda⟩ : ∃ da, digAt x k = da := ⟨_, rfl⟩
    obtain ⟨db, hdb⟩ : ∃ db, digAt y k = db := ⟨_, rfl⟩
    have HA := Lib.hid (at_any x p c k wr N (HX.out.turned HR.out.2.2))
    have HB := Lib.hid (at_any y q e0 k wr M (HY.out.turned HR.out.2.2))
    have la : da < bU := hda ▸ digAt_lt (by decide) HX.out.dig k
    have lb : db < bU := hdb ▸ digAt_lt (by decide) HY.out.dig k
    have lc := HR.out.1.car
    rw [hda] at HA
    rw [hdb] at HB
    have hki : (k : Int) < (y.length : Int) + 1 := by omega
    have hw1 : IntKind.u64.wrap ((da : Int) + (db : Int)) = (da : Int) + (db : Int) := IntWalk.u64_in _ (by have := la; have := lb; unfold bU at *; omega)
    have hw2 : IntKind.u64.wrap ((da : Int) + (db : Int) + (cc : Int)) = (da : Int) + (db : Int) + (cc : Int) := IntWalk.u64_in _ (by have := la; have := lb; unfold bU at *; omega)
    go_wp2_with (first | (go_at_call 137; first | ((with_reducible refine HA.out.mono ?_); rintro e w' ⟨rfl, hw⟩; rw [hw]; clear hw) | ((with_reducible refine HB.out.mono ?_); rintro e w' ⟨rfl, hw⟩; rw [hw]; clear hw)) | (at_builtin; refine app_u32 wr rfl _ _ rfl W.heap.size _ _ ((da + db + cc) % bU) (by unfold bU; omega) L rfl rfl HR.out.2.1 HR.out.2.2.size (by rw [hlen]; omega) ?_; intro vp' vc' w4 ho4 ht4; have HS := Lib.hid (And.intro ho4 ht4); clear ho4 ht4))
    refine ⟨⟨k + 1, (da + db + cc) / bU, L ++ [(da + db + cc) % bU], congrArg (Value.int .u64) (by unfold bU; omega), rfl, by omega, Lib.hid ⟨?_, ?_, HR.out.2.2.fresh HS.out.2 fun _ => id⟩⟩, ?_⟩
    ·have h := HR.out.1.step (by decide) HX.out.dig HY.out.dig
     rw [hda, hdb] at h
     exact h
    ·have h := HS.out.1
     rw [hlen] at h
     exact h
    ·show y.length + 1 - (intOf (.int .i64 ((k : Int) + 1))).toNat < y.length + 1 - (intOf (.int .i64 ((k : Int)))).toNat
     simp only [intOf]
     omega
   ·have hki : ¬ (k : Int) < (y.length : Int) + 1 := by omega
    have hdn := Plus.done (by decide) HX.out.dig HY.out.dig (by have := HM.out; omega) HR.out.1
    have HL := Lib.hid (HR.out.2.1.la hdn.2)
    have HE : Hid (digs bU (vL bU x + vL bU y) = trimL L) := Lib.hid (by rw [<- hdn.1]; exact digs_vL (by decide) hdn.2)
    have HT := Lib.hid (trim_any L vp vc wr (fun b => W.heap.size <= b) HL.out)
    rw [hlen] at HT
    clear hdn hkB
    go_wp2_with (go_at_call 100; refine HT.out.mono ?_; rintro e w' ⟨rfl, hw⟩; rw [hw]; clear hw)
    go_ret
    unfold RetL
    rw [HE.out]
    exact ⟨vp, vc, rfl, HL.out.trim, HR.out.2.2⟩
 ·have HM : Hid (x.length = max x.length y.length) := Lib.hid (by omega)
  go_enter Tryz.func172, Tryz.ntmps172
  go_wp2_with fail
  go_loopw [5, 6, 15] (fun v cy i wr => ∃ (k cc : Nat) (L : List Nat), cy = .int .u64 cc /\ i = (.int .i64 k) /\ k <= x.length + 1 /\ Hid (Plus bU x y k L cc /\ OU wr W.heap.size v L /\ Turned (fun _ => False) W wr)) (fun _ _ i _ => x.length + 1 - (intOf i).toNat)
  case atStart => exact ⟨0, 0, [], rfl, rfl, by omega, Lib.hid ⟨Plus.start _ _ _, OU.nil _ _, Turned.refl _ _⟩⟩
  case round =>
   obtain ⟨k, cc, L, rfl, rfl, hk, HR⟩ := hrel
   obtain ⟨vp, vc, hv⟩ := HR.out.2.1.shape
   have hlen := HR.out.1.len
   rw [hlen] at hv
   subst hv
   by_cases hkB : k < x.length + 1
   ·obtain ⟨da, hda⟩ : ∃ da, digAt x k = da := ⟨_, rfl⟩
    obtain ⟨db, hdb⟩ : ∃ db, digAt y k = db := ⟨_, rfl⟩
    have HA := Lib.hid (at_any x p c k wr N (HX.out.turned HR.out.2.2))
    have HB := Lib.hid (at_any y q e0 k wr M (HY.out.turned HR.out.2.2))
    have la : da < bU := hda ▸ digAt_lt (by decide) HX.out.dig k
    have lb : db < bU := hdb ▸ digAt_lt (by decide) HY.out.dig k
    have lc := HR.out.1.car
    rw [hda] at HA
    rw [hdb] at HB
    have hki : (k : Int) < (x.length : Int) + 1 := by omega
    have hw1 : IntKind.u64.wrap ((da : Int) + (db : Int)) = (da : Int) + (db : Int) := IntWalk.u64_in _ (by have := la; have := lb; unfold bU at *; omega)
    have hw2 : IntKind.u64.wrap ((da : Int) + (db : Int) + (cc : Int)) = (da : Int) + (db : Int) + (cc : Int) := IntWalk.u64_in _ (by have := la; have := lb; unfold bU at *; omega)
    go_wp2_with (first | (go_at_call 137; first | ((with_reducible refine HA.out.mono ?_); rintro e w' ⟨rfl, hw⟩; rw [hw]; clear hw) | ((with_reducible refine HB.out.mono ?_); rintro e w' ⟨rfl, hw⟩; rw [hw]; clear hw)) | (at_builtin; refine app_u32 wr rfl _ _ rfl W.heap.size _ _ ((da + db + cc) % bU) (by unfold bU; omega) L rfl rfl HR.out.2.1 HR.out.2.2.size (by rw [hlen]; omega) ?_; intro vp' vc' w4 ho4 ht4; have HS := Lib.hid (And.intro ho4 ht4); clear ho4 ht4))
    refine ⟨⟨k + 1, (da + db + cc) / bU, L ++ [(da + db + cc) % bU], congrArg (Value.int .u64) (by unfold bU; omega), rfl, by omega, Lib.hid ⟨?_, ?_, HR.out.2.2.fresh HS.out.2 fun _ => id⟩⟩, ?_⟩
    ·have h := HR.out.1.step (by decide) HX.out.dig HY.out.dig
     rw [hda, hdb] at h
     exact h
    ·have h := HS.out.1
     rw [hlen] at h
     exact h
    ·show x.length + 1 - (intOf (.int .i64 ((k : Int) + 1))).toNat < x.length + 1 - (intOf (.int .i64 ((k : Int)))).toNat
     simp only [intOf]
     omega
   ·have hki : ¬ (k : Int) < (x.length : Int) + 1 := by omega
    have hdn := Plus.done (by decide) HX.out.dig HY.out.dig (by have := HM.out; omega) HR.out.1
    have HL := Lib.hid (HR.out.2.1.la hdn.2)
    have HE : Hid (digs bU (vL bU x + vL bU y) = trimL L) := Lib.hid (by rw [<- hdn.1]; exact digs_vL (by decide) hdn.2)
    have HT := Lib.hid (trim_any L vp vc wr (fun b => W.heap.size <= b) HL.out)
    rw [hlen] at HT
    clear hdn hkB
    go_wp2_with (go_at_call 100; refine HT.out.mono ?_; rintro e w' ⟨rfl, hw⟩; rw [hw]; clear hw)
    go_ret
    unfold RetL
    rw [HE.out]
    exact ⟨vp, vc, rfl, HL.out.trim, HR.out.2.2⟩
def RU (W : World) (g : Nat) (l : List Nat) : Prop := W.heap[g]? = some (.cells (l.map uV).toArray 170 (0, 0))
theorem setBlock {W : World} {R : Nat} {arr : Array Value} {t : TypeId} {fz : Nat × Nat} (h : W.heap[R]? = some (.cells arr t fz)) (i : Nat) (x : Value) : (W.setCell ⟨R, i, none⟩ x).heap[R]? = some (.cells (arr.setIfInBounds i x) t fz) := by
 simp [World.setCell, Array.getElem?_modify, h]
section
variable {W W' : World} {g : Nat} {l : List Nat}
theorem RU.lt (h : RU W g l) : g < W.heap.size := getElem?_lt h
theorem RU.made (W : World) (n : Nat) : RU (W.alloc (.cells (madeCells #[uV 0] n) 170)) W.heap.size (List.replicate n 0) := by
 have e : madeCells #[uV 0] n = ((List.replicate n 0).map uV).toArray := by
  apply Array.ext
  ·simp [size_madeCells]
  ·intro i h1 h2
   simp [madeCells, Nat.mod_one]
 unfold RU
 rw [heap_alloc_new, e]
theorem RU.cell (h : RU W g l) {i d : Nat} (hi : l[i]? = some d) : W.cell? ⟨g, i, none⟩ = some (uV d) := by
 simp [World.cell?, show W.heap[g]? = _ from h, hi]
theorem RU.some (h : RU W g l) {i : Nat} (hi : i < l.length) : W.cell? ⟨g, i, none⟩ = Option.some (uV (digAt l i)) := by
 rw [h.cell (List.getElem?_eq_getElem hi), digAt_some (List.getElem?_eq_getElem hi)]
theorem RU.free (h : RU W g l) (i : Nat) : W.frozen? ⟨g, i, none⟩ = false := by
 simp [World.frozen?, show W.heap[g]? = _ from h]
theorem RU.turned (h : RU W g l) {C : Nat -> Prop} (ht : Turned C W W') (hC : ¬ C g) : RU W' g l := (ht.block g h.lt hC).trans h
theorem RU.set (h : RU W g l) (i d : Nat) : RU (W.setCell ⟨g, i, none⟩ (uV d)) g (l.set i d) := by
 unfold RU
 rw [setBlock h i (uV d)]
 simp [List.map_set]
theorem RU.la (h : RU W g l) {base : Nat} (hb : base <= g) (hd : ∀ d ∈ l, d < bU) (hm : l.length <= maxLen) : LA W (fun b => base <= b) l (Option.some ⟨g, 0, none⟩) l.length :=
 ⟨hd, Nat.le_refl _, hm, fun i d hi => ⟨g, 0, rfl, hb, by rw [Nat.zero_add]; exact h.cell hi⟩⟩
end
theorem or_join (r d : Nat) (hr : r < bU) (hd : d < bU) : IntKind.u64.wrap ((r : Int) * 4294967296) = (r : Int) * 4294967296 /\ bits .or .u64 ((r : Int) * 4294967296) (d : Int) = ((r * 4294967296 + d : Nat) : Int) := by
 unfold bU at *
 refine ⟨IntWalk.u64_in _ (by omega), ?_⟩
 have h := u64_or_nat (r * 4294967296) d (by omega) (by omega)
 rw [nat_join 32 _ _ (by omega) (by omega)] at h
 rw [<- h]; rfl
theorem set_mid (k : Nat) (q : List Nat) (v : Nat) : (List.replicate (k + 1) 0 ++ q).set k v = List.replicate k 0 ++ v :: q := by
 rw [List.replicate_succ', List.append_assoc, List.set_append_right _ _ (by simp)]
 simp
theorem small_any (x : List Nat) (p : Option Addr) (c m : Nat) (W : World) (N : Nat -> Prop) (hx : LA W N x p c) (lx : x.length <= 1000000000) (hm0 : 0 < m) (hm : m < bU) :
  Calls Tryz.prog 119 #[.slice p x.length c, .int .u32 m] W fun e w' => ∃ p' c', e = .returned (.tuple #[.slice p' (digs bU (vL bU x / m)).length c', .int .u32 (vL bU x % m : Nat)]) /\ LA w' (fun b => W.heap.size <= b) (digs bU (vL bU x / m)) p' c' /\ Turned (fun _ => False) W w' := by
 obtain ⟨i0, hif, hz0, hz1, hz2⟩ := info_parts infoU
 have HX := Lib.hid hx
 have hmake := fun W => run_make_row 154 170 i0 (uV 0) Tryz.underlying154 hif hz0 hz1 rfl .i64 .i64 x.length (by rw [hz2]; omega) (by omega) W
 have hw0 : IntKind.i64.wrap ((x.length : Int) - 1) = (x.length : Int) - 1 := IntWalk.i64_in _ (by omega)
 clear hx
 go_enter Tryz.func119, Tryz.ntmps119
 go_wp2_with fail
 have HR0 := Lib.hid (RU.made W x.length)
 have HT0 := Lib.hid ((Turned.refl (fun _ => False) W).alloc (.cells (madeCells #[uV 0] x.length) 170))
 obtain ⟨w1, hw1⟩ : ∃ w1, w1 = W.alloc (.cells (madeCells #[uV 0] x.length) 170) := ⟨_, rfl⟩
 rw [<- hw1] at HR0 HT0
 rw [<- hw1]
 clear hw1 hmake hif hz0 hz1 hz2
 go_loopw [7, 8] (fun v i wr => ∃ (k r : Nat) (q : List Nat), v = .int .u64 r /\ i = (.int .i64 ((k : Int) - 1)) /\ k <= x.length /\ Hid (Sml bU m x k q r /\ RU wr W.heap.size (List.replicate k 0 ++ q) /\ Turned (fun _ => False) W wr)) (fun _ i _ => (intOf i + 1).toNat)
 case atStart => exact ⟨x.length, 0, [], rfl, rfl, Nat.le_refl _, Lib.hid ⟨Sml.start hm0, by rw [List.append_nil]; exact HR0.out, HT0.out⟩⟩
 case round =>
  clear HR0 HT0 hw0
  obtain ⟨k, r, q, rfl, rfl, hk, HR⟩ := hrel
  cases k with
  | zero =>
   have hneg : ¬ (0 : Int) <= ((0 : Nat) : Int) - 1 := by omega
   have hqr := HR.out.1.done
   have hql : q.length = x.length := HR.out.1.len
   have HRU := HR.out.2.1
   rw [List.replicate_zero, List.nil_append] at HRU
   have HL := Lib.hid (HRU.la (base := W.heap.size) (Nat.le_refl _) HR.out.1.dig (by unfold maxLen; omega))
   have HE : Hid (digs bU (vL bU x / m) = trimL q) := Lib.hid (by rw [<- hqr.1]; exact digs_vL (by decide) HR.out.1.dig)
   have HT := Lib.hid (trim_any q _ _ wr _ HL.out)
   have HM : Hid (vL bU x % m = r) := Lib.hid hqr.2.symm
   have hrm := HR.out.1.rem
   have hcr : (r : Int) % 4294967296 = (r : Int) := Int.emod_eq_of_lt (by omega) (by unfold bU at hm; omega)
   rw [hql] at HT HL
   clear hqr HRU hrm
   go_wp2_with (go_at_call 100; refine HT.out.mono ?_; rintro e w' ⟨rfl, hw⟩; rw [hw]; clear hw)
   go_ret2
   rw [HE.out, HM.out]
   exact ⟨_, _, rfl, HL.out.trim, HR.out.2.2⟩
  | succ j =>
   obtain ⟨b, a, d, rfl, -, hd, hda, hdb, d1⟩ := (HX.out.turned HR.out.2.2).get (i := j) (by omega)
   have HS := Lib.hid (HR.out.1.step hd hdb)
   have hr := HR.out.1.rem
   have hi1 : ((j + 1 : Nat) : Int) - 1 = (j : Int) := by omega
   rw [hi1]
   clear hi1
   have hw2 : IntKind.i64.wrap ((j : Int) - 1) = (j : Int) - 1 := IntWalk.i64_in _ (by omega)
   have hj0 : (0 : Int) <= (j : Int) := by omega
   have hjl : (j : Int) < (x.length : Int) := by omega
   have hcv : IntKind.u64.wrap (d : Int) = (d : Int) := IntWalk.u64_in _ (by omega)
   obtain ⟨ho1, ho2⟩ := or_join r d (by omega) hdb
   obtain ⟨t, ht⟩ : ∃ t, r * 4294967296 + d = t := ⟨_, rfl⟩
   have HS := Lib.hid (HR.out.1.step hd hdb)
   rw [ht] at ho2
   have hcm : IntKind.u64.wrap (m : Int) = (m : Int) := IntWalk.u64_in _ (by have := hm; unfold bU at this; omega)
   have hout := HR.out.2.1.some (i := j) (by simp; omega)
   have hfr := HR.out.2.1.free j
   rw [show r * bU + d = t from ht] at HS
   obtain ⟨v, hv⟩ : ∃ v, t / m = v := ⟨_, rfl⟩
   have hvb : v < bU := by rw [<- hv]; exact Nat.div_lt_of_lt_mul HS.out.1
   have hquo : IntKind.u64.wrap ((t : Int) / (m : Int)) = (v : Int) := by rw [<- hv]; exact IntWalk.u64_in _ (by unfold bU at hvb; omega)
   have hvm : (v : Int) % 4294967296 = (v : Int) := Int.emod_eq_of_lt (by omega) (by unfold bU at hvb; omega)
   rw [hv] at HS
   have HN := Lib.hid (HR.out.2.1.set j v)
   rw [set_mid] at HN
   clear hvb hd hda hdb ht
   go_wp2_with fail
   go_region
   go_wp2_with fail
   refine ⟨⟨j, t % m, v :: q, rfl, rfl, by omega, Lib.hid ⟨HS.out.2, HN.out, ?_⟩⟩, ?_⟩
   ·exact (HR.out.2.2.fresh ((Turned.refl (fun g => g = W.heap.size) wr).setCell (p := ⟨W.heap.size, j, none⟩) rfl _) fun g h => by omega).drew
   ·show (intOf (.int .i64 ((j : Int) - 1)) + 1).toNat < (intOf (.int .i64 ((j : Int))) + 1).toNat
    simp only [intOf]
    omega
theorem valB_split (l : List UInt8) (k : Nat) : valB l = valB (l.take k) * 256 ^ (l.length - k) + valB (l.drop k) := by
 have h := valB_app (l.take k) (l.drop k)
 rw [List.take_append_drop, List.length_drop] at h
 exact h
def chunk (l : List UInt8) (k : Nat) : List UInt8 := (l.drop (l.length - 4 * (k + 1))).take (l.length - 4 * k - (l.length - 4 * (k + 1)))
theorem chunk_len (l : List UInt8) (k : Nat) : (chunk l k).length = l.length - 4 * k - (l.length - 4 * (k + 1)) := by
 unfold chunk; rw [List.length_take, List.length_drop]; omega
theorem chunk_le (l : List UInt8) (k : Nat) : (chunk l k).length <= 4 := by rw [chunk_len]; omega
theorem chunk_lt (l : List UInt8) (k : Nat) : valB (chunk l k) < 4294967296 := by
 have h := valB_lt (chunk l k)
 have h2 : 256 ^ (chunk l k).length <= 256 ^ 4 := Nat.pow_le_pow_right (by decide) (chunk_le l k)
 have h3 : (256 : Nat) ^ 4 = 4294967296 := by decide
 omega
structure Ld (l : List UInt8) (k : Nat) (L : List Nat) : Prop where
 len : L.length = k
 dig : ∀ d ∈ L, d < 4294967296
 val : valB (l.drop (l.length - 4 * k)) = vL 4294967296 L
theorem Ld.start (l : List UInt8) : Ld l 0 [] := ⟨rfl, fun _ h => (by cases h), by simp [valB, vL]⟩
theorem Ld.step {l : List UInt8} {k : Nat} {L : List Nat} (h : Ld l k L) (hk : 4 * k < l.length) : Ld l (k + 1) (L ++ [valB (chunk l k)]) := by
 refine ⟨by rw [List.length_append, h.len]; rfl, fun d hd => ?_, ?_⟩
 ·rcases List.mem_append.1 hd with hd | hd
  ·exact h.dig d hd
  ·rw [List.mem_singleton.1 hd]; exact chunk_lt l k
 ·rw [vL_snoc, <- h.val, h.len]
  have e := valB_split (l.drop (l.length - 4 * (k + 1))) (l.length - 4 * k - (l.length - 4 * (k + 1)))
  rw [List.length_drop, List.drop_drop] at e
  have e1 : l.length - 4 * (k + 1) + (l.length - 4 * k - (l.length - 4 * (k + 1))) = l.length - 4 * k := by omega
  have e2 : l.length - (l.length - 4 * (k + 1)) - (l.length - 4 * k - (l.length - 4 * (k + 1))) = 4 * k := by omega
  rw [e1, e2] at e
  have e3 : (256 : Nat) ^ (4 * k) = 4294967296 ^ k := by rw [Nat.pow_mul]
  rw [e3] at e
  rw [e]
  show valB (chunk l k) * 4294967296 ^ k + _ = _
  rw [Nat.mul_comm, Nat.add_comm]
theorem Ld.done {l : List UInt8} {k : Nat} {L : List Nat} (h : Ld l k L) (hk : l.length <= 4 * k) : vL 4294967296 L = valB l := by
 rw [<- h.val, show l.length - 4 * k = 0 by omega, List.drop_zero]
theorem take_byte {l : List UInt8} {j : Nat} {x : UInt8} (h : l[j]? = some x) : valB (l.take (j + 1)) = valB (l.take j) * 256 + x.toNat := by
 rw [List.take_add_one, h, Option.toList_some, valB_snoc]
theorem take_byte_lt {l : List UInt8} {j : Nat} (h : j <= 3) : valB (l.take j) < 16777216 := by
 have h1 := valB_lt (l.take j)
 have h2 : (l.take j).length <= 3 := by rw [List.length_take]; omega
 have h3 : 256 ^ (l.take j).length <= 256 ^ 3 := Nat.pow_le_pow_right (by decide) h2
 have h4 : (256 : Nat) ^ 3 = 16777216 := by decide
 omega
def bytes4 (d : Nat) : List Nat := [d % 256, d / 256 % 256, d / 65536 % 256, d / 16777216 % 256]
theorem bytes4_val {d : Nat} (h : d < 4294967296) : vL 256 (bytes4 d) = d := by
 simp only [bytes4, vL]; omega
theorem bytes_val : ∀ {L : List Nat}, (∀ d ∈ L, d < 4294967296) -> vL 256 (L.flatMap bytes4) = vL 4294967296 L
 | [], _ => rfl
 | d :: L, h => by
  rw [List.flatMap_cons, vL_app, bytes4_val (h d (by simp)), bytes_val fun x hx => h x (List.mem_cons_of_mem _ hx), vL]
  have e : (bytes4 d).length = 4 := rfl
  rw [e, show (256 : Nat) ^ 4 = 4294967296 by decide]
theorem bytes_lt (L : List Nat) : ∀ x ∈ L.flatMap bytes4, x < 256 := by
 intro x hx
 obtain ⟨d, -, hd⟩ := List.mem_flatMap.1 hx
 simp only [bytes4, List.mem_cons, List.not_mem_nil, or_false] at hd
 omega
theorem bytes_len (L : List Nat) : (L.flatMap bytes4).length = 4 * L.length := by
 induction L with
 | nil => rfl
 | cons d L ih => rw [List.flatMap_cons, List.length_append, ih]; simp [bytes4]; omega
theorem rev_val : ∀ {B : List Nat}, (∀ x ∈ B, x < 256) -> valB ((B.map UInt8.ofNat).reverse) = vL 256 B
 | [], _ => rfl
 | x :: B, h => by
  rw [List.map_cons, List.reverse_cons, valB_snoc, rev_val fun y hy => h y (List.mem_cons_of_mem _ hy), byte_nat _ (h x (by simp)), vL]
  omega
theorem text_val {L : List Nat} (h : ∀ d ∈ L, d < 4294967296) : cleanB (((L.flatMap bytes4).map UInt8.ofNat).reverse) = encN (vL 4294967296 L) := by
 rw [<- encN_val, rev_val (bytes_lt L), bytes_val h]
theorem bytesW_turned (w : World) (e : TypeId) (s : ByteArray) : Turned (fun _ => False) w (Lib.bytesWorld w e s) :=
 ⟨rfl, rfl, rfl, by rw [Lib.bytesWorld_size]; omega, fun k hk _ => Lib.bytesWorld_at_old w e s k hk⟩
theorem or_byte (d b : Nat) (hd : d < 16777216) (hb : b < 256) : IntKind.u32.wrap ((d : Int) * 256) = (d : Int) * 256 /\ bits .or .u32 ((d : Int) * 256) (b : Int) = ((d * 256 + b : Nat) : Int) := by
 refine ⟨by show ((d : Int) * 256) % 4294967296 = _; omega, ?_⟩
 have h := u32_or_nat (d * 256) b (by omega) (by omega)
 rw [nat_join 8 _ _ (by omega) (by omega)] at h
 rw [<- h]; rfl
theorem chunk_of (s : ByteArray) (k : Nat) : (s.extract (s.size - 4 * (k + 1)) (s.size - 4 * k)).data.toList = chunk s.data.toList k := by
 have hl : s.data.toList.length = s.size := by simp
 unfold chunk
 rw [hl]
 simp [ByteArray.data_extract, List.extract_eq_take_drop]
theorem load_any (s : ByteArray) (W : World) (hs : s.size <= 1000000000) :
  Calls Tryz.prog 87 #[.string s] W fun e w' => RetL W w' e (valB s.data.toList) := by
 obtain ⟨l, hl⟩ : ∃ l, s.data.toList = l := ⟨_, rfl⟩
 have hsz : l.length = s.size := by rw [<- hl]; simp
 have HS := Lib.hid (And.intro hl hsz)
 rw [hl]
 clear hl hsz
 go_enter Tryz.func87, Tryz.ntmps87
 go_wp2_with fail
 go_loopw [3, 4] (fun v i wr => ∃ (k : Nat) (L : List Nat), i = (.int .i64 ((s.size : Int) - 4 * k)) /\ 4 * k <= s.size + 3 /\ Hid (Ld l k L /\ OU wr W.heap.size v L /\ Turned (fun _ => False) W wr)) (fun _ i _ => (intOf i + 4).toNat)
 case atStart => exact ⟨0, [], by simp, by omega, Lib.hid ⟨Ld.start _, OU.nil _ _, Turned.refl _ _⟩⟩
 case round =>
  obtain ⟨k, L, rfl, hk, HR⟩ := hrel
  obtain ⟨vp, vc, hv⟩ := HR.out.2.1.shape
  subst hv
  by_cases hkB : 4 * k < s.size
  ·obtain ⟨hi, hhi⟩ : ∃ hi, s.size - 4 * k = hi := ⟨_, rfl⟩
   obtain ⟨lo, hlo⟩ : ∃ lo, s.size - 4 * (k + 1) = lo := ⟨_, rfl⟩
   have e1 : (s.size : Int) - 4 * k = (hi : Int) := by omega
   rw [e1]
   obtain ⟨zz, hzz⟩ : ∃ zz : Int, (hi : Int) - 4 = zz := ⟨_, rfl⟩
   have e2 : IntKind.i64.wrap ((hi : Int) - 4) = zz := by rw [<- hzz]; exact IntWalk.i64_in _ (by omega)
   have e3 : (if (0 : Int) < zz then zz else 0) = (lo : Int) := by split <;> omega
   have e4 : (lo : Int) <= (hi : Int) := by omega
   have e5 : (hi : Int) <= (s.size : Int) := by omega
   have e6 : (0 : Int) < (hi : Int) := by omega
   have HZ := Lib.hid (And.intro hzz (And.intro hhi hlo))
   obtain ⟨C, hC⟩ : ∃ C, s.extract lo hi = C := ⟨_, rfl⟩
   have hCl : C.data.toList = chunk l k := by rw [<- hC, <- HZ.out.2.1, <- HZ.out.2.2, chunk_of, HS.out.1]
   have hCs : C.size = (chunk l k).length := by rw [<- hCl]; simp
   have hcv := Lib.run_convert_string_bytes (P := Tryz.prog) wr 9 192 5 C Tryz.underlying9 Tryz.underlying192 Tryz.underlying5
   obtain ⟨cc, hcc⟩ : ∃ cc, grownCap wr C.size 0 5 = cc := ⟨_, rfl⟩
   rw [hcc] at hcv
   have hcell := Lib.bytesWorld_cell wr 5 C
   have hold := bytesW_turned wr 5 C
   obtain ⟨w6, hw6⟩ : ∃ w6, Lib.bytesWorld wr 5 C = w6 := ⟨_, rfl⟩
   rw [hw6] at hcell hold hcv
   have HC := Lib.hid (And.intro hCl (And.intro hCs (And.intro hcell hold)))
   clear e1 hzz hhi hlo hCl hCs hcc hcell hold hw6
   go_wp2_with fail
   clear hC hcv e2 e3 e4 e5 e6
   obtain ⟨wo, hwo⟩ : ∃ wo, wo = wr := ⟨_, rfl⟩
   subst hwo
   go_loopw [5, 22] (fun dv jv wr => ∃ (d j : Nat), dv = .int .u32 d /\ jv = (.int .i64 j) /\ j <= C.size /\ Hid (d = valB ((chunk l k).take j)) /\ wr = w6) (fun _ jv _ => C.size - (intOf jv).toNat)
   case atStart => exact ⟨0, 0, rfl, rfl, by omega, Lib.hid (by simp [valB]), rfl⟩
   case round =>
    obtain ⟨d, j, rfl, rfl, hj, HD, rfl⟩ := hrel
    by_cases hjB : j < C.size
    ·have hji : (j : Int) < (C.size : Int) := by omega
     have hch := HC.out.2.1
     have hc4 := chunk_le l k
     obtain ⟨xb, hxb⟩ : ∃ xb, (chunk l k)[j]? = some xb := ⟨_, List.getElem?_eq_getElem (by omega)⟩
     have d1 := HC.out.2.2.1 j hjB
     rw [HC.out.1, List.getD_eq_getElem?_getD, hxb, Option.getD_some] at d1
     have hnx : xb.toNat < 256 := xb.toNat_lt
     obtain ⟨x, hx⟩ : ∃ x, xb.toNat = x := ⟨_, rfl⟩
     have hdl : d < 16777216 := by rw [HD.out]; exact take_byte_lt (by omega)
     have HT := Lib.hid (take_byte hxb)
     rw [hx] at d1 hnx HT
     rw [<- HD.out] at HT
     obtain ⟨o1, o2⟩ := or_byte d x hdl hnx
     have f1 : IntKind.u32.wrap (x : Int) = (x : Int) := by show (x : Int) % 4294967296 = x; omega
     have hj4 : j < 4 := by omega
     clear hch hc4 hxb hx hdl
     go_wp2_with fail
     refine ⟨⟨d * 256 + x, j + 1, rfl, rfl, by omega, Lib.hid HT.out.symm, trivial⟩, ?_⟩
     show C.size - (intOf (.int .i64 ((j : Int) + 1))).toNat < C.size - (intOf (.int .i64 ((j : Int)))).toNat
     simp only [intOf]
     omega
    ·have hji : ¬ (j : Int) < (C.size : Int) := by omega
     have HD2 : Hid (d = valB (chunk l k)) := Lib.hid (by
      have h1 := HD.out
      have h2 := HC.out.2.1
      rw [List.take_of_length_le (by omega)] at h1
      exact h1)
     have HO := Lib.hid (And.intro (HR.out.2.1.turned HC.out.2.2.2 fun _ h => h.elim) (HR.out.2.2.trans HC.out.2.2.2))
     have hLl : L.length <= 1000000000 := by rw [HR.out.1.len]; omega
     have hz1 : IntKind.i64.wrap ((hi : Int) - 4) = zz := by rw [HZ.out.1.symm]; exact IntWalk.i64_in _ (by have := HZ.out.2.1; omega)
     have HL := Lib.hid hLl
     clear hjB hLl
     go_wp2_with (at_builtin; (refine app_u32 wr rfl _ _ rfl W.heap.size (.slice vp L.length vc) _ d rfl L rfl rfl HO.out.1 HO.out.2.size (by have := HL.out; omega) ?_); intro vp' vc' w4 ho4 ht4; have HS4 := Lib.hid (And.intro ho4 ht4); clear ho4 ht4)
     refine ⟨⟨k + 1, L ++ [d], ?_, by have := HZ.out.2.1; omega, Lib.hid ⟨?_, ?_, HO.out.2.fresh HS4.out.2 fun _ => id⟩⟩, ?_⟩
     ·have h1 := HZ.out.1
      have h2 := HZ.out.2.1
      exact congrArg (Value.int .i64) (by omega)
     ·rw [HD2.out]; exact HR.out.1.step (by have := HS.out.2; have := HZ.out.2.1; omega)
     ·exact HS4.out.1
     ·show (intOf (.int .i64 zz) + 4).toNat < (intOf (.int .i64 ((hi : Int))) + 4).toNat
      have h1 := HZ.out.1
      simp only [intOf]
      omega
  ·have hki : ¬ (0 : Int) < (s.size : Int) - 4 * k := by omega
   obtain ⟨zz, hzz⟩ : ∃ zz : Int, (s.size : Int) - 4 * k = zz := ⟨_, rfl⟩
   rw [hzz] at hki ⊢
   have hdn := HR.out.1.done (by have := HS.out.2; omega)
   have HL := Lib.hid (HR.out.2.1.la HR.out.1.dig)
   have HE : Hid (digs bU (valB l) = trimL L) := Lib.hid (by rw [<- hdn]; exact digs_vL (by decide) HR.out.1.dig)
   have HT := Lib.hid (trim_any L vp vc wr (fun b => W.heap.size <= b) HL.out)
   clear hdn hkB hzz
   go_wp2_with (go_at_call 100; refine HT.out.mono ?_; rintro e w' ⟨rfl, hw⟩; rw [hw]; clear hw)
   go_ret
   unfold RetL
   rw [HE.out]
   exact ⟨vp, vc, rfl, HL.out.trim, HR.out.2.2⟩
abbrev bV (x : Nat) : Value := .int .u8 x
def OB (W : World) (base : Nat) (v : Value) (L : List Nat) : Prop := W.ownsRow base 5 1 v L.length (L.map bV)
theorem OB.nil (W : World) (base : Nat) : OB W base (.slice none 0 0) [] := ⟨rfl, .inl ⟨rfl, rfl⟩⟩
theorem OB.shape {W : World} {base : Nat} {v : Value} {L : List Nat} (h : OB W base v L) : ∃ p c, v = .slice p L.length c := owns_shape h
theorem OB.turned {W W' : World} {base : Nat} {v : Value} {L : List Nat} (h : OB W base v L) {C : Nat -> Prop} (ht : Turned C W W') (hC : ∀ k, C k -> k < base) : OB W' base v L := ownsRow_turned ht hC h
def BU (W : World) (g : Nat) (l : List Nat) : Prop := ∃ tl : List Value, W.heap[g]? = some (.cells (l.map bV ++ tl).toArray 5 (0, 0))
section
variable {W W' : World} {g : Nat} {l : List Nat}
theorem BU.lt (h : BU W g l) : g < W.heap.size := by obtain ⟨tl, h⟩ := h; exact getElem?_lt h
theorem BU.some (h : BU W g l) {i : Nat} (hi : i < l.length) : W.cell? ⟨g, i, none⟩ = Option.some (bV (digAt l i)) := by
 obtain ⟨tl, h⟩ := h
 have e : (l.map bV ++ tl)[i]? = Option.some (bV (digAt l i)) := by rw [List.getElem?_append_left (by simpa using hi), List.getElem?_map, List.getElem?_eq_getElem hi, digAt_some (List.getElem?_eq_getElem hi)]; rfl
 simp [World.cell?, h]
 simpa using e
theorem BU.free (h : BU W g l) (i : Nat) : W.frozen? ⟨g, i, none⟩ = false := by
 obtain ⟨tl, h⟩ := h
 simp [World.frozen?, h]
theorem BU.turned (h : BU W g l) {C : Nat -> Prop} (ht : Turned C W W') (hC : ¬ C g) : BU W' g l := by
 obtain ⟨tl, h⟩ := h
 exact ⟨tl, (ht.block g (getElem?_lt h) hC).trans h⟩
theorem set_block8 {W : World} {R : Nat} {arr : Array Value} {t : TypeId} {fz : Nat × Nat} (h : W.heap[R]? = Option.some (.cells arr t fz)) (i : Nat) (x : Value) : (W.setCell ⟨R, i, none⟩ x).heap[R]? = Option.some (.cells (arr.setIfInBounds i x) t fz) := by
 simp [World.setCell, Array.getElem?_modify, h]
theorem BU.set (h : BU W g l) (i d : Nat) (hi : i < l.length) : BU (W.setCell ⟨g, i, none⟩ (bV d)) g (l.set i d) := by
 obtain ⟨tl, h⟩ := h
 refine ⟨tl, ?_⟩
 rw [set_block8 h i (bV d), show (l.set i d).map bV ++ tl = (l.map bV ++ tl).set i (bV d) by rw [List.set_append_left _ _ (by simpa using hi), List.map_set]]
 simp
end
theorem OB.bu {W : World} {base : Nat} {v : Value} {L : List Nat} (h : OB W base v L) (hne : L ≠ []) : ∃ g c, v = .slice (some ⟨g, 0, none⟩) L.length c /\ base <= g /\ BU W g L /\ L.length <= c /\ c <= maxLen := by
 obtain ⟨-, ⟨hv, hn⟩ | ⟨g, cap, cur, hv, hg, hh, h1, h2, hcs, htk⟩⟩ := h
 ·exact absurd (List.length_eq_zero_iff.1 hn) hne
 ·refine ⟨g, cap, hv, hg, ⟨cur.toList.drop (L.length * 1), ?_⟩, h1, h2⟩
  rw [hh, <- htk, List.take_append_drop]
def revd (l : List Nat) (j : Nat) : List Nat := (List.range l.length).map fun i => if i < j \/ l.length - j <= i then digAt l (l.length - 1 - i) else digAt l i
theorem revd_len (l : List Nat) (j : Nat) : (revd l j).length = l.length := by simp [revd]
theorem revd_at (l : List Nat) (j i : Nat) (hi : i < l.length) : digAt (revd l j) i = if i < j \/ l.length - j <= i then digAt l (l.length - 1 - i) else digAt l i := by
 refine digAt_some ?_
 simp [revd, hi]
theorem ext_dig {a b : List Nat} (h : a.length = b.length) (hd : ∀ i, i < a.length -> digAt a i = digAt b i) : a = b := by
 apply List.ext_getElem h
 intro i h1 h2
 have := hd i h1
 rwa [digAt_some (List.getElem?_eq_getElem h1), digAt_some (List.getElem?_eq_getElem h2)] at this
theorem revd_zero (l : List Nat) : revd l 0 = l := by
 refine ext_dig (revd_len l 0) fun i hi => ?_
 rw [revd_len] at hi
 rw [revd_at l 0 i hi, if_neg (by omega)]
theorem revd_step (l : List Nat) (j : Nat) (hj : 2 * j + 1 < l.length) : ((revd l j).set j (digAt (revd l j) (l.length - 1 - j))).set (l.length - 1 - j) (digAt (revd l j) j) = revd l (j + 1) := by
 refine ext_dig (by simp [revd_len]) fun i hi => ?_
 simp only [List.length_set, revd_len] at hi
 by_cases h1 : i = l.length - 1 - j
 ·subst h1
  rw [digAt_set (by simp [revd_len]; omega), revd_at l j j (by omega), revd_at l (j + 1) _ hi, if_neg (by omega), if_pos (by omega)]
  congr 1; omega
 ·rw [digAt_set_ne (Ne.symm h1)]
  by_cases h2 : i = j
  ·subst h2
   rw [digAt_set (by simp [revd_len]; omega), revd_at l i _ (by omega), revd_at l (i + 1) i hi, if_neg (by omega), if_pos (by omega)]
  ·rw [digAt_set_ne (Ne.symm h2), revd_at l j i hi, revd_at l (j + 1) i hi]
   by_cases h3 : i < j \/ l.length - j <= i
   ·rw [if_pos h3, if_pos (by omega)]
   ·rw [if_neg h3, if_neg (by omega)]
theorem revd_all (l : List Nat) (j : Nat) (hj : l.length <= 2 * j + 1) : revd l j = l.reverse := by
 refine ext_dig (by simp [revd_len]) fun i hi => ?_
 rw [revd_len] at hi
 have e : digAt l.reverse i = digAt l (l.length - 1 - i) := by
  unfold digAt
  rw [List.getD_eq_getElem?_getD, List.getD_eq_getElem?_getD, List.getElem?_reverse hi]
 rw [e, revd_at l j i hi]
 by_cases h3 : i < j \/ l.length - j <= i
 ·rw [if_pos h3]
 ·rw [if_neg h3]; congr 1; omega
theorem reverse_any (l : List Nat) (g c : Nat) (W : World) (h : BU W g l) (hl : l.length <= 4000000000) (h1 : 0 < l.length) :
  Calls Tryz.prog 123 #[.slice (some ⟨g, 0, none⟩) l.length c] W fun e w' => (∃ v, e = .returned v) /\ BU w' g l.reverse /\ Turned (fun k => k = g) W w' := by
 have HB := Lib.hid h
 clear h
 have e1 : IntKind.i64.wrap ((l.length : Int) - 1) = (l.length : Int) - 1 := IntWalk.i64_in _ (by omega)
 go_enter Tryz.func123, Tryz.ntmps123
 go_wp2_with fail
 clear e1
 go_loopw [2, 3] (fun iv jv wr => ∃ k : Nat, iv = (.int .i64 k) /\ jv = (.int .i64 ((l.length : Int) - 1 - k)) /\ k <= l.length /\ Hid (BU wr g (revd l k) /\ Turned (fun b => b = g) W wr)) (fun iv _ _ => l.length - (intOf iv).toNat)
 case atStart => exact ⟨0, rfl, by simp, by omega, Lib.hid ⟨by rw [revd_zero]; exact HB.out, Turned.refl _ _⟩⟩
 case round =>
  obtain ⟨k, rfl, rfl, hk, HR⟩ := hrel
  by_cases hkB : 2 * k + 1 < l.length
  ·obtain ⟨m, hm⟩ : ∃ m, l.length - 1 - k = m := ⟨_, rfl⟩
   have e0 : (l.length : Int) - 1 - k = (m : Int) := by omega
   rw [e0]
   have hkm : (k : Int) < (m : Int) := by omega
   have hml : (m : Int) < (l.length : Int) := by omega
   have hkl : (k : Int) < (l.length : Int) := by omega
   have c1 := HR.out.1.some (i := k) (by rw [revd_len]; omega)
   have c2 := HR.out.1.some (i := m) (by rw [revd_len]; omega)
   have f1 := HR.out.1.free k
   have f2 := HR.out.1.free m
   have hne : ¬ k = m := by omega
   have e2 : IntKind.i64.wrap ((m : Int) - 1) = (m : Int) - 1 := IntWalk.i64_in _ (by omega)
   have HS := Lib.hid (And.intro (revd_step l k hkB) hm)
   clear e0 hkB hm
   go_wp2_with fail
   go_region
   go_wp2_with fail
   have hb1 := (HR.out.1.set k (digAt (revd l k) m) (by rw [revd_len]; omega)).set m (digAt (revd l k) k) (by simp [revd_len]; omega)
   have ht1 := ((Turned.refl (fun b => b = g) wr).setCell (p := ⟨g, k, none⟩) rfl (bV (digAt (revd l k) m))).setCell (p := ⟨g, m, none⟩) rfl (bV (digAt (revd l k) k))
   rw [<- HS.out.2, HS.out.1] at hb1
   refine ⟨⟨k + 1, rfl, ?_, by omega, Lib.hid ⟨?_, ?_⟩⟩, ?_⟩
   ·have := HS.out.2
    exact congrArg (Value.int .i64) (by omega)
   ·rw [HS.out.2] at hb1
    exact hb1.turned (C := fun _ => False) ((Turned.refl (fun _ => False) _).drew) id
   ·exact (HR.out.2.trans ht1).drew
   ·show l.length - (intOf (.int .i64 ((k : Int) + 1))).toNat < l.length - (intOf (.int .i64 ((k : Int)))).toNat
    simp only [intOf]
    omega
  ·have hE : revd l k = l.reverse := revd_all l k (by omega)
   have HE := Lib.hid hE
   obtain ⟨zz, hzz⟩ : ∃ zz : Int, (l.length : Int) - 1 - k = zz := ⟨_, rfl⟩
   rw [hzz]
   have hkz : ¬ (k : Int) < zz := by omega
   clear hE hzz hkB
   go_wp2_with fail
   go_end0
   refine ⟨⟨_, rfl⟩, ?_, HR.out.2⟩
   rw [<- HE.out]; exact HR.out.1
theorem reverse_nil (p : Option Addr) (c : Nat) (W : World) : Calls Tryz.prog 123 #[.slice p 0 c] W fun e w' => (∃ v, e = .returned v) /\ w' = W := by
 go_enter Tryz.func123, Tryz.ntmps123
 go_wp2_with fail
 go_loopw [2, 3] (fun iv jv wr => iv = (.int .i64 0) /\ jv = (.int .i64 (-1)) /\ wr = W) (fun _ _ _ => 0)
 case atStart => exact ⟨rfl, rfl, rfl⟩
 case round =>
  obtain ⟨rfl, rfl, rfl⟩ := hrel
  go_wp2_with fail
  go_end0
  exact ⟨⟨_, rfl⟩, rfl⟩
def cleanS (s : ByteArray) : ByteArray := ⟨(cleanB s.data.toList).toArray⟩
theorem head_of (C : ByteArray) (h0 : 0 < C.size) : ∃ x l, C.data.toList = x :: l /\ C[0] = x /\ (C.extract 1 C.size).data.toList = l := by
 obtain ⟨⟨l⟩⟩ := C
 cases l with
 | nil => exact absurd h0 (by simp [ByteArray.size])
 | cons x l => exact ⟨x, l, rfl, rfl, by simp [ByteArray.data_extract, List.extract_eq_take_drop, ByteArray.size]⟩
theorem head_zero (C : ByteArray) (h0 : 0 < C.size) (h : ((C[0].toNat : Int) == 0) = true) : cleanB (C.extract 1 C.size).data.toList = cleanB C.data.toList /\ (C.extract 1 C.size).size < C.size := by
 obtain ⟨x, l, h1, h2, h3⟩ := head_of C h0
 have h4 : x = 0 := by
  rw [h2] at h
  have : (x.toNat : Int) = 0 := by simpa using h
  exact UInt8.toNat_inj.1 (by simpa using this)
 have h5 : C.size = l.length + 1 := by
  have : C.data.toList.length = C.size := by simp
  rw [<- this, h1]; rfl
 have h6 : (C.extract 1 C.size).size = l.length := by
  have : (C.extract 1 C.size).data.toList.length = (C.extract 1 C.size).size := by simp
  rw [<- this, h3]
 refine ⟨?_, by omega⟩
 rw [h3, h1, h4, cleanB_zero]
theorem head_ne (C : ByteArray) (h0 : 0 < C.size) (h : ((C[0].toNat : Int) == 0) = false) : cleanB C.data.toList = C.data.toList := by
 obtain ⟨x, l, h1, h2, -⟩ := head_of C h0
 rw [h1, cleanB_cons]
 intro h4
 rw [h2, h4] at h
 simp at h
theorem trimByte_any (s : ByteArray) (W : World) : Calls Tryz.prog 175 #[.string s, .int .u8 0] W fun e w' => e = .returned (.string (cleanS s)) /\ w' = W := by
 go_enter Tryz.func175, Tryz.ntmps175
 go_wp2_with fail
 go_loopw [0] (fun v wr => ∃ C : ByteArray, v = .string C /\ C.size <= s.size /\ Hid (cleanB C.data.toList = cleanB s.data.toList) /\ wr = W) (fun v _ => match v with | .string C => C.size | _ => 0)
 case atStart => exact ⟨s, rfl, Nat.le_refl _, Lib.hid rfl, rfl⟩
 case round =>
  obtain ⟨C, rfl, hC, HC, rfl⟩ := hrel
  by_cases h0 : 0 < C.size
  ·have h0i : (0 : Int) < (C.size : Int) := by omega
   go_wp2_with fail
   ·obtain ⟨h1, h2⟩ := head_zero C h0 (by assumption)
    exact ⟨⟨_, rfl, by omega, Lib.hid (h1.trans HC.out), trivial⟩, h2⟩
   ·have h1 := head_ne C h0 (by assumption)
    go_ret
    refine ⟨?_, rfl⟩
    have h2 := HC.out
    rw [h1] at h2
    unfold cleanS
    rw [<- h2]
    exact congrArg (fun x => Ending.returned (.string x)) (by simp)
  ·have h1 : C.data.toList = [] := by
    have : C.data.toList.length = C.size := by simp
    exact List.length_eq_zero_iff.1 (by omega)
   have HE := Lib.hid h1
   clear h1
   go_wp2_with fail
   go_ret
   refine ⟨?_, rfl⟩
   have h2 := HC.out
   unfold cleanS
   rw [<- h2, HE.out]
   have h3 : C = ⟨(C.data.toList).toArray⟩ := by simp
   rw [h3, HE.out]; rfl
theorem trimLeft_any (s : ByteArray) (W : World) : Calls Tryz.prog 155 #[.string s, .string ⟨#[0]⟩] W fun e w' => e = .returned (.string (cleanS s)) /\ w' = W := by
 by_cases h0 : s = ⟨#[]⟩
 ·subst h0
  go_enter Tryz.func155, Tryz.ntmps155
  go_wp2_with fail
  go_ret
  exact ⟨rfl, rfl⟩
 ·have HT := Lib.hid (trimByte_any s W)
  have hl1 : ¬ s.toList = [] := by
   rw [ByteArray.toList_eq]
   intro h
   apply h0
   have h3 : s = ⟨(s.data.toList).toArray⟩ := by simp
   rw [h3, h]
  have hl2 : s.toList.isEmpty = false := by simpa using hl1
  clear h0
  go_enter Tryz.func155, Tryz.ntmps155
  go_wp2_with fail
  refine HT.out.mono ?_
  rintro e w' ⟨rfl, hw⟩
  rw [hw]
  go_wp2_with fail
  go_ret
  exact ⟨rfl, rfl⟩
theorem clean_any (s : ByteArray) (W : World) : Calls Tryz.prog 124 #[.string s] W fun e w' => e = .returned (.string (cleanS s)) /\ w' = W := by
 have HT := Lib.hid (trimLeft_any s W)
 go_enter Tryz.func124, Tryz.ntmps124
 go_wp2_with (go_at_call 155; refine HT.out.mono ?_; rintro e w' ⟨rfl, hw⟩; rw [hw]; clear hw)
 go_ret
 exact ⟨rfl, rfl⟩
theorem infoB : (Tryz.prog.info? 5).map (fun i => (i.zero, i.size, i.bytes)) = some (some (bV 0), 1, 1) := by kernel_rfl
theorem cells4_new (W : World) (a b c d : Value) (t : TypeId) : ∀ (j : Nat) (u : Value), [a, b, c, d][j]? = some u -> (W.alloc (.cells #[a, b, c, d] t)).cell? ((⟨W.heap.size, 0, none⟩ : Addr).add j) = some u := by
 intro j u hj
 match j, hj with
 | 0, hj => cases hj; rw [show (⟨W.heap.size, 0, none⟩ : Addr).add 0 = ⟨W.heap.size, 0, none⟩ from rfl, World.cell?_alloc_at _ _ _ _ rfl]; rfl
 | 1, hj => cases hj; rw [show (⟨W.heap.size, 0, none⟩ : Addr).add 1 = ⟨W.heap.size, 1, none⟩ from rfl, World.cell?_alloc_at _ _ _ _ rfl]; rfl
 | 2, hj => cases hj; rw [show (⟨W.heap.size, 0, none⟩ : Addr).add 2 = ⟨W.heap.size, 2, none⟩ from rfl, World.cell?_alloc_at _ _ _ _ rfl]; rfl
 | 3, hj => cases hj; rw [show (⟨W.heap.size, 0, none⟩ : Addr).add 3 = ⟨W.heap.size, 3, none⟩ from rfl, World.cell?_alloc_at _ _ _ _ rfl]; rfl
 | j + 4, hj => simp at hj
theorem app_bytes (W : World) {ops : Array Oper} {rest : List Oper} {o : Oper} {a : Act} {Q : Exit -> Act -> World -> Prop} (hg : o.guard = none) (s x : Operand) (hop : o.op = Op.call { callee := Callee.builtin Builtin.append, args := #[s, x], argTypes := #[192, 192] })
  (base : Nat) (v : Value) (z0 z1 z2 z3 : Int) (d : Nat) (h0 : z0 = (d % 256 : Nat)) (h1 : z1 = (d / 256 % 256 : Nat)) (h2 : z2 = (d / 65536 % 256 : Nat)) (h3 : z3 = (d / 16777216 % 256 : Nat)) (L : List Nat) (hs : a.eval s = v) (hx : a.eval x = .slice (some ⟨W.heap.size, 0, none⟩) 4 4) (hown : OB W base v L) (hb : base <= W.heap.size) (hl : L.length <= 4000000000)
  (hK : ∀ p c w', OB w' base (.slice p (L.length + 4) c) (L ++ bytes4 d) -> Turned (fun g => base <= g) W w' -> wpList Tryz.prog ops Q rest (a.put o.dst (.slice p (L.length + 4) c)) w') :
  wpList Tryz.prog ops Q (o :: rest) a (W.alloc (.cells #[.int .u8 z0, .int .u8 z1, .int .u8 z2, .int .u8 z3] 5)) := by
 subst h0 h1 h2 h3
 obtain ⟨i0, hif, hz0, hz1, hz2⟩ := info_parts infoB
 refine wpList_append_exact _ hg s x 192 hop base 5 i0 (bV 0) 1 1 Tryz.underlying192 hif hz0 hz1 hz2 rfl (by decide) v L.length (L.map bV) hs (ownsRow_turned ((Turned.refl (fun _ => False) W).alloc _) (fun k hk => hk.elim) hown) ⟨W.heap.size, 0, none⟩ 4 4 ((bytes4 d).map bV) hx rfl (cells4_new _ _ _ _ _ _) (by intro u hu; obtain ⟨y, -, rfl⟩ := List.mem_map.1 hu; rfl) (by unfold maxLen; omega) (by omega) (by simp; omega) ?_
 intro v' w' hown' hgrow hex
 obtain ⟨p, c, rfl⟩ := owns_shape hown'
 have ta : Turned (fun g => base <= g) W (W.alloc (.cells #[.int .u8 (d % 256 : Nat), .int .u8 (d / 256 % 256 : Nat), .int .u8 (d / 65536 % 256 : Nat), .int .u8 (d / 16777216 % 256 : Nat)] 5)) := (Turned.refl _ W).alloc _
 refine hK p c w' (by rw [OB, List.length_append, List.map_append]; exact hown') (ta.trans (Turned.of_grown hgrow fun k hk => ?_))
 exact (ownsRow_block hown k hk).1
theorem bu_conv {W : World} {g c : Nat} {L : List Nat} (h : BU W g L) (hd : ∀ x ∈ L, x < 256) : (convert 192 9 (.slice (some ⟨g, 0, none⟩) L.length c)).run Tryz.prog W = .ok (.string ⟨(L.map UInt8.ofNat).toArray⟩) W := by
 have hr := run_convert_bytes_back (P := Tryz.prog) W 192 9 5 ⟨g, 0, none⟩ c (L.map UInt8.ofNat) Tryz.underlying192 Tryz.underlying5 Tryz.underlying9 (fun j hj => ?_)
 ·rw [List.length_map] at hr
  exact hr
 ·rw [List.length_map] at hj
  rw [show (⟨g, 0, none⟩ : Addr).add j = ⟨g, j, none⟩ by cases j <;> simp [Addr.add], h.some hj]
  have e : digAt L j = L[j] := digAt_some (List.getElem?_eq_getElem hj)
  rw [e, List.getElem_map, byte_nat _ (hd _ (List.getElem_mem hj))]
theorem ob_nil {W : World} {base : Nat} {p : Option Addr} {c : Nat} (h : OB W base (.slice p ([] : List Nat).length c) []) : (convert 192 9 (.slice p 0 c)).run Tryz.prog W = .ok (.string ⟨#[]⟩) W := by
 obtain ⟨-, ⟨hv, -⟩ | ⟨g, cap, cur, hv, -⟩⟩ := h
 ·cases hv
  exact Lib.run_convert_nil_bytes (P := Tryz.prog) W 192 9 5 0 Tryz.underlying192 Tryz.underlying5 Tryz.underlying9
 ·cases hv
  exact run_convert_bytes_back (P := Tryz.prog) W 192 9 5 ⟨g, 0, none⟩ c [] Tryz.underlying192 Tryz.underlying5 Tryz.underlying9 (fun j hj => by simp at hj)
theorem ntext_any (x : List Nat) (p : Option Addr) (c : Nat) (W : World) (N : Nat -> Prop) (hx : LA W N x p c) (lx : x.length <= 900000000) :
  Calls Tryz.prog 88 #[.slice p x.length c] W fun e w' => e = .returned (.string ⟨(encN (vL bU x)).toArray⟩) /\ Turned (fun _ => False) W w' := by
 have HX := Lib.hid hx
 clear hx
 go_enter Tryz.func88, Tryz.ntmps88
 go_wp2_with fail
 go_loopw [3, 8] (fun v i wr => ∃ k : Nat, i = (.int .i64 k) /\ k <= x.length /\ Hid (OB wr W.heap.size v ((x.take k).flatMap bytes4) /\ Turned (fun _ => False) W wr)) (fun _ i _ => x.length - (intOf i).toNat)
 case atStart => exact ⟨0, rfl, by omega, Lib.hid ⟨OB.nil _ _, Turned.refl _ _⟩⟩
 case round =>
  obtain ⟨k, rfl, hk, HR⟩ := hrel
  obtain ⟨B, hB⟩ : ∃ B, (x.take k).flatMap bytes4 = B := ⟨_, rfl⟩
  rw [hB] at HR
  obtain ⟨vp, vc, hv⟩ := HR.out.1.shape
  subst hv
  have hBl : B.length <= 3600000000 := by rw [<- hB, bytes_len, List.length_take]; omega
  by_cases hkB : k < x.length
  ·obtain ⟨b, a, d, rfl, -, hd, -, hdb, d1⟩ := (HX.out.turned HR.out.2).get hkB
   have hki : (k : Int) < (x.length : Int) := by omega
   have HN : Hid ((x.take (k + 1)).flatMap bytes4 = B ++ bytes4 d) := Lib.hid (by rw [List.take_add_one, hd, Option.toList_some, List.flatMap_append, hB]; simp)
   clear hd hB hkB
   go_wp2_with (at_builtin; (refine app_bytes wr rfl _ _ rfl W.heap.size (.slice vp B.length vc) _ _ _ _ d (by omega) (by omega) (by omega) (by omega) B rfl rfl HR.out.1 HR.out.2.size (by omega) ?_); intro vp' vc' w4 ho4 ht4; have HS4 := Lib.hid (And.intro ho4 ht4); clear ho4 ht4)
   refine ⟨⟨k + 1, rfl, by omega, Lib.hid ⟨?_, HR.out.2.fresh HS4.out.2 fun _ => id⟩⟩, ?_⟩
   ·rw [HN.out]; exact HS4.out.1
   ·show x.length - (intOf (.int .i64 ((k : Int) + 1))).toNat < x.length - (intOf (.int .i64 ((k : Int)))).toNat
    simp only [intOf]
    omega
  ·have hki : ¬ (k : Int) < (x.length : Int) := by omega
   have hB2 : x.flatMap bytes4 = B := by rw [<- hB, List.take_of_length_le (by omega)]
   have hBb : ∀ y ∈ B, y < 256 := by rw [<- hB2]; exact bytes_lt x
   have hE : cleanS ⟨((B.reverse).map UInt8.ofNat).toArray⟩ = ⟨(encN (vL bU x)).toArray⟩ := by
    unfold cleanS
    rw [<- hB2, List.map_reverse]
    exact congrArg (fun l => ByteArray.mk (List.toArray l)) (text_val HX.out.dig)
   by_cases h0 : B = []
   ·subst h0
    have HV := Lib.hid (reverse_nil vp vc wr)
    have hcv := ob_nil HR.out.1
    have HCl := Lib.hid (fun W => clean_any ⟨#[]⟩ W)
    rw [show cleanS ⟨#[]⟩ = ⟨(encN (vL bU x)).toArray⟩ from hE] at HCl
    clear hB hB2 hBb hE hkB
    go_wp2_with fail
    refine HV.out.mono ?_
    rintro e w5 ⟨⟨v5, rfl⟩, hw⟩
    rw [hw]
    clear hw HV
    go_wp2_with fail
    refine (HCl.out _).mono ?_
    rintro e w6 ⟨rfl, hw⟩
    rw [hw]
    clear hw
    go_wp2_with fail
    go_ret
    exact ⟨rfl, HR.out.2⟩
   ·obtain ⟨g, c', hv, hg, hbu, hc1, hc2⟩ := HR.out.1.bu h0
    cases hv
    have HV := Lib.hid (reverse_any B g vc wr hbu (by omega) (List.length_pos_iff.2 h0))
    obtain ⟨S, hS⟩ : ∃ S : ByteArray, ⟨((B.reverse).map UInt8.ofNat).toArray⟩ = S := ⟨_, rfl⟩
    rw [hS] at hE
    have HCl := Lib.hid (fun W => clean_any S W)
    rw [hE] at HCl
    have hrb : ∀ y ∈ B.reverse, y < 256 := fun y hy => hBb y (by simpa using hy)
    have HCV := Lib.hid (fun (W : World) (h : BU W g B.reverse) => bu_conv (c := vc) h hrb)
    rw [List.length_reverse, hS] at HCV
    clear hS
    have HG := Lib.hid (And.intro hg hbu)
    clear hB hB2 hBb hE h0 hg hbu hc1 hc2 hrb hkB
    go_wp2_with fail
    with_reducible refine HV.out.mono ?_
    rintro e w5 ⟨⟨v5, rfl⟩, h5, h6⟩
    have hcv := HCV.out w5 h5
    have H5 := Lib.hid h6
    clear h5 h6 HV HCV
    go_wp2_with fail
    refine (HCl.out _).mono ?_
    rintro e w6 ⟨rfl, hw⟩
    rw [hw]
    clear hw
    go_wp2_with fail
    go_ret
    exact ⟨rfl, HR.out.2.fresh H5.out fun k hk => by have := HG.out.1; omega⟩
end Go.Proofs.YthejfklieedjmaaGreatDoor
