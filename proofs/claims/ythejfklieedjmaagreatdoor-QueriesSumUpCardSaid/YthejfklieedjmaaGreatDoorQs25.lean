/- Part 25 of the proof of lawSum.card: EvOpsC, EvOpsD, EvOpsE, EvOpsF, EvOpsG. Conditions: those of each theorem. -/
import Derived.Test.YthejfklieedjmaaGreatDoorQs01
import Derived.Test.YthejfklieedjmaaGreatDoorQs24
namespace Go.Proofs.YthejfklieedjmaaGreatDoor
open Go
theorem VR.addr {E : En} {n o d : Nat} {l : Lo} (h : E n = some l) : VR E (.pointer (some ⟨n, o + d, none⟩)) (.pointer (some ((⟨l.b, l.sh + o, none⟩ : Addr).add d))) := by
 rw [addr_add, Nat.add_assoc]; exact .ptr _ h
theorem VR.slice_inv {E : En} {n o k c : Nat} {x : Value} (h : VR E (.slice (some ⟨n, o, none⟩) k c) x) : ∃ l c', E n = some l /\ x = .slice (some ⟨l.b, l.sh + o, none⟩) k c' /\ (c < OPEN /\ c' = c \/ ∃ s, c = OPEN + s /\ k <= c' /\ l.sh + o + c' * s <= l.z) := by
 cases h with
 | sl _ _ _ he hc => exact ⟨_, _, he, rfl, .inl ⟨hc, rfl⟩⟩
 | slo _ _ c' s he hk hz => exact ⟨_, c', he, rfl, .inr ⟨s, rfl, hk, hz⟩⟩
theorem s_ias {o : Oper} {t e : TypeId} {x y : Operand} {r : Bool × Nat} (ho : o.op = .indexAddr t x y) (hu : Tryz.prog.underlying t = some (.slice e)) (ht : tyI Tryz.prog e = some r) : SoundI (opIas r.2 (dO x) (dO y)) o := by
 refine sound_pure fun T m k v m0 h => ?_
 obtain ⟨j, i, e1, h⟩ := vNat_ok h
 obtain ⟨a, len, cap, e2, h⟩ := vSl_ok h
 obtain ⟨hb, h⟩ := bif_ok h
 rw [Nat.blt_eq] at hb
 obtain ⟨n, p, hap, h2⟩ := aSome_ok h
 subst hap
 rw [seqN_eq] at h2
 refine ⟨_, h2, fun E ac q => ?_⟩
 have q1 := flat_eq (q y (by simp [ho, Op.operands])) (by rw [e1]; rfl)
 have q2 := q x (by simp [ho, Op.operands])
 rw [e2] at q2
 obtain ⟨l, c', he, hx, -⟩ := q2.slice_inv
 refine ⟨_, VR.addr he, fun w => ?_⟩
 simp only [execOp, ho]
 refine ex_val ?_
 rw [q1, e1, hx]
 unfold Instr.indexAt
 simp only [asIntOf, Sem.run_bind, Sem.run_pure, Result.andThen, run_und hu]
 have h1 : (0 : Int) <= Int.ofNat i /\ Int.ofNat i < (len : Int) := ⟨Int.natCast_nonneg _, Int.ofNat_lt.2 hb⟩
 simp only [if_pos h1, Sem.run_bind, (tyI_ok ht w).2, Sem.run_pure, Result.andThen]
 rfl
theorem s_iaa {o : Oper} {t e : TypeId} {len : Nat} {x y : Operand} {r : Bool × Nat} (ho : o.op = .indexAddr t x y) (hu : Tryz.prog.underlying t = some (.array len e)) (ht : tyI Tryz.prog e = some r) : SoundI (opIaa len r.2 (dO x) (dO y)) o := by
 refine sound_pure fun T m k v m0 h => ?_
 obtain ⟨j, i, e1, h⟩ := vNat_ok h
 obtain ⟨n, p, e2, h⟩ := vPtr_ok h
 obtain ⟨hb, h⟩ := bif_ok h
 rw [Nat.blt_eq] at hb
 rw [seqN_eq] at h
 refine ⟨_, h, fun E ac q => ?_⟩
 have q1 := flat_eq (q y (by simp [ho, Op.operands])) (by rw [e1]; rfl)
 have q2 := q x (by simp [ho, Op.operands])
 rw [e2] at q2
 generalize hg : ac.eval x = g at q2
 cases q2 with
 | ptr _ he =>
  refine ⟨_, VR.addr he, fun w => ?_⟩
  simp only [execOp, ho]
  refine ex_val ?_
  rw [q1, e1, hg]
  unfold Instr.indexAt
  simp only [asIntOf, Sem.run_bind, Sem.run_pure, Result.andThen, run_und hu, Instr.sureAddr]
  have h1 : (0 : Int) <= Int.ofNat i /\ Int.ofNat i < (len : Int) := ⟨Int.natCast_nonneg _, Int.ofNat_lt.2 hb⟩
  simp only [if_pos h1, Sem.run_bind, (tyI_ok ht w).2, Sem.run_pure, Result.andThen]
  rfl
theorem trB_get (l : List UInt8) : ∀ (o : Nat) (t : Tr UInt8), o + l.length <= LIM + 1 -> ∀ i, i <= LIM + 1 -> getP (trB l o t) (path i) = if o <= i /\ i < o + l.length then l[i - o]? else getP t (path i) := by
 induction l with
 | nil => intro o t _ i _; show getP t (path i) = _; rw [if_neg (by simp only [List.length_nil]; omega)]
 | cons v l ih =>
  intro o t hl i hi
  simp only [List.length_cons] at hl
  show getP (trB l (o + 1) (setP v (path o) t)) (path i) = _
  rw [ih (o + 1) _ (by omega) i hi, getP_setP]
  by_cases h1 : o + 1 <= i /\ i < o + 1 + l.length
  ·rw [if_pos h1, if_pos (by simp only [List.length_cons]; omega)]
   obtain ⟨j, rfl⟩ : ∃ j, i = o + 1 + j := ⟨i - (o + 1), by omega⟩
   rw [show o + 1 + j - (o + 1) = j by omega, show o + 1 + j - o = j + 1 by omega]
   rfl
  ·rw [if_neg h1]
   by_cases h2 : i = o
   ·subst h2
    rw [if_pos rfl, if_pos (by simp only [List.length_cons]; omega), Nat.sub_self]
    rfl
   ·rw [if_neg (fun h => h2 (path_inj hi (by omega) h)), if_neg (by simp only [List.length_cons]; omega)]
theorem byte_ev {b : List UInt8} {i : Nat} {c : UInt8} (h : b[i]? = some c) : (⟨⟨b⟩⟩ : ByteArray)[i]? = some c := by
 obtain ⟨h1, h2⟩ := List.getElem?_eq_some_iff.1 h
 have hs : i < (⟨⟨b⟩⟩ : ByteArray).size := h1
 rw [getElem?_pos (⟨⟨b⟩⟩ : ByteArray) i hs, <- h2]
 rfl
theorem s_ixs {o : Oper} {t : TypeId} {x y : Operand} (ho : o.op = .index t x y) (hu : Tryz.prog.underlying t = some .string) : SoundI (opIxs (dO x) (dO y)) o := by
 refine sound_pure fun T m k v m0 h => ?_
 obtain ⟨j, i, e1, h⟩ := vNat_ok h
 obtain ⟨b, e2, h⟩ := vStr_ok h
 obtain ⟨hb, h⟩ := bif_ok h
 rw [Bool.and_eq_true] at hb
 have hi := Nat.le_of_ble_eq_true hb.1
 have hl := Nat.le_of_ble_eq_true hb.2
 rw [lenL_eq] at hl
 rw [trB_get b 0 .nil (by omega) i (by omega)] at h
 cases hg : b[i]? with
 | none =>
  rw [if_neg (by have := List.getElem?_eq_none_iff.1 hg; omega)] at h
  cases h
 | some c =>
  have hlt := (List.getElem?_eq_some_iff.1 hg).1
  rw [if_pos (by omega), Nat.sub_zero, hg] at h
  refine ⟨_, h, fun E ac q => ⟨_, .int _ _, fun w => ?_⟩⟩
  have q1 := flat_eq (q y (by simp [ho, Op.operands])) (by rw [e1]; rfl)
  have q2 := flat_eq (q x (by simp [ho, Op.operands])) (by rw [e2]; rfl)
  simp only [execOp, ho]
  refine ex_val ?_
  rw [q1, e1, q2, e2]
  unfold Instr.index
  simp only [asIntOf, Sem.run_bind, Sem.run_pure, Result.andThen, run_und hu]
  have h1 : (0 : Int) <= Int.ofNat i := Int.natCast_nonneg _
  rw [if_pos h1]
  have e3 : (⟨⟨b⟩⟩ : ByteArray)[(Int.ofNat i).toNat]? = some c := byte_ev hg
  rw [e3]
  rfl
theorem s_ixa {o : Oper} {t e : TypeId} {len : Nat} {x y : Operand} {r : Bool × Nat} (ho : o.op = .index t x y) (hu : Tryz.prog.underlying t = some (.array len e)) (ht : tyI Tryz.prog e = some r) : SoundI (opIxa len r.1 r.2 (dO x) (dO y)) o := by
 refine sound_pure fun T m k v m0 h => ?_
 obtain ⟨j, i, e1, h⟩ := vNat_ok h
 obtain ⟨l, e2, h⟩ := vAgg_ok h
 obtain ⟨hb, h⟩ := bif_ok h
 rw [Nat.blt_eq] at hb
 obtain ⟨u, hk, hp⟩ := partL_ok h
 refine ⟨u, hk, fun E ac q => ?_⟩
 have q1 := flat_eq (q y (by simp [ho, Op.operands])) (by rw [e1]; rfl)
 have q2 := q x (by simp [ho, Op.operands])
 rw [e2] at q2
 generalize hg : ac.eval x = g at q2
 cases q2 with
 | agg hl =>
  obtain ⟨u', hu', z, hz, hw⟩ := partR ht hl hp
  injection hu' with hu'
  subst hu'
  refine ⟨z, hz, fun w => ?_⟩
  simp only [execOp, ho]
  refine ex_val ?_
  rw [q1, e1, hg]
  unfold Instr.index
  simp only [asIntOf, Sem.run_bind, Sem.run_pure, Result.andThen, run_und hu]
  have h1 : (0 : Int) <= Int.ofNat i /\ Int.ofNat i < (len : Int) := ⟨Int.natCast_nonneg _, Int.ofNat_lt.2 hb⟩
  simp only [if_pos h1, Sem.run_bind, (tyI_ok ht w).2, Result.andThen]
  exact hw w
theorem s_tas {o : Oper} {x : Operand} {xt t : TypeId} {ok : Bool} {z : Option Value} {d : TypeDesc} (ho : o.op = .typeAssert x xt t ok) (hu : Tryz.prog.underlying t = some d) (hd : ∀ ms, d ≠ .interface ms) (hz : if ok then ∃ y, z = some y /\ zeroE Tryz.prog t = some y else z = none) : SoundI (opTas t z (dO x)) o := by
 have hD : ∀ (u : TypeId) (v : Value) (w : World), (Instr.typeAssert (.iface u v) xt t ok).run Tryz.prog w = (if u = t then .ok (if ok then .tuple #[v, .bool true] else v) w else (do
  if ok then pure (.tuple #[<- zeroValue t, .bool false]) else runtimePanic (.typeAssertion (some xt) (some u) t "") : Sem Value).run Tryz.prog w) := fun u v w => by
  unfold Instr.typeAssert
  rw [Sem.run_bind, run_und hu]
  cases d <;> first | exact absurd rfl (hd _) | (simp only [Result.andThen]; split <;> (split <;> rfl))
 have hN : ∀ (w : World), (Instr.typeAssert .nilIface xt t ok).run Tryz.prog w = (do
  if ok then pure (.tuple #[<- zeroValue t, .bool false]) else runtimePanic (.typeAssertion (some xt) none t "") : Sem Value).run Tryz.prog w := fun w => by
  unfold Instr.typeAssert
  rw [Sem.run_bind, run_und hu]
  cases d <;> first | exact absurd rfl (hd _) | rfl
 refine sound_pure fun T m k v m0 h => ?_
 unfold opTas at h
 split at h
 ·rename_i u y hv
  cases hb : Nat.beq u t with
  | true =>
   rw [hb, cond_true] at h
   have := Nat.eq_of_beq_eq_true hb
   subst this
   refine ⟨_, h, fun E a q => ?_⟩
   have hx := q x (by simp [ho, Op.operands])
   rw [hv] at hx
   generalize hg : a.eval x = g at hx
   cases hx with
   | ifc _ hy =>
    rename_i y'
    refine ⟨if ok then .tuple #[y', .bool true] else y', ?_, fun w => ?_⟩
    ·cases ok with
     | true => obtain ⟨z', rfl, -⟩ := hz; exact .tup (.cons hy (.cons (.bool true) .nil))
     | false => subst hz; exact hy
    ·simp only [execOp, ho, hg]
     refine ex_val ?_
     rw [hD, if_pos rfl]
  | false =>
   rw [hb, cond_false] at h
   obtain ⟨z', rfl, h⟩ := oGet_ok h
   refine ⟨_, h, fun E a q => ?_⟩
   have hx := q x (by simp [ho, Op.operands])
   rw [hv] at hx
   generalize hg : a.eval x = g at hx
   cases hx with
   | ifc _ hy =>
    cases ok with
    | false => cases hz
    | true =>
     obtain ⟨z2, hz2, hz3⟩ := hz
     injection hz2 with hz2
     subst hz2
     refine ⟨.tuple #[z', .bool false], .tup (.cons (flat_vr E _ (zeroI_ok hz3 default).2) (.cons (.bool false) .nil)), fun w => ?_⟩
     simp only [execOp, ho, hg]
     refine ex_val ?_
     rw [hD, if_neg (Nat.ne_of_beq_eq_false hb)]
     simp only [if_true, Sem.run_bind, (zeroI_ok hz3 w).1, Result.andThen, Sem.run_pure]
 ·rename_i hv
  obtain ⟨z', rfl, h⟩ := oGet_ok h
  refine ⟨_, h, fun E a q => ?_⟩
  have hx := flat_eq (q x (by simp [ho, Op.operands])) (by rw [hv]; rfl)
  cases ok with
  | false => cases hz
  | true =>
   obtain ⟨z2, hz2, hz3⟩ := hz
   injection hz2 with hz2
   subst hz2
   refine ⟨.tuple #[z', .bool false], .tup (.cons (flat_vr E _ (zeroI_ok hz3 default).2) (.cons (.bool false) .nil)), fun w => ?_⟩
   simp only [execOp, ho]
   refine ex_val ?_
   rw [hx, hv, hN]
   simp only [if_true, Sem.run_bind, (zeroI_ok hz3 w).1, Result.andThen, Sem.run_pure]
 ·cases h
theorem len_pre {o : Oper} {c : Call} {x : Operand} (ho : o.op = .call c) (hc : c.callee = .builtin .len) (ha : c.args.toList = [x]) : (∀ T E a, OrR E T a o -> VR E (opd (dO x) T) (a.eval x)) /\ ∀ (a : Act) (w : World), (execOp a.eval o).run Tryz.prog w = (do pure (Next.value (<- Builtin.len_ c.argTypes o.type #[a.eval x])) : Sem Next).run Tryz.prog w := by
 have ha' : c.args = #[x] := by rw [<- Array.toArray_toList (xs := c.args), ha]
 refine ⟨fun T E a q => q x (by rw [ho]; simp [Op.operands, Call.operands, hc, ha']), fun a w => ?_⟩
 simp [execOp, ho, resolve, hc, ha', invoke, builtin, Result.andThen]
theorem s_len1 {o : Oper} {c : Call} {x : Operand} {t e : TypeId} (ho : o.op = .call c) (hc : c.callee = .builtin .len) (ha : c.args.toList = [x]) (ht : c.argTypes[0]? = some t) (hu : Tryz.prog.underlying t = some (.slice e)) : SoundI (opLen false (dO x)) o := by
 obtain ⟨hx0, hE⟩ := len_pre ho hc ha
 refine sound_pure fun T m k v m0 h => ?_
 obtain ⟨b, n, cp, hv, h⟩ := vSl_ok h
 refine ⟨_, h, fun E a q => ⟨_, .int _ _, fun w => ?_⟩⟩
 have hx := hx0 T E a q
 rw [hv] at hx
 rw [hE]
 refine ex_val ?_
 have : ∃ b' c', a.eval x = .slice b' n c' := by
  generalize a.eval x = g at hx
  cases hx <;> exact ⟨_, _, rfl⟩
 obtain ⟨b', c', hb⟩ := this
 rw [hb]
 simp [Builtin.len_, ht, run_und hu, Result.andThen, goInt]
theorem s_len2 {o : Oper} {c : Call} {x : Operand} {t : TypeId} (ho : o.op = .call c) (hc : c.callee = .builtin .len) (ha : c.args.toList = [x]) (ht : c.argTypes[0]? = some t) (hu : Tryz.prog.underlying t = some .string) : SoundI (opLen true (dO x)) o := by
 obtain ⟨hx0, hE⟩ := len_pre ho hc ha
 refine sound_pure fun T m k v m0 h => ?_
 obtain ⟨b, hv, h⟩ := vStr_ok h
 rw [seqN_eq] at h
 refine ⟨_, h, fun E a q => ⟨_, .int _ _, fun w => ?_⟩⟩
 have hx := flat_eq (hx0 T E a q) (by rw [hv]; rfl)
 rw [hE]
 refine ex_val ?_
 rw [hx, hv]
 simp [Builtin.len_, ht, run_und hu, Result.andThen, goInt, lenL_eq]
 rfl
theorem oNat_ok {T : TF} {x : Option Operand} {n : Nat} {k : Nat -> R} {v : Value} {m0 : Me} (h : oNat (x.map dO) T n k = .ok v m0) : ∃ i, k i = .ok v m0 /\ (x = none /\ i = n \/ ∃ y j, x = some y /\ ∀ E g, VR E (opd (dO y) T) g -> g = .int j (.ofNat i)) := by
 cases x with
 | none => exact ⟨n, h, .inl ⟨rfl, rfl⟩⟩
 | some y =>
  obtain ⟨j, i, e, h⟩ := vNat_ok h
  exact ⟨i, h, .inr ⟨y, j, rfl, fun E g hg => (flat_eq hg (by rw [e]; rfl)).trans e⟩⟩
theorem bound_run {P : Program} {j : IntKind} {i y : Nat} (h : i <= y) (c : BoundsCode) (w : World) : (Instr.sliceBound (.int j (.ofNat i)) y c).run P w = .ok i w := by
 unfold Instr.sliceBound
 simp only [asIntOf, Sem.run_bind, Sem.run_pure, Result.andThen]
 have h1 : (0 : Int) <= Int.ofNat i /\ Int.ofNat i <= (y : Int) := ⟨Int.natCast_nonneg _, Int.ofNat_le.2 h⟩
 rw [if_pos h1]
 rfl
theorem lowHigh_ok {T : TF} {lo hi : Option Operand} {len : Nat} {k : Nat -> Nat -> R} {v : Value} {m0 : Me} (h : lowHigh T (lo.map dO) (hi.map dO) len k = .ok v m0) : ∃ l p, k l p = .ok v m0 /\ l <= p /\
  ∀ (E : En) (a : Act), (∀ x, lo = some x \/ hi = some x -> VR E (opd (dO x) T) (a.eval x)) -> ∀ (P : Program) (b : Bool) (cap : Nat) (w : World), p <= cap -> (Instr.sliceBounds b len cap (lo.map a.eval) (hi.map a.eval) none).run P w = .ok (l, p, cap) w := by
 unfold lowHigh at h
 obtain ⟨p, h, hp⟩ := oNat_ok h
 obtain ⟨l, h, hl⟩ := oNat_ok h
 obtain ⟨hle, h⟩ := bif_ok h
 have hle := Nat.le_of_ble_eq_true hle
 refine ⟨l, p, h, hle, fun E a hr P b cap w hc => ?_⟩
 unfold Instr.sliceBounds
 rcases hp with ⟨rfl, rfl⟩ | ⟨y, j, rfl, hy⟩ <;> rcases hl with ⟨rfl, rfl⟩ | ⟨z, i, rfl, hz⟩
 ·rfl
 ·simp only [Option.map_none, Option.map_some, Sem.run_bind, Sem.run_pure, Result.andThen, hz E _ (hr z (.inl rfl)), bound_run hle]
 ·simp only [Option.map_none, Option.map_some, Sem.run_bind, Sem.run_pure, Result.andThen, hy E _ (hr y (.inr rfl)), bound_run hc]
 ·simp only [Option.map_some, Sem.run_bind, Sem.run_pure, Result.andThen, hz E _ (hr z (.inl rfl)), hy E _ (hr y (.inr rfl)), bound_run hle, bound_run hc]
theorem slice_or {E : En} {T : TF} {a : Act} {o : Oper} {t : TypeId} {x : Operand} {lo hi : Option Operand} (ho : o.op = .slice t x lo hi none) (q : OrR E T a o) : VR E (opd (dO x) T) (a.eval x) /\ ∀ y, lo = some y \/ hi = some y -> VR E (opd (dO y) T) (a.eval y) := by
 refine ⟨q x (by simp [ho, Op.operands]), fun y hy => q y ?_⟩
 rcases hy with rfl | rfl <;> simp [ho, Op.operands]
theorem bytes_cut (b : List UInt8) (l p : Nat) : (⟨⟨b⟩⟩ : ByteArray).extract l p = ⟨⟨takeL (sub p l) (dropL l b)⟩⟩ := by
 apply ByteArray.ext
 rw [ByteArray.data_extract]
 apply Array.ext'
 simp [takeL_eq, dropL_eq, sub]
theorem s_slt {o : Oper} {t : TypeId} {x : Operand} {lo hi : Option Operand} (ho : o.op = .slice t x lo hi none) (hu : Tryz.prog.underlying t = some .string) : SoundI (opSlt (dO x) (lo.map dO) (hi.map dO)) o := by
 refine sound_pure fun T m k v m0 h => ?_
 obtain ⟨b, e1, h⟩ := vStr_ok h
 obtain ⟨l, p, h, hle, hr⟩ := lowHigh_ok h
 obtain ⟨hb, h⟩ := bif_ok h
 have hb := Nat.le_of_ble_eq_true hb
 refine ⟨_, h, fun E a q => ⟨_, .str _, fun w => ?_⟩⟩
 obtain ⟨q1, q2⟩ := slice_or ho q
 have q1 := flat_eq q1 (by rw [e1]; rfl)
 have hs : (⟨⟨b⟩⟩ : ByteArray).size = lenL b := (lenL_eq b).symm
 simp only [execOp, ho]
 refine ex_val ?_
 rw [q1, e1]
 unfold Instr.sliceAt
 rw [Sem.run_bind, run_und hu]
 simp only [Result.andThen, Option.map_none]
 unfold Instr.slice
 rw [Sem.run_bind, run_und hu]
 simp only [Result.andThen, Sem.run_bind, hs, Option.isSome_none, Bool.false_eq_true, if_false, Sem.run_pure, hr E a q2 _ false _ w hb]
 rw [bytes_cut]
theorem s_sls {o : Oper} {t e : TypeId} {x : Operand} {lo hi : Option Operand} {r : Bool × Nat} (ho : o.op = .slice t x lo hi none) (hu : Tryz.prog.underlying t = some (.slice e)) (ht : tyI Tryz.prog e = some r) : SoundI (opSls r.2 (dO x) (lo.map dO) (hi.map dO)) o := by
 have hrun : ∀ (a : Act) (b : Option Addr) (len cap l p : Nat) (w : World), a.eval x = .slice b len cap -> (Instr.sliceBounds true len cap (lo.map a.eval) (hi.map a.eval) none).run Tryz.prog w = .ok (l, p, cap) w -> (execOp a.eval o).run Tryz.prog w = .ok (.value (.slice (if cap = l then b else b.map (·.add (l * r.2))) (p - l) (cap - l))) w := by
  intro a b len cap l p w e1 e2
  simp only [execOp, ho]
  refine ex_val ?_
  rw [e1]
  unfold Instr.sliceAt
  rw [Sem.run_bind, run_und hu]
  simp only [Result.andThen, Option.map_none]
  unfold Instr.slice
  rw [Sem.run_bind, run_und hu]
  simp only [Result.andThen, Sem.run_bind, e2, (tyI_ok ht w).2, Sem.run_pure]
 refine sound_pure fun T m k v m0 h => ?_
 obtain ⟨b, len, cap, e1, h⟩ := vSl_ok h
 obtain ⟨l, p, h, hle, hr⟩ := lowHigh_ok h
 cases hO : Nat.ble OPEN cap with
 | true =>
  rw [hO, cond_true] at h
  obtain ⟨hb, h⟩ := bif_ok h
  rw [Bool.and_eq_true, Bool.and_eq_true, Bool.or_eq_true] at hb
  have c1 := Nat.eq_of_beq_eq_true hb.1
  have c2 := Nat.le_of_ble_eq_true hb.2.1
  have c3 : l = 0 \/ l < len := by
   rcases hb.2.2 with c | c
   ·exact .inl (Nat.eq_of_beq_eq_true c)
   ·rw [Nat.blt_eq] at c; exact .inr c
  obtain ⟨n, off, hap, h2⟩ := aSome_ok h
  rw [seqN_eq] at h2
  refine ⟨_, h2, fun E a q => ?_⟩
  obtain ⟨q1, q2⟩ := slice_or ho q
  rw [e1, hap] at q1
  obtain ⟨lo', c', he, hx, hc⟩ := q1.slice_inv
  have hc : len <= c' /\ lo'.sh + off + c' * r.2 <= lo'.z := by
   rcases hc with ⟨hc, -⟩ | ⟨s, hs, h3, h4⟩
   ·have := Nat.le_of_ble_eq_true hO; omega
   ·have : s = r.2 := by omega
    subst this; exact ⟨h3, h4⟩
  refine ⟨.slice (some ⟨lo'.b, lo'.sh + (off + l * r.2), none⟩) (p - l) (c' - l), ?_, fun w => ?_⟩
  ·rw [c1]
   refine .slo _ _ _ _ he ?_ ?_
   ·show Nat.sub p l <= _
    have : Nat.sub p l = p - l := rfl
    omega
   ·have : (c' - l) * r.2 = c' * r.2 - l * r.2 := Nat.sub_mul _ _ _
    have : l * r.2 <= c' * r.2 := Nat.mul_le_mul_right _ (by omega)
    omega
  ·rw [hrun a _ len c' l p w hx (hr E a q2 _ true _ w (by omega))]
   by_cases hcl : c' = l
   ·have : l = 0 := by omega
    subst this
    rw [if_pos hcl]
    simp
   ·rw [if_neg hcl]
    simp [addr_add, Nat.add_assoc]
 | false =>
  rw [hO, cond_false] at h
  have hO := Nat.lt_of_not_le (fun hh => by have := Nat.ble_eq_true_of_le hh; rw [hO] at this; cases this)
  obtain ⟨hb, h⟩ := bif_ok h
  have hb := Nat.le_of_ble_eq_true hb
  cases b with
  | none =>
   refine ⟨_, h, fun E a q => ?_⟩
   obtain ⟨q1, q2⟩ := slice_or ho q
   have q1 := flat_eq q1 (by rw [e1]; rfl)
   refine ⟨_, .sl0 _ _, fun w => ?_⟩
   rw [hrun a _ len cap l p w (q1.trans e1) (hr E a q2 _ true _ w hb)]
   simp [sub]
  | some ad =>
   obtain ⟨n, off, hap, h2⟩ := aSome_ok h
   refine ⟨_, h2, fun E a q => ?_⟩
   obtain ⟨q1, q2⟩ := slice_or ho q
   rw [e1, hap] at q1
   obtain ⟨lo', c', he, hx, hc⟩ := q1.slice_inv
   have hc : c' = cap := by
    rcases hc with ⟨-, hc⟩ | ⟨s, hs, -⟩
    ·exact hc
    ·omega
   subst hc
   refine ⟨_, .sl _ _ _ he (Nat.lt_of_le_of_lt (Nat.sub_le _ _) hO), fun w => ?_⟩
   rw [hrun a _ len c' l p w hx (hr E a q2 _ true _ w hb)]
   by_cases hcl : c' = l
   ·subst hcl
    rw [if_pos rfl]
    have : Nat.beq c' c' = true := by rw [Nat.beq_eq]
    rw [this]
    rfl
   ·rw [if_neg hcl, nbeq hcl]
    simp [addr_add, Nat.add_assoc, sub]
theorem s_sla {o : Oper} {t e : TypeId} {n : Nat} {x : Operand} {lo hi : Option Operand} {r : Bool × Nat} (ho : o.op = .slice t x lo hi none) (hu : Tryz.prog.underlying t = some (.array n e)) (ht : tyI Tryz.prog e = some r) (hn : n <= 1000000) : SoundI (opSla n r.2 (dO x) (lo.map dO) (hi.map dO)) o := by
 refine sound_pure fun T m k v m0 h => ?_
 obtain ⟨b, off, e1, h⟩ := vPtr_ok h
 obtain ⟨l, p, h, hle, hr⟩ := lowHigh_ok h
 obtain ⟨hb, h⟩ := bif_ok h
 have hb := Nat.le_of_ble_eq_true hb
 refine ⟨_, h, fun E a q => ?_⟩
 obtain ⟨q1, q2⟩ := slice_or ho q
 rw [e1] at q1
 generalize hg : a.eval x = g at q1
 cases q1 with
 | ptr _ he =>
  refine ⟨_, .sl _ _ _ he (by show n - l < OPEN; unfold OPEN; omega), fun w => ?_⟩
  simp only [execOp, ho]
  refine ex_val ?_
  rw [hg]
  unfold Instr.sliceAt
  rw [Sem.run_bind, run_und hu]
  simp only [Result.andThen, Option.map_none, Instr.sureAddr, Sem.run_bind, Sem.run_pure, hr E a q2 _ false _ w hb, (tyI_ok ht w).2]
  by_cases hcl : n = l
  ·subst hcl
   have : Nat.beq n n = true := by rw [Nat.beq_eq]
   rw [if_pos rfl, this]
   rfl
  ·rw [if_neg hcl, nbeq hcl]
   simp [addr_add, Nat.add_assoc, sub]
theorem bit_test (n i : Nat) : (bit n).testBit i = decide (i = n) := by
 unfold bit
 show (1 <<< n).testBit i = _
 rw [Nat.one_shiftLeft, Nat.testBit_two_pow]
 rw [Bool.eq_iff_iff, decide_eq_true_iff, decide_eq_true_iff]
 exact eq_comm
theorem look_ok {n : Nat} {m : Me} {k : AO -> Me -> R} {v : Value} {m0 : Me} (h : lookE n m k = .ok v m0) : ∃ ob, hd m.H n = some ob /\ k ob ⟨m.H, m.c, Nat.lor m.A (bit n), m.W⟩ = .ok v m0 := by
 obtain ⟨H, c, A, W⟩ := m
 change Option.rec (motive := fun _ => R) (.no [1, n]) (fun o => seqN (Nat.lor A (bit n)) (k o ⟨H, c, Nat.lor A (bit n), W⟩)) (getP H (path n)) = .ok v m0 at h
 cases hg : getP H (path n) with
 | none => rw [hg] at h; cases h
 | some ob =>
  rw [hg] at h
  change seqN _ _ = _ at h
  rw [seqN_eq] at h
  exact ⟨ob, hg, h⟩
theorem put_ok {n : Nat} {o : AO} {m : Me} {k : Me -> R} {v : Value} {m0 : Me} (h : put n o m k = .ok v m0) : n < m.c /\ k ⟨setP o (path n) m.H, m.c, m.A, Nat.lor m.W (bit n)⟩ = .ok v m0 := by
 obtain ⟨H, c, A, W⟩ := m
 change (bif Nat.blt n c then seqN (Nat.lor W (bit n)) (k ⟨setP o (path n) H, c, A, Nat.lor W (bit n)⟩) else .no [2, n]) = _ at h
 obtain ⟨h1, h⟩ := bif_ok h
 rw [seqN_eq] at h
 rw [Nat.blt_eq] at h1
 exact ⟨h1, h⟩
theorem newO_ok {o : AO} {m : Me} {k : Nat -> Me -> R} {v : Value} {m0 : Me} (h : newO o m k = .ok v m0) : m.c <= LIM /\ k m.c ⟨setP o (path m.c) m.H, m.c + 1, m.A, m.W⟩ = .ok v m0 := by
 obtain ⟨H, c, A, W⟩ := m
 change (bif Nat.ble c LIM then seqN (c + 1) (k c ⟨setP o (path c) H, c + 1, A, W⟩) else .no [2]) = _ at h
 obtain ⟨h1, h⟩ := bif_ok h
 rw [seqN_eq] at h
 exact ⟨Nat.le_of_ble_eq_true h1, h⟩
theorem oCells_ok {ob : AO} {k : Nat -> Tr Value -> TypeId -> R} {v : Value} {m0 : Me} (h : oCells ob k = .ok v m0) : ∃ z tr ty, ob = .cells z tr ty /\ k z tr ty = .ok v m0 := by
 cases ob with
 | cells z tr ty => exact ⟨z, tr, ty, rfl, h⟩
 | map es => cases h
 | gone => cases h
 | tab z tr => cases h
theorem oRead_ok {ob : AO} {k : Nat -> Tr Value -> R} {v : Value} {m0 : Me} (h : oRead ob k = .ok v m0) : ∃ z tr, ob ≠ .gone /\ (∀ E w l, Lies E w l ob -> CanL E w l z tr) /\ k z tr = .ok v m0 := by
 cases ob with
 | cells z tr ty => exact ⟨z, tr, by simp, fun E w l h => h.rd, h⟩
 | map es => cases h
 | gone => cases h
 | tab z tr => exact ⟨z, tr, by simp, fun E w l h => h, h⟩
theorem oMap_ok {ob : AO} {k : List (Value × Value) -> R} {v : Value} {m0 : Me} (h : oMap ob k = .ok v m0) : ∃ es, ob = .map es /\ k es = .ok v m0 := by
 cases ob with
 | tab z tr => cases h
 | cells z tr ty => cases h
 | map es => exact ⟨es, rfl, h⟩
 | gone => cases h
theorem sat_read {o : Oper} {T : TF} {m : Me} {k : KV} {v : Value} {m0 : Me} (A : Nat) (hko : kindO o ≠ 0) (h : ∃ v', k v' ⟨m.H, m.c, Nat.lor m.A A, m.W⟩ = .ok v m0 /\ ∀ E M w a, Pre E m.H m.c m.c A M w -> OrR E T a o -> ∃ x, VR E v' x /\ (execOp a.eval o).run Tryz.prog w = .ok (.value x) w) : SAt o T m k v m0 := by
 obtain ⟨v', h1, h2⟩ := h
 refine ⟨v', m.H, m.c, A, 0, by rw [lor0]; exact h1, ⟨Nat.le_refl _, id, fun _ _ _ _ => rfl, fun n _ h => by simp at h, fun n _ h => by simp at h, id, fun n h => by simp at h⟩, fun E M w a p r K Q hK => ?_, fun h => absurd h hko, fun _ => ⟨rfl, rfl⟩⟩
 obtain ⟨x, hx, hw⟩ := h2 E M w a p r
 exact wp_val hw (hK E x w hx (Trn.refl p.ag))
theorem Pre.lies {E : En} {H : HH} {c c' A : Nat} {M : Nat -> Prop} {w : World} (p : Pre E H c c' A M w) {n : Nat} {l : Lo} {ob : AO} (he : E n = some l) (ha : A.testBit n = true) (hh : hd H n = some ob) (hg : ob ≠ .gone) : Lies E w l ob := by
 obtain ⟨l', h1, h2⟩ := p.ag.lies n ob (p.lim n l he) (p.acc n ha) hh hg
 rw [he] at h1
 injection h1 with h1
 subst h1
 exact h2
theorem cell_at {w : World} {b i : Nat} {cs : Array Value} {ty : TypeId} {f : Nat × Nat} (h : w.heap[b]? = some (.cells cs ty f)) : w.cell? ⟨b, i, none⟩ = cs[i]? := by
 simp [World.cell?, h]
theorem vrs_of {E : En} {Q : Nat -> Value -> Prop} : ∀ {l : List Value}, (∀ i v, l[i]? = some v -> ∃ x, Q i x /\ VR E v x) -> ∃ xs, VRs E l xs /\ ∀ i x, xs[i]? = some x -> Q i x := by
 intro l
 induction l generalizing Q with
 | nil => intro _; exact ⟨[], .nil, fun i x h => by simp at h⟩
 | cons v l ih =>
  intro h
  obtain ⟨x, hx, hr⟩ := h 0 v rfl
  obtain ⟨xs, h1, h2⟩ := ih (Q := fun i => Q (i + 1)) fun i u hu => h (i + 1) u (by simpa using hu)
  refine ⟨x :: xs, .cons hr h1, fun i y hy => ?_⟩
  cases i with
  | zero => simp at hy; subst hy; exact hx
  | succ i => exact h2 i y (by simpa using hy)
theorem cells_read {E : En} {w : World} {l : Lo} {z o n : Nat} {tr : Tr Value} {ls : List Value} (h : CanL E w l z tr) (hl : ls.length = n) (hz : o + n <= z) (hg : ∀ i, i < n -> getP tr (path (o + i)) = ls[i]?) : ∃ xs, VRs E ls xs /\ ∀ j x, xs[j]? = some x -> w.cell? ((⟨l.b, l.sh + o, none⟩ : Addr).add j) = some x := by
 obtain ⟨cs, ty, fr, h1, h2, h3, h4, h5⟩ := h
 refine vrs_of fun i v hv => ?_
 have hi : i < n := by rw [<- hl]; exact (List.getElem?_eq_some_iff.1 hv).1
 obtain ⟨x, hx, hr⟩ := h5 (o + i) v (by omega) (by rw [hg i hi, hv])
 refine ⟨x, ?_, hr⟩
 rw [addr_add, cell_at h1, Nat.add_assoc]
 exact hx
theorem load_run {P : Program} {w : World} {a : Addr} {xs : List Value} {n : Nat} (hn : xs.length = n) (h : ∀ j x, xs[j]? = some x -> w.cell? (a.add j) = some x) : (loadCells a n).run P w = .ok ⟨xs⟩ w := by
 subst hn
 exact run_loadCells_list w a xs h
theorem opLd_ok {ag : Bool} {s : Nat} {x : Opd} {T : TF} {m : Me} {k : KV} {v : Value} {m0 : Me} (h : opLd ag s x T m k = .ok v m0) : ∃ n o v' ob, opd x T = .pointer (some ⟨n, o, none⟩) /\ hd m.H n = some ob /\ ob ≠ .gone /\ k v' ⟨m.H, m.c, Nat.lor m.A (bit n), m.W⟩ = .ok v m0 /\
  ∀ (E : En) (w : World) (l : Lo) (t : TypeId) (P : Program), E n = some l -> Lies E w l ob -> tyI P t = some (ag, s) -> ∃ y, VR E v' y /\ (loadVar t ⟨l.b, l.sh + o, none⟩).run P w = .ok y w := by
 obtain ⟨n, o, e1, h⟩ := vPtr_ok h
 obtain ⟨ob, h1, h⟩ := look_ok h
 obtain ⟨z, tr, hgo, hrd, h⟩ := oRead_ok h
 unfold ldC at h
 cases ag with
 | false =>
  obtain ⟨hb, h⟩ := bif_ok h
  rw [Nat.blt_eq] at hb
  obtain ⟨u, hu, h⟩ := oGet_ok h
  refine ⟨n, o, u, _, e1, h1, hgo, h, fun E w l t P he hl ht => ?_⟩
  obtain ⟨cs, ty, fr, g1, g2, g3, g4, g5⟩ := hrd E w l hl
  obtain ⟨y, hy, hr⟩ := g5 o u hb hu
  refine ⟨y, hr, ?_⟩
  unfold loadVar
  rw [Sem.run_bind, (tyI_ok ht w).1]
  simp [Result.andThen, cell_at g1, hy]
 | true =>
  obtain ⟨hb, h⟩ := bif_ok h
  have hb := Nat.le_of_ble_eq_true hb
  obtain ⟨ls, h, g2, g3⟩ := getL_ok h
  refine ⟨n, o, _, _, e1, h1, hgo, h, fun E w l t P he hl ht => ?_⟩
  obtain ⟨xs, q1, q2⟩ := cells_read (hrd E w l hl) g2 hb g3
  refine ⟨_, .agg q1, ?_⟩
  unfold loadVar
  rw [Sem.run_bind, (tyI_ok ht w).1]
  simp only [Result.andThen, if_true, Sem.run_bind, (tyI_ok ht w).2, load_run (q1.length.trans g2) q2, Sem.run_pure]
theorem s_ld {o : Oper} {t : TypeId} {x : Operand} {r : Bool × Nat} (ho : o.op = .load t x) (ht : tyI Tryz.prog t = some r) : SoundI (opLd r.1 r.2 (dO x)) o := by
 intro T m k v m0 h _
 obtain ⟨n, p, v', ob, e1, h1, h2, h, hr⟩ := opLd_ok h
 refine sat_read (bit n) (by unfold kindO; rw [ho]; simp) ⟨v', h, fun E M w a pr q => ?_⟩
 have hx := q x (by simp [ho, Op.operands])
 rw [e1] at hx
 generalize hg : a.eval x = g at hx
 cases hx with
 | ptr _ he =>
  obtain ⟨y, hy, hw⟩ := hr E w _ t Tryz.prog he (pr.lies he (by rw [bit_test]; simp) h1 h2) ht
  refine ⟨y, hy, ?_⟩
  simp only [execOp, ho]
  refine ex_val ?_
  rw [hg]
  unfold Instr.loadAt
  simp only [Instr.sureAddr, Sem.run_bind, Sem.run_pure, Result.andThen, hw]
def upd (E : En) (c : Nat) (l : Lo) : En := fun n => if n = c then some l else E n
theorem upd_ext {E : En} {c : Nat} {l : Lo} (h : E c = none) : Ext E (upd E c l) := fun n l' h' => by
 unfold upd
 by_cases hn : n = c
 ·subst hn; rw [h] at h'; cases h'
 ·rw [if_neg hn]; exact h'
theorem new_stc {H : HH} {c A : Nat} {o : AO} (hc : c <= LIM) : Stc H c (setP o (path c) H) (c + 1) A 0 where
 le := Nat.le_succ _
 lim _ := by omega
 same n hn h _ := by rw [hd_set _ _ _ (by omega) hn, if_neg (by omega)]
 acc n _ h := by simp at h
 live n _ h := by simp at h
 wlt n h := by simp at h
 free h n h1 h2 := by rw [hd_set _ _ _ (by omega) h2, if_neg (by omega)]; exact h n (by omega) h2
theorem new_trn {E : En} {H : HH} {c A W : Nat} {M : Nat -> Prop} {w w' : World} {o : AO} {O : Obj} {z : Nat} (p : Pre E H c (c + 1) A M w) (hc : c <= LIM) (hw : w'.heap = w.heap.push O) (h1 : w'.os = w.os) (h2 : w'.tape = w.tape) (h3 : w'.output = w.output)
  (hl : Lies (upd E c ⟨w.heap.size, 0, z⟩) w' ⟨w.heap.size, 0, z⟩ o) : Trn c (c + 1) (setP o (path c) H) W M E w (upd E c ⟨w.heap.size, 0, z⟩) w' := by
 have hn := p.new c (Nat.le_refl _) (Nat.lt_succ_self _)
 have hex := upd_ext (l := ⟨w.heap.size, 0, z⟩) hn
 have hold : ∀ b, b < w.heap.size -> w'.heap[b]? = w.heap[b]? := fun b hb => by
  rw [hw, Array.getElem?_push, if_neg (by omega)]
 refine ⟨hex, fun n h hn' => ?_, ⟨fun n o' hn1 hm hh hg => ?_, fun n n' o' o'' l l' hn1 hn2 hm hm' hh hg hh' hg' he he' hb => ?_⟩, by rw [hw]; simp, fun b hb _ => ⟨hold b hb, fun n l q1 q2 q3 => ?_⟩, h1, h2, h3⟩
 ·unfold upd; rw [if_neg (by omega)]; exact h
 ·rw [hd_set _ _ _ (by omega) hn1] at hh
  by_cases hc' : n = c
  ·subst hc'
   rw [if_pos rfl] at hh
   injection hh with hh
   subst hh
   exact ⟨_, by unfold upd; rw [if_pos rfl], hl⟩
  ·rw [if_neg hc'] at hh
   obtain ⟨l, g1, g2⟩ := p.ag.lies n o' hn1 hm hh hg
   exact ⟨l, hex n l g1, g2.move hex (hold _ (g2.lt hg))⟩
 ·rw [hd_set _ _ _ (by omega) hn1] at hh
  rw [hd_set _ _ _ (by omega) hn2] at hh'
  unfold upd at he he'
  by_cases c1 : n = c <;> by_cases c2 : n' = c
  ·rw [c1, c2]
  ·exfalso
   rw [if_pos c1] at he
   rw [if_neg c2] at he' hh'
   injection he with he
   subst he
   obtain ⟨l2, g1, g2⟩ := p.ag.lies n' o'' hn2 hm' hh' hg'
   rw [g1] at he'
   injection he' with he'
   subst he'
   have := g2.lt hg'
   simp only at hb
   omega
  ·exfalso
   rw [if_neg c1] at he hh
   rw [if_pos c2] at he'
   injection he' with he'
   subst he'
   obtain ⟨l2, g1, g2⟩ := p.ag.lies n o' hn1 hm hh hg
   rw [g1] at he
   injection he with he
   subst he
   have := g2.lt hg
   simp only at hb
   omega
  ·rw [if_neg c1] at he hh
   rw [if_neg c2] at he' hh'
   exact p.ag.inj n n' o' o'' l l' hn1 hn2 hm hm' hh hg hh' hg' he he' hb
 ·have : n = c := by omega
  subst this
  unfold upd at q3
  rw [if_pos rfl] at q3
  injection q3 with q3
  subst q3
  simp only
  omega
theorem lies_new {E : En} {w' : World} {b z : Nat} {tr : Tr Value} {ty : TypeId} {ls xs : List Value} {n : Nat} (hls : ls.length = n) (h : VRs E ls xs) (hz : z = n) (hlim : n <= LIM) (hb : w'.heap[b]? = some (.cells ⟨xs⟩ ty (0, 0))) (hg : ∀ i v, i < n -> getP tr (path i) = some v -> ls[i]? = some v) : Lies E w' ⟨b, 0, z⟩ (.cells n tr ty) := by
 refine ⟨⟨xs⟩, hb, ?_, ?_, hlim, fun i v hi hv => ?_⟩
 ·show xs.length = z
  rw [h.length, hls, hz]
 ·show 0 + n <= z
  omega
 ·obtain ⟨x, hx, hr⟩ := h.get (hg i v hi hv)
  exact ⟨x, by simpa using hx, hr⟩
theorem newL_ok {l : List Value} {ty : TypeId} {m : Me} {k : Nat -> Me -> R} {v : Value} {m0 : Me} (h : newL l ty m k = .ok v m0) : l.length <= LIM /\ m.c <= LIM /\ ∃ tr, (∀ i v, i < l.length -> getP tr (path i) = some v -> l[i]? = some v) /\ k m.c ⟨setP (.cells l.length tr ty) (path m.c) m.H, m.c + 1, m.A, m.W⟩ = .ok v m0 := by
 unfold newL at h
 obtain ⟨h1, h⟩ := bif_ok h
 have h1 := Nat.le_of_ble_eq_true h1
 obtain ⟨h2, h⟩ := newO_ok h
 rw [lenL_eq] at h1 h
 refine ⟨h1, h2, putL l 0 .nil, fun i v hi hv => ?_, h⟩
 rw [putL_get l 0 .nil (by omega) i (by omega), if_pos (by omega)] at hv
 exact hv
theorem sat_new {o : Oper} {T : TF} {m : Me} {k : KV} {v : Value} {m0 : Me} {n : Nat} {tr : Tr Value} {ty : TypeId} {f : Nat -> Value} (hko : kindO o = 2) (hc : m.c <= LIM) (hn : n <= LIM) (hk : k (f m.c) ⟨setP (.cells n tr ty) (path m.c) m.H, m.c + 1, m.A, m.W⟩ = .ok v m0)
  (h : ∀ E a, OrR E T a o -> ∃ ls xs, ls.length = n /\ VRs E ls xs /\ (∀ i v, i < n -> getP tr (path i) = some v -> ls[i]? = some v) /\ ∀ w, ∃ x, (execOp a.eval o).run Tryz.prog w = .ok (.value x) (w.alloc (.cells ⟨xs⟩ ty)) /\ ∀ E' : En, E' m.c = some ⟨w.heap.size, 0, n⟩ -> VR E' (f m.c) x) : SAt o T m k v m0 := by
 refine ⟨f m.c, _, m.c + 1, 0, 0, by rw [lor0, lor0]; exact hk, new_stc hc, fun E M w a p r K Q hK => ?_, fun h => by omega, fun h => by omega⟩
 obtain ⟨ls, xs, h1, h2, h3, h4⟩ := h E a r
 obtain ⟨x, h5, h6⟩ := h4 w
 have hu : upd E m.c ⟨w.heap.size, 0, n⟩ m.c = some ⟨w.heap.size, 0, n⟩ := by unfold upd; rw [if_pos rfl]
 refine wp_val h5 (hK _ x _ (h6 _ hu) (new_trn p hc (O := .cells ⟨xs⟩ ty) rfl rfl rfl rfl ?_))
 refine lies_new h1 (h2.mono (upd_ext (p.new _ (Nat.le_refl _) (Nat.lt_succ_self _)))) rfl hn ?_ h3
 show (w.heap.push _)[w.heap.size]? = _
 simp
theorem s_box {o : Oper} {t : TypeId} {x : Operand} (ho : o.op = .box t x) : SoundI (opBox (dO x) t) o := by
 intro T m k v m0 h _
 obtain ⟨h1, h2, tr, h3, h⟩ := newL_ok h
 refine sat_new (f := ptr) (by unfold kindO; rw [ho]) h2 h1 h fun E a q => ⟨_, _, rfl, (q x (by simp [ho, Op.operands])).cells, h3, fun w => ⟨_, ?_, fun E' he => by have := VR.ptr 0 he; simpa [ptr] using this⟩⟩
 simp only [execOp, ho]
 refine ex_val ?_
 simp [Instr.box, newVar, newRow, Result.andThen]
theorem s_new {o : Oper} {t : TypeId} {z : Value} (ho : o.op = .alloc t) (hz : zeroE Tryz.prog t = some z) (hl : lenL (cellsL z) <= LIM) : SoundI (opNew (lenL (cellsL z)) (putL (cellsL z) 0 .nil) t) o := by
 intro T m k v m0 h _
 obtain ⟨h2, h⟩ := newO_ok h
 refine sat_new (f := ptr) (by unfold kindO; rw [ho]) h2 hl h fun E a q => ⟨_, _, (lenL_eq _).symm, (flat_vr E z (zeroI_ok hz default).2).cells, fun i v hi hv => ?_, fun w => ⟨_, ?_, fun E' he => by have := VR.ptr 0 he; simpa [ptr] using this⟩⟩
 ·rw [lenL_eq] at hi hl
  rw [putL_get _ 0 .nil (by omega) i (by omega), if_pos (by omega)] at hv
  exact hv
 ·simp only [execOp, ho]
  refine ex_val ?_
  unfold Instr.alloc
  rw [Sem.run_bind, (zeroI_ok hz w).1]
  simp [newVar, newRow, Result.andThen]
theorem fold_fill (l : List Value) : ∀ (k off : Nat) (cs : Array Value), off + k + l.length <= cs.size -> (l.zipIdx k).foldl (fun cs x => cs.setIfInBounds (off + x.2) x.1) cs = (cs.toList.take (off + k) ++ l ++ cs.toList.drop (off + k + l.length)).toArray := by
 induction l with
 | nil => intro k off cs _; apply Array.ext'; simp
 | cons v l ih =>
  intro k off cs h
  simp only [List.length_cons] at h
  rw [List.zipIdx_cons, List.foldl_cons, ih (k + 1) off _ (by simp; omega)]
  apply Array.ext'
  simp only [Array.toList_setIfInBounds, List.length_cons]
  have h1 : off + k < cs.toList.length := by simp; omega
  have e1 : (cs.toList.set (off + k) v).take (off + (k + 1)) = cs.toList.take (off + k) ++ [v] := by
   rw [show off + (k + 1) = off + k + 1 by omega, List.take_set, List.take_add_one, List.getElem?_eq_getElem h1]
   have hm : (cs.toList.take (off + k)).length = off + k := by rw [List.length_take]; omega
   rw [List.set_append_right _ _ (by omega), hm, Nat.sub_self]
   rfl
  have e2 : (cs.toList.set (off + k) v).drop (off + (k + 1) + l.length) = cs.toList.drop (off + k + (l.length + 1)) := by
   rw [List.drop_set, if_pos (by omega), show off + (k + 1) + l.length = off + k + (l.length + 1) by omega]
  rw [e1, e2]
  simp
theorem fill_one {place : Nat -> Option (Nat × Nat)} {cs : Array Value} {i off size : Nat} {v : Value} {r : List (Nat × Value)} (hp : place i = some (off, size)) (h1 : v.cells.size = size) (h2 : off + size <= cs.size) :
  Instr.fill place cs ((i, v) :: r) = Instr.fill place (cs.toList.take off ++ v.cells.toList ++ cs.toList.drop (off + size)).toArray r := by
 rw [Instr.fill]
 simp only [hp]
 rw [if_neg (by simp [h1]; omega)]
 congr 1
 have := fold_fill v.cells.toList 0 off cs (by simp [h1]; omega)
 rw [<- Array.foldl_toList, Array.toList_zipIdx]
 simpa [h1] using this
inductive PsR (place : Nat -> Option (Nat × Nat)) : List (Nat × Operand) -> List (Nat × Nat × Opd) -> Prop where
 | nil : PsR place [] []
 | cons {i off size : Nat} {x : Operand} {l : List (Nat × Operand)} {l' : List (Nat × Nat × Opd)} (h : place i = some (off, size)) (t : PsR place l l') : PsR place ((i, x) :: l) ((off, size, dO x) :: l')
theorem bldL_ok {T : TF} {place : Nat -> Option (Nat × Nat)} {l : List (Nat × Operand)} {ps : List (Nat × Nat × Opd)} (hp : PsR place l ps) : ∀ {z : List Value} {k : List Value -> R} {v : Value} {m0 : Me}, bldL T ps z k = .ok v m0 -> ∃ u, k u = .ok v m0 /\ u.length = z.length /\
  (∀ (E : En) (a : Act), (∀ x ∈ l, VR E (opd (dO x.2) T) (a.eval x.2)) -> ∀ z', VRs E z z' -> ∃ cs, Instr.fill place ⟨z'⟩ (l.map fun x => (x.1, a.eval x.2)) = some cs /\ VRs E u cs.toList) := by
 induction hp with
 | nil => intro z k v m0 h; exact ⟨z, h, rfl, fun _ _ _ z' hz => ⟨_, rfl, hz⟩⟩
 | @cons i off size x l l' hpl t ih =>
  intro z k v m0 h
  change (bif Nat.beq (lenL (cellsL (opd (dO x) T))) size && Nat.ble (off + size) (lenL z) then bldL T l' (overL (cellsL (opd (dO x) T)) off z) k else .no [61]) = _ at h
  obtain ⟨hb, h⟩ := bif_ok h
  rw [Bool.and_eq_true] at hb
  have h1 := Nat.eq_of_beq_eq_true hb.1
  have h2 := Nat.le_of_ble_eq_true hb.2
  rw [lenL_eq] at h1 h2
  obtain ⟨u, g1, g2, g3⟩ := ih h
  have hov : overL (cellsL (opd (dO x) T)) off z = z.take off ++ (cellsL (opd (dO x) T) ++ z.drop (off + size)) := by
   unfold overL; rw [appL_eq, appL_eq, takeL_eq, dropL_eq, lenL_eq, h1]
  refine ⟨u, g1, ?_, fun E a hr z' hz => ?_⟩
  ·rw [g2, hov]
   simp [h1]
   omega
  ·have hx := (hr (i, x) (by simp)).cells
   obtain ⟨cs, q1, q2⟩ := g3 E a (fun y hy => hr y (by simp [hy])) (z'.take off ++ ((a.eval x).cells.toList ++ z'.drop (off + size))) (by
    rw [hov]
    exact (hz.take off).app (hx.app (hz.drop (off + size))))
   refine ⟨cs, ?_, q2⟩
   rw [List.map_cons, fill_one hpl (by have := hx.length; rw [h1] at this; simpa using this) (by have := hz.length; simp; omega)]
   rw [<- q1]
   congr 2
   simp
theorem placesI_ok {P : Program} {fs : Array Field} : ∀ {l : List (Nat × Operand)} {ps : List (Nat × Nat × Opd)}, placesI P fs l = some ps -> PsR (fun i => (fs[i]?).bind fun f => (P.info? f.type).map fun k => (f.offset, k.size)) l ps := by
 intro l
 induction l with
 | nil => intro ps h; simp [placesI] at h; subst h; exact .nil
 | cons p l ih =>
  intro ps h
  obtain ⟨i, x⟩ := p
  unfold placesI at h
  rw [List.mapM_cons] at h
  cases hf : fs[i]? with
  | none => simp [hf] at h
  | some f =>
   cases hi : P.info? f.type with
   | none => simp [hf, hi] at h
   | some k =>
    cases hr : placesI P fs l with
    | none => unfold placesI at hr; simp [hf, hi, hr] at h
    | some r =>
     have hr' := hr
     unfold placesI at hr
     simp [hf, hi, hr] at h
     subst h
     exact .cons (by simp [hf, hi]) (ih hr')
theorem mapM_places {P : Program} (fs : List Field) (w : World) : (∀ f ∈ fs, (P.info? f.type).isSome = true) -> (fs.mapM fun f => (do pure (f.offset, <- sizeOf f.type) : Sem (Nat × Nat))).run P w = .ok (fs.map fun f => (f.offset, P.cellsOf f.type)) w := by
 induction fs with
 | nil => intro _; rfl
 | cons f fs ih =>
  intro h
  obtain ⟨i, hi⟩ := Option.isSome_iff_exists.1 (h f (by simp))
  rw [List.mapM_cons, Sem.run_bind, Sem.run_bind]
  have : (sizeOf f.type).run P w = .ok (P.cellsOf f.type) w := by
   unfold sizeOf Program.cellsOf
   rw [Sem.run_bind, run_ti hi]
   simp [Result.andThen, hi]
  rw [this]
  simp only [Result.andThen, Sem.run_pure, Sem.run_bind, ih fun g hg => h g (by simp [hg])]
  rfl
theorem fill_congr {p q : Nat -> Option (Nat × Nat)} : ∀ (l : List (Nat × Value)) (cs : Array Value), (∀ x ∈ l, p x.1 = q x.1) -> Instr.fill p cs l = Instr.fill q cs l := by
 intro l
 induction l with
 | nil => intro cs _; rfl
 | cons x l ih =>
  intro cs h
  obtain ⟨i, v⟩ := x
  rw [Instr.fill, Instr.fill, h (i, v) (by simp)]
  cases q i with
  | none => rfl
  | some r =>
   simp only
   split
   ·rfl
   ·exact ih _ fun y hy => h y (by simp [hy])
theorem PsR.has {place : Nat -> Option (Nat × Nat)} {l : List (Nat × Operand)} {ps : List (Nat × Nat × Opd)} (h : PsR place l ps) : ∀ x ∈ l, ∃ r, place x.1 = some r := by
 induction h with
 | nil => intro x hx; cases hx
 | cons h t ih =>
  intro x hx
  rcases List.mem_cons.1 hx with rfl | hx
  ·exact ⟨_, h⟩
  ·exact ih x hx
theorem parts_or {E : En} {T : TF} {a : Act} {o : Oper} {ps : Array (Nat × Operand)} (ho : (∃ t, o.op = .build t ps) \/ ∃ t n, o.op = .buildSlice t n ps) (q : OrR E T a o) : ∀ x ∈ ps.toList, VR E (opd (dO x.2) T) (a.eval x.2) := fun x hx => q x.2 (by
 rcases ho with ⟨t, ho⟩ | ⟨t, n, ho⟩ <;> simp only [ho, Op.operands] <;> (simp; exact ⟨x.1, by simpa using hx⟩))
theorem s_bld1 {o : Oper} {t : TypeId} {z : Value} {fs : Array Field} {ps : Array (Nat × Operand)} {l : List (Nat × Nat × Opd)} (ho : o.op = .build t ps) (hz : zeroE Tryz.prog t = some z) (hu : Tryz.prog.underlying t = some (.struct fs)) (hl : placesI Tryz.prog fs ps.toList = some l) (hi : fs.toList.all (fun f => (Tryz.prog.info? f.type).isSome) = true) : SoundI (opBld (cellsL z) l) o := by
 have hp := placesI_ok hl
 rw [List.all_eq_true] at hi
 refine sound_pure fun T m k v m0 h => ?_
 obtain ⟨u, h1, -, h3⟩ := bldL_ok hp h
 refine ⟨_, h1, fun E a q => ?_⟩
 obtain ⟨cs, h4, h5⟩ := h3 E a (parts_or (.inl ⟨t, ho⟩) q) _ (flat_vr E z (zeroI_ok hz default).2).cells
 rw [show (⟨z.cells.toList⟩ : Array Value) = z.cells from Array.toArray_toList] at h4
 refine ⟨.agg cs, .agg h5, fun w => ?_⟩
 simp only [execOp, ho]
 refine ex_val ?_
 have hm := mapM_places (P := Tryz.prog) fs.toList w hi
 have hm' : (fs.mapM fun f => (do pure (f.offset, <- sizeOf f.type) : Sem (Nat × Nat))).run Tryz.prog w = .ok (fs.toList.map fun f => (f.offset, Tryz.prog.cellsOf f.type)).toArray w := by
  rw [Array.mapM_eq_mapM_toList, Sem.run_map, hm]
  rfl
 unfold Instr.build
 rw [Sem.run_bind, (zeroI_ok hz w).1]
 simp only [Result.andThen, Sem.run_bind, run_und hu, hm', Array.toList_map]
 have hc : ∀ x ∈ (ps.toList.map fun x => (x.1, a.eval x.2)), ((fs.toList.map fun f => (f.offset, Tryz.prog.cellsOf f.type)).toArray[x.1]? : Option (Nat × Nat)) = (fs[x.1]?).bind fun f => (Tryz.prog.info? f.type).map fun k => (f.offset, k.size) := fun x hx => by
  cases hf : fs[x.1]? with
  | none => simp [hf]
  | some f =>
   obtain ⟨i, hi'⟩ := Option.isSome_iff_exists.1 (hi f (by have := Array.mem_of_getElem? hf; simpa using this))
   simp [hf, hi', Program.cellsOf]
 have hF : Instr.fill (fun i => (fs.toList.map fun f => (f.offset, Tryz.prog.cellsOf f.type)).toArray[i]?) z.cells (ps.toList.map fun x => (x.1, a.eval x.2)) = some cs := by
  rw [<- h4]
  exact fill_congr _ _ hc
 simp only [hF]
 rfl
theorem s_bld2 {o : Oper} {t e : TypeId} {z : Value} {n : Nat} {r : Bool × Nat} {ps : Array (Nat × Operand)} (ho : o.op = .build t ps) (hz : zeroE Tryz.prog t = some z) (hu : Tryz.prog.underlying t = some (.array n e)) (ht : tyI Tryz.prog e = some r) : SoundI (opBld (cellsL z) (ps.toList.map fun p => (p.1 * r.2, r.2, dO p.2))) o := by
 have hp : ∀ l : List (Nat × Operand), PsR (fun i => some (i * r.2, r.2)) l (l.map fun p => (p.1 * r.2, r.2, dO p.2)) := fun l => by
  induction l with
  | nil => exact .nil
  | cons x l ih => exact .cons rfl ih
 refine sound_pure fun T m k v m0 h => ?_
 obtain ⟨u, h1, -, h3⟩ := bldL_ok (hp _) h
 refine ⟨_, h1, fun E a q => ?_⟩
 obtain ⟨cs, h4, h5⟩ := h3 E a (parts_or (.inl ⟨t, ho⟩) q) _ (flat_vr E z (zeroI_ok hz default).2).cells
 rw [show (⟨z.cells.toList⟩ : Array Value) = z.cells from Array.toArray_toList] at h4
 refine ⟨.agg cs, .agg h5, fun w => ?_⟩
 simp only [execOp, ho]
 refine ex_val ?_
 unfold Instr.build
 rw [Sem.run_bind, (zeroI_ok hz w).1]
 simp only [Result.andThen, Sem.run_bind, run_und hu, (tyI_ok ht w).2, Array.toList_map]
 rw [h4]
 rfl
def TrR (E : En) (tr : Tr Value) (n : Nat) (xs : List Value) : Prop := xs.length = n /\ ∀ i v, i < n -> getP tr (path i) = some v -> ∃ x, xs[i]? = some x /\ VR E v x
theorem TrR.mono {E E' : En} {tr : Tr Value} {n : Nat} {xs : List Value} (h : TrR E tr n xs) (he : Ext E E') : TrR E' tr n xs :=
 ⟨h.1, fun i v hi hv => let ⟨x, hx, hr⟩ := h.2 i v hi hv; ⟨x, hx, hr.mono he⟩⟩
theorem TrR.of {E : En} {l xs : List Value} (h : VRs E l xs) (hl : l.length <= LIM) : TrR E (putL l 0 .nil) l.length xs :=
 ⟨h.length, fun i v hi hv => by
  rw [putL_get _ 0 .nil (by omega) i (by omega), if_pos (by omega), Nat.sub_zero] at hv
  exact h.get hv⟩
theorem TrR.put {E : En} {tr : Tr Value} {n off : Nat} {xs l l' : List Value} (h : TrR E tr n xs) (hn : n <= LIM) (hl : VRs E l l') (hb : off + l.length <= n) : TrR E (putL l off tr) n (xs.take off ++ l' ++ xs.drop (off + l.length)) := by
 have h1 := h.1
 have h2 := hl.length
 refine ⟨by simp; omega, fun i v hi hv => ?_⟩
 rw [putL_get _ off tr (by omega) i (by omega)] at hv
 have ht : (xs.take off).length = off := by rw [List.length_take]; omega
 by_cases hc : off <= i /\ i < off + l.length
 ·rw [if_pos hc] at hv
  obtain ⟨x, hx, hr⟩ := hl.get hv
  refine ⟨x, ?_, hr⟩
  rw [List.getElem?_append_left (by simp; omega), List.getElem?_append_right (by omega), ht]
  exact hx
 ·rw [if_neg hc] at hv
  obtain ⟨x, hx, hr⟩ := h.2 i v hi hv
  refine ⟨x, ?_, hr⟩
  by_cases hlt : i < off
  ·rw [List.getElem?_append_left (by simp; omega), List.getElem?_append_left (by omega), List.getElem?_take, if_pos hlt]
   exact hx
  ·rw [List.getElem?_append_right (by simp; omega)]
   simp only [List.length_append, ht, h2, List.getElem?_drop]
   rw [show off + l.length + (i - (off + l.length)) = i by omega]
   exact hx
theorem lies_tr {E : En} {w' : World} {b z : Nat} {tr : Tr Value} {ty : TypeId} {xs : List Value} {n : Nat} (h : TrR E tr n xs) (hz : z = n) (hlim : n <= LIM) (hb : w'.heap[b]? = some (.cells ⟨xs⟩ ty (0, 0))) : Lies E w' ⟨b, 0, z⟩ (.cells n tr ty) := by
 refine ⟨⟨xs⟩, hb, by show xs.length = z; rw [h.1, hz], by show 0 + n <= z; omega, hlim, fun i v hi hv => ?_⟩
 obtain ⟨x, hx, hr⟩ := h.2 i v hi hv
 exact ⟨x, by simpa using hx, hr⟩
theorem sat_newT {o : Oper} {T : TF} {m : Me} {k : KV} {v : Value} {m0 : Me} {n : Nat} {tr : Tr Value} {ty : TypeId} {f : Nat -> Value} (hko : kindO o = 2) (hc : m.c <= LIM) (hn : n <= LIM) (hk : k (f m.c) ⟨setP (.cells n tr ty) (path m.c) m.H, m.c + 1, m.A, m.W⟩ = .ok v m0)
  (h : ∀ E a, OrR E T a o -> ∃ xs, TrR E tr n xs /\ ∀ w, ∃ x, (execOp a.eval o).run Tryz.prog w = .ok (.value x) (w.alloc (.cells ⟨xs⟩ ty)) /\ ∀ E' : En, E' m.c = some ⟨w.heap.size, 0, n⟩ -> VR E' (f m.c) x) : SAt o T m k v m0 := by
 refine ⟨f m.c, _, m.c + 1, 0, 0, by rw [lor0, lor0]; exact hk, new_stc hc, fun E M w a p r K Q hK => ?_, fun h => by omega, fun h => by omega⟩
 obtain ⟨xs, h2, h4⟩ := h E a r
 obtain ⟨x, h5, h6⟩ := h4 w
 have hu : upd E m.c ⟨w.heap.size, 0, n⟩ m.c = some ⟨w.heap.size, 0, n⟩ := by unfold upd; rw [if_pos rfl]
 refine wp_val h5 (hK _ x _ (h6 _ hu) (new_trn p hc (O := .cells ⟨xs⟩ ty) rfl rfl rfl rfl ?_))
 refine lies_tr (h2.mono (upd_ext (p.new _ (Nat.le_refl _) (Nat.lt_succ_self _)))) rfl hn ?_
 show (w.heap.push _)[w.heap.size]? = _
 simp
theorem blsL_ok {T : TF} {n : Nat} {place : Nat -> Option (Nat × Nat)} {l : List (Nat × Operand)} {ps : List (Nat × Nat × Opd)} (hp : PsR place l ps) (hn : n <= LIM) : ∀ {tr : Tr Value} {k : Tr Value -> R} {v : Value} {m0 : Me}, blsL T n ps tr k = .ok v m0 -> ∃ u, k u = .ok v m0 /\
  (∀ (E : En) (a : Act), (∀ x ∈ l, VR E (opd (dO x.2) T) (a.eval x.2)) -> ∀ z', TrR E tr n z' -> ∃ cs, Instr.fill place ⟨z'⟩ (l.map fun x => (x.1, a.eval x.2)) = some cs /\ TrR E u n cs.toList) := by
 induction hp with
 | nil => intro tr k v m0 h; exact ⟨tr, h, fun _ _ _ z' hz => ⟨_, rfl, hz⟩⟩
 | @cons i off size x l l' hpl t ih =>
  intro tr k v m0 h
  change (bif Nat.beq (lenL (cellsL (opd (dO x) T))) size && Nat.ble (off + size) n then blsL T n l' (putL (cellsL (opd (dO x) T)) off tr) k else .no [62]) = _ at h
  obtain ⟨hb, h⟩ := bif_ok h
  rw [Bool.and_eq_true] at hb
  have h1 := Nat.eq_of_beq_eq_true hb.1
  have h2 := Nat.le_of_ble_eq_true hb.2
  rw [lenL_eq] at h1
  obtain ⟨u, g1, g3⟩ := ih h
  refine ⟨u, g1, fun E a hr z' hz => ?_⟩
  have hx := (hr (i, x) (by simp)).cells
  have hl := hx.length
  obtain ⟨cs, q1, q2⟩ := g3 E a (fun y hy => hr y (by simp [hy])) _ (hz.put hn hx (by omega))
  refine ⟨cs, ?_, q2⟩
  rw [List.map_cons, fill_one hpl (by rw [h1] at hl; simpa using hl) (by have := hz.1; simp; omega), <- q1]
  congr 2
  rw [h1]
theorem repE_succ (n : Nat) (l : List Value) : repE (n + 1) l = l ++ repE n l := appL_eq _ _
theorem repL_length (n : Nat) (l : List Value) : (repE n l).length = n * l.length := by
 induction n with
 | zero => rw [Nat.zero_mul]; rfl
 | succ n ih => rw [repE_succ, List.length_append, ih, Nat.succ_mul, Nat.add_comm]
theorem repE_get (l : List Value) : ∀ (n i : Nat), i < n * l.length -> (repE n l)[i]? = l[i % l.length]? := by
 intro n
 induction n with
 | zero => intro i h; simp at h
 | succ n ih =>
  intro i h
  rw [repE_succ]
  by_cases hi : i < l.length
  ·rw [List.getElem?_append_left hi, Nat.mod_eq_of_lt hi]
  ·rw [List.getElem?_append_right (by omega), ih _ (by rw [Nat.succ_mul] at h; omega), <- Nat.mod_eq_sub_mod (by omega)]
theorem zeros_eq (z : Array Value) (n : Nat) : ((Array.range (n * z.size)).map fun j => z[j % z.size]!).toList = repE n z.toList := by
 apply List.ext_getElem?
 intro i
 by_cases hi : i < n * z.size
 ·have hp : 0 < z.size := by
   rcases Nat.eq_zero_or_pos z.size with h | h
   ·rw [h] at hi; simp at hi
   ·exact h
  rw [repE_get _ _ _ (by simpa using hi)]
  have hm : i % z.size < z.size := Nat.mod_lt _ hp
  simp [hi, hm]
 ·rw [List.getElem?_eq_none (by simpa using hi), List.getElem?_eq_none (by rw [repL_length]; simpa using hi)]
theorem s_bls {o : Oper} {t e : TypeId} {z : Value} {len : Nat} {r : Bool × Nat} {ps : Array (Nat × Operand)} (ho : o.op = .buildSlice t len ps) (hu : Tryz.prog.underlying t = some (.slice e)) (ht : tyI Tryz.prog e = some r) (hz : zeroE Tryz.prog e = some z) (h1 : len <= 10000) (h2 : len * r.2 <= 10000) (h3 : (cellsL z).length = r.2) :
  SoundI (opBls len (len * r.2) (putL (repE len (cellsL z)) 0 .nil) (ps.toList.map fun p => (p.1 * r.2, r.2, dO p.2)) e) o := by
 have hp : ∀ l : List (Nat × Operand), PsR (fun i => some (i * r.2, r.2)) l (l.map fun p => (p.1 * r.2, r.2, dO p.2)) := fun l => by
  induction l with
  | nil => exact .nil
  | cons x l ih => exact .cons rfl ih
 have hlim : len * r.2 <= LIM := by unfold LIM; omega
 intro T m k v m0 h _
 obtain ⟨tr, h, hb⟩ := blsL_ok (hp _) hlim h
 obtain ⟨hc, h⟩ := newO_ok h
 have hf := (zeroI_ok hz default).2
 have hzc : VRs (fun _ => none) (cellsL z) z.cells.toList := (flat_vr _ z hf).cells
 have hzl := hzc.length
 refine sat_newT (f := fun d => .slice (some ⟨d, 0, none⟩) len len) (by unfold kindO; rw [ho]) hc hlim h fun E a q => ?_
 have hz0 : VRs E (repE len (cellsL z)) (repE len z.cells.toList) := by
  have := (flat_vr E z hf).cells
  generalize len = n
  induction n with
  | zero => exact .nil
  | succ n ih => rw [repE_succ, repE_succ]; exact this.app ih
 have ht0 : TrR E (putL (repE len (cellsL z)) 0 .nil) (len * r.2) (repE len z.cells.toList) := by
  have := TrR.of hz0 (by rw [repL_length, h3]; exact hlim)
  rwa [repL_length, h3] at this
 obtain ⟨cs, h4, h5⟩ := hb E a (parts_or (.inr ⟨t, len, ho⟩) q) _ ht0
 refine ⟨cs.toList, h5, fun w => ⟨_, ?_, fun E' he => by have := VR.sl (E := E') 0 len len he (by unfold OPEN; omega); simpa using this⟩⟩
 simp only [execOp, ho]
 refine ex_val ?_
 unfold Instr.buildSlice
 rw [Sem.run_bind, run_und hu]
 simp only [Result.andThen, Sem.run_bind, (tyI_ok ht w).2]
 rw [Sem.run_ite, if_neg (by omega)]
 have hzs : z.cells.size = r.2 := by have := hzl; rw [h3] at this; simpa using this
 by_cases h0 : len * r.2 = 0
 ·have hA : (⟨repE len z.cells.toList⟩ : Array Value) = #[] := by
   have : repE len z.cells.toList = [] := List.eq_nil_of_length_eq_zero (by rw [repL_length]; simpa [hzs] using h0)
   rw [this]
  rw [hA] at h4
  have hB : ∀ f : Nat -> Value, (Array.range (len * r.2)).map f = #[] := fun f => by rw [h0]; simp
  simp only [if_pos h0, hB]
  rw [show (ps.map fun x => (x.1, a.eval x.2)).toList = ps.toList.map fun x => (x.1, a.eval x.2) from Array.toList_map, h4]
  simp [newRow, Result.andThen]
 ·have hA : (Array.range (len * r.2)).map (fun j => z.cells[j % z.cells.size]!) = (⟨repE len z.cells.toList⟩ : Array Value) := by
   apply Array.ext'
   have := zeros_eq z.cells len
   rw [hzs] at this
   rw [hzs]
   exact this
  simp only [if_neg h0, Sem.run_bind, (zeroI_ok hz w).1, Sem.run_pure, Result.andThen, hA]
  rw [show (ps.map fun x => (x.1, a.eval x.2)).toList = ps.toList.map fun x => (x.1, a.eval x.2) from Array.toList_map, h4]
  simp [newRow, Result.andThen]
end Go.Proofs.YthejfklieedjmaaGreatDoor
