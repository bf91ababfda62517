/- Part 26 of the proof of lawSum.card: EvOpsH, EvOpsI, EvOpsJ, EvOpsK, EvOpsL. Conditions: those of each theorem. -/
import Derived.Deep.AppendSrc
import Derived.Deep.Upon
import Derived.Laws.IdiomStrings
import Derived.Laws.BytesArg
import Derived.Test.YthejfklieedjmaaGreatDoorQs01
import Derived.Test.YthejfklieedjmaaGreatDoorQs25
namespace Go.Proofs.YthejfklieedjmaaGreatDoor
open Go
theorem repE_vr {E : En} {l l' : List Value} (h : VRs E l l') (n : Nat) : VRs E (repE n l) (repE n l') := by
 induction n with
 | zero => exact .nil
 | succ n ih => rw [repE_succ, repE_succ]; exact h.app ih
theorem s_mks {o : Oper} {t e : TypeId} {z : Value} {r : Bool × Nat} {i : TypeInfo} {x y : Operand} (ho : o.op = .makeSlice t x y) (hu : Tryz.prog.underlying t = some (.slice e)) (ht : tyI Tryz.prog e = some r) (hz : zeroE Tryz.prog e = some z) (hi : Tryz.prog.info? e = some i) (hb : i.bytes <= 1000000) (h3 : (cellsL z).length = r.2) : SoundI (opMks r.2 (cellsL z) e (dO x) (dO y)) o := by
 intro T m k v m0 h _
 obtain ⟨j1, l, e1, h⟩ := vNat_ok h
 obtain ⟨j2, c, e2, h⟩ := vNat_ok h
 obtain ⟨hc, h⟩ := bif_ok h
 rw [Bool.and_eq_true] at hc
 have hlc := Nat.le_of_ble_eq_true hc.1
 have hc1 := Nat.le_of_ble_eq_true hc.2
 obtain ⟨h1, h2, tr, h4, h⟩ := newL_ok h
 have hf := (zeroI_ok hz default).2
 have hzs : z.cells.size = r.2 := by have := (flat_vr (fun _ => none) z hf).cells.length; rw [h3] at this; simpa using this
 refine sat_new (f := fun d => .slice (some ⟨d, 0, none⟩) l c) (by unfold kindO; rw [ho]) h2 h1 h fun E a q => ⟨_, repE c z.cells.toList, rfl, ?_, h4, fun w => ⟨_, ?_, fun E' he => by have := VR.sl (E := E') 0 l c he (by unfold OPEN; omega); simpa using this⟩⟩
 ·exact repE_vr (flat_vr E z hf).cells c
 ·have q1 := flat_eq (q x (by simp [ho, Op.operands])) (by rw [e1]; rfl)
  have q2 := flat_eq (q y (by simp [ho, Op.operands])) (by rw [e2]; rfl)
  simp only [execOp, ho]
  refine ex_val ?_
  rw [q1, q2, e1, e2]
  have w1 : IntKind.i64.wrap (Int.ofNat l) = Int.ofNat l := IntWalk.i64_in _ (by have : (Int.ofNat l) = (l : Int) := rfl; omega)
  have w2 : IntKind.i64.wrap (Int.ofNat c) = Int.ofNat c := IntWalk.i64_in _ (by have : (Int.ofNat c) = (c : Int) := rfl; omega)
  have hbc : (i.bytes : Int) * (c : Int) <= 281474976710656 := by
   have h0 : i.bytes * c <= 1000000 * 1000 := Nat.mul_le_mul hb hc1
   have h5 : (i.bytes : Int) * (c : Int) = ((i.bytes * c : Nat) : Int) := (Int.natCast_mul _ _).symm
   omega
  have hcond : ((decide ((Int.ofNat c) < 0) || decide ((i.bytes : Int) * (Int.ofNat c) > 2 ^ 48)) || decide ((Int.ofNat l) < 0) || decide ((Int.ofNat l) > (Int.ofNat c))) = false := by
   have e3 : (Int.ofNat c) = (c : Int) := rfl
   have e4 : (Int.ofNat l) = (l : Int) := rfl
   simp only [e3, e4]
   simp only [Bool.or_eq_false_iff, decide_eq_false_iff_not]
   refine ⟨⟨⟨by omega, by omega⟩, by omega⟩, by omega⟩
  unfold Instr.makeSlice
  rw [Sem.run_bind, run_und hu]
  simp only [Result.andThen, Sem.run_bind, asInt, asIntOf, Sem.run_pure, run_ti hi, w1, w2]
  rw [if_neg (by rw [Bool.not_eq_true]; exact hcond)]
  have hn : (Int.ofNat c).toNat = c := rfl
  have hn' : (Int.ofNat l).toNat = l := rfl
  simp only [Sem.run_bind, run_askRoom, Result.andThen, hn, hn', (tyI_ok ht w).2]
  by_cases h0 : c * r.2 = 0
  ·have hA : (⟨repE c z.cells.toList⟩ : Array Value) = #[] := by
    have : repE c z.cells.toList = [] := List.eq_nil_of_length_eq_zero (by rw [repL_length]; simpa [hzs] using h0)
    rw [this]
   have hB : ∀ f : Nat -> Value, (Array.range (c * r.2)).map f = #[] := fun f => by rw [h0]; simp
   simp only [if_pos h0, hB, hA]
   simp [newRow, Result.andThen]
  ·have hA : (Array.range (c * r.2)).map (fun j => z.cells[j % z.cells.size]!) = (⟨repE c z.cells.toList⟩ : Array Value) := by
    apply Array.ext'
    have := zeros_eq z.cells c
    rw [hzs] at this
    rw [hzs]
    exact this
   simp only [if_neg h0, Sem.run_bind, (zeroI_ok hz w).1, Sem.run_pure, Result.andThen, hA]
   simp [newRow, Result.andThen]
theorem s_mkm {o : Oper} {t : TypeId} (ho : o.op = .makeMap t none) : SoundI opMkm o := by
 intro T m k v m0 h _
 obtain ⟨hc, h⟩ := newO_ok h
 have hko : kindO o = 2 := by unfold kindO; rw [ho]
 refine ⟨_, _, m.c + 1, 0, 0, by rw [lor0, lor0]; exact h, new_stc hc, fun E M w a p r K Q hK => ?_, fun h => by omega, fun h => by omega⟩
 have hu : upd E m.c ⟨w.heap.size, 0, 0⟩ m.c = some ⟨w.heap.size, 0, 0⟩ := by unfold upd; rw [if_pos rfl]
 refine wp_val (x := .map (some w.heap.size)) (w' := w.alloc (.map #[] 0)) ?_ (hK _ _ _ (.map hu) (new_trn p hc (O := .map #[] 0) rfl rfl rfl rfl ⟨#[], 0, ?_, .nil⟩))
 ·simp only [execOp, ho]
  refine ex_val ?_
  simp [Instr.makeMap, Result.andThen]
 ·show (w.heap.push _)[w.heap.size]? = _
  simp
theorem put_stc {H : HH} {c n : Nat} {ob ob' : AO} (hn : n <= LIM + 1) (h1 : hd H n = some ob) (hg : ob ≠ .gone) (hnc : n < c) : Stc H c (setP ob' (path n) H) c (bit n) (bit n) where
 le := Nat.le_refl _
 lim := id
 same i hi _ hw := by
  rw [hd_set _ _ _ hn hi, if_neg]
  rw [bit_test] at hw
  simpa using hw
 acc _ _ h := h
 live i _ h := by
  rw [bit_test] at h
  have := of_decide_eq_true h
  subst this
  exact ⟨ob, h1, hg⟩
 free h i h2 h3 := by
  rw [hd_set _ _ _ hn h3, if_neg (by omega)]
  exact h i h2 h3
 wlt i h := by
  rw [bit_test] at h
  have := of_decide_eq_true h
  omega
theorem put_trn {E : En} {H : HH} {c A n : Nat} {M : Nat -> Prop} {w w' : World} {l : Lo} {ob ob' : AO} (p : Pre E H c c A M w) (ha : A.testBit n = true) (he : E n = some l) (h1 : hd H n = some ob) (hg : ob ≠ .gone) (hnc : n < c)
  (hw : ∀ b, b ≠ l.b -> w'.heap[b]? = w.heap[b]?) (hs : w'.heap.size = w.heap.size) (h3 : w'.os = w.os) (h4 : w'.tape = w.tape) (h5 : w'.output = w.output) (hl : Lies E w' l ob') : Trn c c (setP ob' (path n) H) (bit n) M E w E w' := by
 have hn := p.lim n l he
 have hM := p.acc n ha
 have key : ∀ i o', i <= LIM + 1 -> M i -> hd (setP ob' (path n) H) i = some o' -> o' ≠ .gone -> ∃ o'', hd H i = some o'' /\ o'' ≠ .gone := fun i o' hi hm hh hgo => by
  rw [hd_set _ _ _ hn hi] at hh
  by_cases hin : i = n
  ·subst hin; exact ⟨ob, h1, hg⟩
  ·rw [if_neg hin] at hh; exact ⟨o', hh, hgo⟩
 refine ⟨fun _ _ h => h, fun _ h _ => h, ⟨fun i o' hi hm hh hgo => ?_, fun i j o' o'' l1 l2 hi hj hm hm' hh hgo hh' hgo' e1 e2 hb => ?_⟩, by omega, fun b _ hb => ⟨hw b fun h => hb n l hnc (by rw [bit_test]; simp) he h.symm, fun _ _ h1 h2 => absurd h2 (by omega)⟩, h3, h4, h5⟩
 ·by_cases hin : i = n
  ·subst hin
   rw [hd_set _ _ _ hn hn, if_pos rfl] at hh
   injection hh with hh
   subst hh
   exact ⟨l, he, hl⟩
  ·have hh2 := hh
   rw [hd_set _ _ _ hn hi, if_neg hin] at hh2
   obtain ⟨l', g1, g2⟩ := p.ag.lies i o' hi hm hh2 hgo
   exact ⟨l', g1, g2.move (fun _ _ h => h) (hw _ fun hb => hin (p.ag.inj i n o' ob l' l hi hn hm hM hh2 hgo h1 hg g1 he hb))⟩
 ·obtain ⟨p1, q1, r1⟩ := key i o' hi hm hh hgo
  obtain ⟨p2, q2, r2⟩ := key j o'' hj hm' hh' hgo'
  exact p.ag.inj i j p1 p2 l1 l2 hi hj hm hm' q1 r1 q2 r2 e1 e2 hb
theorem Pre.lt {E : En} {H : HH} {c c' A n : Nat} {M : Nat -> Prop} {w : World} {ob : AO} (p : Pre E H c c' A M w) (hn : n <= LIM + 1) (h : hd H n = some ob) : n < c := by
 rcases Nat.lt_or_ge n c with h1 | h1
 ·exact h1
 ·rw [p.free n h1 hn] at h; cases h
theorem lies_over {E : En} {w : World} {l : Lo} {z off : Nat} {tr : Tr Value} {ty : TypeId} {ls xs : List Value} (h : Lies E w l (.cells z tr ty)) (hr : VRs E ls xs) (hb : off + ls.length <= z) : ∃ cs : Array Value, w.heap[l.b]? = some (.cells cs ty (0, 0)) /\ l.sh + off + xs.length <= cs.size /\
  Lies E (w.setRow l.b (cs.toList.take (l.sh + off) ++ xs ++ cs.toList.drop (l.sh + off + xs.length)).toArray) l (.cells z (putL ls off tr) ty) := by
 obtain ⟨cs, g1, g2, g3, g4, g5⟩ := h
 have hx := hr.length
 refine ⟨cs, g1, by omega, _, setRow_heap _ _ _ _ _ _ g1, by simp; omega, g3, g4, fun i v hi hv => ?_⟩
 rw [putL_get _ off tr (by omega) i (by omega)] at hv
 have ht : (cs.toList.take (l.sh + off)).length = l.sh + off := by rw [List.length_take]; simp; omega
 have hsz : cs.toList.length = cs.size := by simp
 rw [List.getElem?_toArray]
 by_cases hc : off <= i /\ i < off + ls.length
 ·rw [if_pos hc] at hv
  obtain ⟨x, hx', hr'⟩ := hr.get hv
  refine ⟨x, ?_, hr'⟩
  rw [List.getElem?_append_left (by simp; omega), List.getElem?_append_right (by omega), ht, show l.sh + i - (l.sh + off) = i - off by omega]
  exact hx'
 ·rw [if_neg hc] at hv
  obtain ⟨x, hx', hr'⟩ := g5 i v hi hv
  refine ⟨x, ?_, hr'⟩
  by_cases hlt : i < off
  ·rw [List.getElem?_append_left (by simp; omega), List.getElem?_append_left (by omega), List.getElem?_take, if_pos (by omega)]
   simpa using hx'
  ·rw [List.getElem?_append_right (by simp; omega)]
   simp only [List.length_append, ht, List.getElem?_drop]
   rw [show l.sh + off + xs.length + (l.sh + i - (l.sh + off + xs.length)) = l.sh + i by omega]
   simpa using hx'
theorem VRs.one {E : En} {ls xs : List Value} (h : VRs E ls xs) (h1 : ls.all oneB = true) : ∀ x ∈ xs, x.oneCell' = true := by
 induction ls generalizing xs with
 | nil => cases h; intro x hx; cases hx
 | cons v ls ih =>
  cases h with
  | cons hv ht =>
   rw [List.all_cons, Bool.and_eq_true] at h1
   intro x hx
   rcases List.mem_cons.1 hx with rfl | hx
   ·exact hv.one h1.1
   ·exact ih ht h1.2 x hx
theorem s_st {o : Oper} {t : TypeId} {x y : Operand} {r : Bool × Nat} (ho : o.op = .store t x y) (ht : tyI Tryz.prog t = some r) : SoundI (opSt r.2 (dO x) (dO y)) o := by
 intro T m k v m0 h hmc
 obtain ⟨n, off, e1, h⟩ := vPtr_ok h
 obtain ⟨ob, h1, h⟩ := look_ok h
 obtain ⟨z, tr, ty, rfl, h⟩ := oCells_ok h
 obtain ⟨hb, h⟩ := bif_ok h
 obtain ⟨hnc, h⟩ := put_ok h
 have hnc : n < m.c := hnc
 rw [Bool.and_eq_true, Bool.and_eq_true] at hb
 have c1 := Nat.eq_of_beq_eq_true hb.1
 have c2 := hb.2.1
 have c3 := Nat.le_of_ble_eq_true hb.2.2
 rw [allL_eq] at c2
 rw [lenL_eq] at c1
 have hko : kindO o = 2 := by unfold kindO; rw [ho]
 refine ⟨undef, _, m.c, bit n, bit n, h, put_stc (by omega) h1 (by simp) hnc, fun E M w a p q K Q hK => ?_, fun h => by omega, fun h => by omega⟩
 have hx := q x (by simp [ho, Op.operands])
 have hy := q y (by simp [ho, Op.operands])
 rw [e1] at hx
 generalize hg : a.eval x = g at hx
 cases hx with
 | @ptr _ l _ he =>
  have hL := p.lies he (by rw [bit_test]; simp) h1 (by simp)
  have hyc := hy.cells
  obtain ⟨cs, g1, g2, g3⟩ := lies_over (off := off) hL hyc (by rw [c1]; exact c3)
  refine wp_skp (w' := w.setRow l.b _) ?_ (hK E undef _ (.tup .nil) (put_trn p (by rw [bit_test]; simp) he h1 (by simp) hnc (fun b hb => setRow_other _ _ _ _ hb) (setRow_size _ _ _) rfl rfl rfl g3))
  simp only [execOp, ho]
  refine ex_skp ?_
  rw [hg]
  have hst := run_storeCells_at Tryz.prog l.b (l.sh + off) ty (a.eval y).cells.toList 0 cs w g1 (by simpa using g2) (hyc.one c2)
  simp only [Nat.add_zero] at hst
  unfold Instr.storeAt
  simp only [Instr.sureAddr, Sem.run_bind, Sem.run_pure, Result.andThen]
  unfold storeVar
  have hsz : (a.eval y).cells.size = r.2 := by have := hyc.length; rw [c1] at this; simpa using this
  simp only [Sem.run_bind, (tyI_ok ht w).2, Result.andThen, hsz]
  rw [if_neg (by simp)]
  simpa [hsz] using hst
def kindOf (ks : Bool) : TypeDesc := if ks then .string else .int .i64
theorem keyI_ok {P : Program} {t : TypeId} {ks : Bool} (h : keyI P t = some ks) : P.underlying t = some (kindOf ks) := by
 unfold keyI at h
 split at h
 ·rename_i hu; injection h with h; subst h; exact hu
 ·rename_i hu; injection h with h; subst h; exact hu
 ·cases h
theorem bbeq (a b : List UInt8) : ((⟨⟨a⟩⟩ : ByteArray) == ⟨⟨b⟩⟩) = (a == b) := by
 show ((⟨a⟩ : Array UInt8) == (⟨b⟩ : Array UInt8)) = (a == b)
 simp
def Fnd (E : En) (d : TypeDesc) (key : Value) (ms : List MapEntry) (i : Nat) : Option Value -> Prop
 | none => Instr.findNow d key ms i = some none
 | some u => ∃ j x, Instr.findNow d key ms i = some (some (j, x)) /\ VR E u x
theorem findE_ok {key : List UInt8} {f : Option Value -> R} {v : Value} {m0 : Me} {es : List (Value × Value)} (h : findE key f es = .ok v m0) : ∃ r, f r = .ok v m0 /\
  ∀ (E : En) (ms : List MapEntry), EnR E es ms -> ∀ i, Fnd E .string (.string ⟨⟨key⟩⟩) ms i r := by
 induction es with
 | nil => exact ⟨none, h, fun E ms hm i => by cases hm; rfl⟩
 | cons e es ih =>
  obtain ⟨k, u⟩ := e
  change (match k with
   | .string ⟨⟨a⟩⟩ => bif bytesEq key a then f (some u) else findE key f es
   | _ => .no [21]) = _ at h
  split at h
  ·rename_i a
   cases hb : bytesEq key a with
   | true =>
    rw [hb, cond_true] at h
    refine ⟨some u, h, fun E ms hm i => ?_⟩
    cases hm with
    | @cons _ _ e' _ l' hk hv t =>
     have hk' := flat_eq hk rfl
     refine ⟨i, e'.val, ?_, hv⟩
     rw [bytesEq_eq] at hb
     simp only [Instr.findNow, hk', Instr.sameNow, bbeq, hb]
   | false =>
    rw [hb, cond_false] at h
    obtain ⟨r, h1, h2⟩ := ih h
    refine ⟨r, h1, fun E ms hm i => ?_⟩
    cases hm with
    | @cons _ _ e' _ l' hk hv t =>
     have hk' := flat_eq hk rfl
     rw [bytesEq_eq] at hb
     have e1 : Instr.findNow .string (.string ⟨⟨key⟩⟩) (e' :: l') i = Instr.findNow .string (.string ⟨⟨key⟩⟩) l' (i + 1) := by
      simp only [Instr.findNow, hk', Instr.sameNow, bbeq, hb]
     have := h2 E l' t (i + 1)
     cases r with
     | none => exact e1.trans this
     | some u => obtain ⟨j, x, g1, g2⟩ := this; exact ⟨j, x, e1.trans g1, g2⟩
  ·cases h
theorem findI_ok {key : Int} {f : Option Value -> R} {v : Value} {m0 : Me} {es : List (Value × Value)} (h : findI key f es = .ok v m0) : ∃ r, f r = .ok v m0 /\
  ∀ (E : En) (ms : List MapEntry), EnR E es ms -> ∀ i, Fnd E (.int .i64) (.int .i64 key) ms i r := by
 induction es with
 | nil => exact ⟨none, h, fun E ms hm i => by cases hm; rfl⟩
 | cons e es ih =>
  obtain ⟨k, u⟩ := e
  change (match k with
   | .int .i64 a => bif eqI key a then f (some u) else findI key f es
   | _ => .no [22]) = _ at h
  split at h
  ·rename_i a
   cases hb : eqI key a with
   | true =>
    rw [hb, cond_true] at h
    refine ⟨some u, h, fun E ms hm i => ?_⟩
    cases hm with
    | @cons _ _ e' _ l' hk hv t =>
     have hk' := flat_eq hk rfl
     refine ⟨i, e'.val, ?_, hv⟩
     rw [eqI_eq] at hb
     have := of_decide_eq_true hb
     subst this
     simp [Instr.findNow, Instr.sameNow, hk']
   | false =>
    rw [hb, cond_false] at h
    obtain ⟨r, h1, h2⟩ := ih h
    refine ⟨r, h1, fun E ms hm i => ?_⟩
    cases hm with
    | @cons _ _ e' _ l' hk hv t =>
     have hk' := flat_eq hk rfl
     rw [eqI_eq] at hb
     have hb : (key == a) = false := hb
     have e1 : Instr.findNow (.int .i64) (.int .i64 key) (e' :: l') i = Instr.findNow (.int .i64) (.int .i64 key) l' (i + 1) := by
      simp only [Instr.findNow, hk', Instr.sameNow, hb, if_true]
     have := h2 E l' t (i + 1)
     cases r with
     | none => exact e1.trans this
     | some u => obtain ⟨j, x, g1, g2⟩ := this; exact ⟨j, x, e1.trans g1, g2⟩
  ·cases h
theorem find_run {P : Program} {kt : TypeId} {d : TypeDesc} (hu : P.underlying kt = some d) {key : Value} {ms : List MapEntry} {r : Option (Nat × Value)} (h : Instr.findNow d key ms 0 = some r) (w : World) : (Instr.findKey kt key ms).run P w = .ok r w := by
 unfold Instr.findKey
 rw [Sem.run_bind, run_und hu]
 simp [Result.andThen, h]
def FndK (P : Program) (E : En) (kt : TypeId) (key : Value) (ms : List MapEntry) (w : World) : Option Value -> Prop
 | none => (Instr.findKey kt key ms).run P w = .ok none w
 | some u => ∃ j x, (Instr.findKey kt key ms).run P w = .ok (some (j, x)) w /\ VR E u x
theorem findK_ok {ks : Bool} {key : Value} {es : List (Value × Value)} {f : Option Value -> R} {v : Value} {m0 : Me} (h : findK ks key es f = .ok v m0) : ∃ r, f r = .ok v m0 /\ flat key = true /\
  ∀ (P : Program) (kt : TypeId), keyI P kt = some ks -> (∀ (b : Bool) (w : World), (Instr.checkKey b 10000 kt key).run P w = .ok () w) /\ ∀ (E : En) (ms : List MapEntry), EnR E es ms -> ∀ (w : World), FndK P E kt key ms w r := by
 unfold findK at h
 cases ks with
 | true =>
  obtain ⟨a, rfl, h⟩ := vStr_ok h
  obtain ⟨r, h1, h2⟩ := findE_ok h
  refine ⟨r, h1, rfl, fun P kt hk => ⟨fun b w => ?_, fun E ms hm w => ?_⟩⟩
  ·have hu := keyI_ok hk
   show (Instr.checkKey b (9999 + 1) kt _).run P w = _
   unfold Instr.checkKey
   rw [Sem.run_bind, run_und hu]
   rfl
  ·have hu := keyI_ok hk
   have := h2 E ms hm 0
   cases r with
   | none => exact find_run hu this w
   | some u => obtain ⟨j, x, g1, g2⟩ := this; exact ⟨j, x, find_run hu g1 w, g2⟩
 | false =>
  unfold vInt at h
  change (match key with | .int .i64 n => findI n f es | _ => .no [24]) = _ at h
  split at h
  ·rename_i n
   obtain ⟨r, h1, h2⟩ := findI_ok h
   refine ⟨r, h1, rfl, fun P kt hk => ⟨fun b w => ?_, fun E ms hm w => ?_⟩⟩
   ·have hu := keyI_ok hk
    show (Instr.checkKey b (9999 + 1) kt _).run P w = _
    unfold Instr.checkKey
    rw [Sem.run_bind, run_und hu]
    rfl
   ·have hu := keyI_ok hk
    have := h2 E ms hm 0
    cases r with
    | none => exact find_run hu this w
    | some u => obtain ⟨j, x, g1, g2⟩ := this; exact ⟨j, x, find_run hu g1 w, g2⟩
  ·cases h
theorem s_lkp {o : Oper} {t kt e : TypeId} {z : Value} {x y : Operand} {ok ks : Bool} (ho : o.op = .lookup t x y ok) (hu : Tryz.prog.underlying t = some (.map kt e)) (hz : zeroE Tryz.prog e = some z) (hk : keyI Tryz.prog kt = some ks) : SoundI (opLkp ks z ok (dO x) (dO y)) o := by
 intro T m k v m0 h _
 obtain ⟨n, e1, h⟩ := vMap_ok h
 obtain ⟨ob, h1, h⟩ := look_ok h
 obtain ⟨es, rfl, h⟩ := oMap_ok h
 obtain ⟨r, h, hf, hr⟩ := findK_ok h
 obtain ⟨hck, hfk⟩ := hr _ kt hk
 have hfin : ∀ (E : En) (M : Nat -> Prop) (w : World) (a : Act), Pre E m.H m.c m.c (bit n) M w -> OrR E T a o -> ∃ ms : Array MapEntry, EnR E es ms.toList /\ ∀ (q : Option (Nat × Value)), (Instr.findKey kt (opd (dO y) T) ms.toList).run Tryz.prog w = .ok q w -> ∀ x', (match q with | some p => p.2 = x' | none => z = x') -> (execOp a.eval o).run Tryz.prog w = .ok (.value (if ok then .tuple #[x', .bool q.isSome] else x')) w := by
  intro E M w a p q
  have hx := q x (by simp [ho, Op.operands])
  have hy := flat_eq (q y (by simp [ho, Op.operands])) hf
  rw [e1] at hx
  generalize hg : a.eval x = g at hx
  cases hx with
  | @map _ l he =>
   obtain ⟨ms, ck, g1, g2⟩ := p.lies he (by rw [bit_test]; simp) h1 (by simp)
   refine ⟨ms, g2, fun q hq x' hx' => ?_⟩
   simp only [execOp, ho]
   refine ex_val ?_
   rw [hg, hy]
   unfold Instr.lookup
   rw [Sem.run_bind, run_und hu]
   have hget : (getObj l.b).run Tryz.prog w = .ok (.map ms ck) w := by simp [getObj, Sem.run, g1]
   simp only [Result.andThen, Sem.run_bind, hget, Sem.run_pure, hck, hq]
   cases q with
   | none => subst hx'; simp [(zeroI_ok hz w).1, Result.andThen]
   | some p => subst hx'; simp
 cases r with
 | none =>
  refine sat_read (bit n) (by unfold kindO; rw [ho]; simp) ⟨okV ok z false, h, fun E M w a p q => ?_⟩
  obtain ⟨ms, g1, g2⟩ := hfin E M w a p q
  refine ⟨_, ?_, g2 none (hfk E _ g1 w) z rfl⟩
  have := flat_vr E z (zeroI_ok hz default).2
  cases ok with
  | true => exact .tup (.cons this (.cons (.bool _) .nil))
  | false => exact this
 | some u =>
  refine sat_read (bit n) (by unfold kindO; rw [ho]; simp) ⟨okV ok u true, h, fun E M w a p q => ?_⟩
  obtain ⟨ms, g1, g2⟩ := hfin E M w a p q
  obtain ⟨j, x', g3, g4⟩ := hfk E _ g1 w
  refine ⟨_, ?_, g2 (some (j, x')) g3 x' rfl⟩
  cases ok with
  | true => exact .tup (.cons g4 (.cons (.bool _) .nil))
  | false => exact g4
theorem EnR.push {E : En} {es : List (Value × Value)} {ms : List MapEntry} (h : EnR E es ms) {k v : Value} {e : MapEntry} (hk : VR E k e.key) (hv : VR E v e.val) : EnR E (es ++ [(k, v)]) (ms ++ [e]) := by
 induction h with
 | nil => exact .cons hk hv .nil
 | cons a b _ ih => exact .cons a b ih
theorem s_ins {o : Oper} {t kt e : TypeId} {x y u : Operand} {ks : Bool} (ho : o.op = .insert t x y u) (hu : Tryz.prog.underlying t = some (.map kt e)) (hk : keyI Tryz.prog kt = some ks) : SoundI (opIns ks (dO x) (dO y) (dO u)) o := by
 intro T m k v m0 h _
 obtain ⟨n, e1, h⟩ := vMap_ok h
 obtain ⟨ob, h1, h⟩ := look_ok h
 obtain ⟨es, rfl, h⟩ := oMap_ok h
 obtain ⟨r, h, hf, hr⟩ := findK_ok h
 obtain ⟨hck, hfk⟩ := hr _ kt hk
 cases r with
 | some _ => cases h
 | none =>
  change put _ _ _ _ = _ at h
  obtain ⟨hnc, h⟩ := put_ok h
  have hnc : n < m.c := hnc
  have hko : kindO o = 2 := by unfold kindO; rw [ho]
  refine ⟨undef, _, m.c, bit n, bit n, h, put_stc (by omega) h1 (by simp) hnc, fun E M w a p q K Q hK => ?_, fun h => by omega, fun h => by omega⟩
  have hx := q x (by simp [ho, Op.operands])
  have hy := flat_eq (q y (by simp [ho, Op.operands])) hf
  have hv := q u (by simp [ho, Op.operands])
  rw [e1] at hx
  generalize hg : a.eval x = g at hx
  cases hx with
  | @map _ l he =>
   obtain ⟨ms, ck, g1, g2⟩ := p.lies he (by rw [bit_test]; simp) h1 (by simp)
   have hlt := (Array.getElem?_eq_some_iff.1 g1).1
   refine wp_skp (w' := { w with heap := w.heap.setIfInBounds l.b (.map (ms.push { key := opd (dO y) T, val := a.eval u, born := ck }) (ck + 1)) }) ?_ (hK E undef _ (.tup .nil) (put_trn p (by rw [bit_test]; simp) he h1 (by simp) hnc (fun b hb => ?_) (by simp) rfl rfl rfl ⟨ms.push { key := opd (dO y) T, val := a.eval u, born := ck }, ck + 1, ?_, ?_⟩))
   ·simp only [execOp, ho]
    refine ex_skp ?_
    rw [hg, hy]
    unfold Instr.mapUpdate
    rw [Sem.run_bind, run_und hu]
    have hget : (getObj l.b).run Tryz.prog w = .ok (.map ms ck) w := by simp [getObj, Sem.run, g1]
    have hf0 : (Instr.findKey kt (opd (dO y) T) ms.toList).run Tryz.prog w = .ok none w := hfk E _ g2 w
    simp only [Result.andThen, Sem.run_bind, hget, hck, hf0]
    simp [setObj, Sem.run, g1]
   ·show (w.heap.setIfInBounds l.b _)[b]? = _
    rw [Array.getElem?_setIfInBounds_ne (Ne.symm hb)]
   ·show (w.heap.setIfInBounds l.b _)[l.b]? = _
    rw [Array.getElem?_setIfInBounds_self_of_lt hlt]
   ·rw [appL_eq, Array.toList_push]
    exact g2.push (flat_vr E _ hf) hv
def CanRd (E : En) (H : HH) (A : Nat) (w : World) : Prop := ∀ i l ob, E i = some l -> A.testBit i = true -> hd H i = some ob -> ob ≠ .gone -> Lies E w l ob
theorem Pre.canRd {E : En} {H : HH} {c c' A A' : Nat} {M : Nat -> Prop} {w : World} (p : Pre E H c c' A M w) (h : ∀ i, A'.testBit i = true -> A.testBit i = true) : CanRd E H A' w :=
 fun _ _ _ he ha hh hg => p.lies he (h _ ha) hh hg
theorem firstC_ok {s n : Nat} {x : Value} {m : Me} {k : List Value -> Me -> R} {v : Value} {m0 : Me} (h : firstC s x n m k = .ok v m0) : ∃ l A, k l ⟨m.H, m.c, Nat.lor m.A A, m.W⟩ = .ok v m0 /\ l.length = n * s /\
  ∀ (E : En) (w : World) (x' : Value), VR E x x' -> CanRd E m.H A w -> ∃ xs a len cap, VRs E l xs /\ x' = .slice a len cap /\ (a = none /\ n = 0 /\ xs = [] \/ ∃ ad, a = some ad /\ ∀ j u, xs[j]? = some u -> w.cell? (ad.add j) = some u) := by
 unfold firstC at h
 split at h
 ·obtain ⟨h1, h⟩ := bif_ok h
  have h1 := Nat.eq_of_beq_eq_true h1
  refine ⟨[], 0, by rw [lor0]; exact h, by rw [h1]; simp, fun E w x' hx _ => ?_⟩
  cases hx
  exact ⟨[], none, _, _, .nil, rfl, .inl ⟨rfl, h1, rfl⟩⟩
 ·rename_i b o _ _
  obtain ⟨ob, h1, h⟩ := look_ok h
  obtain ⟨z, tr, hgo, hrd, h⟩ := oRead_ok h
  obtain ⟨hb, h⟩ := bif_ok h
  have hb := Nat.le_of_ble_eq_true hb
  obtain ⟨ls, h, g2, g3⟩ := getL_ok h
  refine ⟨ls, bit b, h, g2, fun E w x' hx hc => ?_⟩
  obtain ⟨l, c', he, rfl, -⟩ := hx.slice_inv
  obtain ⟨xs, q1, q2⟩ := cells_read (hrd E w l (hc b l _ he (by rw [bit_test]; simp) h1 hgo)) g2 hb g3
  exact ⟨xs, _, _, _, q1, rfl, .inr ⟨_, rfl, q2⟩⟩
 ·cases h
theorem src_of {P : Program} {s n : Nat} {tx e' : TypeId} {w : World} {E : En} {l xs : List Value} {x' : Value} {a : Option Addr} {cap : Nat} (hk : P.underlying tx = some (.slice e')) (hl : l.length = n * s) (hr : VRs E l xs) (h1 : l.all oneB = true) (hx : x' = .slice a n cap) (ha : a = none /\ n = 0 /\ xs = [] \/ ∃ ad, a = some ad /\ ∀ j u, xs[j]? = some u -> w.cell? (ad.add j) = some u) : Src P s tx x' n xs w := by
 subst hx
 rcases ha with ⟨rfl, rfl, rfl⟩ | ⟨ad, rfl, ha⟩
 ·exact Src.ofNil w hk cap
 ·exact Src.ofSlice w hk ad n cap xs (hr.length.trans hl) ha (hr.one h1)
theorem growBy_le (need : Nat) : ∀ k c, c <= 2 * need + 192 -> Builtin.growBy need k c <= 2 * need + 192 := by
 intro k
 induction k with
 | zero => intro c h; exact h
 | succ k ih =>
  intro c h
  unfold Builtin.growBy
  split
  ·exact h
  ·exact ih _ (by omega)
theorem next_le {need cap : Nat} (h : cap < need) : Builtin.nextslicecap need cap <= 2 * need + 192 := by
 unfold Builtin.nextslicecap
 split
 ·omega
 ·split
  ·omega
  ·exact growBy_le _ _ _ (by omega)
theorem zeros_size (z : Array Value) (n : Nat) : (Builtin.zeroCells z n).size = n * z.size := by
 simp [Builtin.zeroCells]
theorem setCells_row {w : World} {b o : Nat} {cur : Array Value} {t : TypeId} {vs : List Value} (hg : w.heap[b]? = some (.cells cur t (0, 0))) (hl : o + vs.length <= cur.size) (h1 : ∀ v ∈ vs, v.oneCell' = true) : w.setCells b o vs = w.setRow b (cur.toList.take o ++ vs ++ cur.toList.drop (o + vs.length)).toArray := by
 have a := run_storeCells_at Tryz.prog b o t vs 0 cur w hg (by simpa using hl) h1
 have c := run_storeCells_cells (P := Tryz.prog) b o vs 0 w (fun j hj => by
  rw [cell_at hg, Nat.add_zero, Array.getElem?_eq_getElem (by omega)]; rfl) (fun j hj => by simp [World.frozen?, hg]) h1
 rw [a] at c
 simp only [Nat.add_zero] at c
 injection c with _ c
 exact c.symm
theorem alias_stc {H : HH} {c b A W : Nat} {ob ob2 : AO} (hc : c <= LIM) (h1 : hd H b = some ob) (hg : ob ≠ .gone) (hb : b < c) (hA : ∀ i, W.testBit i = true -> A.testBit i = true) (hW : ∀ i, W.testBit i = decide (i = b)) : Stc H c (setP ob2 (path c) (setP .gone (path b) H)) (c + 1) A W where
 le := Nat.le_succ _
 lim _ := by omega
 same i hi hic hw := by
  rw [hd_set _ _ _ (by omega) hi, if_neg (by omega), hd_set _ _ _ (by omega) hi, if_neg]
  rw [hW] at hw
  simpa using hw
 acc i _ h := hA i h
 live i _ h := by
  rw [hW] at h
  have := of_decide_eq_true h
  subst this
  exact ⟨ob, h1, hg⟩
 free h i h2 h3 := by
  rw [hd_set _ _ _ (by omega) h3, if_neg (by omega), hd_set _ _ _ (by omega) h3, if_neg (by omega)]
  exact h i (by omega) h3
 wlt i h := by
  rw [hW] at h
  have := of_decide_eq_true h
  omega
theorem alias_trn {E : En} {H : HH} {c b A W : Nat} {M : Nat -> Prop} {w w' : World} {l l2 : Lo} {ob ob2 : AO} (p : Pre E H c (c + 1) A M w) (hc : c <= LIM) (ha : A.testBit b = true) (he : E b = some l) (h1 : hd H b = some ob) (hg : ob ≠ .gone) (hbc : b < c) (hW : ∀ i, W.testBit i = decide (i = b)) (hl2 : l2.b = l.b \/ l2.b = w.heap.size)
  (hw : ∀ i, i ≠ l.b -> i < w.heap.size -> w'.heap[i]? = w.heap[i]?) (hs : w.heap.size <= w'.heap.size) (h3 : w'.os = w.os) (h4 : w'.tape = w.tape) (h5 : w'.output = w.output) (hl : Lies (upd E c l2) w' l2 ob2) : Trn c (c + 1) (setP ob2 (path c) (setP .gone (path b) H)) W M E w (upd E c l2) w' := by
 have hn := p.new c (Nat.le_refl _) (Nat.lt_succ_self _)
 have hex := upd_ext (l := l2) hn
 have hM := p.acc b ha
 have hlb := (p.lies he ha h1 hg).lt hg
 have key : ∀ i o', i <= LIM + 1 -> i ≠ c -> hd (setP ob2 (path c) (setP .gone (path b) H)) i = some o' -> o' ≠ .gone -> i ≠ b /\ hd H i = some o' := fun i o' hi hic hh hgo => by
  rw [hd_set _ _ _ (by omega) hi, if_neg hic, hd_set _ _ _ (by omega) hi] at hh
  by_cases hib : i = b
  ·rw [if_pos hib] at hh; injection hh with hh; exact absurd hh.symm hgo
  ·rw [if_neg hib] at hh; exact ⟨hib, hh⟩
 have apart : ∀ i o' l', i <= LIM + 1 -> M i -> i ≠ b -> hd H i = some o' -> o' ≠ .gone -> E i = some l' -> l'.b ≠ l.b /\ l'.b < w.heap.size := fun i o' l' hi hm hib hh hgo e => by
  refine ⟨fun hb => hib (p.ag.inj i b o' ob l' l hi (by omega) hm hM hh hgo h1 hg e he hb), ?_⟩
  obtain ⟨l3, g1, g2⟩ := p.ag.lies i o' hi hm hh hgo
  rw [e] at g1
  injection g1 with g1
  subst g1
  exact g2.lt hgo
 refine ⟨hex, fun n h hn' => ?_, ⟨fun i o' hi hm hh hgo => ?_, fun i j o' o'' l' l'' hi hj hm hm' hh hgo hh' hgo' e1 e2 hb => ?_⟩, hs, fun i hi hwi => ⟨hw i (fun h => hwi b l hbc (by rw [hW]; simp) he h.symm) hi, fun n l' q1 q2 q3 => ?_⟩, h3, h4, h5⟩
 ·unfold upd; rw [if_neg (by omega)]; exact h
 ·by_cases hic : i = c
  ·subst hic
   rw [hd_set _ _ _ (by omega) hi, if_pos rfl] at hh
   injection hh with hh
   subst hh
   exact ⟨l2, by unfold upd; rw [if_pos rfl], hl⟩
  ·obtain ⟨hib, hh⟩ := key i o' hi hic hh hgo
   obtain ⟨l', g1, g2⟩ := p.ag.lies i o' hi hm hh hgo
   obtain ⟨g3, g4⟩ := apart i o' l' hi hm hib hh hgo g1
   exact ⟨l', hex i l' g1, g2.move hex (hw _ g3 g4)⟩
 ·unfold upd at e1 e2
  by_cases c1 : i = c <;> by_cases c2 : j = c
  ·rw [c1, c2]
  ·exfalso
   rw [if_pos c1] at e1
   rw [if_neg c2] at e2
   injection e1 with e1
   subst e1
   obtain ⟨hjb, hh'⟩ := key j o'' hj c2 hh' hgo'
   obtain ⟨g3, g4⟩ := apart j o'' l'' hj hm' hjb hh' hgo' e2
   rcases hl2 with q | q <;> omega
  ·exfalso
   rw [if_neg c1] at e1
   rw [if_pos c2] at e2
   injection e2 with e2
   subst e2
   obtain ⟨hib, hh⟩ := key i o' hi c1 hh hgo
   obtain ⟨g3, g4⟩ := apart i o' l' hi hm hib hh hgo e1
   rcases hl2 with q | q <;> omega
  ·rw [if_neg c1] at e1
   rw [if_neg c2] at e2
   obtain ⟨-, hh⟩ := key i o' hi c1 hh hgo
   obtain ⟨-, hh'⟩ := key j o'' hj c2 hh' hgo'
   exact p.ag.inj i j o' o'' l' l'' hi hj hm hm' hh hgo hh' hgo' e1 e2 hb
 ·have : n = c := by omega
  subst this
  unfold upd at q3
  rw [if_pos rfl] at q3
  injection q3 with q3
  subst q3
  rcases hl2 with q | q
  ·exact fun h => hwi b l hbc (by rw [hW]; simp) he (by omega)
  ·omega
theorem lor_assoc (a b c : Nat) : Nat.lor (Nat.lor a b) c = Nat.lor a (Nat.lor b c) := Nat.or_assoc a b c
theorem tyI_size {P : Program} {t : TypeId} {r : Bool × Nat} {i : TypeInfo} (h : tyI P t = some r) (hi : P.info? t = some i) : i.size = r.2 := by
 have a := (tyI_ok h default).2
 unfold sizeOf at a
 rw [Sem.run_bind, run_ti hi] at a
 simpa [Result.andThen] using a
theorem zeroI_zero {P : Program} {t : TypeId} {z : Value} {i : TypeInfo} (h : zeroE P t = some z) (hi : P.info? t = some i) : i.zero = some z := by
 unfold zeroE at h
 rw [hi] at h
 cases hz : i.zero with
 | none => simp [hz] at h
 | some y =>
  simp only [Option.bind_some, hz] at h
  cases hf : flat y with
  | false => rw [hf] at h; cases h
  | true => rw [hf] at h; injection h with h; rw [h]
theorem vr_slice {E : En} {b : Option Addr} {n c : Nat} {x : Value} (h : VR E (.slice b n c) x) : ∃ a c', x = .slice a n c' := by
 cases h <;> exact ⟨_, _, rfl⟩
theorem lies_app {E : En} {w : World} {l2 : Lo} {C : Array Value} {z o k : Nat} {tr tr2 : Tr Value} {e ty : TypeId} {l : Lo} {cs : Array Value} {new xs : List Value} (hC : w.heap[l2.b]? = some (.cells C e (0, 0))) (hs : C.size = l2.z) (hr : VRs E new xs) (hz : l2.sh + (k + new.length) <= l2.z) (hlim : k + new.length <= LIM)
  (ht : ∀ i v, i < k -> getP tr2 (path i) = some v -> getP tr (path (o + i)) = some v) (hok : o + k <= z) (hl : ∀ i v, i < z -> getP tr (path i) = some v -> ∃ x, cs[l.sh + i]? = some x /\ VR E v x)
  (h1 : ∀ i, i < k -> C[l2.sh + i]? = cs[l.sh + (o + i)]?) (h2 : ∀ j, j < xs.length -> C[l2.sh + (k + j)]? = xs[j]?) (_ : ty = e) : Lies E w l2 (.cells (k + lenL new) (putL new k tr2) e) := by
 rw [lenL_eq]
 refine ⟨C, hC, hs, hz, hlim, fun i v hi hv => ?_⟩
 rw [putL_get _ _ _ (by omega) i (by omega)] at hv
 by_cases hc : k <= i /\ i < k + new.length
 ·rw [if_pos hc] at hv
  obtain ⟨x, hx, hxr⟩ := hr.get hv
  refine ⟨x, ?_, hxr⟩
  have := h2 (i - k) (by rw [hr.length]; omega)
  rw [show k + (i - k) = i by omega] at this
  rw [this]; exact hx
 ·rw [if_neg hc] at hv
  obtain ⟨x, hx, hxr⟩ := hl (o + i) v (by omega) (ht i v (by omega) hv)
  exact ⟨x, by rw [h1 i (by omega)]; exact hx, hxr⟩
theorem put_new {s e b z len : Nat} {new : List Value} {tr : Tr Value} {m : Me} {k : KV} {v : Value} {m0 : Me} (h : appFin s e b z len new tr m k = .ok v m0) : b < m.c /\ m.c <= LIM /\ k (.slice (some ⟨m.c, 0, none⟩) len (OPEN + s)) ⟨setP (.cells (z + lenL new) (putL new z tr) e) (path m.c) (setP .gone (path b) m.H), m.c + 1, m.A, Nat.lor m.W (bit b)⟩ = .ok v m0 := by
 obtain ⟨h1, h⟩ := put_ok h
 obtain ⟨h2, h⟩ := newO_ok h
 rw [seqN_eq] at h
 exact ⟨h1, h2, h⟩
theorem app_pre {o : Oper} {c : Call} {x y : Operand} {t tx : TypeId} (ho : o.op = .call c) (hc : c.callee = .builtin .append) (ha : c.args.toList = [y, x]) (ht : c.argTypes.toList = [t, tx]) : (∀ T E a, OrR E T a o -> VR E (opd (dO y) T) (a.eval y) /\ VR E (opd (dO x) T) (a.eval x)) /\ ∀ (a : Act) (w w' : World) (u : Value), (Builtin.append_ #[t, tx] o.type #[a.eval y, a.eval x]).run Tryz.prog w = .ok u w' -> (execOp a.eval o).run Tryz.prog w = .ok (.value u) w' := by
 have ha' : c.args = #[y, x] := by rw [<- Array.toArray_toList (xs := c.args), ha]
 have ht' : c.argTypes = #[t, tx] := by rw [<- Array.toArray_toList (xs := c.argTypes), ht]
 refine ⟨fun T E a q => ⟨q y (by rw [ho]; simp [Op.operands, Call.operands, hc, ha']), q x (by rw [ho]; simp [Op.operands, Call.operands, hc, ha'])⟩, fun a w w' u h => ?_⟩
 simp [execOp, ho, resolve, hc, ha', ht', invoke, builtin, Result.andThen, h]
theorem s_app {o : Oper} {c : Call} {x y : Operand} {t tx e e' : TypeId} {r : Bool × Nat} {z : Value} {i : TypeInfo} (ho : o.op = .call c) (hcal : c.callee = .builtin .append) (hargs : c.args.toList = [y, x]) (htys : c.argTypes.toList = [t, tx]) (hu : Tryz.prog.underlying t = some (.slice e)) (hux : Tryz.prog.underlying tx = some (.slice e'))
  (ht : tyI Tryz.prog e = some r) (hz : zeroE Tryz.prog e = some z) (h3 : (cellsL z).length = r.2) (hpos : 0 < r.2) (hi : Tryz.prog.info? e = some i) (hby : i.bytes <= 1000000) : SoundI (opApp r.2 e (dO y) (dO x)) o := by
 obtain ⟨hor, hex⟩ := app_pre ho hcal hargs htys
 have hsz := tyI_size ht hi
 have hze := zeroI_zero hz hi
 have hzs : z.cells.size = r.2 := by have := (flat_vr (fun _ => none) z (zeroI_ok hz default).2).cells.length; rw [h3] at this; simpa using this
 have hko : kindO o = 2 := by unfold kindO; rw [ho]; simp only [hcal]
 intro T m k v m0 h hmc
 obtain ⟨base, len, cap, e1, h⟩ := vSl_ok h
 obtain ⟨xb, n, xc, e2, h⟩ := vSl_ok h
 obtain ⟨new, A1, h, hnl, hnew⟩ := firstC_ok h
 obtain ⟨hone, h⟩ := bif_ok h
 rw [allL_eq] at hone
 have hsrc : ∀ (E : En) (w : World) (a : Act), OrR E T a o -> CanRd E m.H A1 w -> ∃ xs, VRs E new xs /\ Src Tryz.prog i.size tx (a.eval x) n xs w := by
  intro E w a q hr
  have hx := (hor T E a q).2
  obtain ⟨xs, ad, len2, cap2, g1, g2, g3⟩ := hnew E w _ hx hr
  rw [e2] at hx
  obtain ⟨_, _, g4⟩ := vr_slice hx
  rw [g4] at g2
  injection g2 with q1 q2 q3
  subst q2
  exact ⟨xs, g1, by rw [hsz]; exact src_of hux hnl g1 hone (by rw [g4, q1]) g3⟩
 cases hO : Nat.ble OPEN cap with
 | true =>
  rw [hO, cond_true] at h
  have hO := Nat.le_of_ble_eq_true hO
  obtain ⟨b, off, hbase, h⟩ := aSome_ok h
  obtain ⟨ob, h1, h⟩ := look_ok h
  obtain ⟨z0, tr, ty, hob, h⟩ := oCells_ok h
  obtain ⟨hb, h2⟩ := bif_ok h
  rw [Bool.and_eq_true, Bool.and_eq_true, Bool.and_eq_true] at hb
  have c1 := Nat.eq_of_beq_eq_true hb.1
  have c2 := Nat.eq_of_beq_eq_true hb.2.1
  have c3 := Nat.eq_of_beq_eq_true hb.2.2.1
  have c4 := Nat.le_of_ble_eq_true hb.2.2.2
  rw [lenL_eq] at c4
  have hfin : ∃ tr2, (∀ i v, i < len * r.2 -> getP tr2 (path i) = some v -> getP tr (path (off + i)) = some v) /\ appFin r.2 e b (len * r.2) (len + n) new tr2 ⟨m.H, m.c, Nat.lor (Nat.lor m.A A1) (bit b), m.W⟩ k = .ok v m0 := by
   cases hz0 : Nat.beq off 0 with
   | true =>
    rw [hz0, cond_true] at h2
    have h00 := Nat.eq_of_beq_eq_true hz0
    exact ⟨tr, fun i v _ hv => by rw [h00, Nat.zero_add]; exact hv, h2⟩
   | false =>
    rw [hz0, cond_false] at h2
    obtain ⟨ls, h3, g2, g3⟩ := getL_ok h2
    refine ⟨_, fun i v hi hv => ?_, h3⟩
    rw [putL_get ls 0 .nil (by omega) i (by omega), if_pos (by omega), Nat.sub_zero] at hv
    rw [g3 i hi]; exact hv
  obtain ⟨tr2, htr, hf⟩ := hfin
  obtain ⟨hbc, hc, hk⟩ := put_new hf
  have hbc : b < m.c := hbc
  have hc : m.c <= LIM := hc
  have hW : ∀ i, (bit b).testBit i = decide (i = b) := bit_test b
  have hA : ∀ i, (bit b).testBit i = true -> (Nat.lor A1 (bit b)).testBit i = true := fun i h => by rw [or_bit, h, Bool.or_true]
  refine ⟨_, _, m.c + 1, Nat.lor A1 (bit b), bit b, by rw [<- lor_assoc]; exact hk, alias_stc hc h1 (by rw [hob]; simp) hbc hA hW, fun E M w a p q K Q hK => ?_, fun h => by omega, fun h => by omega⟩
  have hy := (hor T E a q).1
  rw [e1, hbase] at hy
  obtain ⟨l, c', he, hy', hcc⟩ := hy.slice_inv
  have hcc : len <= c' /\ l.sh + off + c' * r.2 <= l.z := by
   rcases hcc with ⟨hcc, -⟩ | ⟨s, hs, g3, g4⟩
   ·omega
   ·have : s = r.2 := by omega
    subst this; exact ⟨g3, g4⟩
  have hpA : (Nat.lor A1 (bit b)).testBit b = true := hA b (by rw [hW]; simp)
  have hL := p.lies he hpA h1 (by rw [hob]; simp)
  rw [hob] at hL
  obtain ⟨cs, g1, g2, g3, g4, g5⟩ := hL
  obtain ⟨xs, hxr, hS⟩ := hsrc E w a q (p.canRd fun i h => by rw [or_bit, h, Bool.true_or])
  have hxl := hxr.length
  rw [hnl] at hxl
  have hmul : (len + n) * r.2 = len * r.2 + n * r.2 := Nat.add_mul _ _ _
  have hcm : len * r.2 <= c' * r.2 := Nat.mul_le_mul_right _ hcc.1
  by_cases hroom : len + n <= c'
  ·have hcm2 : (len + n) * r.2 <= c' * r.2 := Nat.mul_le_mul_right _ hroom
   have hrun := run_append_room_src (P := Tryz.prog) w t tx o.type e i hu hi l.b (l.sh + off) len c' _ n xs hS hroom (fun j hj => by rw [cell_at g1, Array.getElem?_eq_getElem (by rw [hsz]; omega)]; rfl) (fun j hj => by simp [World.frozen?, g1])
   rw [setCells_row g1 (by rw [hsz]; omega) hS.one, hsz, <- hy'] at hrun
   have hu2 : upd E m.c ⟨l.b, l.sh + off, l.z⟩ m.c = some ⟨l.b, l.sh + off, l.z⟩ := by unfold upd; rw [if_pos rfl]
   refine wp_val (hex a w _ _ hrun) (hK _ _ _ ?_ (alias_trn (l2 := ⟨l.b, l.sh + off, l.z⟩) p hc hpA he h1 (by rw [hob]; simp) hbc hW (.inl rfl) (fun i hi _ => setRow_other _ _ _ _ hi) (Nat.le_of_eq (setRow_size _ _ _).symm) rfl rfl rfl ?_))
   ·have := VR.slo (E := upd E m.c ⟨l.b, l.sh + off, l.z⟩) 0 (len + n) c' r.2 hu2 hroom (by show l.sh + off + 0 + c' * r.2 <= l.z; omega)
    simpa using this
   ·have hex' := upd_ext (l := ⟨l.b, l.sh + off, l.z⟩) (p.new m.c (Nat.le_refl _) (Nat.lt_succ_self _))
    have hszc : cs.toList.length = cs.size := by simp
    have htk : (cs.toList.take (l.sh + off + len * r.2)).length = l.sh + off + len * r.2 := by rw [List.length_take]; omega
    refine lies_app (l := l) (cs := cs) (o := off) (z := z0) (tr := tr) (ty := ty) (setRow_heap _ _ _ _ _ _ (c3 ▸ g1)) (by simp; omega) (hxr.mono hex') (by show l.sh + off + (len * r.2 + new.length) <= l.z; omega) c4 htr (by omega) (fun i v hi hv => let ⟨x, q1, q2⟩ := g5 i v hi hv; ⟨x, q1, q2.mono hex'⟩) (fun i hi => ?_) (fun j hj => ?_) c3
    ·show (List.toArray _)[l.sh + off + i]? = _
     rw [List.getElem?_toArray, List.getElem?_append_left (by simp; omega), List.getElem?_append_left (by omega), List.getElem?_take, if_pos (by omega), Nat.add_assoc]
     simp
    ·show (List.toArray _)[l.sh + off + (len * r.2 + j)]? = _
     rw [List.getElem?_toArray, List.getElem?_append_left (by simp; omega), List.getElem?_append_right (by omega), htk, show l.sh + off + (len * r.2 + j) - (l.sh + off + len * r.2) = j by omega]
  ·have hszc : cs.toList.length = cs.size := by simp
   obtain ⟨olds, hold0⟩ : ∃ olds, olds = (cs.toList.drop (l.sh + off)).take (len * r.2) := ⟨_, rfl⟩
   have hol : olds.length = len * r.2 := by rw [hold0, List.length_take, List.length_drop]; omega
   have hoc : ∀ j, j < len * r.2 -> olds[j]? = cs[l.sh + (off + j)]? := fun j hj => by
    rw [hold0, List.getElem?_take, if_pos hj, List.getElem?_drop, Nat.add_assoc]
    simp
   have hold : (Builtin.firstCells i.size len (.slice (some ⟨l.b, l.sh + off, none⟩) len c')).run Tryz.prog w.drew = .ok olds.toArray w.drew := by
    rw [hsz]
    refine run_firstCells_some w.drew r.2 len _ len c' olds hol fun j u hu => ?_
    have hj := (List.getElem?_eq_some_iff.1 hu).1
    rw [hol] at hj
    rw [hoc j hj] at hu
    rw [addr_add, cell_at (show w.drew.heap[l.b]? = _ from g1), Nat.add_assoc]
    exact hu
   have hneed : len + n <= LIM := by
    have : (len + n) * 1 <= (len + n) * r.2 := Nat.mul_le_mul_left _ hpos
    omega
   have hrun := run_append_grow_src (P := Tryz.prog) w t tx o.type e i z hu hi hze (some ⟨l.b, l.sh + off, none⟩) len c' olds hold _ n xs hS (by omega) (by unfold LIM at hneed; omega) (by
    have h0 := next_le (need := len + n) (cap := c') (by omega)
    have h5 := Nat.mul_le_mul h0 hby
    unfold LIM at hneed
    omega)
   rw [<- hy'] at hrun
   obtain ⟨g, hg⟩ : ∃ g, grownCap w (len + n) c' e = g := ⟨_, rfl⟩
   have hgge : len + n <= g := hg ▸ grownCap_ge w (len + n) c' e
   rw [hg] at hrun
   have hcsz : ((olds ++ xs).toArray ++ Builtin.zeroCells z.cells (g - (len + n))).size = g * r.2 := by
    rw [Array.size_append, zeros_size, hzs, List.size_toArray, List.length_append, hol, hxl, <- hmul, <- Nat.add_mul, Nat.add_sub_cancel' hgge]
   have hgm : (len + n) * r.2 <= g * r.2 := Nat.mul_le_mul_right _ hgge
   have hu2 : upd E m.c ⟨w.heap.size, 0, g * r.2⟩ m.c = some ⟨w.heap.size, 0, g * r.2⟩ := by unfold upd; rw [if_pos rfl]
   have hheap : ∀ b', b' < w.heap.size -> (w.drew.alloc (.cells ((olds ++ xs).toArray ++ Builtin.zeroCells z.cells (g - (len + n))) e)).heap[b']? = w.heap[b']? := fun b' hb' => by
    show (w.drew.heap.push _)[b']? = _
    rw [Array.getElem?_push, if_neg (by show ¬ b' = w.heap.size; omega)]
    rfl
   refine wp_val (hex a w _ _ hrun) (hK _ _ _ ?_ (alias_trn (l2 := ⟨w.heap.size, 0, g * r.2⟩) p hc hpA he h1 (by rw [hob]; simp) hbc hW (.inr rfl) (fun i _ hi => hheap i hi) (by simp) rfl rfl rfl ?_))
   ·have := VR.slo (E := upd E m.c ⟨w.heap.size, 0, g * r.2⟩) 0 (len + n) g r.2 hu2 hgge (by show 0 + 0 + g * r.2 <= g * r.2; omega)
    simpa using this
   ·have hex' := upd_ext (l := ⟨w.heap.size, 0, g * r.2⟩) (p.new m.c (Nat.le_refl _) (Nat.lt_succ_self _))
    refine lies_app (l := l) (cs := cs) (o := off) (z := z0) (tr := tr) (ty := ty) (C := (olds ++ xs).toArray ++ Builtin.zeroCells z.cells (g - (len + n))) ?_ hcsz (hxr.mono hex') (by show 0 + (len * r.2 + new.length) <= g * r.2; omega) c4 htr (by omega) (fun i v hi hv => let ⟨x, q1, q2⟩ := g5 i v hi hv; ⟨x, q1, q2.mono hex'⟩) (fun i hi => ?_) (fun j hj => ?_) c3
    ·show (w.heap.push _)[w.heap.size]? = _
     simp
    ·show _[0 + i]? = _
     rw [Nat.zero_add, Array.getElem?_append_left (by simp; omega), List.getElem?_toArray, List.getElem?_append_left (by omega)]
     exact hoc i hi
    ·show _[0 + (len * r.2 + j)]? = _
     rw [Nat.zero_add, Array.getElem?_append_left (by simp; omega), List.getElem?_toArray, List.getElem?_append_right (by omega), hol, Nat.add_sub_cancel_left]
 | false =>
  rw [hO, cond_false] at h
  have hO := Nat.lt_of_not_le (fun hh => by have := Nat.ble_eq_true_of_le hh; rw [hO] at this; cases this)
  cases hR : Nat.ble (len + n) cap with
  | true =>
   rw [hR, cond_true] at h
   have hR := Nat.le_of_ble_eq_true hR
   cases base with
   | none =>
    change (bif Nat.beq n 0 then _ else _) = _ at h
    obtain ⟨hn, h⟩ := bif_ok h
    have hn := Nat.eq_of_beq_eq_true hn
    subst hn
    refine sat_read A1 (by omega) ⟨_, h, fun E M w a p q => ⟨_, .sl0 len cap, ?_⟩⟩
    obtain ⟨xs, hxr, hS⟩ := hsrc E w a q (p.canRd fun i h => h)
    have hy := flat_eq (hor T E a q).1 (by rw [e1]; rfl)
    rw [e1] at hy
    have hx0 : xs = [] := by have := hS.newsLen; rw [Nat.zero_mul] at this; exact List.eq_nil_of_length_eq_zero this
    subst hx0
    have := run_append_nothing (P := Tryz.prog) w t tx o.type e i hu hi none len cap (by omega) _ hS
    rw [<- hy] at this
    exact hex a w w _ (this.trans (by rw [hy]))
   | some ad =>
    change aSome (some ad) _ = _ at h
    obtain ⟨b, off, hbase, h⟩ := aSome_ok h
    obtain ⟨ob, h1, h⟩ := look_ok h
    obtain ⟨z0, tr, ty, hob, h⟩ := oCells_ok h
    obtain ⟨hb, h⟩ := bif_ok h
    have hb := Nat.le_of_ble_eq_true hb
    obtain ⟨hbc, h⟩ := put_ok h
    have hbc : b < m.c := hbc
    have hW : ∀ i, (bit b).testBit i = decide (i = b) := bit_test b
    have hA : ∀ i, (bit b).testBit i = true -> (Nat.lor A1 (bit b)).testBit i = true := fun i h => by rw [or_bit, h, Bool.or_true]
    have hpA : (Nat.lor A1 (bit b)).testBit b = true := hA b (by rw [hW]; simp)
    have hst := put_stc (c := m.c) (n := b) (ob' := .cells z0 (putL new (off + len * r.2) tr) ty) (by omega) h1 (by rw [hob]; simp) hbc
    refine ⟨_, _, m.c, Nat.lor A1 (bit b), bit b, by rw [<- lor_assoc]; exact h, ⟨hst.le, hst.lim, hst.same, fun i _ h => hA i h, hst.live, hst.free, hst.wlt⟩, fun E M w a p q K Q hK => ?_, fun h => by omega, fun h => by omega⟩
    have hy := (hor T E a q).1
    rw [e1, hbase] at hy
    obtain ⟨l, c', he, hy', hcc⟩ := hy.slice_inv
    have hcc : c' = cap := by
     rcases hcc with ⟨-, hcc⟩ | ⟨s, hs, -⟩
     ·exact hcc
     ·omega
    subst hcc
    have hL := p.lies he hpA h1 (by rw [hob]; simp)
    rw [hob] at hL
    obtain ⟨xs, hxr, hS⟩ := hsrc E w a q (p.canRd fun i h => by rw [or_bit, h, Bool.true_or])
    have hxl := hxr.length
    rw [hnl] at hxl
    have hmul : (len + n) * r.2 = len * r.2 + n * r.2 := Nat.add_mul _ _ _
    obtain ⟨cs, g1, g2, g3⟩ := lies_over (off := off + len * r.2) hL hxr (by omega)
    rw [<- Nat.add_assoc] at g2 g3
    have hrun := run_append_room_src (P := Tryz.prog) w t tx o.type e i hu hi l.b (l.sh + off) len c' _ n xs hS hR (fun j hj => by rw [cell_at g1, Array.getElem?_eq_getElem (by rw [hsz]; omega)]; rfl) (fun j hj => by simp [World.frozen?, g1])
    rw [setCells_row g1 (by rw [hsz]; omega) hS.one, hsz, <- hy'] at hrun
    refine wp_val (hex a w _ _ hrun) (hK E _ _ ?_ (put_trn p hpA he h1 (by rw [hob]; simp) hbc (fun b hb => setRow_other _ _ _ _ hb) (setRow_size _ _ _) rfl rfl rfl g3))
    exact .sl _ _ _ he hO
  | false =>
   rw [hR, cond_false] at h
   have hR := Nat.lt_of_not_le (fun hh => by have := Nat.ble_eq_true_of_le hh; rw [hR] at this; cases this)
   obtain ⟨old, A2, h, hol, hold⟩ := firstC_ok h
   obtain ⟨h1, hc, tr, htr, hk⟩ := newL_ok h
   rw [seqN_eq] at hk
   rw [appL_eq] at h1 htr hk
   have hc : m.c <= LIM := hc
   have hst := new_stc (H := m.H) (c := m.c) (A := Nat.lor A1 A2) (o := .cells (old ++ new).length tr e) hc
   refine ⟨_, _, m.c + 1, Nat.lor A1 A2, 0, by rw [<- lor_assoc, lor0]; exact hk, hst, fun E M w a p q K Q hK => ?_, fun h => by omega, fun h => by omega⟩
   obtain ⟨xs, hxr, hS⟩ := hsrc E w a q (p.canRd fun i h => by rw [or_bit, h, Bool.true_or])
   have hy := (hor T E a q).1
   obtain ⟨olds, ad, len2, cap2, k1, k2, k3⟩ := hold E w _ hy (p.canRd fun i h => by rw [or_bit, h, Bool.or_true])
   rw [e1] at hy
   have hsl : a.eval y = .slice ad len cap := by
    rw [k2] at hy ⊢
    cases hy with
    | sl0 => rfl
    | sl => rfl
    | slo _ _ _ s => omega
   have hxl := hxr.length
   have hyl := k1.length
   rw [hnl] at hxl
   rw [hol] at hyl
   have hmul : (len + n) * r.2 = len * r.2 + n * r.2 := Nat.add_mul _ _ _
   have hlen : (old ++ new).length = (len + n) * r.2 := by rw [List.length_append, hol, hnl, hmul]
   have holdr : (Builtin.firstCells i.size len (.slice ad len cap)).run Tryz.prog w.drew = .ok olds.toArray w.drew := by
    rw [hsz]
    rcases k3 with ⟨rfl, -, rfl⟩ | ⟨a', rfl, k3⟩
    ·exact run_firstCells_none w.drew r.2 len len cap
    ·exact run_firstCells_some w.drew r.2 len a' len cap olds hyl fun j u hu => by
      have := k3 j u hu
      simpa using this
   have hneed : len + n <= LIM := by
    have : (len + n) * 1 <= (len + n) * r.2 := Nat.mul_le_mul_left _ hpos
    omega
   have hrun := run_append_grow_src (P := Tryz.prog) w t tx o.type e i z hu hi hze ad len cap olds holdr _ n xs hS (by omega) (by unfold LIM at hneed; omega) (by
    have h0 := next_le (need := len + n) (cap := cap) (by omega)
    have h5 := Nat.mul_le_mul h0 hby
    unfold LIM at hneed
    omega)
   rw [<- hsl] at hrun
   obtain ⟨g, hg⟩ : ∃ g, grownCap w (len + n) cap e = g := ⟨_, rfl⟩
   have hgge : len + n <= g := hg ▸ grownCap_ge w (len + n) cap e
   rw [hg] at hrun
   have hcsz : ((olds ++ xs).toArray ++ Builtin.zeroCells z.cells (g - (len + n))).size = g * r.2 := by
    rw [Array.size_append, zeros_size, hzs, List.size_toArray, List.length_append, hyl, hxl, <- hmul, <- Nat.add_mul, Nat.add_sub_cancel' hgge]
   have hgm : (len + n) * r.2 <= g * r.2 := Nat.mul_le_mul_right _ hgge
   have hu2 : upd E m.c ⟨w.heap.size, 0, g * r.2⟩ m.c = some ⟨w.heap.size, 0, g * r.2⟩ := by unfold upd; rw [if_pos rfl]
   have hex' := upd_ext (l := ⟨w.heap.size, 0, g * r.2⟩) (p.new m.c (Nat.le_refl _) (Nat.lt_succ_self _))
   refine wp_val (hex a w _ _ hrun) (hK _ _ _ ?_ (new_trn p hc (z := g * r.2) (by simp [World.alloc]; rfl) rfl rfl rfl ⟨_, ?_, hcsz, ?_, h1, fun j v hj hv => ?_⟩))
   ·have := VR.slo (E := upd E m.c ⟨w.heap.size, 0, g * r.2⟩) 0 (len + n) g r.2 hu2 hgge (by show 0 + 0 + g * r.2 <= g * r.2; omega)
    simpa using this
   ·show (w.heap.push _)[w.heap.size]? = _
    simp
   ·show 0 + (old ++ new).length <= g * r.2
    omega
   ·obtain ⟨u, q1, q2⟩ := ((k1.mono hex').app (hxr.mono hex')).get (htr j v hj hv)
    refine ⟨u, ?_, q2⟩
    show _[0 + j]? = _
    rw [Nat.zero_add, Array.getElem?_append_left (by simp; omega), List.getElem?_toArray]
    exact q1
theorem bytesV_eq (l : List UInt8) : bytesV l = l.map fun b => Value.int .u8 (b.toNat : Int) := by
 induction l with
 | nil => rfl
 | cons b l ih => show _ :: bytesV l = _; rw [ih]; rfl
theorem bytesU_ok : ∀ {l : List Value} {k : List UInt8 -> R} {v : Value} {m0 : Me}, bytesU l k = .ok v m0 -> ∃ bs : List UInt8, k bs = .ok v m0 /\ l = bs.map fun b => Value.int .u8 (b.toNat : Int) := by
 intro l
 induction l with
 | nil => intro k v m0 h; exact ⟨[], h, rfl⟩
 | cons u l ih =>
  intro k v m0 h
  change byteU u (fun b => bytesU l fun l => k (b :: l)) = _ at h
  unfold byteU at h
  split at h
  ·rename_i n
   obtain ⟨hn, h⟩ := bif_ok h
   rw [Nat.blt_eq] at hn
   obtain ⟨bs, h1, h2⟩ := ih h
   refine ⟨_, h1, ?_⟩
   rw [List.map_cons, <- h2]
   congr 2
   show Int.ofNat n = (((UInt8.ofNat n).toNat : Nat) : Int)
   rw [UInt8.toNat_ofNat', Nat.mod_eq_of_lt hn]
   rfl
  ·cases h
theorem s_sb {o : Oper} {src dst e : TypeId} {x : Operand} (ho : o.op = .convert src dst x) (hs : Tryz.prog.underlying src = some .string) (hd : Tryz.prog.underlying dst = some (.slice e)) (he : Tryz.prog.underlying e = some (.int .u8)) : SoundI (opSb (dO x)) o := by
 have hko : kindO o = 2 := by unfold kindO; rw [ho]
 intro T m k v m0 h _
 obtain ⟨l, e1, h⟩ := vStr_ok h
 obtain ⟨hl, h⟩ := bif_ok h
 have hl := Nat.le_of_ble_eq_true hl
 obtain ⟨hc, hk⟩ := newO_ok h
 rw [lenL_eq] at hl hk
 refine ⟨_, _, m.c + 1, 0, 0, by rw [lor0, lor0]; exact hk, new_stc hc, fun E M w a p q K Q hK => ?_, fun h => by omega, fun h => by omega⟩
 have hx := flat_eq (q x (by simp [ho, Op.operands])) (by rw [e1]; rfl)
 rw [e1] at hx
 have hrun := run_bytes_of_string (P := Tryz.prog) w src dst e ⟨⟨l⟩⟩ hs hd he
 obtain ⟨g, hg⟩ : ∃ g, grownCap w (⟨⟨l⟩⟩ : ByteArray).size 0 e = g := ⟨_, rfl⟩
 have hgge : (⟨⟨l⟩⟩ : ByteArray).size <= g := hg ▸ grownCap_ge w _ 0 e
 rw [hg] at hrun
 have hsz : (⟨⟨l⟩⟩ : ByteArray).size = l.length := rfl
 rw [hsz] at hgge hrun
 have hrow : (bytesRow ⟨⟨l⟩⟩ g).size = g := by
  unfold bytesRow
  rw [Array.size_append, Array.size_map, Array.size_replicate, hsz]
  show l.length + _ = _
  omega
 have hu2 : upd E m.c ⟨w.heap.size, 0, g⟩ m.c = some ⟨w.heap.size, 0, g⟩ := by unfold upd; rw [if_pos rfl]
 refine wp_val (w' := (w.drew.alloc (.cells (bytesRow ⟨⟨l⟩⟩ g) e ((bytesRow ⟨⟨l⟩⟩ g).size, (bytesRow ⟨⟨l⟩⟩ g).size + 1)))) (x := .slice (some ⟨w.heap.size, 0, none⟩) l.length g) ?_ (hK _ _ _ ?_ (new_trn p hc (z := g) (by simp [World.alloc]; rfl) rfl rfl rfl ⟨bytesRow ⟨⟨l⟩⟩ g, e, ((bytesRow ⟨⟨l⟩⟩ g).size, (bytesRow ⟨⟨l⟩⟩ g).size + 1), ?_, hrow, ?_, hl, fun j v hj hv => ?_⟩))
 ·simp only [execOp, ho]
  refine ex_val ?_
  rw [hx]
  exact hrun
 ·have := VR.slo (E := upd E m.c ⟨w.heap.size, 0, g⟩) 0 l.length g 1 hu2 hgge (by show 0 + 0 + g * 1 <= g; omega)
  simpa using this
 ·show (w.heap.push _)[w.heap.size]? = _
  simp
 ·show 0 + l.length <= g
  omega
 ·have hlen : (bytesV l).length = l.length := by rw [bytesV_eq, List.length_map]
  rw [putL_get (bytesV l) 0 .nil (by omega) j (by omega), if_pos (by omega), Nat.sub_zero, bytesV_eq] at hv
  refine ⟨v, ?_, ?_⟩
  ·show (bytesRow ⟨⟨l⟩⟩ g)[0 + j]? = _
   rw [Nat.zero_add]
   unfold bytesRow
   rw [Array.getElem?_append_left (by simpa using hj), Array.getElem?_map]
   rw [List.getElem?_map] at hv
   simpa using hv
  ·rw [List.getElem?_map] at hv
   obtain ⟨b, -, rfl⟩ := Option.map_eq_some_iff.1 hv
   exact .int _ _
theorem s_bs {o : Oper} {src dst e : TypeId} {x : Operand} (ho : o.op = .convert src dst x) (hs : Tryz.prog.underlying src = some (.slice e)) (he : Tryz.prog.underlying e = some (.int .u8)) (hd : Tryz.prog.underlying dst = some .string) : SoundI (opBs (dO x)) o := by
 have hko : kindO o = 2 := by unfold kindO; rw [ho]
 intro T m k v m0 h _
 obtain ⟨b0, n, cp, e1, h⟩ := vSl_ok h
 obtain ⟨l, A, h, hl, hr⟩ := firstC_ok h
 obtain ⟨bs, h, hbs⟩ := bytesU_ok h
 refine sat_read A (by rw [hko]; decide) ⟨_, h, fun E M w a p q => ⟨_, .str _, ?_⟩⟩
 have hx := q x (by simp [ho, Op.operands])
 obtain ⟨xs, ad, len, cap, g1, g2, g3⟩ := hr E w _ hx (p.canRd fun i h => h)
 have hfl : ∀ bs : List UInt8, flatL (bs.map fun b => Value.int .u8 (b.toNat : Int)) = true := by
  intro bs
  induction bs with
  | nil => rfl
  | cons b bs ih => rw [List.map_cons, flatL, ih]; rfl
 have hxs : xs = l := flat_eqs g1 (by rw [hbs]; exact hfl bs)
 subst hxs
 have hlen : len = n := by
  rw [e1, g2] at hx
  cases hx <;> rfl
 subst hlen
 simp only [execOp, ho]
 refine ex_val ?_
 rw [g2]
 rcases g3 with ⟨rfl, h0, hn⟩ | ⟨ad', rfl, hc⟩
 ·have : bs = [] := by
   cases bs with
   | nil => rfl
   | cons b bs => rw [hn] at hbs; cases hbs
  subst this
  exact run_convert_bytes_nil w src e hs he len cap dst hd
 ·have hlb : bs.length = len := by
   have := congrArg List.length hbs
   rw [List.length_map, hl] at this
   omega
  subst hlb
  refine run_convert_bytes_back w src dst e ad' cap bs hs he hd fun j hj => ?_
  refine hc j _ ?_
  rw [hbs, List.getElem?_map, List.getElem?_eq_getElem hj]
  rfl
end Go.Proofs.YthejfklieedjmaaGreatDoor
