/- Part 28 of the proof of lawSum.card: EvInv, EvAny, EvReg, EvCode. Conditions: those of each theorem. -/
import Derived.Test.YthejfklieedjmaaGreatDoorQs01
import Derived.Test.YthejfklieedjmaaGreatDoorQs27
namespace Go.Proofs.YthejfklieedjmaaGreatDoor
open Go
section
variable {idle : FuncId -> Bool} {ops : Array Oper} {n : Nat} {T : Nat -> TF} {H : Nat -> HH} {c : Nat -> Nat} {v : Nat -> Value} {A W : Nat -> Nat} {At Wt : Nat} {b : Nat -> Nat}
structure Inv (idle : FuncId -> Bool) (ops : Array Oper) (n : Nat) (T : Nat -> TF) (H : Nat -> HH) (c : Nat -> Nat) (v : Nat -> Value) (W : Nat -> Nat) (E0 : En) (M : Nat -> Prop) (w0 : World) (S : Nat -> Bool) (E : En) (t : Array Value) (D : List Deferred) (w : World) : Prop where
 ext : Ext E0 E
 none : ∀ x, E0 x = none -> (∀ j, j < ops.size -> S j = true -> ¬ (c j <= x /\ x < c (j + 1))) -> E x = none
 tmps : FrR n E (FrS ops (T 0) v S ops.size) t
 defs : DR idle D
 ag : Ag E (hS H c W S ops.size) (fun x => M x /\ (x < c 0 \/ ∃ j, j < ops.size /\ S j = true /\ c j <= x /\ x < c (j + 1))) w
 size : w0.heap.size <= w.heap.size
 keep : ∀ p, p < w0.heap.size -> (∀ x l, x < c 0 -> (∃ j, j < ops.size /\ S j = true /\ (W j).testBit x = true) -> E0 x = some l -> l.b ≠ p) -> w.heap[p]? = w0.heap[p]? /\ ∀ x l, c 0 <= x -> x < c ops.size -> E x = some l -> l.b ≠ p
 os : w.os = w0.os
 tape : w.tape = w0.tape
 output : w.output = w0.output
theorem looks_opd {ops : Array Oper} {o : Oper} {t : Nat} (h : Operand.tmp t ∈ o.op.operands.toList) : t ∈ o.looksAt ops := by
 unfold Oper.looksAt
 exact List.mem_append_left _ (List.mem_filterMap.2 ⟨_, h, rfl⟩)
theorem looks_guard {ops : Array Oper} {o : Oper} {j q : Nat} {w : Bool} (h : o.guard = some (j, w)) (hq : (ops[j]?).bind (·.dst) = some q) : q ∈ o.looksAt ops := by
 unfold Oper.looksAt
 rw [h]
 refine List.mem_append_right _ ?_
 show q ∈ ((ops[j]?).bind (·.dst)).toList
 rw [hq]; simp
open Classical in
theorem inv_step (g : Chn idle ops n ops.toList T H c v A W At Wt) (q : Ind ops b c A W) (hn : n <= 256) {E0 E : En} {M : Nat -> Prop} {w0 w : World} (p0 : Pre E0 (H 0) (c 0) (c ops.size) At M w0) {S : Nat -> Bool} (hcl : ∀ j, j < ops.size -> S j = true -> ∀ i, (b j).testBit i = true -> S i = true)
  {i : Nat} {o : Oper} (ho : ops[i]? = some o) (hi : S i = false) (hpre : ∀ j, (b i).testBit j = true -> S j = true) {a : Act} (inv : Inv idle ops n T H c v W E0 M w0 S E a.tmps a.defers w) (K : Act -> World -> Prop) (Q : Exit -> Act -> World -> Prop)
  (hK : ∀ E' a' w', Inv idle ops n T H c v W E0 M w0 (fun j => S j || decide (j = i)) E' a'.tmps a'.defers w' -> K a' w') : if Region.wanted o (yielded ops a.tmps) then o.wp Tryz.prog a w K Q else K (a.put o.dst undef) w := by
 have hiN : i < ops.size := (Array.getElem?_eq_some_iff.1 ho).1
 obtain ⟨s1, s2, s3, -, -⟩ := g.stp ho
 have hdst : ∀ k e, dstOf ops k = some e -> e < 256 := fun k e h => by
  unfold dstOf at h
  cases hk : ops[k]? with
  | none => rw [hk] at h; cases h
  | some y =>
   rw [hk] at h
   have := (g.stp hk).1
   change y.dst = some e at h
   rw [h] at this
   unfold okD at this
   rw [Nat.blt_eq] at this
   omega
 have hdi : dstOf ops i = o.dst := by unfold dstOf; rw [ho]; rfl
 have hfree0 : ∀ x, c 0 <= x -> x <= LIM + 1 -> hd (H 0) x = none := p0.free
 have hcN : c (i + 1) <= c ops.size := g.le (by omega) (Nat.le_refl _)
 have hc0 : c 0 <= c i := g.le (by omega) (by omega)
 have hlimi : c i <= LIM + 1 := g.lim p0.top (by omega)
 have hlimi1 : c (i + 1) <= LIM + 1 := g.lim p0.top (by omega)
 have hii : c i <= c (i + 1) := s2.le
 have f1 : ∀ j, j < ops.size -> S j = true -> i < j -> (b j).testBit i = false := fun j hj hs _ => by
  cases hb : (b j).testBit i with
  | false => rfl
  | true => have := hcl j hj hs i hb; rw [hi] at this; cases this
 have f2 : ∀ j, S j = false -> (b i).testBit j = false := fun j hs => by
  cases hb : (b i).testBit j with
  | false => rfl
  | true => have := hpre j hb; rw [hs] at this; cases this
 have fl : ∀ j d, j < ops.size -> S j ≠ decide (j < i) -> dstOf ops j = some d -> d ∉ o.looksAt ops := fun j d hj hne hd => by
  obtain ⟨y, hy, -⟩ := g.at' hj
  have hd' : y.dst = some d := by unfold dstOf at hd; rw [hy] at hd; exact hd
  cases hs : S j with
  | true =>
   have hji : i < j := by
    rcases Nat.lt_trichotomy j i with h | h | h
    ·rw [hs] at hne; simp [h] at hne
    ·subst h; rw [hi] at hs; cases hs
    ·exact h
   exact (q.loc i j o y hji ho hy (f1 j hj hs hji)).2 d hd'
  | false =>
   have hji : j < i := by rw [hs] at hne; simpa using hne
   exact ((q.loc j i y o hji hy ho (f2 j hs)).1 d hd').1
 have fm : ∀ j x, j < ops.size -> S j ≠ decide (j < i) -> (A i).testBit x = true -> ¬ Wf c W j x := fun j x hj hne ha hw => by
  cases hs : S j with
  | true =>
   have hji : i < j := by
    rcases Nat.lt_trichotomy j i with h | h | h
    ·rw [hs] at hne; simp [h] at hne
    ·subst h; rw [hi] at hs; cases hs
    ·exact h
   have := (q.mem i j hji hj (f1 j hj hs hji)).2 x hw
   rw [ha] at this; cases this
  | false =>
   have hji : j < i := by rw [hs] at hne; simpa using hne
   have := (q.mem j i hji hiN (f2 j hs)).1 x hw
   rw [ha] at this; cases this
 have hview : ∀ x, x <= LIM + 1 -> (A i).testBit x = true -> hd (H i) x = hS H c W S ops.size x := fun x hx ha => by
  rw [g.mems hfree0 (by omega) hx]
  exact hS_congr _ fun j hj hne => fm j x hj (fun e => hne e.symm) ha
 have hin : ∀ x o', x <= LIM + 1 -> (A i).testBit x = true -> hd (H i) x = some o' -> x < c 0 \/ ∃ j, j < ops.size /\ S j = true /\ c j <= x /\ x < c (j + 1) := fun x o' hx ha hh => by
  rcases Nat.lt_or_ge x (c 0) with h0 | h0
  ·exact .inl h0
  ·have hxi : x < c i := by
    rcases Nat.lt_or_ge x (c i) with h | h
    ·exact h
    ·rw [g.free hfree0 (j := i) (by omega) x h hx] at hh; cases hh
   have : ∀ k, k <= i -> x < c k -> ∃ j, j < k /\ c j <= x /\ x < c (j + 1) := by
    intro k
    induction k with
    | zero => intro _ h; omega
    | succ k ih =>
     intro hk h
     rcases Nat.lt_or_ge x (c k) with h1 | h1
     ·obtain ⟨j, h2, h3⟩ := ih (by omega) h1
      exact ⟨j, by omega, h3⟩
     ·exact ⟨k, by omega, h1, h⟩
   obtain ⟨j, h2, h3, h4⟩ := this i (Nat.le_refl _) hxi
   refine .inr ⟨j, by omega, ?_, h3, h4⟩
   cases hs : S j with
   | true => rfl
   | false => exact absurd (.inr ⟨h3, h4⟩) (fm j x (by omega) (by rw [hs]; simp [h2]) ha)
 have hMi : ∀ x, (A i).testBit x = true -> M x := fun x h => p0.acc x ((g.at_ x).2 ⟨i, by simpa using hiN, h⟩)
 have hpr : Pre E (H i) (c i) (c (i + 1)) (A i) (fun x => (A i).testBit x = true \/ c i <= x /\ x < c (i + 1)) w := by
  refine ⟨fun x h1 h2 => ?_, fun x l hx => ?_, fun y hy => (p0.glob y hy).imp fun _ h => inv.ext y _ h, Nat.le_trans p0.low hc0, hlimi, g.free hfree0 (by omega), fun x h => .inl h, fun x h1 h2 => .inr ⟨h1, h2⟩, inv.ag.mono fun x o' hx hm hh hg => ?_⟩
  ·refine inv.none x (p0.new x (by omega) (by omega)) fun j hj hs ⟨h3, h4⟩ => ?_
   rcases Nat.lt_trichotomy j i with h | h | h
   ·have := g.le (i := j + 1) (j := i) (by omega) (by omega); omega
   ·subst h; rw [hi] at hs; cases hs
   ·have := g.le (i := i + 1) (j := j) (by omega) (by omega); omega
  ·cases he : E0 x with
   | some l' => exact p0.lim x l' he
   | none =>
    rcases Nat.lt_or_ge x (LIM + 2) with h | h
    ·omega
    ·exfalso
     have := inv.none x he fun j hj _ ⟨h3, h4⟩ => by
      have := g.lim p0.top (j := j + 1) (by omega)
      omega
     rw [this] at hx; cases hx
  ·rcases hm with hm | ⟨h1, h2⟩
   ·exact ⟨⟨hMi x hm, hin x o' hx hm hh⟩, by rw [<- hview x hx hm]; exact hh⟩
   ·rw [g.free hfree0 (j := i) (by omega) x h1 hx] at hh; cases hh
 have hget : ∀ t, t < 256 -> t ∈ o.looksAt ops -> getT (pl t) (T i) = getT (pl t) (FrS ops (T 0) v S ops.size) := fun t ht hl => by
  rw [g.tmps (j := i) (by omega)]
  exact TS_congr ht hdst _ fun j hj hne hd => fl j t hj (fun e => hne e.symm) hd hl
 have hlk : LkR E (T i) a.tmps ops o := by
  refine ⟨fun x hx hok => ?_, fun j w' r hg hr hr256 => ?_⟩
  ·have hv := opd_vr inv.tmps (fun y hy => (p0.glob y hy).imp fun _ h => inv.ext y _ h) hok
   cases x with
   | tmp t =>
    have ht : t < 256 := by unfold okO at hok; rw [Nat.blt_eq] at hok; exact hok
    show VR E (getT (pl t) (T i)) _
    rw [hget t ht (looks_opd hx)]
    exact hv
   | const _ => exact hv
   | global _ => exact hv
   | func _ => exact hv
  ·rw [hget r hr256 (looks_guard hg hr)]
   exact inv.tmps.2 r hr256
 refine s3 E _ w a hpr hlk inv.defs K Q fun E' x ds w' hv hds ht => hK E' _ w' ?_
 have hS' : ∀ j, (fun j => S j || decide (j = i)) j = (S j || decide (j = i)) := fun _ => rfl
 have hWi : ∀ x, Wf c W i x -> (A i).testBit x = true /\ x < c i \/ c i <= x /\ x < c (i + 1) := fun x hw => by
  unfold Wf at hw
  rcases Nat.lt_or_ge x (c i) with h | h
  ·rcases hw with hw | hw
   ·exact .inl ⟨s2.acc x h hw, h⟩
   ·omega
  ·rcases hw with hw | hw
   ·exact .inr ⟨h, s2.wlt x hw⟩
   ·exact .inr hw
 have hadd : ∀ x, hS H c W (fun j => S j || decide (j = i)) ops.size x = if Wf c W i x then hd (H (i + 1)) x else hS H c W S ops.size x := fun x => hS_add hi hS' _ hiN fun j hij hj hs hwi hwj => by
  obtain ⟨y, hy, -⟩ := g.at' hj
  have hsj := (g.stp hy).2.1
  have hm := (q.mem i j hij hj (f1 j hj hs hij)).1 x hwi
  have hcij := g.le (i := i + 1) (j := j) (by omega) (by omega)
  rcases hWi x hwi with ⟨-, h⟩ | ⟨-, h⟩
  ·unfold Wf at hwj
   rcases hwj with hwj | hwj
   ·rw [hsj.acc x (by omega) hwj] at hm; cases hm
   ·omega
  ·unfold Wf at hwj
   rcases hwj with hwj | hwj
   ·rw [hsj.acc x (by omega) hwj] at hm; cases hm
   ·omega
 have hWM : ∀ x, Wf c W i x -> (fun x => (A i).testBit x = true \/ c i <= x /\ x < c (i + 1)) x := fun x hw => by
  rcases hWi x hw with ⟨h, -⟩ | h
  ·exact .inl h
  ·exact .inr h
 have hMS : ∀ x, (M x /\ (x < c 0 \/ ∃ j, j < ops.size /\ (S j || decide (j = i)) = true /\ c j <= x /\ x < c (j + 1))) -> ¬ Wf c W i x -> (M x /\ (x < c 0 \/ ∃ j, j < ops.size /\ S j = true /\ c j <= x /\ x < c (j + 1))) := fun x ⟨h1, h2⟩ hw => ⟨h1, by
  rcases h2 with h2 | ⟨j, h2, h3, h4⟩
  ·exact .inl h2
  ·by_cases hji : j = i
   ·subst hji; exact absurd (.inr h4) hw
   ·simp [hji] at h3
    exact .inr ⟨j, h2, h3, h4⟩⟩
 have hold : ∀ y o' , y <= LIM + 1 -> (M y /\ (y < c 0 \/ ∃ j, j < ops.size /\ S j = true /\ c j <= y /\ y < c (j + 1))) -> hS H c W S ops.size y = some o' -> o' ≠ .gone -> ¬ Wf c W i y -> ∃ l, E y = some l /\ E' y = some l /\ Lies E' w' l o' /\ l.b < w.heap.size /\ (∀ x l', x < c i -> (W i).testBit x = true -> E x = some l' -> l'.b ≠ l.b) := fun y o' hy hm hh hg hw => by
  obtain ⟨l, h1, h2⟩ := inv.ag.lies y o' hy hm hh hg
  have hlt := h2.lt hg
  have hne : ∀ x l', x < c i -> (W i).testBit x = true -> E x = some l' -> l'.b ≠ l.b := fun x l' hx hwx he hb => by
   obtain ⟨o2, h3, h4⟩ := s2.live x hx hwx
   have ha := s2.acc x hx hwx
   have hx2 : x <= LIM + 1 := by omega
   have := inv.ag.inj x y o2 o' l' l hx2 hy ⟨hMi x ha, hin x o2 hx2 ha h3⟩ hm (by rw [<- hview x hx2 ha]; exact h3) h4 hh hg he h1 hb
   subst this
   exact hw (.inl hwx)
  exact ⟨l, h1, ht.ext y l h1, h2.move ht.ext (ht.keep l.b hlt hne).1, hlt, hne⟩
 have hwr : ∀ x l, Wf c W i x -> E' x = some l -> (x < c i /\ E x = some l /\ ∃ o2, hS H c W S ops.size x = some o2 /\ o2 ≠ .gone /\ (M x /\ (x < c 0 \/ ∃ j, j < ops.size /\ S j = true /\ c j <= x /\ x < c (j + 1)))) \/ c i <= x /\ x < c (i + 1) := fun x l hw he => by
  rcases hWi x hw with ⟨ha, hx⟩ | h
  ·have hwb : (W i).testBit x = true := by
    rcases hw with hw | hw
    ·exact hw
    ·omega
   obtain ⟨o2, h3, h4⟩ := s2.live x hx hwb
   have hx2 : x <= LIM + 1 := by omega
   refine .inl ⟨hx, ?_, o2, by rw [<- hview x hx2 ha]; exact h3, h4, hMi x ha, hin x o2 hx2 ha h3⟩
   obtain ⟨l0, h5, -⟩ := inv.ag.lies x o2 hx2 ⟨hMi x ha, hin x o2 hx2 ha h3⟩ (by rw [<- hview x hx2 ha]; exact h3) h4
   have := ht.ext x l0 h5
   rw [he] at this
   injection this with this
   rw [this]; exact h5
  ·exact .inr h
 refine ⟨fun x l h => ht.ext x l (inv.ext x l h), fun x hx hj => ?_, ?_, hds, ⟨fun x o' hx hm hh hg => ?_, fun x y o' o'' l l' hx hy hm hm' hh hg hh' hg' e1 e2 hb => ?_⟩, Nat.le_trans inv.size ht.size, fun p hp hpw => ?_, ht.os.trans inv.os, ht.tape.trans inv.tape, ht.output.trans inv.output⟩
 ·refine ht.dom x (inv.none x hx fun j hj' hs => hj j hj' (by simp [hs])) ?_
  have := hj i hiN (by simp)
  omega
 ·have h1 := FrR.put (a := a) hn (inv.tmps.mono ht.ext) s1 hv
  refine ⟨h1.1, fun t ht' => ?_⟩
  rw [TS_add ht' hdst hi hS' (v i) rfl _ hiN fun j hij hj hs hd1 hd2 => ?_, hdi]
  ·exact h1.2 t ht'
  ·obtain ⟨y, hy, -⟩ := g.at' hj
   have hd2' : y.dst = some t := by unfold dstOf at hd2; rw [hy] at hd2; exact hd2
   rw [hdi] at hd1
   exact ((q.loc i j o y hij ho hy (f1 j hj hs hij)).1 t hd1).2 hd2'
 ·rw [hadd] at hh
  by_cases hw : Wf c W i x
  ·rw [if_pos hw] at hh
   exact ht.ag.lies x o' hx (hWM x hw) hh hg
  ·rw [if_neg hw] at hh
   obtain ⟨l, -, h2, h3, -⟩ := hold x o' hx (hMS x hm hw) hh hg hw
   exact ⟨l, h2, h3⟩
 ·rw [hadd] at hh hh'
  by_cases hw : Wf c W i x <;> by_cases hw' : Wf c W i y
  ·rw [if_pos hw] at hh
   rw [if_pos hw'] at hh'
   exact ht.ag.inj x y o' o'' l l' hx hy (hWM x hw) (hWM y hw') hh hg hh' hg' e1 e2 hb
  ·rw [if_neg hw'] at hh'
   obtain ⟨l2, h1, h2, h3, h4, h5⟩ := hold y o'' hy (hMS y hm' hw') hh' hg' hw'
   rw [e2] at h2
   injection h2 with h2
   subst h2
   rcases hwr x l hw e1 with ⟨-, h6, o2, h7, h8, h9⟩ | ⟨h6, h7⟩
   ·exact inv.ag.inj x y o2 o'' l l' hx hy h9 (hMS y hm' hw') h7 h8 hh' hg' h6 h1 hb
   ·exact absurd hb ((ht.keep l'.b h4 h5).2 x l h6 h7 e1)
  ·rw [if_neg hw] at hh
   obtain ⟨l2, h1, h2, h3, h4, h5⟩ := hold x o' hx (hMS x hm hw) hh hg hw
   rw [e1] at h2
   injection h2 with h2
   subst h2
   rcases hwr y l' hw' e2 with ⟨-, h6, o2, h7, h8, h9⟩ | ⟨h6, h7⟩
   ·exact inv.ag.inj x y o' o2 l l' hx hy (hMS x hm hw) h9 hh hg h7 h8 h1 h6 hb
   ·exact absurd hb.symm ((ht.keep l.b h4 h5).2 y l' h6 h7 e2)
  ·rw [if_neg hw] at hh
   rw [if_neg hw'] at hh'
   obtain ⟨l2, h1, h2, -⟩ := hold x o' hx (hMS x hm hw) hh hg hw
   obtain ⟨l3, h3, h4, -⟩ := hold y o'' hy (hMS y hm' hw') hh' hg' hw'
   rw [e1] at h2
   injection h2 with h2
   subst h2
   rw [e2] at h4
   injection h4 with h4
   subst h4
   exact inv.ag.inj x y o' o'' l l' hx hy (hMS x hm hw) (hMS y hm' hw') hh hg hh' hg' h1 h3 hb
 ·obtain ⟨k1, k2⟩ := inv.keep p hp fun x l h1 ⟨j, h2, h3, h4⟩ h5 => hpw x l h1 ⟨j, h2, by simp [h3], h4⟩ h5
  have hkp : ∀ x l, x < c i -> (W i).testBit x = true -> E x = some l -> l.b ≠ p := fun x l hx hwx he => by
   rcases Nat.lt_or_ge x (c 0) with h0 | h0
   ·cases h1 : E0 x with
    | some l0 =>
     have := inv.ext x l0 h1
     rw [he] at this
     injection this with this
     subst this
     exact hpw x l h0 ⟨i, hiN, by simp, hwx⟩ h1
    | none =>
     have := inv.none x h1 fun j hj _ ⟨h3, _⟩ => by
      have := g.le (i := 0) (j := j) (by omega) (by omega)
      omega
     rw [he] at this; cases this
   ·exact k2 x l h0 (by omega) he
  obtain ⟨k3, k4⟩ := ht.keep p (Nat.lt_of_lt_of_le hp inv.size) hkp
  refine ⟨k3.trans k1, fun x l h1 h2 he => ?_⟩
  cases h3 : E x with
  | some l0 =>
   have := ht.ext x l0 h3
   rw [he] at this
   injection this with this
   subst this
   exact k2 x l h1 h2 h3
  | none =>
   rcases Nat.lt_or_ge x (c i) with h4 | h4
   ·rw [ht.dom x h3 (.inl h4)] at he; cases he
   ·rcases Nat.lt_or_ge x (c (i + 1)) with h5 | h5
    ·exact k4 x l h4 h5 he
    ·rw [ht.dom x h3 (.inr h5)] at he; cases he
end
section
variable {idle : FuncId -> Bool} {ops : Array Oper} {n : Nat} {T : Nat -> TF} {H : Nat -> HH} {c : Nat -> Nat} {v : Nat -> Value} {A W : Nat -> Nat} {At Wt : Nat} {b : Nat -> Nat}
theorem closed_bits {S : Nat -> Bool} (q : Ind ops b c A W) (h : ∀ j o e, ops[j]? = some o -> S j = true -> e ∈ o.after.toList -> Region.binds .any e = true -> S e.on = true) : ∀ j, j < ops.size -> S j = true -> ∀ i, (b j).testBit i = true -> S i = true := by
 intro j
 induction j using Nat.strongRecOn with
 | _ j ih =>
  intro hj hs i hb
  have ho : ops[j]? = some ops[j] := by simp [hj]
  obtain ⟨e, h1, h2, h3⟩ := q.clos j _ i ho hb
  have he := q.edge j _ e ho h1 h2
  have hse := h j _ e ho hs h1 h2
  rcases h3 with rfl | h3
  ·exact hse
  ·exact ih e.on he (by omega) hse i h3
theorem any_ok (g : Chn idle ops n ops.toList T H c v A W At Wt) (q : Ind ops b c A W) (hn : n <= 256) {E0 : En} {M : Nat -> Prop} {w0 : World} (p0 : Pre E0 (H 0) (c 0) (c ops.size) At M w0) (Q : Exit -> Act -> World -> Prop)
  (hQ : ∀ E' a' w', Inv idle ops n T H c v W E0 M w0 (fun _ => true) E' a'.tmps a'.defers w' -> Q .normal a' w') : ∀ (fuel : Nat) (listed : Array Bool) (E : En) (a : Act) (w : World), listed.size = ops.size -> listed.toList.countP (! ·) <= fuel ->
  (∀ j o e, ops[j]? = some o -> listed.getD j true = true -> e ∈ o.after.toList -> Region.binds .any e = true -> listed.getD e.on true = true) -> Inv idle ops n T H c v W E0 M w0 (fun j => listed.getD j true) E a.tmps a.defers w -> wpAny Tryz.prog .any ops Q fuel listed a w := by
 have hfull : ∀ (listed : Array Bool) (E : En) (a : Act) (w : World), (∀ j, listed.getD j true = true) -> Inv idle ops n T H c v W E0 M w0 (fun j => listed.getD j true) E a.tmps a.defers w -> Q .normal a w := fun listed E a w h inv => hQ E a w (by
  have : (fun j => listed.getD j true) = fun _ => true := funext h
  rwa [this] at inv)
 have hdef : ∀ (listed : Array Bool) (j : Nat), listed.size = ops.size -> j < ops.size -> listed.getD j false = listed.getD j true := fun listed j hs hj => by
  simp [Array.getD, hs, hj]
 have hready : ∀ (listed : Array Bool), listed.size = ops.size -> Region.ready .any ops listed = [] -> ∀ j, listed.getD j true = true := fun listed hs hr j => by
  induction j using Nat.strongRecOn with
  | _ j ih =>
   rcases Nat.lt_or_ge j ops.size with hj | hj
   ·cases hl : listed.getD j true with
    | true => rfl
    | false =>
     exfalso
     have : j ∈ Region.ready .any ops listed := by
      unfold Region.ready
      rw [List.mem_filter]
      refine ⟨List.mem_range.2 hj, ?_⟩
      have ho : ops[j]? = some ops[j] := by simp [hj]
      simp only [hl, ho, Option.map_some, Option.getD_some, Bool.not_false, Bool.true_and, Array.all_eq_true_iff_forall_mem]
      intro e he
      cases hb : Region.binds .any e with
      | false => rfl
      | true =>
       have he' := q.edge j _ e ho (Array.mem_toList_iff.2 he) hb
       simp [hdef listed e.on hs (by omega), ih e.on he']
     rw [hr] at this; cases this
   ·simp [Array.getD, hs, show ¬ j < ops.size by omega]
 intro fuel
 induction fuel with
 | zero =>
  intro listed E a w hs hcnt hcl inv
  have hall : ∀ j, listed.getD j true = true := fun j => by
   rcases Nat.lt_or_ge j listed.size with hj | hj
   ·have h0 : listed.toList.countP (! ·) = 0 := by omega
    rw [List.countP_eq_zero] at h0
    have := h0 listed[j] (by simp)
    simpa [Array.getD, hj] using this
   ·simp [Array.getD, show ¬ j < listed.size by omega]
  refine ⟨?_, hfull listed E a w hall inv⟩
  unfold Region.ready
  rw [List.filter_eq_nil_iff]
  intro i hi
  simp [hall i]
 | succ fuel ih =>
  intro listed E a w hs hcnt hcl inv
  refine ⟨fun hr => hfull listed E a w (hready listed hs hr) inv, fun i hi => ?_⟩
  unfold Region.ready at hi
  rw [List.mem_filter] at hi
  obtain ⟨hi, hi2⟩ := hi
  have hi := List.mem_range.1 hi
  have ho : ops[i]? = some ops[i] := by simp [hi]
  simp only [ho, Option.map_some, Option.getD_some, Bool.and_eq_true, Bool.not_eq_true', Array.all_eq_true_iff_forall_mem] at hi2
  obtain ⟨hl, hedge⟩ := hi2
  have hedge' : ∀ e ∈ (ops[i]).after.toList, Region.binds .any e = true -> listed.getD e.on true = true := fun e he hb => by
   have h1 := hedge e (Array.mem_toList_iff.1 he)
   rw [hb] at h1
   have he' := q.edge i _ e ho he hb
   rw [<- hdef listed e.on hs (by omega)]
   simpa using h1
  have hcb := closed_bits (S := fun j => listed.getD j true) q hcl
  have hstep := inv_step g q hn p0 (S := fun j => listed.getD j true) hcb ho hl (fun j hb => by
   obtain ⟨e, h1, h2, h3⟩ := q.clos i _ j ho hb
   rcases h3 with rfl | h3
   ·exact hedge' e h1 h2
   ·exact hcb e.on (by have := q.edge i _ e ho h1 h2; omega) (hedge' e h1 h2) j h3) inv (wpAny Tryz.prog .any ops Q fuel (listed.setIfInBounds i true)) Q fun E' a' w' inv' => by
    have hset : ∀ j, (listed.setIfInBounds i true).getD j true = (listed.getD j true || decide (j = i)) := fun j => by
     simp only [Array.getD_eq_getD_getElem?]
     by_cases hji : j = i
     ·subst hji
      rw [Array.getElem?_setIfInBounds_self_of_lt (by omega)]
      simp
     ·rw [Array.getElem?_setIfInBounds_ne (Ne.symm hji)]
      simp [hji]
    refine ih _ E' a' w' (by simp [hs]) ?_ (fun j o e hj hs' he hb => ?_) ?_
    ·rw [Array.toList_setIfInBounds, List.countP_set (by simp; omega)]
     have : listed.toList[i]'(by simp; omega) = false := by
      have := hl
      simpa [Array.getD, hs, hi] using this
     rw [this]
     have hpos : 0 < listed.toList.countP (! ·) := List.countP_pos_iff.2 ⟨_, List.getElem_mem (by simp; omega : i < listed.toList.length), by rw [this]; rfl⟩
     simp only [Bool.not_false, Bool.not_true, if_true, Bool.false_eq_true, if_false]
     omega
    ·rw [hset] at hs' ⊢
     by_cases hji : j = i
     ·subst hji
      rw [ho] at hj
      injection hj with hj
      subst hj
      rw [hedge' e he hb]; rfl
     ·rw [show decide (j = i) = false by simp [hji], Bool.or_false] at hs'
      rw [hcl j o e hj hs' he hb]; rfl
    ·have : (fun j => (listed.setIfInBounds i true).getD j true) = fun j => listed.getD j true || decide (j = i) := funext hset
     rw [this]
     exact inv'
  unfold wpOp
  rw [ho]
  simp only
  split at hstep
  ·rename_i hw; rw [if_pos hw]; exact .inl hstep
  ·rename_i hw; rw [if_neg hw]; exact hstep
theorem draw_ok (g : Chn idle ops n ops.toList T H c v A W At Wt) (q : Ind ops b c A W) (hn : n <= 256) (hmix : Tryz.prog.follows .mixedOrders = true) {E : En} {M : Nat -> Prop} {w : World} {id : Nat} {a : Act} (p : Pre E (H 0) (c 0) (c ops.size) At M w) (ht : FrR n E (T 0) a.tmps) (hdr : DR idle a.defers) (Q : Exit -> Act -> World -> Prop)
  (hQ : ∀ E' a' w', FrR n E' (T ops.size) a'.tmps -> DR idle a'.defers -> Trn (c 0) (c ops.size) (H ops.size) Wt M E w E' w' -> Q .normal a' w') : (Code.region id ops true).wp Tryz.prog Q a w := by
 have p' : Pre E (H 0) (c 0) (c ops.size) At M { w with drawn := w.drawn + 1 } := ⟨p.new, p.lim, p.glob, p.low, p.top, p.free, p.acc, p.fresh, ⟨fun x o hx hm hh hg => let ⟨l, h1, h2⟩ := p.ag.lies x o hx hm hh hg; ⟨l, h1, h2.move (fun _ _ h => h) rfl⟩, p.ag.inj⟩⟩
 refine wp_region_any hmix (any_ok g q hn p' Q (fun E' a' w' inv => hQ E' a' w' ?_ inv.defs ?_) _ _ E a _ (by simp) (by rw [Array.toList_replicate]; exact Nat.le_trans List.countP_le_length (by simp)) (fun j o e hj hs => ?_) ?_)
 ·refine ⟨inv.tmps.1, fun t h => ?_⟩
  have := inv.tmps.2 t h
  rw [g.tmps (j := ops.size) (Nat.le_refl _)]
  have e : FrS ops (T 0) v (fun k => decide (k < ops.size)) ops.size = FrS ops (T 0) v (fun _ => true) ops.size := by
   have : ∀ k, k <= ops.size -> FrS ops (T 0) v (fun k => decide (k < ops.size)) k = FrS ops (T 0) v (fun _ => true) k := by
    intro k
    induction k with
    | zero => intro _; rfl
    | succ k ih => intro hk; unfold FrS; rw [ih (by omega)]; simp [show k < ops.size by omega]
   exact this _ (Nat.le_refl _)
  rw [e]
  exact this
 ·have hle : c 0 <= c ops.size := g.le (Nat.zero_le _) (Nat.le_refl _)
  have hview : ∀ x, x <= LIM + 1 -> hd (H ops.size) x = hS H c W (fun _ => true) ops.size x := fun x hx => by
   rw [g.mems p.free (Nat.le_refl _) hx]
   exact hS_congr _ fun j hj hne => by simp [hj] at hne
  have hdom : ∀ x, x < c ops.size -> ¬ x < c 0 -> ∃ j, j < ops.size /\ c j <= x /\ x < c (j + 1) := by
   have : ∀ k, k <= ops.size -> ∀ x, x < c k -> ¬ x < c 0 -> ∃ j, j < k /\ c j <= x /\ x < c (j + 1) := by
    intro k
    induction k with
    | zero => intro _ x h1 h2; omega
    | succ k ih =>
     intro hk x h1 h2
     rcases Nat.lt_or_ge x (c k) with h | h
     ·obtain ⟨j, h3, h4⟩ := ih (by omega) x h h2
      exact ⟨j, by omega, h4⟩
     ·exact ⟨k, by omega, h, h1⟩
   exact fun x h1 h2 => this _ (Nat.le_refl _) x h1 h2
  refine ⟨inv.ext, fun x hx h => inv.none x hx fun j hj _ ⟨h1, h2⟩ => ?_, inv.ag.mono fun x o hx hm hh hg => ⟨⟨hm, ?_⟩, by rw [<- hview x hx]; exact hh⟩, inv.size, fun b' hb hw => inv.keep b' hb fun x l h1 ⟨j, h2, _, h3⟩ h4 => hw x l h1 ((g.wt x).2 ⟨j, by simpa using h2, h3⟩) h4, inv.os, inv.tape, inv.output⟩
  ·have a1 := g.le (i := 0) (j := j) (by omega) (by omega)
   have a2 := g.le (i := j + 1) (j := ops.size) (by omega) (Nat.le_refl _)
   omega
  ·rcases Nat.lt_or_ge x (c 0) with h | h
   ·exact .inl h
   ·have hxN : x < c ops.size := by
     rcases Nat.lt_or_ge x (c ops.size) with h1 | h1
     ·exact h1
     ·rw [g.free p.free (Nat.le_refl _) x h1 hx] at hh; cases hh
    obtain ⟨j, h1, h2⟩ := hdom x hxN (by omega)
    exact .inr ⟨j, h1, rfl, h2⟩
 ·simp [Array.getD] at hs
  have : j < ops.size := (Array.getElem?_eq_some_iff.1 hj).1
  omega
 ·have hS0 : ∀ j, j < ops.size -> (Array.replicate ops.size false).getD j true = false := fun j hj => by simp [Array.getD, hj]
  refine ⟨fun _ _ h => h, fun x hx _ => hx, ⟨ht.1, fun t h => ?_⟩, hdr, ?_, Nat.le_refl _, fun b' hb _ => ⟨rfl, fun x l h1 h2 h3 => ?_⟩, rfl, rfl, rfl⟩
  ·have e : ∀ k, k <= ops.size -> FrS ops (T 0) v (fun j => (Array.replicate ops.size false).getD j true) k = T 0 := by
    intro k
    induction k with
    | zero => intro _; rfl
    | succ k ih => intro hk; unfold FrS; rw [hS0 k (by omega), ih (by omega)]; simp
   rw [e _ (Nat.le_refl _)]
   exact ht.2 t h
  ·have e : ∀ x k, k <= ops.size -> hS H c W (fun j => (Array.replicate ops.size false).getD j true) k x = hd (H 0) x := by
    intro x k
    induction k with
    | zero => intro _; rfl
    | succ k ih => intro hk; unfold hS; rw [if_neg (fun h => by rw [hS0 k (by omega)] at h; cases h.1)]; exact ih (by omega)
   exact p'.ag.mono fun x o hx hm hh hg => ⟨hm.1, by rw [<- e x ops.size (Nat.le_refl _)]; exact hh⟩
  ·have hn' := p.new x h1 h2
   rw [hn'] at h3; cases h3
end
theorem land0 {a b : Nat} (h : Nat.beq (Nat.land a b) 0 = true) {i : Nat} (ha : a.testBit i = true) (hb : b.testBit i = true) : False := by
 have h0 := Nat.eq_of_beq_eq_true h
 have : (a &&& b).testBit i = true := by rw [Nat.testBit_and, ha, hb]; rfl
 rw [show a &&& b = 0 from h0] at this
 simp at this
theorem orBits_test (l : List Nat) (i : Nat) : (orBits l).testBit i = true ↔ i ∈ l := by
 induction l with
 | nil => simp [orBits]
 | cons n l ih =>
  show (Nat.lor (bit n) (orBits l)).testBit i = true ↔ _
  rw [or_bit, Bool.or_eq_true, bit_test, ih, List.mem_cons, decide_eq_true_iff]
theorem apartO_ok {ops : Array Oper} {x y : Oper} (h : apartO ops x y = true) : (∀ d, x.dst = some d -> d ∉ y.looksAt ops /\ y.dst ≠ some d) /\ ∀ d, y.dst = some d -> d ∉ x.looksAt ops := by
 unfold apartO at h
 rw [Bool.and_eq_true] at h
 obtain ⟨h1, h2⟩ := h
 have hdst : ∀ (z : Oper) d, z.dst = some d -> (dstM z).testBit d = true := fun z d hd => by
  unfold dstM; rw [hd]; simp [bit_test]
 refine ⟨fun d hd => ⟨fun hm => ?_, fun hy => ?_⟩, fun d hd hm => ?_⟩
 ·exact land0 h1 (hdst x d hd) (by rw [or_bit, Bool.or_eq_true]; exact .inl ((orBits_test _ _).2 hm))
 ·exact land0 h1 (hdst x d hd) (by rw [or_bit, Bool.or_eq_true]; exact .inr (hdst y d hy))
 ·exact land0 h2 (hdst y d hd) ((orBits_test _ _).2 hm)
theorem drawB_ok {ops : Array Oper} {b : List Nat} (h : drawB ops b = true) : (∀ j o e, ops[j]? = some o -> e ∈ o.after.toList -> Region.binds .any e = true -> e.on < j) /\ ∀ i j x y, i < j -> ops[i]? = some x -> ops[j]? = some y -> (b.getD j 0).testBit i = false -> apartO ops x y = true := by
 unfold drawB at h
 rw [List.all_eq_true] at h
 refine ⟨fun j o e ho he hb => ?_, fun i j x y hij hx hy hbit => ?_⟩
 ·have hj := (Array.getElem?_eq_some_iff.1 ho).1
  have := h j (List.mem_range.2 hj)
  rw [ho] at this
  simp only [Bool.and_eq_true] at this
  have h1 := this.1
  unfold edgesB at h1
  rw [allL_eq, List.all_eq_true] at h1
  have := h1 e he
  rw [hb] at this
  simpa [Nat.blt_eq] using this
 ·have hj := (Array.getElem?_eq_some_iff.1 hy).1
  have := h j (List.mem_range.2 hj)
  rw [hy] at this
  simp only [Bool.and_eq_true, List.all_eq_true] at this
  have h2 := this.2 i (List.mem_range.2 hij)
  rw [hbit, hx] at h2
  simpa using h2
theorem pairs_mem {b ks : List Nat} {n i j : Nat} (hij : i < j) (hj : j < n) (hb : (b.getD j 0).testBit i = false) (h1 : 1 <= ks.getD i 2) (h2 : 1 <= ks.getD j 2) (h3 : 3 <= ks.getD i 2 + ks.getD j 2) : (i, j) ∈ pairsOf b ks n := by
 unfold pairsOf
 rw [List.mem_flatMap]
 refine ⟨j, List.mem_range.2 hj, List.mem_map.2 ⟨i, List.mem_filter.2 ⟨List.mem_range.2 hij, ?_⟩, rfl⟩⟩
 rw [hb]
 simp only [Bool.not_false, Bool.true_and, Bool.and_eq_true]
 exact ⟨Nat.ble_eq_true_of_le h3, Nat.ble_eq_true_of_le h1, Nat.ble_eq_true_of_le h2⟩
section
variable {idle : FuncId -> Bool} {ops : Array Oper} {n : Nat} {T : Nat -> TF} {H : Nat -> HH} {c : Nat -> Nat} {v : Nat -> Value} {A W : Nat -> Nat} {At Wt : Nat}
def PairOk (c A W : Nat -> Nat) (i j : Nat) : Prop := (∀ x, (W i).testBit x = true \/ c i <= x /\ x < c (i + 1) -> (A j).testBit x = false) /\ ∀ x, (W j).testBit x = true \/ c j <= x /\ x < c (j + 1) -> (A i).testBit x = false
theorem ind_of (g : Chn idle ops n ops.toList T H c v A W At Wt) (hB : drawB ops (befL ops.toList []) = true) (hP : ∀ i j, i < j -> (i, j) ∈ pairsOf (befL ops.toList []) (ops.toList.map kindO) ops.size -> PairOk c A W i j) : Ind ops (fun j => (befL ops.toList []).getD j 0) c A W := by
 obtain ⟨h1, h2⟩ := drawB_ok hB
 refine ⟨h1, fun j o i ho hb => ?_, fun i j x y hij hx hy hb => apartO_ok (h2 i j x y hij hx hy hb), fun i j hij hj hb => ?_⟩
 ·obtain ⟨e, q1, q2, q3⟩ := befL_clos ops.toList [] i j o (by simpa using ho) (by simpa using hb)
  exact ⟨e, q1, q2, q3.imp id fun h => h.2⟩
 ·obtain ⟨x, hx, -⟩ := g.at' (j := i) (by omega)
  obtain ⟨y, hy, -⟩ := g.at' hj
  obtain ⟨-, -, -, kx0, kx1⟩ := g.stp hx
  obtain ⟨-, -, -, ky0, ky1⟩ := g.stp hy
  have hk : ∀ m z, ops[m]? = some z -> (ops.toList.map kindO).getD m 2 = kindO z := fun m z hz => by simp [List.getD, hz]
  rcases Nat.lt_or_ge (kindO x) 1 with a1 | a1
  ·obtain ⟨w0, c0⟩ := kx1 (by omega)
   have a0 := kx0 (by omega)
   refine ⟨fun z hz => ?_, fun z _ => by rw [a0]; simp⟩
   rw [w0] at hz
   rcases hz with hz | hz
   ·simp at hz
   ·omega
  ·rcases Nat.lt_or_ge (kindO y) 1 with a2 | a2
   ·obtain ⟨w0, c0⟩ := ky1 (by omega)
    have a0 := ky0 (by omega)
    refine ⟨fun z _ => by rw [a0]; simp, fun z hz => ?_⟩
    rw [w0] at hz
    rcases hz with hz | hz
    ·simp at hz
    ·omega
   ·rcases Nat.lt_or_ge (kindO x + kindO y) 3 with a3 | a3
    ·obtain ⟨w0, c0⟩ := kx1 (by omega)
     obtain ⟨w1, c1⟩ := ky1 (by omega)
     refine ⟨fun z hz => ?_, fun z hz => ?_⟩
     ·rw [w0] at hz
      rcases hz with hz | hz
      ·simp at hz
      ·omega
     ·rw [w1] at hz
      rcases hz with hz | hz
      ·simp at hz
      ·omega
    ·exact hP i j hij (pairs_mem hij hj hb (by rw [hk i x hx]; exact a1) (by rw [hk j y hy]; exact a2) (by rw [hk i x hx, hk j y hy]; exact a3))
end
def exOf : EvEx -> Exit
 | .normal => .normal
 | .exit id => .exit id
 | .ret => .ret
def SoundCo (idle : FuncId -> Bool) (n : Nat) (co : CoF) (code : Code) : Prop := ∀ T m k v m0, co T m k = .ok v m0 -> m.c <= LIM + 1 -> ∃ e T' H' c' A W, k e T' ⟨H', c', Nat.lor m.A A, Nat.lor m.W W⟩ = .ok v m0 /\ Stc m.H m.c H' c' A W /\
 ∀ E M w a, Pre E m.H m.c c' A M w -> FrR n E T a.tmps -> DR idle a.defers -> ∀ Q, (∀ E' a' w', FrR n E' T' a'.tmps -> DR idle a'.defers -> Trn m.c c' H' W M E w E' w' -> Q (exOf e) a' w') -> code.wp Tryz.prog Q a w
theorem mixed_ok : Tryz.prog.follows .mixedOrders = true := by kernel_rfl
theorem apartB_ok {ms : List (Nat × Nat)} {p : Nat × Nat} (h : apartB ms p = true) : ∃ x y, ms[p.1]? = some x /\ ms[p.2]? = some y /\ Nat.beq (Nat.land x.2 y.1) 0 = true /\ Nat.beq (Nat.land y.2 x.1) 0 = true := by
 unfold apartB at h
 rw [getI_eq, getI_eq] at h
 cases h1 : ms[p.1]? with
 | none => rw [h1] at h; cases h
 | some x =>
  cases h2 : ms[p.2]? with
  | none => rw [h1, h2] at h; cases h
  | some y =>
   rw [h1, h2] at h
   change (Nat.beq (Nat.land x.2 y.1) 0 && Nat.beq (Nat.land y.2 x.1) 0) = true at h
   rw [Bool.and_eq_true] at h
   exact ⟨x, y, rfl, rfl, h.1, h.2⟩
theorem reg_ok {idle : FuncId -> Bool} {call : CallF} (hC : SoundC call) {n : Nat} (hn : n <= 256) (id : Nat) (ops : Array Oper) (draw : Bool) : SoundCo idle n (evC idle call (decR Tryz.prog n ops draw)) (.region id ops draw) := by
 intro T m k v m0 h hmc
 have hlen : ops.toList.length = ops.size := by simp
 cases draw with
 | false =>
  change evSeq idle call (decL Tryz.prog n ops ops.toList) T m (k .normal) = _ at h
  obtain ⟨T', H', c', A, W, h1, h2, h3⟩ := seq_ok hC (ops := ops) hn (i := 0) (fun j o hj => by rw [Nat.zero_add]; simpa using hj) h hmc
  refine ⟨.normal, T', H', c', A, W, h1, h2, fun E M w a p t d Q hQ => wp_region ?_⟩
  have := h3 E M w a p t d Q hQ
  rw [hlen] at this
  simpa using this
 | true =>
  unfold decR at h
  rw [cond_true] at h
  cases hB : drawB ops (befL ops.toList []) with
  | false => rw [hB] at h; cases h
  | true =>
   rw [hB, cond_true] at h
   split at h
   ·rename_i hps
    change evSeq idle call (decL Tryz.prog n ops ops.toList) T m (k .normal) = _ at h
    obtain ⟨T_, H_, c_, v_, A_, W_, At, Wt, g, g1, g2, g3, g4⟩ := seq_chn hC h hmc
    rw [hlen] at g4
    have gs := g.stc
    rw [hlen, g2, g3] at gs
    refine ⟨.normal, T_ ops.size, H_ ops.size, c_ ops.size, At, Wt, g4, gs, fun E M w a p t d Q hQ => ?_⟩
    rw [<- g2, <- g3] at p
    rw [<- g1] at t
    refine draw_ok g (ind_of g hB fun i j _ hm => by rw [hps] at hm; cases hm) hn mixed_ok p t d Q fun E' a' w' t' d' tr => hQ E' a' w' t' d' ?_
    rw [g3] at tr
    exact tr
   ·rename_i p0 ps hps
    change evDrw idle call _ (decD Tryz.prog n ops (p0 :: ps)) [] T m (k .normal) = _ at h
    obtain ⟨T_, H_, c_, v_, A_, W_, At, Wt, g, g1, g2, g3, g4, rs, q1, q2, q3⟩ := drw_chn hC (i := 0) (f := involved (p0 :: ps)) h hmc
    rw [hlen] at g4 q1
    have gs := g.stc
    rw [hlen, g2, g3] at gs
    refine ⟨.normal, T_ ops.size, H_ ops.size, c_ ops.size, At, Wt, g4, gs, fun E M w a p t d Q hQ => ?_⟩
    rw [<- g2, <- g3] at p
    rw [<- g1] at t
    refine draw_ok g (ind_of g hB fun i j hij hm => ?_) hn mixed_ok p t d Q fun E' a' w' t' d' tr => hQ E' a' w' t' d' (by rw [g3] at tr; exact tr)
    have hj : j < ops.size := by
     unfold pairsOf at hm
     obtain ⟨j', h1, h2⟩ := List.mem_flatMap.1 hm
     obtain ⟨i', h3, h4⟩ := List.mem_map.1 h2
     injection h4 with h4 h5
     subst h5
     exact List.mem_range.1 h1
    rw [hps] at hm
    rw [allL_eq, List.all_eq_true] at q2
    have hinv : ∀ x, x = i \/ x = j -> involved (p0 :: ps) x = true := fun x hx => by
     unfold involved
     rw [List.any_eq_true]
     refine ⟨(i, j), hm, ?_⟩
     rcases hx with rfl | rfl <;> simp
    obtain ⟨x, y, e1, e2, e3, e4⟩ := apartB_ok (q2 (ops.size - 1 - i, ops.size - 1 - j) (List.mem_map.2 ⟨(i, j), hm, rfl⟩))
    simp only [List.append_nil] at e1 e2
    have r1 := q3 i (by simpa using (by omega : i < ops.size)) (by rw [Nat.zero_add]; exact hinv i (.inl rfl))
    have r2 := q3 j (by simpa using hj) (by rw [Nat.zero_add]; exact hinv j (.inr rfl))
    rw [List.getElem?_reverse (by omega), q1, show ops.size - 1 - (ops.size - 1 - i) = i by omega, r1] at e1
    rw [List.getElem?_reverse (by omega), q1, show ops.size - 1 - (ops.size - 1 - j) = j by omega, r2] at e2
    injection e1 with e1
    injection e2 with e2
    subst e1
    subst e2
    have hci : c_ i <= c_ (i + 1) := g.le (by omega) (by omega)
    have hcj : c_ j <= c_ (j + 1) := g.le (by omega) (by omega)
    refine ⟨fun z hz => ?_, fun z hz => ?_⟩
    ·cases hA : (A_ j).testBit z with
     | false => rfl
     | true => exact (land0 e3 (by rw [or_bit, Bool.or_eq_true, fresh_bits _ _ _ hci, decide_eq_true_iff]; exact hz) hA).elim
    ·cases hA : (A_ i).testBit z with
     | false => rfl
     | true => exact (land0 e4 (by rw [or_bit, Bool.or_eq_true, fresh_bits _ _ _ hcj, decide_eq_true_iff]; exact hz) hA).elim
def InLoop (P : Program) (c : Code) (Q : Exit -> Act -> World -> Prop) (a : Act) (w : World) : Prop := ∀ (b : Frame) (k : List Item) (cs : List Frame), ∃ e a' w', Q e a' w' /\ Arrives P (lone (b.at a (.code c :: .inLoop c :: k)) cs w) b k cs e a' w'
theorem inLoop_one {P : Program} {c : Code} {Q : Exit -> Act -> World -> Prop} {a : Act} {w : World} (h : c.wp P (Exit.then (InLoop P c Q) Q) a w) : InLoop P c Q a w := by
 intro b k cs
 obtain ⟨e, a₁, w₁, hq, harr⟩ := h b (.inLoop c :: k) cs
 cases e with
 | normal =>
  obtain ⟨e₂, a₂, w₂, hq₂, harr₂⟩ := hq b k cs
  exact ⟨e₂, a₂, w₂, hq₂, .of_steps (Steps.trans harr (.one step_inLoop)) harr₂⟩
 | exit id => exact ⟨_, a₁, w₁, hq, .pass (x := .inLoop c) rfl (fun _ _ => .inl (by simp)) harr⟩
 | goto l => exact ⟨_, a₁, w₁, hq, .pass (x := .inLoop c) rfl (fun _ _ => .inl (by simp)) harr⟩
 | ret => exact ⟨_, a₁, w₁, hq, .pass (x := .inLoop c) rfl (fun _ _ => .inl (by simp)) harr⟩
 | panic ch => exact ⟨_, a₁, w₁, hq, .pass (x := .inLoop c) rfl (fun _ _ => .inl (by simp)) harr⟩
 | outgrown => exact ⟨_, a₁, w₁, hq, .pass (x := .inLoop c) rfl (fun _ _ => .inl (by simp)) harr⟩
theorem wp_inLoop {P : Program} {c : Code} {Q : Exit -> Act -> World -> Prop} {a : Act} {w : World} (h : InLoop P c Q a w) : (Code.loop c).wp P Q a w := fun b k cs => by
 obtain ⟨e, a', w', hq, harr⟩ := h b k cs
 exact ⟨e, a', w', hq, .of_steps (.one step_loop) harr⟩
theorem condF_ok {u : Value} {a b : R} {v : Value} {m0 : Me} (h : condF u a b = .ok v m0) : ∃ t, u = .bool t /\ (if t then a else b) = .ok v m0 := by
 unfold condF at h
 split at h
 ·rename_i t
  exact ⟨t, rfl, by cases t <;> exact h⟩
 ·cases h
theorem loop_ok {idle : FuncId -> Bool} {n : Nat} {co : CoF} {code : Code} (hb : SoundCo idle n co code) : ∀ (N : Nat) (T : TF) (m : Me) (k : KE) (v : Value) (m0 : Me), loopN co N T m k = .ok v m0 -> m.c <= LIM + 1 -> ∃ e T' H' c' A W, k e T' ⟨H', c', Nat.lor m.A A, Nat.lor m.W W⟩ = .ok v m0 /\ Stc m.H m.c H' c' A W /\
  ∀ E M w a, Pre E m.H m.c c' A M w -> FrR n E T a.tmps -> DR idle a.defers -> ∀ Q, (∀ E' a' w', FrR n E' T' a'.tmps -> DR idle a'.defers -> Trn m.c c' H' W M E w E' w' -> Q (exOf e) a' w') -> InLoop Tryz.prog code Q a w := by
 intro N
 induction N with
 | zero => intro T m k v m0 h; cases h
 | succ N ih =>
  intro T m k v m0 h hmc
  change co T m (fun e T m => exF e (loopN co N T m k) (k e T m)) = _ at h
  obtain ⟨e1, T1, H1, c1, A1, W1, h1, s1, g1⟩ := hb _ _ _ _ _ h hmc
  cases e1 with
  | normal =>
   change loopN co N T1 _ k = _ at h1
   obtain ⟨e, T', H', c', A, W, h2, s2, g2⟩ := ih T1 _ k v m0 h1 (s1.lim hmc)
   refine ⟨e, T', H', c', Nat.lor A1 A, Nat.lor W1 W, by rw [<- lor_assoc, <- lor_assoc]; exact h2, s1.trans s2 hmc, fun E M w a p t d Q hQ => ?_⟩
   exact inLoop_one (g1 E M w a (p.first s2.le) t d _ fun E1 a1 w1 t1 d1 tr => g2 E1 M w1 a1 (p.next s1 tr) t1 d1 Q fun E' a' w' t' d' tr' => hQ E' a' w' t' d' (tr.trans s1.le s2.le tr'))
  | exit id =>
   exact ⟨.exit id, T1, H1, c1, A1, W1, h1, s1, fun E M w a p t d Q hQ => inLoop_one (g1 E M w a p t d _ fun E' a' w' t' d' tr => hQ E' a' w' t' d' tr)⟩
  | ret =>
   exact ⟨.ret, T1, H1, c1, A1, W1, h1, s1, fun E M w a p t d Q hQ => inLoop_one (g1 E M w a p t d _ fun E' a' w' t' d' tr => hQ E' a' w' t' d' tr)⟩
theorem co_same {idle : FuncId -> Bool} {n : Nat} {co : CoF} {code : Code} (e : EvEx) (h : ∀ T m k, co T m k = k e T m) (hw : ∀ Q a w, Q (exOf e) a w -> code.wp Tryz.prog Q a w) : SoundCo idle n co code := by
 intro T m k v m0 hk _
 rw [h] at hk
 exact ⟨e, T, m.H, m.c, 0, 0, by rw [me_lor]; exact hk, Stc.refl _ _, fun E M w a p t d Q hQ => hw Q a w (hQ E a w t d (Trn.refl p.ag))⟩
theorem code_ok {idle : FuncId -> Bool} {call : CallF} (hC : SoundC call) {n : Nat} (hn : n <= 256) : ∀ code : Code, SoundCo idle n (evC idle call (decC Tryz.prog n code)) code
 | .skip => co_same .normal (fun _ _ _ => rfl) fun Q a w h => wp_skip h
 | .region id ops draw => reg_ok hC hn id ops draw
 | .seq x y => by
  have hx := code_ok (idle := idle) hC hn x
  have hy := code_ok (idle := idle) hC hn y
  intro T m k v m0 h hmc
  change evC idle call (decC Tryz.prog n x) T m (fun e T m => exF e (evC idle call (decC Tryz.prog n y) T m k) (k e T m)) = _ at h
  obtain ⟨e1, T1, H1, c1, A1, W1, h1, s1, g1⟩ := hx _ _ _ _ _ h hmc
  cases e1 with
  | normal =>
   change evC idle call (decC Tryz.prog n y) T1 _ k = _ at h1
   obtain ⟨e, T', H', c', A, W, h2, s2, g2⟩ := hy _ _ _ _ _ h1 (s1.lim hmc)
   refine ⟨e, T', H', c', Nat.lor A1 A, Nat.lor W1 W, by rw [<- lor_assoc, <- lor_assoc]; exact h2, s1.trans s2 hmc, fun E M w a p t d Q hQ => ?_⟩
   exact wp_seq (g1 E M w a (p.first s2.le) t d _ fun E1 a1 w1 t1 d1 tr => g2 E1 M w1 a1 (p.next s1 tr) t1 d1 Q fun E' a' w' t' d' tr' => hQ E' a' w' t' d' (tr.trans s1.le s2.le tr'))
  | exit id => exact ⟨.exit id, T1, H1, c1, A1, W1, h1, s1, fun E M w a p t d Q hQ => wp_seq (g1 E M w a p t d _ fun E' a' w' t' d' tr => hQ E' a' w' t' d' tr)⟩
  | ret => exact ⟨.ret, T1, H1, c1, A1, W1, h1, s1, fun E M w a p t d Q hQ => wp_seq (g1 E M w a p t d _ fun E' a' w' t' d' tr => hQ E' a' w' t' d' tr)⟩
 | .cond c x y => by
  have hx := code_ok (idle := idle) hC hn x
  have hy := code_ok (idle := idle) hC hn y
  intro T m k v m0 h hmc
  unfold decC at h
  cases hc : okO c with
  | false => rw [hc] at h; cases h
  | true =>
   rw [hc, cond_true] at h
   change condF (opd (dO c) T) (evC idle call (decC Tryz.prog n x) T m k) (evC idle call (decC Tryz.prog n y) T m k) = _ at h
   obtain ⟨t, ht, h⟩ := condF_ok h
   have hev : ∀ (E : En) (M : Nat -> Prop) (w : World) (a : Act) (c' A : Nat), Pre E m.H m.c c' A M w -> FrR n E T a.tmps -> a.eval c = .bool t := fun E M w a c' A p tr => by
    have := opd_vr tr p.glob hc
    rw [ht, <- eval_tmps] at this
    exact flat_eq this rfl
   cases t with
   | true =>
    obtain ⟨e, T', H', c', A, W, h1, s1, g1⟩ := hx _ _ _ _ _ h hmc
    exact ⟨e, T', H', c', A, W, h1, s1, fun E M w a p t d Q hQ => wp_cond_true (hev E M w a _ _ p t) (g1 E M w a p t d Q hQ)⟩
   | false =>
    obtain ⟨e, T', H', c', A, W, h1, s1, g1⟩ := hy _ _ _ _ _ h hmc
    exact ⟨e, T', H', c', A, W, h1, s1, fun E M w a p t d Q hQ => wp_cond_false (hev E M w a _ _ p t) (g1 E M w a p t d Q hQ)⟩
 | .block id x => by
  have hx := code_ok (idle := idle) hC hn x
  intro T m k v m0 h hmc
  change evC idle call (decC Tryz.prog n x) T m (fun e T m => EvEx.rec (motive := fun _ => R) (k .normal T m) (fun j => bif Nat.beq j id then k .normal T m else k (.exit j) T m) (k .ret T m) e) = _ at h
  obtain ⟨e1, T1, H1, c1, A1, W1, h1, s1, g1⟩ := hx _ _ _ _ _ h hmc
  cases e1 with
  | normal => exact ⟨.normal, T1, H1, c1, A1, W1, h1, s1, fun E M w a p t d Q hQ => wp_block (g1 E M w a p t d _ fun E' a' w' t' d' tr => hQ E' a' w' t' d' tr)⟩
  | ret => exact ⟨.ret, T1, H1, c1, A1, W1, h1, s1, fun E M w a p t d Q hQ => wp_block (g1 E M w a p t d _ fun E' a' w' t' d' tr => hQ E' a' w' t' d' tr)⟩
  | exit j =>
   change (bif Nat.beq j id then _ else _) = _ at h1
   cases hj : Nat.beq j id with
   | true =>
    rw [hj, cond_true] at h1
    have := Nat.eq_of_beq_eq_true hj
    exact ⟨.normal, T1, H1, c1, A1, W1, h1, s1, fun E M w a p t d Q hQ => wp_block (g1 E M w a p t d _ fun E' a' w' t' d' tr => by
     show (if j = id then _ else _)
     rw [if_pos this]
     exact hQ E' a' w' t' d' tr)⟩
   | false =>
    rw [hj, cond_false] at h1
    have := Nat.ne_of_beq_eq_false hj
    exact ⟨.exit j, T1, H1, c1, A1, W1, h1, s1, fun E M w a p t d Q hQ => wp_block (g1 E M w a p t d _ fun E' a' w' t' d' tr => by
     show (if j = id then _ else _)
     rw [if_neg this]
     exact hQ E' a' w' t' d' tr)⟩
 | .loop x => by
  have hx := code_ok (idle := idle) hC hn x
  intro T m k v m0 h hmc
  obtain ⟨e, T', H', c', A, W, h1, s1, g1⟩ := loop_ok hx 100000 T m k v m0 h hmc
  exact ⟨e, T', H', c', A, W, h1, s1, fun E M w a p t d Q hQ => wp_inLoop (g1 E M w a p t d Q hQ)⟩
 | .rangeFunc .. => fun T m k v m0 h _ => by cases h
 | .exit id => co_same (.exit id) (fun _ _ _ => rfl) fun Q a w h => wp_exit h
 | .scope .. => fun T m k v m0 h _ => by cases h
 | .label l => co_same .normal (fun _ _ _ => rfl) fun Q a w h => wp_label h
 | .goto .. => fun T m k v m0 h _ => by cases h
 | .ret => co_same .ret (fun _ _ _ => rfl) fun Q a w h => wp_ret h
 | .refuse .. => fun T m k v m0 h _ => by cases h
def resF (t : Array Value) : ResultVar -> Sem Value
 | .tmp i => pure (t.getD i undef)
 | .cell i ty => do loadVar ty (<- asAddr (t.getD i undef))
theorem results_eq (fn : Func) (t : Array Value) : results fn t = (fn.results.mapM (resF t) >>= fun vs => pure (if h : vs.size = 1 then vs[0] else .tuple vs)) := by
 unfold results
 congr 1
theorem resL_ok {rs : List ResultVar} {n : Nat} (hok : rs.all (resOk Tryz.prog) = true) : ∀ {T : TF} {m : Me} {k : List Value -> Me -> R} {v : Value} {m0 : Me}, resL (rs.map (decRes Tryz.prog)) T m k = .ok v m0 -> ∃ l A, k l ⟨m.H, m.c, Nat.lor m.A A, m.W⟩ = .ok v m0 /\ l.length = rs.length /\
  ∀ (E : En) (w : World) (t : Array Value), CanRd E m.H A w -> FrR n E T t -> ∃ xs, VRs E l xs /\ (rs.mapM (resF t)).run Tryz.prog w = .ok xs w := by
 induction rs with
 | nil => intro T m k v m0 h; exact ⟨[], 0, by rw [lor0]; exact h, rfl, fun E w t _ _ => ⟨[], .nil, rfl⟩⟩
 | cons r rs ih =>
  intro T m k v m0 h
  rw [List.all_cons, Bool.and_eq_true] at hok
  cases r with
  | tmp i =>
   change resL (rs.map (decRes Tryz.prog)) T m (fun l m => k (getT (pl i) T :: l) m) = _ at h
   obtain ⟨l, A, h1, h2, h3⟩ := ih hok.2 h
   refine ⟨_, A, h1, by simp [h2], fun E w t hc ht => ?_⟩
   obtain ⟨xs, q1, q2⟩ := h3 E w t hc ht
   have hi : i < 256 := by have := hok.1; unfold resOk at this; rw [Nat.blt_eq] at this; exact this
   refine ⟨t.getD i undef :: xs, .cons (ht.2 i hi) q1, ?_⟩
   rw [List.mapM_cons, Sem.run_bind]
   simp only [resF, Sem.run_pure, Result.andThen, Sem.run_bind, q2]
  | cell i ty =>
   have hi := hok.1
   unfold resOk at hi
   rw [Bool.and_eq_true, Nat.blt_eq] at hi
   obtain ⟨hi, hty⟩ := hi
   obtain ⟨q, hq⟩ := Option.isSome_iff_exists.1 hty
   have hd : decRes Tryz.prog (.cell i ty) = .c (pl i) q.1 q.2 := by simp only [decRes, hq]
   rw [List.map_cons, hd] at h
   change opLd q.1 q.2 (.t (pl i)) T m (fun u m => resL (rs.map (decRes Tryz.prog)) T m fun l m => k (u :: l) m) = _ at h
   obtain ⟨nm, off, u, ob, e1, e2, e3, h, hr⟩ := opLd_ok h
   obtain ⟨l, A, h1, h2, h3⟩ := ih hok.2 h
   refine ⟨u :: l, Nat.lor (bit nm) A, by rw [<- lor_assoc]; exact h1, by simp [h2], fun E w t hc ht => ?_⟩
   obtain ⟨xs, q1, q2⟩ := h3 E w t (fun i l ob he ha hh hg => hc i l ob he (by rw [or_bit, ha, Bool.or_true]) hh hg) ht
   have hx := ht.2 i hi
   change VR E (opd (.t (pl i)) T) _ at hx
   rw [e1] at hx
   generalize hgx : t.getD i undef = gx at hx
   cases hx with
   | ptr _ he =>
    obtain ⟨y, hy, hw⟩ := hr E w _ ty Tryz.prog he (hc nm _ ob he (by rw [or_bit, bit_test]; simp) e2 e3) hq
    refine ⟨y :: xs, .cons hy q1, ?_⟩
    rw [List.mapM_cons, Sem.run_bind]
    simp only [resF, hgx, asAddr, Sem.run_bind, Sem.run_pure, Result.andThen, hw, q2]
theorem post_normal {P : Program} {fn : Func} {R : Ending -> World -> Prop} {a : Act} {w : World} (h : Leaves P fn a.tmps R a.defers .returning w) : bodyPostD P fn R (exOf .normal) a w := h
theorem post_ret {P : Program} {fn : Func} {R : Ending -> World -> Prop} {a : Act} {w : World} (h : Leaves P fn a.tmps R a.defers .returning w) : bodyPostD P fn R (exOf .ret) a w := h
def IdleOk (idle : FuncId -> Bool) : Prop := ∀ g, idle g = true -> ∀ x w, CallsD Tryz.prog g #[x] .returning w fun e u' w' => e = .returned (.tuple #[]) /\ u' = .returning /\ w' = w
theorem leaves_ok {idle : FuncId -> Bool} (hI : IdleOk idle) {fn : Func} {t : Array Value} {R : Ending -> World -> Prop} {w : World} {x : Value} (hr : (results fn t).run Tryz.prog w = .ok x w) (hR : R (.returned x) w) : ∀ D, DR idle D -> Leaves Tryz.prog fn t R D .returning w := by
 intro D
 induction D with
 | nil => intro _; exact ⟨x, hr, hR⟩
 | cons d D ih =>
  intro hd
  obtain ⟨g, y, hg, hg2, rfl⟩ := hd d (List.mem_cons_self ..)
  refine ⟨by simp, .func g, #[y], g, #[y], rfl, ?_, ?_⟩
  ·unfold goodF at hg2
   cases hfn : Tryz.prog.funcs[g]? with
   | none => rw [hfn] at hg2; cases hg2
   | some fn' =>
    rw [hfn] at hg2
    simp only [Bool.and_eq_true, Bool.not_eq_true'] at hg2
    obtain ⟨g1, g2⟩ := hg2
    have g3 : fn'.body.isNone = false := by cases hb : fn'.body <;> simp_all
    simp only [invoke, callFunc, run_program, Sem.run_bind, Result.andThen, hfn, g1, g3, Bool.false_eq_true, if_false, Sem.run_pure]
    rfl
  ·refine (hI g hg y w).mono ?_
   rintro e u' w' ⟨rfl, rfl, rfl⟩
   exact ih fun d' hd' => hd d' (List.mem_cons_of_mem _ hd')
theorem argsT_get (l : List Value) : ∀ (i : Nat) (T : TF), i + l.length <= 256 -> ∀ t, t < 256 -> getT (pl t) (argsT l i T) = if i <= t /\ t < i + l.length then l.getD (t - i) undef else getT (pl t) T := by
 induction l with
 | nil => intro i T _ t _; rw [if_neg (by simp only [List.length_nil]; omega)]; rfl
 | cons v l ih =>
  intro i T hl t ht
  simp only [List.length_cons] at hl
  show getT (pl t) (argsT l (i + 1) (setT (pl i) v T)) = _
  rw [ih (i + 1) _ (by omega) t ht, getT_setT]
  by_cases h1 : i + 1 <= t /\ t < i + 1 + l.length
  ·rw [if_pos h1, if_pos (by simp only [List.length_cons]; omega)]
   obtain ⟨j, rfl⟩ : ∃ j, t = i + 1 + j := ⟨t - (i + 1), by omega⟩
   rw [show i + 1 + j - (i + 1) = j by omega, show i + 1 + j - i = j + 1 by omega]
   rfl
  ·rw [if_neg h1]
   by_cases h2 : t = i
   ·subst h2
    rw [if_pos rfl, if_pos (by simp only [List.length_cons]; omega), Nat.sub_self]
    rfl
   ·rw [if_neg (fun h => h2 (pl_inj ht (by omega) h)), if_neg (by simp only [List.length_cons]; omega)]
theorem enter_tr {n : Nat} {E : En} {l xs : List Value} (hn : n <= 256) (h : VRs E l xs) (hl : l.length <= n) : FrR n E (argsT l 0 undT) ((⟨xs⟩ : Array Value) ++ Array.replicate (n - (⟨xs⟩ : Array Value).size) undef) := by
 have hx := h.length
 refine ⟨by simp; omega, fun t ht => ?_⟩
 rw [argsT_get l 0 undT (by omega) t ht]
 by_cases h1 : 0 <= t /\ t < 0 + l.length
 ·rw [if_pos h1, Nat.sub_zero]
  have h2 : l[t]? = some (l.getD t undef) := by
   have : t < l.length := by omega
   simp [List.getD, this]
  obtain ⟨x, hx2, hr⟩ := h.get h2
  have : ((⟨xs⟩ : Array Value) ++ Array.replicate (n - (⟨xs⟩ : Array Value).size) undef).getD t undef = x := by
   rw [Array.getD_eq_getD_getElem?, Array.getElem?_append_left (by show t < xs.length; omega)]
   rw [List.getElem?_toArray, hx2]; rfl
  rw [this]; exact hr
 ·rw [if_neg h1, getT_und]
  have : ((⟨xs⟩ : Array Value) ++ Array.replicate (n - (⟨xs⟩ : Array Value).size) undef).getD t undef = undef := by
   rw [Array.getD_eq_getD_getElem?, Array.getElem?_append_right (by show xs.length <= t; omega), Array.getElem?_replicate]
   split <;> rfl
  rw [this]
  exact .tup .nil
def SoundX (f : FuncId) (g : ExtF) : Prop := ∀ args m k v m0, g args m k = .ok v m0 -> m.c <= LIM + 1 -> ∃ v' H' c' A W, k v' ⟨H', c', Nat.lor m.A A, Nat.lor m.W W⟩ = .ok v m0 /\ Stc m.H m.c H' c' A W /\
 ∀ E M w args', Pre E m.H m.c c' A M w -> VRs E args args' -> Calls Tryz.prog f ⟨args'⟩ w fun e w' => ∃ x E', e = .returned x /\ VR E' v' x /\ Trn m.c c' H' W M E w E' w'
theorem read_stc (H : HH) (c A : Nat) : Stc H c H c A 0 := ⟨Nat.le_refl _, id, fun _ _ _ _ => rfl, fun n _ h => by simp at h, fun n _ h => by simp at h, id, fun n h => by simp at h⟩
theorem oneR_vr {E : En} {l xs : List Value} (h : VRs E l xs) : VR E (oneR l) (if h : (⟨xs⟩ : Array Value).size = 1 then (⟨xs⟩ : Array Value)[0] else .tuple ⟨xs⟩) := by
 cases h with
 | nil => exact .tup .nil
 | cons h1 t1 =>
  cases t1 with
  | nil => exact h1
  | cons h2 t2 =>
   rw [dif_neg (by simp)]
   exact .tup (.cons h1 (.cons h2 t2))
theorem evF_ok {ext : FuncId -> Option ExtF} {idle : FuncId -> Bool} {call : CallF} (hX : ∀ f g, ext f = some g -> SoundX f g) (hI : IdleOk idle) (hC : SoundC call) : SoundC (evF ext idle call) := by
 intro f args m k v m0 h hmc
 unfold evF at h
 cases hx : ext f with
 | some g => rw [hx] at h; exact hX f g hx args m k v m0 h hmc
 | none =>
  rw [hx] at h
  unfold decF at h
  cases hf : Tryz.prog.funcs[f]? with
  | none => rw [hf] at h; cases h
  | some fn =>
   rw [hf] at h
   cases hb : fn.body with
   | none => simp only [hb] at h; cases h
   | some c =>
    simp only [hb] at h
    cases hok : (Nat.ble fn.ntmps 256 && fn.results.toList.all (resOk Tryz.prog)) with
    | false => rw [hok] at h; cases h
    | true =>
     rw [hok, cond_true] at h
     rw [Bool.and_eq_true] at hok
     have hn := Nat.le_of_ble_eq_true hok.1
     change (bif Nat.ble (lenL args) fn.ntmps then evC idle call (decC Tryz.prog fn.ntmps c) (argsT args 0 undT) m (fun e T m => EvEx.rec (motive := fun _ => R) (resL (fn.results.toList.map (decRes Tryz.prog)) T m fun l m => k (oneR l) m) (fun _ => .no [103, f]) (resL (fn.results.toList.map (decRes Tryz.prog)) T m fun l m => k (oneR l) m) e) else .no [105, f]) = _ at h
     obtain ⟨hal, h⟩ := bif_ok h
     have hal := Nat.le_of_ble_eq_true hal
     rw [lenL_eq] at hal
     obtain ⟨e, T', H', c', A, W, h1, s1, g1⟩ := code_ok (idle := idle) hC hn c _ _ _ _ _ h hmc
     have h1' : resL (fn.results.toList.map (decRes Tryz.prog)) T' ⟨H', c', Nat.lor m.A A, Nat.lor m.W W⟩ (fun l m => k (oneR l) m) = .ok v m0 /\ (e = .normal \/ e = .ret) := by
      cases e with
      | normal => exact ⟨h1, .inl rfl⟩
      | exit id => cases h1
      | ret => exact ⟨h1, .inr rfl⟩
     obtain ⟨h2, he⟩ := h1'
     obtain ⟨l, A2, h3, -, h4⟩ := resL_ok (n := fn.ntmps) hok.2 h2
     refine ⟨oneR l, H', c', Nat.lor A A2, Nat.lor W 0, by rw [<- lor_assoc, lor0]; exact h3, s1.trans (read_stc _ _ _) hmc, fun E M w args' p hargs => ?_⟩
     refine calls_of_wp_defers hf hb (g1 E M w _ (p.first (Nat.le_refl _)) (enter_tr hn hargs hal) (fun d hd => by cases hd) _ fun E' a' w' t' d' tr => ?_)
     have p2 := p.next s1 tr
     obtain ⟨xs, q1, q2⟩ := h4 E' w' a'.tmps (p2.canRd fun i h => h) t'
     have hres : (results fn a'.tmps).run Tryz.prog w' = .ok (if h : (⟨xs⟩ : Array Value).size = 1 then (⟨xs⟩ : Array Value)[0] else .tuple ⟨xs⟩) w' := by
      rw [results_eq, Sem.run_bind, Array.mapM_eq_mapM_toList, Sem.run_map, q2]
      rfl
     have hL := leaves_ok hI (R := fun e w' => ∃ x E', e = .returned x /\ VR E' (oneR l) x /\ Trn m.c c' H' (Nat.lor W 0) M E w E' w') hres ⟨_, E', rfl, oneR_vr q1, by rw [lor0]; exact tr⟩ a'.defers d'
     rcases he with rfl | rfl
     ·exact post_normal hL
     ·exact post_ret hL
theorem callN_succ (ext : FuncId -> Option ExtF) (idle : FuncId -> Bool) (N : Nat) : callN ext idle (N + 1) = evF ext idle (callN ext idle N) := rfl
theorem callN_ok {ext : FuncId -> Option ExtF} {idle : FuncId -> Bool} (hX : ∀ f g, ext f = some g -> SoundX f g) (hI : IdleOk idle) : ∀ N, SoundC (callN ext idle N) := by
 intro N
 induction N with
 | zero => intro f args m k v m0 h _; cases h
 | succ N ih =>
  rw [callN_succ]
  exact evF_ok hX hI ih
end Go.Proofs.YthejfklieedjmaaGreatDoor
