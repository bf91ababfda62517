/- Part 2 of the proof of lawSum.card: QryPlain, QryTypes, RatSize, QrySize, RangeLaw, OutLaw, Lays, RoundLaw, ColLaw, NatAt, Quiet, NatWalkA. Conditions: those of each theorem. -/
import Derived.RangeFuncNested
import Derived.RangeFuncBound
import Derived.RangeFuncCalls
import Derived.RangeFuncLeaves
import Derived.WalkKit
import Derived.OwnWalkIn
import Derived.TacticsInMore
import Derived.LoopNIn
import Derived.LoopIn
import Derived.Maps.AppendAt
import Derived.Maps.OwnIn
import Derived.Lib.Hide
import Derived.OrdersIn
import Derived.OrdersHeld
import Derived.ArgAppend
import Derived.StillTail
import Derived.Deep.Draws
import Derived.Deep.QuietTactic
import Derived.Calls
import Derived.Test.YthejfklieedjmaaGreatDoorProg
import Derived.BigQuiet
import Derived.WalkLawsBesides
import Derived.Test.YthejfklieedjmaaGreatDoorQs01
set_option maxRecDepth 20000
namespace Go.Proofs.YthejfklieedjmaaGreatDoor
open Go Go.Proofs
structure Pt where
 coef : Rv
 kind : Int
 place : Int
 other : Int
 from_ : Int
 to_ : Int
structure Ws where
 kind : Int
 parts : List Pt
 gauge : Int
 other : Int
 lag : Int
 from_ : Int
 to_ : Int
 level : Rv
 level2 : Rv
structure Nm where
 name : ByteArray
 known : Int
 wish : Ws
inductive Qv where
 | num (q : Rv)
 | tick (n : Int)
 | sum (l : List Pt)
 | wish (w : Ws)
def noWs : Ws := ⟨0, [], 0, 0, 0, 0, 0, zeroR, zeroR⟩
def maxI : Int := 999999999999999
def maxT : Int := 1402560
def gaugeP (n : Int) : Bool := decide (0 <= n) && decide (n < 40)
def checkPt (p : Pt) : Int :=
 if p.kind < 1 \/ 3 < p.kind \/ ¬ validR p.coef \/ (p.other ≠ 0 /\ p.kind ≠ 2) then 1
 else if !gaugeP p.place || !gaugeP p.other || decide (p.from_ < 0) || decide (p.to_ < p.from_) || decide (maxT < p.to_) then 3 else 0
def checkPts : List Pt -> Int
 | [] => 0
 | p :: r => if checkPt p = 0 then checkPts r else checkPt p
def checkW (w : Ws) : Int :=
 if w.kind = 1 then
  if 40 < w.parts.length then 2
  else if w.parts = [] \/ w.gauge ≠ 0 \/ w.other ≠ 0 \/ w.lag ≠ 0 \/ w.from_ ≠ 0 \/ w.to_ ≠ 0 \/ w.level ≠ zeroR \/ w.level2 ≠ zeroR then 1
  else checkPts w.parts
 else if w.kind < 2 \/ 5 < w.kind then 1
 else if w.kind < 5 /\ ((w.level ≠ zeroR /\ w.kind ≠ 4) \/ w.other ≠ 0 \/ w.lag ≠ 0 \/ w.level2 ≠ zeroR) then 1
 else if w.parts ≠ [] \/ ¬ validR w.level \/ ¬ validR w.level2 then 1
 else if !gaugeP w.gauge || !gaugeP w.other || decide (w.lag < 0) || decide (2880 < w.lag) || decide (w.from_ < 0) || decide (w.to_ <= w.from_) || decide (maxT < w.to_) then 3 else 0
def callNames : List (List UInt8) := [[100, 97, 121], [116, 105, 99, 107], [118, 111, 108, 117, 109, 101], [97, 114, 114, 105, 118, 101], [98, 97, 108, 97, 110, 99, 101], [112, 101, 97, 107], [108, 111, 119], [97, 98, 111, 118, 101], [98, 111, 116, 104]]
def callNo (s : ByteArray) : Nat := callNames.findIdx fun n => s.data.toList == n
def sigN : Nat -> Option (List Int × Int)
 | 0 => some ([1, 1, 1], 2)
 | 1 => some ([1], 2)
 | 2 => some ([1, 2, 2], 3)
 | 3 => some ([1, 1, 2, 2], 3)
 | 4 => some ([1, 2, 2], 3)
 | 5 => some ([1, 2, 2], 4)
 | 6 => some ([1, 2, 2], 4)
 | 7 => some ([1, 1, 2, 2], 4)
 | 8 => some ([1, 1, 1, 1, 1, 2, 2], 4)
 | _ => none
def sigP (s : ByteArray) : Option (List Int × Int) := sigN (callNo s)
def operandsP (op : Int) : Int :=
 if op = 1 \/ op = 2 \/ op = 3 then 0 else if op = 4 then -1 else if op = 5 \/ op = 6 then 1 else if 7 <= op /\ op <= 19 then 2 else if op = 20 then 3 else -2
def binaryP (op a b : Int) : Int :=
 if op = 10 \/ op = 11 then
  if a = b /\ (a = 1 \/ a = 3) then a
  else if a = 2 /\ b = 1 then 2
  else if a = 2 /\ b = 2 /\ op = 11 then 1 else 0
 else if op = 7 then
  if a = 1 /\ b = 1 then 1 else if (a = 1 /\ b = 3) \/ (a = 3 /\ b = 1) then 3 else 0
 else if op = 8 then if b = 1 /\ (a = 1 \/ a = 3) then a else 0
 else 0
def typeOf (op : Int) (s : ByteArray) (ks : List Int) : Int × Int :=
 if op = 1 then (1, 0)
 else if op = 2 then (0, 7)
 else if op = 3 then (0, 6)
 else if op = 4 then
  match sigP s with
  | none => (0, 6)
  | some (as_, v) => if ks.length ≠ as_.length then (0, 1) else if ks = as_ then (v, 0) else (0, 7)
 else if op = 6 then match ks with
  | k :: _ => if k = 1 \/ k = 3 then (k, 0) else (0, 7)
  | [] => (0, 7)
 else match ks with
  | [a, b] => if binaryP op a b = 0 then (0, 7) else (binaryP op a b, 0)
  | _ => (0, 7)
mutual
def typedE : Ex -> Except (Int × Int) Int
 | .mk op n s kids at_ =>
  if operandsP op = -2 \/ (0 <= operandsP op /\ (kids.length : Int) ≠ operandsP op) \/ (op = 1 /\ (n < 0 \/ maxI < n)) then .error (at_, 1)
  else match typedL kids with
   | .error p => .error p
   | .ok ks => if (typeOf op s ks).2 = 0 then .ok (typeOf op s ks).1 else .error (at_, (typeOf op s ks).2)
def typedL : List Ex -> Except (Int × Int) (List Int)
 | [] => .ok []
 | x :: r => match typedE x with
  | .error p => .error p
  | .ok t => match typedL r with
   | .error p => .error p
   | .ok ts => .ok (t :: ts)
end
def floorF (f : Bool × Nat × Nat) : Nat := if f.1 = true /\ f.2.1 % f.2.2 ≠ 0 then f.2.1 / f.2.2 + 1 else f.2.1 / f.2.2
def intR (n : Int) : Rv := repR (n : Rat)
def wholeR (u : Rv) : Option Int := if (floorF (fracR u) : Int) <= maxI /\ intR (sgn (fracR u).1 (floorF (fracR u))) = u then some (sgn (fracR u).1 (floorF (fracR u))) else none
def mulR (a b : Rv) : Rv := repR (qR a * qR b)
def atP (n : Int) : Except Int Qv := if n < 0 \/ maxT < n then .error 3 else .ok (.tick n)
def scaledP (l : List Pt) (q : Rv) : List Pt := l.map fun p => { p with coef := mulR p.coef q }
def wholes : List Rv -> Option (List Int)
 | [] => some []
 | q :: r => match wholeR q with
  | none => none
  | some n => match wholes r with
   | none => none
   | some ns => some (n :: ns)
def dayF (y m d : Rv) : Except Int Qv := match wholes [y, m, d] with
 | some [a, b, c] => if dayE a b c = 0 then atP (dayN a b c * 96) else .error (dayE a b c)
 | _ => .error 3
def tickF (a : Rv) : Except Int Qv := match wholeR a with
 | none => .error 3
 | some n => atP n
def partF (kind : Int) (l : List Rv) (t u : Int) : Except Int Qv := match wholes l with
 | some (g :: r) => .ok (.sum [⟨intR 1, kind, g, r.headD 0, t, u⟩])
 | _ => .error 3
def extremeF (kind : Int) (a : Rv) (t u : Int) : Except Int Qv := match wholeR a with
 | none => .error 3
 | some g => .ok (.wish ⟨kind, [], g, 0, 0, t, u, zeroR, zeroR⟩)
def aboveF (a b : Rv) (t u : Int) : Except Int Qv := match wholeR a with
 | none => .error 3
 | some g => .ok (.wish ⟨4, [], g, 0, 0, t, u, b, zeroR⟩)
def bothF (a b c d k : Rv) (t u : Int) : Except Int Qv := match wholes [a, c, k] with
 | some [g, h, l] => .ok (.wish ⟨5, [], g, h, l, t, u, b, d⟩)
 | _ => .error 3
def calledN : Nat -> List Qv -> Except Int Qv
 | 0, [.num y, .num m, .num d] => dayF y m d
 | 1, [.num a] => tickF a
 | 2, [.num a, .tick t, .tick u] => partF 1 [a] t u
 | 3, [.num a, .num b, .tick t, .tick u] => partF 2 [a, b] t u
 | 4, [.num a, .tick t, .tick u] => partF 3 [a] t u
 | 5, [.num a, .tick t, .tick u] => extremeF 2 a t u
 | 6, [.num a, .tick t, .tick u] => extremeF 3 a t u
 | 7, [.num a, .num b, .tick t, .tick u] => aboveF a b t u
 | 8, [.num a, .num b, .num c, .num d, .num k, .tick t, .tick u] => bothF a b c d k t u
 | _, _ => .error 7
def bothP (op : Int) (a b : Qv) : Except Int Qv :=
 match a, b with
 | .tick x, .tick y => .ok (.num (intR (x - y)))
 | .tick x, .num q => match wholeR q with
  | none => .error 3
  | some n => atP (if op = 11 then x - n else x + n)
 | .sum x, .sum y =>
  if 40 < x.length + y.length then .error 2 else .ok (.sum (x ++ (if op = 11 then scaledP y (intR (-1)) else y)))
 | .sum x, .num q => if op = 8 then (if qR q = 0 then .error 1 else .ok (.sum (scaledP x (repR (1 / qR q))))) else .ok (.sum (scaledP x q))
 | .num q, .sum y => .ok (.sum (scaledP y q))
 | .num q, .num r => if op = 10 then .ok (.num (repR (qR q + qR r))) else if op = 11 then .ok (.num (repR (qR q - qR r))) else if op = 7 then .ok (.num (mulR q r))
  else if qR r = 0 then .error 1 else .ok (.num (repR (qR q / qR r)))
 | _, _ => .error 7
mutual
def valueE : Ex -> Except Int Qv
 | .mk op n s kids _ =>
  match valueL kids with
  | .error e => .error e
  | .ok xs =>
   if op = 1 then .ok (.num (intR n))
   else if op = 4 then calledN (callNo s) xs
   else if op = 6 then match xs with
    | [a] => bothP 7 a (.num (intR (-1)))
    | _ => .error 7
   else match xs with
    | [a, b] => bothP op a b
    | _ => .error 7
def valueL : List Ex -> Except Int (List Qv)
 | [] => .ok []
 | x :: r => match valueE x with
  | .error e => .error e
  | .ok v => match valueL r with
   | .error e => .error e
   | .ok vs => .ok (v :: vs)
end
inductive Of where
 | ok (v : Qv)
 | own (at_ e : Int)
 | err (e : Int)
def wishOf : Qv -> Qv
 | .sum l => .wish { noWs with kind := 1, parts := l }
 | v => v
def ofP (e : Ex) (types : List Int) : Of :=
 match typedE e with
 | .error p => .own p.1 p.2
 | .ok t => if types.contains t then
   match valueE e with
   | .error c => .err c
   | .ok v => match wishOf v with
    | .wish w => if checkW w = 0 then .ok (.wish w) else .err (checkW w)
    | u => .ok u
  else .err 7
def tyOf : Qv -> Int
 | .num _ => 1
 | .tick _ => 2
 | .sum _ => 3
 | .wish _ => 4
theorem typedL_len : ∀ {l : List Ex} {ks : List Int}, typedL l = .ok ks -> ks.length = l.length
 | [], ks, h => by rw [typedL] at h; cases h; rfl
 | x :: r, ks, h => by
  rw [typedL] at h
  cases hx : typedE x with
  | error p => rw [hx] at h; cases h
  | ok t =>
   rw [hx] at h
   cases hr : typedL r with
   | error p => rw [hr] at h; cases h
   | ok ts =>
    rw [hr] at h
    cases h
    rw [List.length_cons, List.length_cons, typedL_len hr]
theorem typedL_one {l : List Ex} {k : Int} (h : typedL l = .ok [k]) : ∃ a, l = [a] /\ typedE a = .ok k := by
 have hl := typedL_len h
 match l, hl with
 | [a], _ =>
  rw [typedL] at h
  cases hx : typedE a with
  | error p => rw [hx] at h; cases h
  | ok t =>
   rw [hx, typedL] at h
   cases h
   exact ⟨a, rfl, hx⟩
theorem typedL_two {l : List Ex} {j k : Int} (h : typedL l = .ok [j, k]) : ∃ a b, l = [a, b] /\ typedE a = .ok j /\ typedE b = .ok k := by
 have hl := typedL_len h
 match l, hl with
 | [a, b], _ =>
  rw [typedL] at h
  cases hx : typedE a with
  | error p => rw [hx] at h; cases h
  | ok t =>
   rw [hx] at h
   cases hr : typedL [b] with
   | error p => rw [hr] at h; cases h
   | ok ts =>
    rw [hr] at h
    cases h
    obtain ⟨c, hc, h2⟩ := typedL_one hr
    cases hc
    exact ⟨a, b, rfl, hx, h2⟩
theorem binary_ops {op a b : Int} (h : binaryP op a b ≠ 0) : op = 7 \/ op = 8 \/ op = 10 \/ op = 11 := by
 unfold binaryP at h
 rcases Decidable.em (op = 10 \/ op = 11) with h1 | h1
 ·omega
 ·rw [if_neg h1] at h
  rcases Decidable.em (op = 7) with h2 | h2
  ·omega
  ·rw [if_neg h2] at h
   rcases Decidable.em (op = 8) with h3 | h3
   ·omega
   ·rw [if_neg h3] at h; exact absurd rfl h
theorem typed_ok {op n at_ t : Int} {s : ByteArray} {kids : List Ex} (h : typedE (.mk op n s kids at_) = .ok t) :
  (op = 1 /\ kids = [] /\ 0 <= n /\ n <= maxI /\ t = 1) \/ (op = 4 /\ ∃ ks, typedL kids = .ok ks /\ sigP s = some (ks, t)) \/ (op = 6 /\ ∃ a, kids = [a] /\ typedE a = .ok t /\ (t = 1 \/ t = 3)) \/
   ((op = 7 \/ op = 8 \/ op = 10 \/ op = 11) /\ ∃ a b x y, kids = [a, b] /\ typedE a = .ok x /\ typedE b = .ok y /\ binaryP op x y = t /\ t ≠ 0) := by
 rw [typedE] at h
 split at h
 ·cases h
 rename_i hc
 rw [not_or, not_or] at hc
 obtain ⟨c1, c2, c3⟩ := hc
 cases hk : typedL kids with
 | error p => rw [hk] at h; cases h
 | ok ks =>
  rw [hk] at h
  have hl := typedL_len hk
  dsimp only at h
  by_cases ht : (typeOf op s ks).2 = 0
  rotate_left
  ·rw [if_neg ht] at h; cases h
  rw [if_pos ht] at h
  simp only [Except.ok.injEq] at h
  unfold typeOf at ht h
  rcases Decidable.em (op = 1) with h1 | h1
  ·subst h1
   left
   refine ⟨rfl, ?_, by omega, by omega, by rw [if_pos rfl] at h; exact h.symm⟩
   have : (kids.length : Int) = 0 := by
    have := c2
    rw [show operandsP 1 = 0 from rfl] at this
    omega
   exact List.length_eq_zero_iff.1 (by omega)
  ·rw [if_neg h1] at ht h
   rcases Decidable.em (op = 2) with h2 | h2
   ·rw [if_pos h2] at ht; exact absurd ht (by decide)
   rw [if_neg h2] at ht h
   rcases Decidable.em (op = 3) with h3 | h3
   ·rw [if_pos h3] at ht; exact absurd ht (by decide)
   rw [if_neg h3] at ht h
   rcases Decidable.em (op = 4) with h4 | h4
   ·rw [if_pos h4] at ht h
    right; left
    refine ⟨h4, ks, rfl, ?_⟩
    split at ht
    ·exact absurd ht (by decide)
    ·rename_i as_ v hs
     rw [hs] at h
     dsimp only at ht h
     split at ht
     ·exact absurd ht (by decide)
     ·rename_i hn
      rw [if_neg hn] at h
      split at ht
      ·rename_i he
       rw [if_pos he] at h
       rw [hs, he, <- h]
      ·exact absurd ht (by decide)
   rw [if_neg h4] at ht h
   right; right
   rcases Decidable.em (op = 6) with h6 | h6
   ·rw [if_pos h6] at ht h
    left
    refine ⟨h6, ?_⟩
    match ks, hk with
    | [], _ => exact absurd (show (7 : Int) = 0 from ht) (by decide)
    | k :: r, hk =>
     subst h6
     dsimp only at ht h
     split at ht
     ·rename_i hk1
      rw [if_pos hk1] at h
      have hr : r = [] := by
       have := c2
       rw [show operandsP 6 = 1 from rfl, <- hl, List.length_cons] at this
       exact List.length_eq_zero_iff.1 (by omega)
      subst hr
      obtain ⟨a, rfl, ha⟩ := typedL_one hk
      dsimp only at h
      exact ⟨a, rfl, by rw [ha, h], by omega⟩
     ·exact absurd ht (by decide)
   ·rw [if_neg h6] at ht h
    right
    match ks, hk with
    | [], _ => exact absurd (show (7 : Int) = 0 from ht) (by decide)
    | [_], _ => exact absurd (show (7 : Int) = 0 from ht) (by decide)
    | [x, y], hk =>
     dsimp only at ht h
     split at ht
     ·exact absurd ht (by decide)
     ·rename_i hb
      rw [if_neg hb] at h
      obtain ⟨a, b, rfl, ha, hb2⟩ := typedL_two hk
      exact ⟨binary_ops hb, a, b, x, y, rfl, ha, hb2, h, by rw [<- h]; exact hb⟩
    | _ :: _ :: _ :: _, _ => exact absurd (show (7 : Int) = 0 from ht) (by decide)
theorem at_ok {n : Int} {q : Qv} (h : atP n = .ok q) : q = .tick n /\ 0 <= n /\ n <= maxT := by
 unfold atP at h
 split at h
 ·cases h
 ·cases h; exact ⟨rfl, by omega, by omega⟩
theorem at_type {n : Int} {q : Qv} (h : atP n = .ok q) : tyOf q = 2 := by rw [(at_ok h).1]; rfl
theorem part_type {k t u : Int} {l : List Rv} {q : Qv} (h : partF k l t u = .ok q) : tyOf q = 3 := by
 unfold partF at h
 split at h
 ·cases h; rfl
 ·cases h
theorem extreme_type {k t u : Int} {a : Rv} {q : Qv} (h : extremeF k a t u = .ok q) : tyOf q = 4 := by
 unfold extremeF at h
 split at h
 ·cases h
 ·cases h; rfl
theorem called_type {k : Nat} {xs : List Qv} {q : Qv} {as_ : List Int} {v : Int} (hs : sigN k = some (as_, v)) (h : calledN k xs = .ok q) : tyOf q = v := by
 unfold calledN at h
 split at h
 ·cases hs
  unfold dayF at h
  split at h
  ·split at h
   ·exact at_type h
   ·cases h
  ·cases h
 ·cases hs
  unfold tickF at h
  split at h
  ·cases h
  ·exact at_type h
 ·cases hs; exact part_type h
 ·cases hs; exact part_type h
 ·cases hs; exact part_type h
 ·cases hs; exact extreme_type h
 ·cases hs; exact extreme_type h
 ·cases hs
  unfold aboveF at h
  split at h
  ·cases h
  ·cases h; rfl
 ·cases hs
  unfold bothF at h
  split at h
  ·cases h; rfl
  ·cases h
 ·cases h
theorem both_type {op : Int} {a b q : Qv} (hb : binaryP op (tyOf a) (tyOf b) ≠ 0) (h : bothP op a b = .ok q) : tyOf q = binaryP op (tyOf a) (tyOf b) := by
 have ho := binary_ops hb
 cases a <;> cases b <;> rcases ho with rfl | rfl | rfl | rfl <;> simp [tyOf, binaryP] at hb <;> simp only [bothP] at h <;> repeat' split at h
 all_goals first | exact at_type h | (cases h; rfl) | cases h | contradiction
mutual
theorem value_type : ∀ {e : Ex} {t : Int} {q : Qv}, typedE e = .ok t -> valueE e = .ok q -> tyOf q = t
 | .mk op n s kids at_, t, q, ht, h => by
  rw [valueE] at h
  cases hx : valueL kids with
  | error c => rw [hx] at h; cases h
  | ok xs =>
   rw [hx] at h
   dsimp only at h
   rcases typed_ok ht with ⟨rfl, rfl, -, -, rfl⟩ | ⟨rfl, ks, hk, hs⟩ | ⟨rfl, a, rfl, ha, h1⟩ | ⟨ho, a, b, x, y, rfl, ha, hb, hp, h0⟩
   ·rw [if_pos rfl] at h; cases h; rfl
   ·rw [if_neg (by decide), if_pos rfl] at h
    exact called_type hs h
   ·rw [if_neg (by decide), if_neg (by decide), if_pos rfl] at h
    obtain ⟨v, rfl, hv⟩ : ∃ v, xs = [v] /\ tyOf v = t := by
     have hl := values_type (l := [a]) (ts := [t]) (by rw [typedL, ha, typedL]) hx
     match xs, hl with
     | [v], hl => exact ⟨v, rfl, by simpa using hl⟩
    have := both_type (op := 7) (a := v) (b := .num (intR (-1))) (q := q) (by rw [hv]; rcases h1 with rfl | rfl <;> decide) h
    rw [this, hv]
    rcases h1 with rfl | rfl <;> rfl
   ·have o1 : op ≠ 1 /\ op ≠ 4 /\ op ≠ 6 := by omega
    rw [if_neg o1.1, if_neg o1.2.1, if_neg o1.2.2] at h
    obtain ⟨v, w, rfl, hv, hw⟩ : ∃ v w, xs = [v, w] /\ tyOf v = x /\ tyOf w = y := by
     have hl := values_type (l := [a, b]) (ts := [x, y]) (by rw [typedL, ha, typedL, hb, typedL]) hx
     match xs, hl with
     | [v, w], hl => exact ⟨v, w, rfl, by simpa using hl⟩
    rw [<- hp, <- hv, <- hw]
    exact both_type (by rw [hv, hw, hp]; exact h0) h
theorem values_type : ∀ {l : List Ex} {ts : List Int} {xs : List Qv}, typedL l = .ok ts -> valueL l = .ok xs -> xs.map tyOf = ts
 | [], ts, xs, ht, h => by
  rw [typedL] at ht; rw [valueL] at h
  cases ht; cases h; rfl
 | e :: r, ts, xs, ht, h => by
  rw [typedL] at ht; rw [valueL] at h
  cases h1 : typedE e with
  | error p => rw [h1] at ht; cases ht
  | ok t =>
   rw [h1] at ht
   cases h2 : typedL r with
   | error p => rw [h2] at ht; cases ht
   | ok us =>
    rw [h2] at ht
    cases ht
    cases h3 : valueE e with
    | error c => rw [h3] at h; cases h
    | ok v =>
     rw [h3] at h
     cases h4 : valueL r with
     | error c => rw [h4] at h; cases h
     | ok vs =>
      rw [h4] at h
      cases h
      rw [List.map_cons, value_type h1 h3, values_type h2 h4]
end
def BytesQ (q : Rat) (k : Nat) : Prop := q.num.natAbs < 256 ^ k /\ q.den < 256 ^ k
theorem BytesQ.mono {q : Rat} {k j : Nat} (h : BytesQ q k) (hj : k <= j) : BytesQ q j := by
 have h1 : 256 ^ k <= 256 ^ j := Nat.pow_le_pow_right (by decide) hj
 have := h.1
 have := h.2
 exact ⟨by omega, by omega⟩
theorem mkRat_bytes {n : Int} {d k : Nat} (hd : d ≠ 0) (hn : n.natAbs < 256 ^ k) (hk : d < 256 ^ k) : BytesQ (mkRat n d) k := by
 rw [<- Rat.normalize_eq_mkRat hd, Rat.normalize_eq hd]
 constructor
 ·show (n / ((Nat.gcd n.natAbs d : Nat) : Int)).natAbs < _
  have h1 : (n / ((Nat.gcd n.natAbs d : Nat) : Int)).natAbs <= n.natAbs := by
   obtain ⟨m, hm⟩ := Nat.gcd_dvd_left n.natAbs d
   have h2 := Int.natAbs_ediv_of_dvd (a := n) (b := ((Nat.gcd n.natAbs d : Nat) : Int)) (Int.ofNat_dvd_left.2 (Nat.gcd_dvd_left _ _))
   rw [h2, Int.natAbs_natCast]
   exact Nat.div_le_self _ _
  omega
 ·show d / Nat.gcd n.natAbs d < _
  have := Nat.div_le_self d (Nat.gcd n.natAbs d)
  omega
theorem mul_lt_pow {x y a b : Nat} (hx : x < 256 ^ a) (hy : y < 256 ^ b) : x * y < 256 ^ (a + b) := by
 rw [Nat.pow_add]
 have h1 : 0 < 256 ^ b := Nat.pow_pos (by decide)
 exact Nat.mul_lt_mul_of_lt_of_le hx (Nat.le_of_lt hy) h1
theorem BytesQ.add {p q : Rat} {a b : Nat} (h : BytesQ p a) (g : BytesQ q b) : BytesQ (p + q) (a + b + 1) := by
 have e : p + q = mkRat (p.num * q.den + q.num * p.den) (p.den * q.den) := by
  conv => lhs; rw [<- Rat.mkRat_self p, <- Rat.mkRat_self q]
  exact Rat.mkRat_add_mkRat _ _ p.den_nz q.den_nz
 rw [e]
 have h1 := mul_lt_pow h.1 g.2
 have h2 := mul_lt_pow g.1 h.2
 have h3 := mul_lt_pow h.2 g.2
 rw [Nat.add_comm b a] at h2
 have h4 : 256 ^ (a + b + 1) = 256 ^ (a + b) * 256 := Nat.pow_succ ..
 refine mkRat_bytes (Nat.mul_ne_zero p.den_nz q.den_nz) ?_ (by omega)
 have h5 := Int.natAbs_add_le (p.num * q.den) (q.num * p.den)
 rw [Int.natAbs_mul, Int.natAbs_mul, Int.natAbs_natCast, Int.natAbs_natCast] at h5
 omega
theorem BytesQ.neg {p : Rat} {a : Nat} (h : BytesQ p a) : BytesQ (-p) a := by
 constructor
 ·show (-p).num.natAbs < _
  rw [Rat.neg_num, Int.natAbs_neg]; exact h.1
 ·show (-p).den < _
  rw [Rat.neg_den]; exact h.2
theorem BytesQ.sub {p q : Rat} {a b : Nat} (h : BytesQ p a) (g : BytesQ q b) : BytesQ (p - q) (a + b + 1) := by
 rw [Rat.sub_eq_add_neg]
 exact h.add g.neg
theorem BytesQ.mul {p q : Rat} {a b : Nat} (h : BytesQ p a) (g : BytesQ q b) : BytesQ (p * q) (a + b) := by
 have e : p * q = mkRat (p.num * q.num) (p.den * q.den) := by
  conv => lhs; rw [<- Rat.mkRat_self p, <- Rat.mkRat_self q]
  exact Rat.mkRat_mul_mkRat _ _ _ _
 rw [e]
 refine mkRat_bytes (Nat.mul_ne_zero p.den_nz q.den_nz) ?_ (mul_lt_pow h.2 g.2)
 rw [Int.natAbs_mul]
 exact mul_lt_pow h.1 g.1
theorem BytesQ.inv {p : Rat} {a : Nat} (h : BytesQ p a) : BytesQ p⁻¹ (a + 1) := by
 have h4 : 256 ^ (a + 1) = 256 ^ a * 256 := Nat.pow_succ ..
 have h0 : 0 < 256 ^ a := Nat.pow_pos (by decide)
 constructor
 ·rw [Rat.num_inv, Int.natAbs_mul, Int.natAbs_natCast]
  have h1 : p.num.sign.natAbs <= 1 := by rw [Int.natAbs_sign]; split <;> omega
  have h2 : p.num.sign.natAbs * p.den <= 1 * p.den := Nat.mul_le_mul_right _ h1
  have := h.2
  omega
 ·rw [Rat.den_inv]
  have := h.1
  split <;> omega
theorem BytesQ.div {p q : Rat} {a b : Nat} (h : BytesQ p a) (g : BytesQ q b) : BytesQ (p / q) (a + b + 1) := by
 rw [Rat.div_def]
 exact (h.mul g.inv).mono (by omega)
theorem bytes_zero (k : Nat) : BytesQ 0 (k + 1) := by
 have h0 : 0 < 256 ^ k := Nat.pow_pos (by decide)
 have h4 : 256 ^ (k + 1) = 256 ^ k * 256 := Nat.pow_succ ..
 constructor
 ·show 0 < _; omega
 ·show 1 < _; omega
theorem encB_size {n k : Nat} (h : n < 256 ^ k) : (encB n).size <= k := encN_len_le h
theorem repR_size {q : Rat} {k : Nat} (h : BytesQ q k) : (repR q).num.size <= k /\ (repR q).den.size <= k := by
 by_cases h0 : q = 0
 ·subst h0; exact ⟨Nat.zero_le _, Nat.zero_le _⟩
 ·have h1 : q.num.natAbs ≠ 0 := fun h1 => h0 (Rat.num_eq_zero.1 (by omega))
  have hc : Nat.gcd q.num.natAbs q.den = 1 := q.reduced
  have e : repR q = ⟨decide (q.num < 0), encB q.num.natAbs, encB q.den⟩ := by
   unfold repR lowR
   rw [if_neg h1, hc, Nat.div_one, Nat.div_one]
  rw [e]
  exact ⟨encB_size h.1, encB_size h.2⟩
def RvOK (k : Nat) (u : Rv) : Prop := ∃ q, u = repR q /\ BytesQ q k
theorem RvOK.mono {k j : Nat} {u : Rv} (h : RvOK k u) (hj : k <= j) : RvOK j u := by
 obtain ⟨q, rfl, h⟩ := h
 exact ⟨q, rfl, h.mono hj⟩
theorem RvOK.valid {k : Nat} {u : Rv} (h : RvOK k u) : validR u := by
 obtain ⟨q, rfl, -⟩ := h
 exact repR_valid q
theorem RvOK.bytes {k : Nat} {u : Rv} (h : RvOK k u) : BytesQ (qR u) k := by
 obtain ⟨q, rfl, h⟩ := h
 rwa [qR_repR]
theorem RvOK.zero (k : Nat) : RvOK (k + 1) zeroR := ⟨0, rfl, bytes_zero k⟩
theorem RvOK.int {n : Int} (h1 : -maxI <= n) (h2 : n <= maxI) : RvOK 8 (intR n) :=
 ⟨n, rfl, by
  unfold maxI at h1 h2
  unfold BytesQ
  rw [Rat.num_intCast, Rat.den_intCast]
  exact ⟨by omega, by omega⟩⟩
theorem RvOK.mul {j k : Nat} {u v : Rv} (h : RvOK j u) (g : RvOK k v) : RvOK (j + k) (mulR u v) := ⟨_, rfl, h.bytes.mul g.bytes⟩
theorem RvOK.inv {k : Nat} {u : Rv} (h : RvOK k u) : RvOK (k + 1) (repR (1 / qR u)) := ⟨_, rfl, by
 rw [Rat.div_def, Rat.one_mul]
 exact h.bytes.inv⟩
def QvOK (k : Nat) : Qv -> Prop
 | .num u => RvOK k u
 | .tick n => 0 <= n /\ n <= maxT
 | .sum l => l ≠ [] /\ l.length <= 40 /\ ∀ p ∈ l, RvOK k p.coef
 | .wish w => w.parts = [] /\ RvOK k w.level /\ RvOK k w.level2
theorem QvOK.mono {j k : Nat} {q : Qv} (h : QvOK j q) (hj : j <= k) : QvOK k q := by
 cases q with
 | num u => exact RvOK.mono h hj
 | tick n => exact h
 | sum l => exact ⟨h.1, h.2.1, fun p hp => (h.2.2 p hp).mono hj⟩
 | wish w => exact ⟨h.1, h.2.1.mono hj, h.2.2.mono hj⟩
theorem at_size {n : Int} {q : Qv} (k : Nat) (h : atP n = .ok q) : QvOK k q := by
 obtain ⟨rfl, h1⟩ := at_ok h
 exact h1
theorem scaled_size {j k : Nat} {l : List Pt} {u : Rv} (h : QvOK j (.sum l)) (g : RvOK k u) : QvOK (j + k) (.sum (scaledP l u)) := by
 refine ⟨fun he => h.1 (List.map_eq_nil_iff.1 he), by unfold scaledP; rw [List.length_map]; exact h.2.1, fun p hp => ?_⟩
 obtain ⟨a, ha, rfl⟩ := List.mem_map.1 hp
 exact (h.2.2 a ha).mul g
theorem called_size {k j : Nat} {xs : List Qv} {q : Qv} (hx : ∀ x ∈ xs, QvOK j x) (h8 : 8 <= j) (h : calledN k xs = .ok q) : QvOK j q := by
 have part : ∀ (k t u : Int) (l : List Rv), partF k l t u = .ok q -> QvOK j q := fun k t u l h => by
  unfold partF at h
  split at h
  ·cases h
   exact ⟨by simp, by simp, fun p hp => by rw [List.mem_singleton] at hp; subst hp; exact (RvOK.int (n := 1) (by decide) (by decide)).mono h8⟩
  ·cases h
 have ext : ∀ (k t u : Int) (a : Rv), extremeF k a t u = .ok q -> QvOK j q := fun k t u a h => by
  unfold extremeF at h
  split at h
  ·cases h
  ·cases h
   exact ⟨rfl, (RvOK.zero 7).mono h8, (RvOK.zero 7).mono h8⟩
 unfold calledN at h
 split at h
 ·unfold dayF at h
  split at h
  ·split at h
   ·exact at_size j h
   ·cases h
  ·cases h
 ·unfold tickF at h
  split at h
  ·cases h
  ·exact at_size j h
 ·exact part _ _ _ _ h
 ·exact part _ _ _ _ h
 ·exact part _ _ _ _ h
 ·exact ext _ _ _ _ h
 ·exact ext _ _ _ _ h
 ·rename_i a b t u
  unfold aboveF at h
  split at h
  ·cases h
  ·cases h
   exact ⟨rfl, hx (.num b) (by simp), (RvOK.zero 7).mono h8⟩
 ·rename_i a b c d k t u
  unfold bothF at h
  split at h
  ·cases h
   exact ⟨rfl, hx (.num b) (by simp), hx (.num d) (by simp)⟩
  ·cases h
 ·cases h
theorem append_size {j k : Nat} {l m : List Pt} (h : QvOK j (.sum l)) (g : QvOK k (.sum m)) (hl : ¬ 40 < l.length + m.length) : QvOK (j + k) (.sum (l ++ m)) :=
 ⟨by simp [h.1], by rw [List.length_append]; omega, fun p hp => by
  rcases List.mem_append.1 hp with h1 | h1
  ·exact (h.2.2 p h1).mono (by omega)
  ·exact (g.2.2 p h1).mono (by omega)⟩
theorem scaled_len (l : List Pt) (u : Rv) : (scaledP l u).length = l.length := by unfold scaledP; rw [List.length_map]
theorem both_size {op : Int} {a b q : Qv} {j k : Nat} (ha : QvOK j a) (hb : QvOK k b) (h : bothP op a b = .ok q) : QvOK (j + k + 8) q := by
 cases a <;> cases b <;> simp only [bothP] at h <;> repeat' split at h
 all_goals first
  | exact at_size _ h
  | cases h
 ·exact ⟨_, rfl, (ha.bytes.add hb.bytes).mono (by omega)⟩
 ·exact ⟨_, rfl, (ha.bytes.sub hb.bytes).mono (by omega)⟩
 ·exact (RvOK.mul ha hb).mono (by omega)
 ·exact ⟨_, rfl, (ha.bytes.div hb.bytes).mono (by omega)⟩
 ·exact (scaled_size hb ha).mono (by omega)
 ·unfold QvOK maxT at ha hb
  exact (RvOK.int (by unfold maxI; omega) (by unfold maxI; omega)).mono (by omega)
 ·exact (scaled_size ha (RvOK.inv hb)).mono (by omega)
 ·exact (scaled_size ha hb).mono (by omega)
 ·rename_i hl _
  exact (append_size ha (scaled_size hb (RvOK.int (n := -1) (by decide) (by decide))) (by rw [scaled_len]; exact hl)).mono (by omega)
 ·rename_i hl _
  exact (append_size ha hb hl).mono (by omega)
mutual
def nodes : Ex -> Nat
 | .mk _ _ _ kids _ => 1 + nodesL kids
def nodesL : List Ex -> Nat
 | [] => 0
 | x :: r => nodes x + nodesL r
end
theorem valueL_one {a : Ex} {xs : List Qv} (h : valueL [a] = .ok xs) : ∃ v, xs = [v] /\ valueE a = .ok v := by
 rw [valueL] at h
 cases h1 : valueE a with
 | error c => rw [h1] at h; cases h
 | ok v => rw [h1, valueL] at h; cases h; exact ⟨v, rfl, rfl⟩
theorem valueL_two {a b : Ex} {xs : List Qv} (h : valueL [a, b] = .ok xs) : ∃ v w, xs = [v, w] /\ valueE a = .ok v /\ valueE b = .ok w := by
 rw [valueL] at h
 cases h1 : valueE a with
 | error c => rw [h1] at h; cases h
 | ok v =>
  rw [h1] at h
  cases h2 : valueL [b] with
  | error c => rw [h2] at h; cases h
  | ok vs =>
   rw [h2] at h
   cases h
   obtain ⟨w, rfl, hw⟩ := valueL_one h2
   exact ⟨v, w, rfl, rfl, hw⟩
mutual
theorem value_size : ∀ {e : Ex} {t : Int} {q : Qv}, typedE e = .ok t -> valueE e = .ok q -> QvOK (16 * nodes e) q
 | .mk op n s kids at_, t, q, ht, h => by
  rw [valueE] at h
  rw [nodes]
  cases hx : valueL kids with
  | error c => rw [hx] at h; cases h
  | ok xs =>
   rw [hx] at h
   dsimp only at h
   rcases typed_ok ht with ⟨rfl, rfl, h1, h2, rfl⟩ | ⟨rfl, ks, hk, hs⟩ | ⟨rfl, a, rfl, ha, h1⟩ | ⟨ho, a, b, x, y, rfl, ha, hb, hp, h0⟩
   ·rw [if_pos rfl] at h; cases h
    exact RvOK.mono (RvOK.int (by unfold maxI at *; omega) h2) (by omega)
   ·rw [if_neg (by decide), if_pos rfl] at h
    exact called_size (j := 16 * (1 + nodesL kids)) (fun x hm => (values_size hk hx x hm).mono (by omega)) (by omega) h
   ·rw [if_neg (by decide), if_neg (by decide), if_pos rfl] at h
    obtain ⟨v, rfl, hv⟩ := valueL_one hx
    exact (both_size (b := .num (intR (-1))) (value_size ha hv) (RvOK.int (n := -1) (by decide) (by decide)) h).mono (by simp only [nodesL]; omega)
   ·have o1 : op ≠ 1 /\ op ≠ 4 /\ op ≠ 6 := by omega
    rw [if_neg o1.1, if_neg o1.2.1, if_neg o1.2.2] at h
    obtain ⟨v, w, rfl, hv, hw⟩ := valueL_two hx
    exact (both_size (value_size ha hv) (value_size hb hw) h).mono (by simp only [nodesL]; omega)
theorem values_size : ∀ {l : List Ex} {ts : List Int} {xs : List Qv}, typedL l = .ok ts -> valueL l = .ok xs -> ∀ x ∈ xs, QvOK (16 * nodesL l) x
 | [], ts, xs, ht, h => by
  rw [valueL] at h
  cases h
  intro x hx; cases hx
 | e :: r, ts, xs, ht, h => by
  rw [typedL] at ht; rw [valueL] at h; rw [nodesL]
  cases h1 : typedE e with
  | error p => rw [h1] at ht; cases ht
  | ok t =>
   rw [h1] at ht
   cases h2 : typedL r with
   | error p => rw [h2] at ht; cases ht
   | ok us =>
    cases h3 : valueE e with
    | error c => rw [h3] at h; cases h
    | ok v =>
     rw [h3] at h
     cases h4 : valueL r with
     | error c => rw [h4] at h; cases h
     | ok vs =>
      rw [h4] at h
      cases h
      intro x hx
      rcases List.mem_cons.1 hx with rfl | hx
      ·exact (value_size h1 h3).mono (by omega)
      ·exact (values_size h2 h4 x hx).mono (by omega)
end
theorem at_err {n c : Int} (h : atP n = .error c) : c = 3 := by
 unfold atP at h
 split at h <;> cases h
 rfl
theorem called_err {k : Nat} {xs : List Qv} {c : Int} (h : calledN k xs = .error c) : 0 < c := by
 unfold calledN dayF tickF partF extremeF aboveF bothF at h
 repeat' split at h
 all_goals first
  | (rw [at_err h]; decide)
  | (cases h; done)
  | (cases h; decide)
  | skip
 cases h
 unfold dayE at *
 split <;> simp_all
theorem both_err {op c : Int} {a b : Qv} (h : bothP op a b = .error c) : 0 < c := by
 cases a <;> cases b <;> simp only [bothP] at h <;> repeat' split at h
 all_goals first
  | (rw [at_err h]; decide)
  | (cases h; done)
  | (cases h; decide)
mutual
theorem value_err : ∀ {e : Ex} {c : Int}, valueE e = .error c -> 0 < c
 | .mk op n s kids at_, c, h => by
  rw [valueE] at h
  cases hx : valueL kids with
  | error d => rw [hx] at h; cases h; exact values_err hx
  | ok xs =>
   rw [hx] at h
   dsimp only at h
   repeat' split at h
   all_goals first
    | (cases h; done)
    | (cases h; decide)
    | exact called_err h
    | exact both_err h
theorem values_err : ∀ {l : List Ex} {c : Int}, valueL l = .error c -> 0 < c
 | [], c, h => by rw [valueL] at h; cases h
 | e :: r, c, h => by
  rw [valueL] at h
  cases h3 : valueE e with
  | error d => rw [h3] at h; cases h; exact value_err h3
  | ok v =>
   rw [h3] at h
   cases h4 : valueL r with
   | error d => rw [h4] at h; cases h; exact values_err h4
   | ok vs => rw [h4] at h; cases h
end
open Go.RowKit
structure Turned (C : Nat -> Prop) (A B : World) : Prop where
 os : B.os = A.os
 tape : B.tape = A.tape
 output : B.output = A.output
 size : A.heap.size <= B.heap.size
 block : ∀ k, k < A.heap.size -> ¬ C k -> B.heap[k]? = A.heap[k]?
theorem Turned.refl (C : Nat -> Prop) (A : World) : Turned C A A := ⟨rfl, rfl, rfl, Nat.le_refl _, fun _ _ _ => rfl⟩
theorem Turned.trans {C : Nat -> Prop} {a b c : World} (h : Turned C a b) (k : Turned C b c) : Turned C a c :=
 ⟨k.os.trans h.os, k.tape.trans h.tape, k.output.trans h.output, Nat.le_trans h.size k.size, fun i hi hc => (k.block i (Nat.lt_of_lt_of_le hi h.size) hc).trans (h.block i hi hc)⟩
theorem Turned.mono {C C' : Nat -> Prop} {a b : World} (h : Turned C a b) (hc : ∀ k, C k -> C' k) : Turned C' a b := ⟨h.os, h.tape, h.output, h.size, fun i hi hn => h.block i hi (fun x => hn (hc i x))⟩
theorem Turned.alloc {C : Nat -> Prop} {a w : World} (h : Turned C a w) (o : Obj) : Turned C a (w.alloc o) :=
 h.trans ⟨rfl, rfl, rfl, by simp, fun k hk _ => Below.heap_alloc _ _ _ hk⟩
theorem Turned.setCell {C : Nat -> Prop} {a w : World} (h : Turned C a w) {p : Addr} (hp : C p.block) (u : Value) : Turned C a (w.setCell p u) :=
 h.trans ⟨rfl, rfl, rfl, by simp [World.setCell], fun k _ hn => Below.heap_setCell _ _ _ _ (fun e => hn (e ▸ hp))⟩
theorem Turned.drew {C : Nat -> Prop} {a w : World} (h : Turned C a w) : Turned C a w.drew := ⟨h.os, h.tape, h.output, h.size, h.block⟩
theorem Turned.below {C : Nat -> Prop} {a b : World} (h : Turned C a b) {B : Nat} (hB : B <= a.heap.size) (hc : ∀ k, C k -> B <= k) : Below B a b := ⟨h.os, h.tape, h.output, h.size, fun k hk => h.block k (by omega) (fun x => by have := hc k x; omega)⟩
theorem Turned.of_new {C : Nat -> Prop} {a b : World} (h : Below a.heap.size a b) : Turned C a b := ⟨h.os, h.tape, h.output, h.size, fun k hk _ => h.block k hk⟩
theorem Turned.cell {C : Nat -> Prop} {a b : World} (h : Turned C a b) {p : Addr} (hp : p.block < a.heap.size) (hn : ¬ C p.block) : b.cell? p = a.cell? p := World.cell?_of_block (w := a) (h.block p.block hp hn)
theorem Turned.of_grown {C : Nat -> Prop} {a b : World} {row : Option Nat} (h : a.grownBy b row) (hr : ∀ k, row = some k -> C k) : Turned C a b :=
 ⟨h.os, h.tape, h.output, h.size, fun k hk hn => h.block k hk (fun e => hn (hr k e.symm))⟩
structure Kept (T : Nat -> Prop) (A B : World) : Prop where
 size : A.heap.size <= B.heap.size
 block : ∀ k, T k -> B.heap[k]? = A.heap[k]?
theorem Kept.refl (T : Nat -> Prop) (A : World) : Kept T A A := ⟨Nat.le_refl _, fun _ _ => rfl⟩
theorem Kept.trans {T : Nat -> Prop} {a b c : World} (h : Kept T a b) (k : Kept T b c) : Kept T a c := ⟨Nat.le_trans h.size k.size, fun i hi => (k.block i hi).trans (h.block i hi)⟩
theorem getElem?_lt {w : World} {k : Nat} {o : Obj} (h : w.heap[k]? = some o) : k < w.heap.size := (Array.getElem?_eq_some_iff.1 h).1
theorem ownsRow_turned {C : Nat -> Prop} {A B : World} {base e size n : Nat} {v : Value} {xs : List Value} (ht : Turned C A B) (hC : ∀ k, C k -> k < base) (h : A.ownsRow base e size v n xs) : B.ownsRow base e size v n xs := by
 obtain ⟨h1, h2⟩ := h
 refine ⟨h1, ?_⟩
 rcases h2 with h2 | ⟨g, cap, cur, hv, hg, hh, r⟩
 ·exact .inl h2
 ·exact .inr ⟨g, cap, cur, hv, hg, (ht.block g (getElem?_lt hh) (fun h => by have := hC g h; omega)).trans hh, r⟩
theorem ownsRow_block {A : World} {base e size n : Nat} {v : Value} {xs : List Value} (h : A.ownsRow base e size v n xs) : ∀ g, v.ownBlock = some g -> base <= g /\ g < A.heap.size := by
 intro g hg
 obtain ⟨-, h2⟩ := h
 rcases h2 with ⟨rfl, -⟩ | ⟨g', cap, cur, rfl, hb, hh, -⟩
 ·simp [Value.ownBlock] at hg
 ·simp [Value.ownBlock] at hg
  subst hg
  exact ⟨hb, getElem?_lt hh⟩
def Out {α : Type} (W : World) (B T base N e size : Nat) (enc : α -> List Value) (bs : List α) : Prop :=
 ∃ v, W.heap[B]? = some (.cells #[v] T (0, 0)) /\ W.ownsRow base e size v bs.length (bs.flatMap enc) /\ (∀ g, v.ownBlock = some g -> g < N) /\ B < N
section
variable {α : Type} {W : World} {B T base N e size : Nat} {enc : α -> List Value} {bs : List α}
theorem Out.mono {N' : Nat} (h : Out W B T base N e size enc bs) (hN : N <= N') : Out W B T base N' e size enc bs := by
 obtain ⟨v, h1, h2, h3, h4⟩ := h
 exact ⟨v, h1, h2, fun g hg => Nat.lt_of_lt_of_le (h3 g hg) hN, Nat.lt_of_lt_of_le h4 hN⟩
theorem Out.turned {C : Nat -> Prop} {W' : World} (h : Out W B T base N e size enc bs) (ht : Turned C W W') (hC : ∀ k, C k -> k < base /\ k ≠ B) : Out W' B T base N e size enc bs := by
 obtain ⟨v, h1, h2, h3, h4⟩ := h
 exact ⟨v, (ht.block B (getElem?_lt h1) (fun hb => (hC B hb).2 rfl)).trans h1, ownsRow_turned ht (fun k hk => (hC k hk).1) h2, h3, h4⟩
theorem Out.start (h : W.heap[B]? = some (.cells #[.slice none 0 0] T (0, 0))) (hN : B < N) : Out W B T base N e size enc ([] : List α) :=
 ⟨_, h, ⟨by simp, .inl ⟨rfl, rfl⟩⟩, fun g hg => by simp [Value.ownBlock] at hg, hN⟩
end
theorem free_of_box {W : World} {B T : Nat} {cs : Array Value} (h : W.heap[B]? = some (.cells cs T (0, 0))) (o : Nat) : W.frozen? ⟨B, o, none⟩ = false := by simp [World.frozen?, h]
theorem heap_setCell_other {W : World} {a : Addr} {u : Value} {k : Nat} (h : k ≠ a.block) : (W.setCell a u).heap[k]? = W.heap[k]? := Below.heap_setCell _ _ _ _ h
theorem flatMap_at {α : Type} (enc : α -> List Value) (s : Nat) (henc : ∀ x, (enc x).length = s) : ∀ (bs : List α) (i j : Nat) (hi : i < bs.length), j < s -> (bs.flatMap enc)[i * s + j]? = (enc bs[i])[j]?
 | [], i, j, hi, _ => by simp at hi
 | b :: bs, 0, j, _, hj => by
  simp only [List.flatMap_cons, Nat.zero_mul, Nat.zero_add, zz1]
  rw [List.getElem?_append_left (by rw [henc]; exact hj)]
 | b :: bs, i + 1, j, hi, hj => by
  simp only [List.flatMap_cons, zz2]
  rw [List.getElem?_append_right (by rw [henc, Nat.add_mul]; omega), henc, <- flatMap_at enc s henc bs i j (by simpa using hi) hj]
  congr 1
  rw [Nat.add_mul]; omega
theorem owns_shape {W : World} {base e s n : Nat} {xs : List Value} {v : Value} (h : W.ownsRow base e s v n xs) : ∃ a c, v = .slice a n c := by
 obtain ⟨-, ⟨rfl, rfl⟩ | ⟨g, cap, cur, rfl, -⟩⟩ := h
 ·exact ⟨none, 0, rfl⟩
 ·exact ⟨_, cap, rfl⟩
def Lays (W : World) (L : List (Nat × Obj)) : Prop := ∀ p ∈ L, W.heap[p.1]? = some p.2
theorem Lays.get {W : World} {L : List (Nat × Obj)} (h : Lays W L) (i : Nat) {b : Nat} {o : Obj} (hi : L[i]? = some (b, o)) : W.heap[b]? = some o := h (b, o) (List.mem_of_getElem? hi)
theorem Lays.below {W W' : World} {L : List (Nat × Obj)} (h : Lays W L) (hb : Below W.heap.size W W') : Lays W' L := fun p hp => (hb.block p.1 (getElem?_lt (h p hp))).trans (h p hp)
theorem Lays.nil (W : World) : Lays W [] := fun _ h => by cases h
def Stays (T : World -> Prop) : Prop := ∀ A B, T A -> Below A.heap.size A B -> T B
theorem Stays.true : Stays (fun _ => True) := fun _ _ _ _ => trivial
structure St (T : World -> Prop) (w W : World) (L : List (Nat × Obj)) : Prop where
 lays : Lays W L
 bel : Below w.heap.size w W
 tab : T W
 stays : Stays T
section
variable {T R : World -> Prop} {w W W' : World} {L : List (Nat × Obj)}
theorem St.start (h : T w) (hs : Stays T) : Hid (St T w w []) := Lib.hid ⟨Lays.nil _, Below.refl _ _, h, hs⟩
theorem St.call (h : Hid (St T w W L)) (hb : Below W.heap.size W W') : Hid (St T w W' L) :=
 Lib.hid ⟨h.out.lays.below hb, h.out.bel.trans (hb.mono h.out.bel.size), h.out.stays _ _ h.out.tab hb, h.out.stays⟩
theorem St.box (h : Hid (St T w W L)) (o : Obj) : ∃ W1 B, W1 = W.alloc o /\ B = W.heap.size /\ Hid (Below W.heap.size W W1) /\ Hid (St T w W1 ((B, o) :: L)) := by
 have hb : Below W.heap.size W (W.alloc o) := (Below.refl _ _).alloc (Nat.le_refl _) _
 refine ⟨_, _, rfl, rfl, Lib.hid hb, Lib.hid (St.mk (fun p hp => ?_) (h.out.bel.trans (hb.mono h.out.bel.size)) (h.out.stays _ _ h.out.tab hb) h.out.stays)⟩
 rcases List.mem_cons.1 hp with rfl | hp
 ·exact World.alloc_heap_new _ _
 ·exact h.out.lays.below hb p hp
theorem St.drew (h : Hid (St T w W L)) : Hid (St T w W.drew L) := St.call h (Below.refl _ _).drew
theorem St.lt (h : Hid (St T w W L)) (i : Nat) {b : Nat} {o : Obj} (hi : L[i]? = some (b, o)) : b < W.heap.size := getElem?_lt (h.out.lays.get i hi)
end
section
variable {P : Program} {ops : Array Oper} {Q : Exit -> Act -> World -> Prop} {md : Region.Mode} {l n : Nat}
end
section
variable {P : Program}
theorem run_append_exact (w : World) (base : Nat) (t ty e : TypeId) (i : TypeInfo) (z : Value) (size bytes : Nat) (ht : P.underlying t = some (.slice e)) (hi : P.info? e = some i) (hz : i.zero = some z)
  (hsize : i.size = size) (hby : i.bytes = bytes) (hzs : z.cells.size = size) (hsz : 0 < size)
  (v : Value) (n : Nat) (xs : List Value) (hown : w.ownsRow base e size v n xs)
  (a : Addr) (m c : Nat) (news : List Value) (hl : news.length = m * size) (hnews : ∀ j u, news[j]? = some u -> w.cell? (a.add j) = some u) (h1 : ∀ u ∈ news, u.oneCell' = true)
  (h63 : n + m <= maxLen) (hbytes : (n + m) * bytes <= 140737488355328) (hbase : base <= w.heap.size) :
  ∃ v' w', (Builtin.append_ #[t, t] ty #[v, .slice (some a) m c]).run P w = .ok v' w' /\ w'.ownsRow base e size v' (n + m) (xs ++ news) /\ w.grownBy w' v.ownBlock /\
   (∀ g, v'.ownBlock = some g -> v.ownBlock = some g \/ w.heap.size <= g) := by
 obtain ⟨v', w', hrun, r1, r2, -⟩ := run_append_own (P := P) w base t ty e i z size bytes ht hi hz hsize hby hzs hsz v n xs hown a m c news hl hnews h1 h63 hbytes hbase
 refine ⟨v', w', hrun, r1, r2, ?_⟩
 have new : ∀ v'' w'', (Builtin.append_ #[t, t] ty #[v, .slice (some a) m c]).run P w = .ok v'' w'' -> w''.ownsRow w.heap.size e size v'' (n + m) (xs ++ news) -> ∀ g, v'.ownBlock = some g -> w.heap.size <= g := by
  intro v'' w'' hr ho g hg
  rw [hrun] at hr
  cases hr
  obtain ⟨-, ⟨rfl, -⟩ | ⟨g', cap', cur', rfl, hb, -⟩⟩ := ho
  ·simp [Value.ownBlock] at hg
  ·simp [Value.ownBlock] at hg; omega
 obtain ⟨hlen, ⟨rfl, rfl⟩ | ⟨g0, cap, cur, rfl, hb, hh, hc1, hc2, hcs, htk⟩⟩ := hown
 ·obtain ⟨v'', w'', hr, ho, -, -⟩ := run_append_own (P := P) w w.heap.size t ty e i z size bytes ht hi hz hsize hby hzs hsz (.slice none 0 0) 0 xs ⟨hlen, .inl ⟨rfl, rfl⟩⟩ a m c news hl hnews h1 h63 hbytes (Nat.le_refl _)
  exact fun g hg => .inr (new v'' w'' hr ho g hg)
 ·have hcell : ∀ j u, cur.toList[j]? = some u -> w.cell? ⟨g0, j, none⟩ = some u := fun j u hj => by simpa [World.cell?, hh] using hj
  by_cases hr : n + m <= cap
  ·subst hsize
   have hmul : (n + m) * i.size <= cap * i.size := Nat.mul_le_mul_right _ hr
   rw [Nat.add_mul] at hmul
   have hrun2 := run_append_room_cells (P := P) w t ty e i ht hi g0 0 n cap a m c news hl hnews h1 hr
    (fun j hj => by
     have : 0 + n * i.size + j < cur.size := by omega
     simp [World.cell?, hh, Array.getElem?_eq_getElem (by omega : n * i.size + j < cur.size)])
    (fun j hj => by simp [World.frozen?, hh])
   rw [hrun] at hrun2
   cases hrun2
   intro g hg
   exact .inl hg
  ·obtain ⟨v'', w'', hr2, ho, -⟩ := run_append_arg_grows (P := P) w t ty e i z size bytes ht hi hz hsize hby hzs hsz ⟨g0, 0, none⟩ n cap xs hlen
    (fun j u hj => by
     rw [Addr.add_lit]
     simp only [Nat.zero_add]
     refine hcell j u ?_
     rw [<- htk] at hj
     have hlt : j < n * size := by
      have := (List.getElem?_eq_some_iff.1 hj).1
      simp at this; omega
     rwa [List.getElem?_take_of_lt hlt] at hj)
    a m c news hl hnews (by omega) h63 hbytes
   exact fun g hg => .inr (new v'' w'' hr2 ho g hg)
theorem wpList_append_exact (w : World) {ops : Array Oper} {rest : List Oper} {o : Oper} {a : Act} {Q : Exit -> Act -> World -> Prop}
  (hg : o.guard = none) (s x : Operand) (t : TypeId) (hop : o.op = Op.call { callee := Callee.builtin Builtin.append, args := #[s, x], argTypes := #[t, t] })
  (base : Nat) (e : TypeId) (i : TypeInfo) (z : Value) (size bytes : Nat) (h1 : P.underlying t = some (.slice e)) (h2 : P.info? e = some i) (h3 : i.zero = some z) (h4 : i.size = size) (h5 : i.bytes = bytes) (h6 : z.cells.size = size) (h7 : 0 < size)
  (v : Value) (k : Nat) (xs : List Value) (hs : a.eval s = v) (hown : w.ownsRow base e size v k xs) (ad : Addr) (m c : Nat) (news : List Value) (hx : a.eval x = .slice (some ad) m c) (hn : news.length = m * size)
  (hc : ∀ j u, news[j]? = some u -> w.cell? (ad.add j) = some u) (h1c : ∀ u ∈ news, u.oneCell' = true) (b1 : k + m <= maxLen) (b2 : (k + m) * bytes <= 140737488355328) (b3 : base <= w.heap.size)
  (hK : ∀ v' w', w'.ownsRow base e size v' (k + m) (xs ++ news) -> w.grownBy w' v.ownBlock -> (∀ g, v'.ownBlock = some g -> v.ownBlock = some g \/ w.heap.size <= g) -> wpList P ops Q rest (a.put o.dst v') w') :
  wpList P ops Q (o :: rest) a w := by
 refine wpList_plain hg fun K hK' => ?_
 obtain ⟨v', w', hrun, r1, r2, r3⟩ := run_append_exact (P := P) w base t o.type e i z size bytes h1 h2 h3 h4 h5 h6 h7 v k xs hown ad m c news hn hc h1c b1 b2 b3
 unfold Oper.wp
 simp [execOp, hop, resolve, invoke, builtin, hs, hx, hrun, Result.andThen]
 exact hK' _ _ (hK v' w' r1 r2 r3)
end
def Col {α : Type} (W : World) (B T : Nat) (G : Nat -> Prop) (e size : Nat) (enc : α -> List Value) (bs : List α) : Prop :=
 ∃ v, W.heap[B]? = some (.cells #[v] T (0, 0)) /\ W.ownsRow 0 e size v bs.length (bs.flatMap enc) /\ (∀ g, v.ownBlock = some g -> G g)
theorem ownsRow_turned' {C : Nat -> Prop} {A B : World} {base e size n : Nat} {v : Value} {xs : List Value} (ht : Turned C A B) (hC : ∀ g, v.ownBlock = some g -> ¬ C g) (h : A.ownsRow base e size v n xs) : B.ownsRow base e size v n xs := by
 obtain ⟨h1, h2⟩ := h
 refine ⟨h1, ?_⟩
 rcases h2 with h2 | ⟨g, cap, cur, rfl, hg, hh, r⟩
 ·exact .inl h2
 ·exact .inr ⟨g, cap, cur, rfl, hg, (ht.block g (getElem?_lt hh) (hC g rfl)).trans hh, r⟩
section
variable {α : Type} {W : World} {B T e size : Nat} {G : Nat -> Prop} {enc : α -> List Value} {bs : List α}
theorem Col.imp {G' : Nat -> Prop} (h : Col W B T G e size enc bs) (hG : ∀ g, g < W.heap.size -> G g -> G' g) : Col W B T G' e size enc bs := by
 obtain ⟨v, h1, h2, h3⟩ := h
 exact ⟨v, h1, h2, fun g hg => hG g (ownsRow_block h2 g hg).2 (h3 g hg)⟩
theorem Col.turned {C : Nat -> Prop} {W' : World} (h : Col W B T G e size enc bs) (ht : Turned C W W') (hC : ∀ k, C k -> ¬ G k /\ k ≠ B) : Col W' B T G e size enc bs := by
 obtain ⟨v, h1, h2, h3⟩ := h
 exact ⟨v, (ht.block B (getElem?_lt h1) (fun hb => (hC B hb).2 rfl)).trans h1, ownsRow_turned' ht (fun g hg hc => (hC g hc).1 (h3 g hg)) h2, h3⟩
theorem Col.start (h : W.heap[B]? = some (.cells #[.slice none 0 0] T (0, 0))) : Col W B T G e size enc ([] : List α) :=
 ⟨_, h, ⟨by simp, .inl ⟨rfl, rfl⟩⟩, fun g hg => by simp [Value.ownBlock] at hg⟩
end
abbrev bU : Nat := 4294967296
theorem cellT {C : Nat -> Prop} {W W' : World} (h : Turned C W W') {b o : Nat} {u : Value} (hb : ¬ C b) (hc : W.cell? ⟨b, o, none⟩ = some u) : W'.cell? ⟨b, o, none⟩ = some u := by
 have hlt : b < W.heap.size := by
  rcases Nat.lt_or_ge b W.heap.size with h1 | h1
  ·exact h1
  ·simp [World.cell?, h1] at hc
 have hb2 := h.block b hlt hb
 simp only [World.cell?] at hc ⊢
 rw [hb2]
 exact hc
structure LA (W : World) (N : Nat -> Prop) (l : List Nat) (p : Option Addr) (c : Nat) : Prop where
 dig : ∀ d ∈ l, d < bU
 cap : l.length <= c
 mx : c <= maxLen
 cel : ∀ (i d : Nat), l[i]? = some d -> ∃ b a, p = some ⟨b, a, none⟩ /\ N b /\ W.cell? ⟨b, a + i, none⟩ = some (.int .u32 d)
section
variable {W W' : World} {N M : Nat -> Prop} {l : List Nat} {p : Option Addr} {c : Nat}
theorem LA.nil (W : World) (N : Nat -> Prop) : LA W N [] none 0 := ⟨fun _ h => (by cases h), Nat.le_refl _, Nat.zero_le _, fun i d h => by simp at h⟩
theorem LA.move (h : LA W N l p c) {C : Nat -> Prop} (ht : Turned C W W') (hC : ∀ b, N b -> ¬ C b) (hM : ∀ b, N b -> M b) : LA W' M l p c :=
 ⟨h.dig, h.cap, h.mx, fun i d hd => by
  obtain ⟨b, a, h1, h2, h3⟩ := h.cel i d hd
  exact ⟨b, a, h1, hM b h2, cellT ht (hC b h2) h3⟩⟩
theorem LA.turned (h : LA W N l p c) (ht : Turned (fun _ => False) W W') : LA W' N l p c := h.move ht (fun _ _ => id) fun _ => id
theorem LA.take (h : LA W N l p c) (k : Nat) : LA W N (l.take k) p c :=
 ⟨fun d hd => h.dig d (List.mem_of_mem_take hd), by have := h.cap; rw [List.length_take]; omega, h.mx, fun i d hd => by
  refine h.cel i d ?_
  rw [List.getElem?_take] at hd
  split at hd
  ·exact hd
  ·cases hd⟩
theorem LA.trim (h : LA W N l p c) : LA W N (trimL l) p c := by rw [trimL_take]; exact h.take _
theorem LA.get (h : LA W N l p c) {i : Nat} (hi : i < l.length) : ∃ b a d, p = some ⟨b, a, none⟩ /\ N b /\ l[i]? = some d /\ digAt l i = d /\ d < 4294967296 /\ W.cell? ⟨b, a + i, none⟩ = some (.int .u32 d) := by
 have hd : l[i]? = some l[i] := List.getElem?_eq_getElem hi
 obtain ⟨b, a, h1, h2, h3⟩ := h.cel i _ hd
 exact ⟨b, a, l[i], h1, h2, hd, digAt_some hd, h.dig _ (List.getElem_mem hi), h3⟩
end
theorem drewNT (C : Nat -> Prop) (W : World) (n : Nat) : Turned C W (W.drewN n) := ⟨rfl, rfl, rfl, Nat.le_refl _, fun _ _ _ => rfl⟩
theorem quiet_add_same {P : Program} {f : FuncId} {args : Array Value} {w : World} {a n : Nat} {v : Value}
  (h : Calls P f args (w.drewN (a + n)) fun e w' => e = .returned v /\ w' = w.drewN (a + n)) :
  Calls P f args (w.drewN (a + n)) fun e w'' => e = .returned v /\ ∃ m, w'' = w.drewN (a + m) :=
 h.mono fun _ _ ⟨he, hm⟩ => ⟨he, n, hm⟩
attribute [local go_sem] Oper.semAt_some
theorem trim_any (l : List Nat) (p : Option Addr) (c : Nat) (W : World) (N : Nat -> Prop) (h : LA W N l p c) : Calls Tryz.prog 100 #[.slice p l.length c] W fun e w' => e = .returned (.slice p (trimL l).length c) /\ w' = W := by
 have HL := Lib.hid h
 have hcap := h.cap
 have hmx := h.mx
 unfold maxLen at hmx
 clear h
 go_enter Tryz.func100, Tryz.ntmps100
 go_wp2_with fail
 go_loopw [0] (fun v wr => ∃ k : Nat, v = .slice p k c /\ k <= l.length /\ Hid (trimL (l.take k) = trimL l) /\ wr = W) (fun v _ => match v with | .slice _ n _ => n | _ => 0)
 case atStart => exact ⟨l.length, rfl, Nat.le_refl _, Lib.hid (by rw [List.take_length]), rfl⟩
 case round =>
  obtain ⟨k, rfl, hk, HT, rfl⟩ := hrel
  cases k with
  | zero =>
   have HR : Hid (trimL l = []) := Lib.hid (by rw [<- HT.out]; rfl)
   go_wp2_with fail
   go_ret
   rw [HR.out]
   exact ⟨rfl, rfl⟩
  | succ j =>
   obtain ⟨b, a, d, rfl, -, hd, -, hdb, d1⟩ := HL.out.get (i := j) (by omega)
   have hpos : (0 : Int) < ((j + 1 : Nat) : Int) := by omega
   have hw : IntKind.i64.wrap (((j + 1 : Nat) : Int) - 1) = (j : Int) := by rw [IntWalk.i64_in _ (by omega)]; omega
   have htk : l.take (j + 1) = l.take j ++ [d] := by rw [List.take_add_one, hd]; rfl
   by_cases h0 : d = 0
   ·have HT2 : Hid (trimL (l.take j) = trimL l) := Lib.hid (by rw [<- HT.out, htk, h0, trim_snoc_zero])
    subst h0
    clear hd htk
    go_wp2_with fail
    refine ⟨⟨j, rfl, by omega, HT2, trivial⟩, ?_⟩
    show j < j + 1
    omega
   ·have HR : Hid (trimL l = l.take (j + 1)) := Lib.hid (by rw [<- HT.out, htk, trim_snoc h0])
    have hdi : ((d : Int) == 0) = false := by simp; omega
    clear hd htk
    go_wp2_with fail
    go_ret
    rw [HR.out, List.length_take, Nat.min_eq_left (by omega)]
    exact ⟨rfl, rfl⟩
theorem at_any (l : List Nat) (p : Option Addr) (c k : Nat) (W : World) (N : Nat -> Prop) (h : LA W N l p c) : Calls Tryz.prog 137 #[.slice p l.length c, .int .i64 k] W fun e w' => e = .returned (.int .u64 (digAt l k)) /\ w' = W := by
 by_cases hk : k < l.length
 ·obtain ⟨b, a, d, rfl, -, -, hd, hdb, d1⟩ := h.get hk
  have hki : (k : Int) < (l.length : Int) := by omega
  have hcv : IntKind.u64.wrap (d : Int) = (d : Int) := IntWalk.u64_in _ (by omega)
  have HR := Lib.hid hd
  clear hd h
  go_enter Tryz.func137, Tryz.ntmps137
  go_wp2_with fail
  go_ret
  rw [HR.out]
  exact ⟨rfl, rfl⟩
 ·have hki : ¬ (k : Int) < (l.length : Int) := by omega
  have HR := Lib.hid (digAt_none (l := l) (k := k) (by omega))
  clear h hk
  go_enter Tryz.func137, Tryz.ntmps137
  go_wp2_with fail
  go_ret
  rw [HR.out]
  exact ⟨rfl, rfl⟩
theorem nanU_any (x : Nat) (W : World) : Calls Tryz.prog 174 #[.int .u32 x] W fun e w' => e = .returned (.bool false) /\ w' = W := by
 go_enter Tryz.func174, Tryz.ntmps174
 go_wp2_with fail
 go_ret
 exact ⟨rfl, rfl⟩
theorem nanI_any (x : Int) (W : World) : Calls Tryz.prog 173 #[.int .i64 x] W fun e w' => e = .returned (.bool false) /\ w' = W := by
 go_enter Tryz.func173, Tryz.ntmps173
 go_wp2_with fail
 go_ret
 exact ⟨rfl, rfl⟩
def cmpZ (x y : Int) : Int := if x < y then -1 else if y < x then 1 else 0
theorem cmpU_any (x y : Nat) (W : World) : Calls Tryz.prog 154 #[.int .u32 x, .int .u32 y] W fun e w' => e = .returned (.int .i64 (cmpZ x y)) /\ w' = W := by
 have HX := Lib.hid (nanU_any x W)
 have HY := Lib.hid (nanU_any y W)
 by_cases h1 : (x : Int) < y
 ·have HR : Hid (cmpZ x y = -1) := Lib.hid (if_pos h1)
  go_enter Tryz.func154, Tryz.ntmps154
  go_wp2_with (go_at_call 174; first | (refine HX.out.mono ?_; rintro e w' ⟨rfl, rfl⟩) | (refine HY.out.mono ?_; rintro e w' ⟨rfl, rfl⟩))
  go_ret
  rw [HR.out]
  exact ⟨rfl, rfl⟩
 by_cases h2 : (y : Int) < x
 ·have HR : Hid (cmpZ x y = 1) := Lib.hid (by unfold cmpZ; rw [if_neg h1, if_pos h2])
  go_enter Tryz.func154, Tryz.ntmps154
  go_wp2_with (go_at_call 174; first | (refine HX.out.mono ?_; rintro e w' ⟨rfl, rfl⟩) | (refine HY.out.mono ?_; rintro e w' ⟨rfl, rfl⟩))
  go_ret
  rw [HR.out]
  exact ⟨rfl, rfl⟩
 ·have HR : Hid (cmpZ x y = 0) := Lib.hid (by unfold cmpZ; rw [if_neg h1, if_neg h2])
  go_enter Tryz.func154, Tryz.ntmps154
  go_wp2_with (go_at_call 174; first | (refine HX.out.mono ?_; rintro e w' ⟨rfl, rfl⟩) | (refine HY.out.mono ?_; rintro e w' ⟨rfl, rfl⟩))
  go_ret
  rw [HR.out]
  exact ⟨rfl, rfl⟩
theorem cmpI_any (x y : Int) (W : World) : Calls Tryz.prog 153 #[.int .i64 x, .int .i64 y] W fun e w' => e = .returned (.int .i64 (cmpZ x y)) /\ w' = W := by
 have HX := Lib.hid (nanI_any x W)
 have HY := Lib.hid (nanI_any y W)
 by_cases h1 : x < y
 ·have HR : Hid (cmpZ x y = -1) := Lib.hid (if_pos h1)
  go_enter Tryz.func153, Tryz.ntmps153
  go_wp2_with (go_at_call 173; first | (refine HX.out.mono ?_; rintro e w' ⟨rfl, rfl⟩) | (refine HY.out.mono ?_; rintro e w' ⟨rfl, rfl⟩))
  go_ret
  rw [HR.out]
  exact ⟨rfl, rfl⟩
 by_cases h2 : y < x
 ·have HR : Hid (cmpZ x y = 1) := Lib.hid (by unfold cmpZ; rw [if_neg h1, if_pos h2])
  go_enter Tryz.func153, Tryz.ntmps153
  go_wp2_with (go_at_call 173; first | (refine HX.out.mono ?_; rintro e w' ⟨rfl, rfl⟩) | (refine HY.out.mono ?_; rintro e w' ⟨rfl, rfl⟩))
  go_ret
  rw [HR.out]
  exact ⟨rfl, rfl⟩
 ·have HR : Hid (cmpZ x y = 0) := Lib.hid (by unfold cmpZ; rw [if_neg h1, if_neg h2])
  go_enter Tryz.func153, Tryz.ntmps153
  go_wp2_with (go_at_call 173; first | (refine HX.out.mono ?_; rintro e w' ⟨rfl, rfl⟩) | (refine HY.out.mono ?_; rintro e w' ⟨rfl, rfl⟩))
  go_ret
  rw [HR.out]
  exact ⟨rfl, rfl⟩
end Go.Proofs.YthejfklieedjmaaGreatDoor
