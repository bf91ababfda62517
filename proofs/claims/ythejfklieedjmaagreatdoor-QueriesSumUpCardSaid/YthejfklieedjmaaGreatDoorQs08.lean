/- Part 8 of the proof of lawSum.card: ParAt, QryAt, QryWalkA, QryWalkB, QryAssert, QryWalkC, QryWalkD, QryWalkE. Conditions: those of each theorem. -/
import Derived.Laws.Bits64b
import Derived.Deep.RegionHeld3
import Derived.Deep.QuietTactic
import Derived.BigQuiet
import Derived.Test.YthejfklieedjmaaGreatDoorQs01
import Derived.Test.YthejfklieedjmaaGreatDoorQs02
import Derived.Test.YthejfklieedjmaaGreatDoorQs06
import Derived.Test.YthejfklieedjmaaGreatDoorQs07
set_option maxRecDepth 20000
set_option maxHeartbeats 8000000
namespace Go.Proofs.YthejfklieedjmaaGreatDoor
open Go Go.Proofs Go.RowKit
def Ex.op : Ex -> Int | .mk o _ _ _ _ => o
def Ex.n : Ex -> Int | .mk _ n _ _ _ => n
def Ex.s : Ex -> ByteArray | .mk _ _ s _ _ => s
def Ex.kids : Ex -> List Ex | .mk _ _ _ k _ => k
def Fm.word : Fm -> ByteArray | .mk w _ _ _ => w
def Fm.args : Fm -> List Ar | .mk _ a _ _ => a
def Fm.body : Fm -> List Fm | .mk _ _ b _ => b
def Fm.at_ : Fm -> Int | .mk _ _ _ a => a
def exV (x : Ex) (k : Value) : List Value := [(.int .i64 x.op), .int .i64 x.n, .string x.s, k, .int .i64 x.at_]
def arV (x : Ar) (k : Value) : List Value := [(.int .i64 x.kind), .int .i64 x.n, .string x.s, .int .i64 x.e.op, .int .i64 x.e.n, .string x.e.s, k, .int .i64 x.e.at_, .int .i64 x.at_]
def fmV (x : Fm) (a b : Value) : List Value := [.string x.word, a, b, .int .i64 x.at_]
def RowAt (W : World) (b a s : Nat) (n : Nat) (f : Nat -> List Value) : Prop := ∀ i, i < n -> ∀ j u, (f i)[j]? = some u -> W.cell? ⟨b, a + i * s + j, none⟩ = some u
theorem cell_turned {C : Nat -> Prop} {W W' : World} (h : Turned C W W') {b o : Nat} {u : Value} (hb : ¬ C b) (hc : W.cell? ⟨b, o, none⟩ = some u) : W'.cell? ⟨b, o, none⟩ = some u := by
 have hlt : b < W.heap.size := by
  rcases Nat.lt_or_ge b W.heap.size with h1 | h1
  ·exact h1
  ·simp [World.cell?, h1] at hc
 have hb2 := h.block b hlt hb
 simp only [World.cell?] at hc ⊢
 rw [hb2]
 exact hc
theorem RowAt.turned {C : Nat -> Prop} {W W' : World} {b a s n : Nat} {f : Nat -> List Value} (h : RowAt W b a s n f) (ht : Turned C W W') (hb : ¬ C b) : RowAt W' b a s n f := fun i hi j u hu => cell_turned ht hb (h i hi j u hu)
inductive KidsAt (W : World) (N : Nat -> Prop) : List Ex -> Value -> Prop
 | nil (p : Option Addr) (c : Nat) : KidsAt W N [] (.slice p 0 c)
 | some (kids : List Ex) (b a c : Nat) (k : Nat -> Value) (hN : N b) (hl : kids.length <= maxLen) (hcell : RowAt W b a 5 kids.length fun i => match kids[i]? with | .some x => exV x (k i) | .none => [])
   (hk : ∀ i x, kids[i]? = .some x -> KidsAt W N x.kids (k i)) : KidsAt W N kids (.slice (some ⟨b, a, none⟩) kids.length c)
inductive ArgsAt (W : World) (N : Nat -> Prop) : List Ar -> Value -> Prop
 | nil (p : Option Addr) (c : Nat) : ArgsAt W N [] (.slice p 0 c)
 | some (as_ : List Ar) (b a c : Nat) (k : Nat -> Value) (hN : N b) (hl : as_.length <= maxLen) (hcell : RowAt W b a 9 as_.length fun i => match as_[i]? with | .some x => arV x (k i) | .none => [])
   (hk : ∀ i x, as_[i]? = .some x -> KidsAt W N x.e.kids (k i)) : ArgsAt W N as_ (.slice (some ⟨b, a, none⟩) as_.length c)
inductive FormsAt (W : World) (N : Nat -> Prop) : List Fm -> Value -> Prop
 | nil (p : Option Addr) (c : Nat) : FormsAt W N [] (.slice p 0 c)
 | some (fs : List Fm) (b a c : Nat) (k l : Nat -> Value) (hN : N b) (hl : fs.length <= maxLen) (hcell : RowAt W b a 4 fs.length fun i => match fs[i]? with | .some x => fmV x (k i) (l i) | .none => [])
   (ha : ∀ i x, fs[i]? = .some x -> ArgsAt W N x.args (k i)) (hb : ∀ i x, fs[i]? = .some x -> FormsAt W N x.body (l i)) : FormsAt W N fs (.slice (some ⟨b, a, none⟩) fs.length c)
theorem KidsAt.move {W W' : World} {N M C : Nat -> Prop} {l : List Ex} {v : Value} (h : KidsAt W N l v) (ht : Turned C W W') (hC : ∀ b, N b -> ¬ C b) (hM : ∀ b, N b -> b < W.heap.size -> M b) : KidsAt W' M l v := by
 induction h with
 | nil p c => exact .nil p c
 | some kids b a c k hN hl hcell hk ih =>
  cases kids with
  | nil => exact .nil _ _
  | cons x xs =>
   have h0 := hcell 0 (by simp) 0 (.int .i64 x.op) (by simp [exV])
   have hlt : b < W.heap.size := by
    rcases Nat.lt_or_ge b W.heap.size with h1 | h1
    ·exact h1
    ·simp [World.cell?, h1] at h0
   exact .some _ b a c k (hM b hN hlt) hl (hcell.turned ht (hC b hN)) ih
theorem ArgsAt.move {W W' : World} {N M C : Nat -> Prop} {l : List Ar} {v : Value} (h : ArgsAt W N l v) (ht : Turned C W W') (hC : ∀ b, N b -> ¬ C b) (hM : ∀ b, N b -> b < W.heap.size -> M b) : ArgsAt W' M l v := by
 cases h with
 | nil p c => exact .nil p c
 | some _ b a c k hN hl hcell hk =>
  cases l with
  | nil => exact .nil _ _
  | cons x xs =>
   have h0 := hcell 0 (by simp) 0 (.int .i64 x.kind) (by simp [arV])
   have hlt : b < W.heap.size := by
    rcases Nat.lt_or_ge b W.heap.size with h1 | h1
    ·exact h1
    ·simp [World.cell?, h1] at h0
   exact .some _ b a c k (hM b hN hlt) hl (hcell.turned ht (hC b hN)) fun i x hx => (hk i x hx).move ht hC hM
theorem FormsAt.move {W W' : World} {N M C : Nat -> Prop} {l : List Fm} {v : Value} (h : FormsAt W N l v) (ht : Turned C W W') (hC : ∀ b, N b -> ¬ C b) (hM : ∀ b, N b -> b < W.heap.size -> M b) : FormsAt W' M l v := by
 induction h with
 | nil p c => exact .nil p c
 | some fs b a c k m hN hl hcell ha hb ih =>
  cases fs with
  | nil => exact .nil _ _
  | cons x xs =>
   have h0 := hcell 0 (by simp) 0 (.string x.word) (by simp [fmV])
   have hlt : b < W.heap.size := by
    rcases Nat.lt_or_ge b W.heap.size with h1 | h1
    ·exact h1
    ·simp [World.cell?, h1] at h0
   exact .some _ b a c k m (hM b hN hlt) hl (hcell.turned ht (hC b hN)) (fun i x hx => (ha i x hx).move ht hC hM) ih
theorem KidsAt.shape {W : World} {N : Nat -> Prop} {l : List Ex} {v : Value} (h : KidsAt W N l v) : ∃ p c, v = .slice p l.length c := by
 cases h with
 | nil p c => exact ⟨p, c, rfl⟩
 | some => exact ⟨_, _, rfl⟩
theorem ArgsAt.shape {W : World} {N : Nat -> Prop} {l : List Ar} {v : Value} (h : ArgsAt W N l v) : ∃ p c, v = .slice p l.length c := by
 cases h with
 | nil p c => exact ⟨p, c, rfl⟩
 | some => exact ⟨_, _, rfl⟩
theorem FormsAt.shape {W : World} {N : Nat -> Prop} {l : List Fm} {v : Value} (h : FormsAt W N l v) : ∃ p c, v = .slice p l.length c := by
 cases h with
 | nil p c => exact ⟨p, c, rfl⟩
 | some => exact ⟨_, _, rfl⟩
abbrev partCells (x : Pt) : List Value := [.bool x.coef.neg, .string x.coef.num, .string x.coef.den, .int .i64 x.kind, .int .i64 x.place, .int .i64 x.other, .int .i64 x.from_, .int .i64 x.to_]
abbrev partV (x : Pt) : Value := .agg #[.bool x.coef.neg, .string x.coef.num, .string x.coef.den, .int .i64 x.kind, .int .i64 x.place, .int .i64 x.other, .int .i64 x.from_, .int .i64 x.to_]
def PtsAt (W : World) (l : List Pt) (v : Value) : Prop := ∃ p c, v = .slice p l.length c /\ Lst W.heap.size W 8 partCells l p c /\ ∀ g, p = some g -> ∃ cs, W.heap[g.block]? = some (.cells cs 51 (0, 0))
theorem PtsAt.turned {W W' : World} {l : List Pt} {v : Value} (h : PtsAt W l v) (ht : Turned (fun _ => False) W W') : PtsAt W' l v := by
 obtain ⟨p, c, rfl, h, hg⟩ := h
 exact ⟨p, c, rfl, (h.turned ht).mono ht.size, fun g he => by
  obtain ⟨cs, h1⟩ := hg g he
  exact ⟨cs, (ht.block _ (getElem?_lt h1) id).trans h1⟩⟩
abbrev wishC (w : Ws) (v : Value) : Array Value := #[.int .i64 w.kind, v, .int .i64 w.gauge, .int .i64 w.other, .int .i64 w.lag, .int .i64 w.from_, .int .i64 w.to_, .bool w.level.neg, .string w.level.num, .string w.level.den, .bool w.level2.neg, .string w.level2.num, .string w.level2.den]
def AnyAt (W : World) : Qv -> Value -> Prop
 | .num u, v => v = .iface 31 (ratV u)
 | .tick n, v => v = .iface 79 (.int .i64 n)
 | .sum l, v => ∃ s, v = .iface 29 s /\ PtsAt W l s
 | .wish w, v => ∃ s, v = .iface 33 (.agg (wishC w s)) /\ PtsAt W w.parts s
theorem AnyAt.turned {W W' : World} {q : Qv} {v : Value} (h : AnyAt W q v) (ht : Turned (fun _ => False) W W') : AnyAt W' q v := by
 cases q with
 | num u => exact h
 | tick n => exact h
 | sum l => obtain ⟨s, h1, h2⟩ := h; exact ⟨s, h1, h2.turned ht⟩
 | wish w => obtain ⟨s, h1, h2⟩ := h; exact ⟨s, h1, h2.turned ht⟩
def errOf (r : Except Int Qv) : Int := match r with
 | .ok _ => 0
 | .error c => c
def Back (W : World) (r : Except Int Qv) (e : Ending) : Prop := ∃ v, e = .returned (.tuple #[v, (.int .i64 (errOf r))]) /\ ∀ q, r = .ok q -> AnyAt W q v
theorem Back.turned {W W' : World} {r : Except Int Qv} {e : Ending} (h : Back W r e) (ht : Turned (fun _ => False) W W') : Back W' r e := by
 obtain ⟨v, h1, h2⟩ := h
 exact ⟨v, h1, fun q hq => (h2 q hq).turned ht⟩
theorem Back.err (W : World) (c : Int) (v : Value) : Back W (.error c) (.returned (.tuple #[v, .int .i64 c])) := ⟨v, rfl, fun q h => by cases h⟩
theorem Back.ok {W : World} {q : Qv} {v : Value} (h : AnyAt W q v) : Back W (.ok q) (.returned (.tuple #[v, .int .i64 0])) := ⟨v, rfl, fun x h2 => by cases h2; exact h⟩
attribute [local go_sem] Oper.semAt_some
attribute [local go_sem ↓] run_eql_rat' run_neq_rat'
def natI (n : Nat) : Int := if n < 9223372036854775808 then n else 0
def natE (n : Nat) : Int := if n < 9223372036854775808 then 0 else 3
theorem digs_two {n : Nat} (h : (digs bU n).length <= 2) : n = digAt (digs bU n) 0 + bU * digAt (digs bU n) 1 := by
 have hv := vL_digs (b := bU) (by decide) n
 generalize digs bU n = l at h hv
 match l, h with
 | [], _ => simpa [vL, digAt] using hv.symm
 | [a], _ => simpa [vL, digAt] using hv.symm
 | [a, b], _ => simpa [vL, digAt] using hv.symm
theorem digs_ge {n : Nat} (h : 2 < (digs bU n).length) : 18446744073709551616 <= n := by
 rcases Nat.lt_or_ge n 18446744073709551616 with h1 | h1
 ·have := digs_len_le (b := bU) (k := 2) (n := n) (by decide) (by unfold bU; omega)
  omega
 ·exact h1
theorem or_word {lo hi n : Nat} (h0 : lo < 4294967296) (h1 : hi < 2147483648) (hn : n = lo + 4294967296 * hi) : wrap64 (bits .or .u64 ((hi : Int) * 4294967296) (lo : Int)) = n := by
 have e : ((hi : Int) * 4294967296) = ((2 ^ 32 * hi : Nat) : Int) := by omega
 rw [e, bits_or_u64_nat _ _ (by omega) (by omega), <- Nat.two_pow_add_eq_or_of_lt (by omega)]
 unfold wrap64
 omega
theorem nValue_any (s : ByteArray) (W : World) (hs : s.size <= 900000000) : Calls Tryz.prog 125 #[.string s] W fun e w' => e = .returned (.tuple #[(.int .i64 (natI (natB s))), (.int .i64 (natE (natB s)))]) /\ Turned (fun _ => False) W w' := by
 have HA : Hid (Calls Tryz.prog 87 #[.string s] W fun e w' => ∃ p c, e = .returned (.slice p (digs bU (natB s)).length c) /\ LA w' (fun _ => True) (digs bU (natB s)) p c /\ Turned (fun _ => False) W w') := Lib.hid (load_dg s W (by omega))
 obtain ⟨n, hn⟩ : ∃ n, natB s = n := ⟨_, rfl⟩
 rw [hn] at HA ⊢
 clear hs hn
 have b0 := digAt_lt (b := bU) (by decide) (l := digs bU n) (digs_lt (by decide) n) 0
 have b1 := digAt_lt (b := bU) (by decide) (l := digs bU n) (digs_lt (by decide) n) 1
 have hd := Lib.hid (@digs_two n)
 have hg := Lib.hid (fun h : 2 < (digs bU n).length => digs_ge h)
 obtain ⟨L, hL⟩ : ∃ x, digs bU n = x := ⟨_, rfl⟩
 rw [hL] at HA hd hg b0 b1
 clear hL
 obtain ⟨lo, hlo⟩ : ∃ x, digAt L 0 = x := ⟨_, rfl⟩
 obtain ⟨hi, hhi⟩ : ∃ x, digAt L 1 = x := ⟨_, rfl⟩
 rw [hlo] at b0
 rw [hhi] at b1
 unfold bU at b0 b1
 have HC0 : Hid (∀ (p : Option Addr) (c : Nat) (V : World), LA V (fun _ => True) L p c -> Calls Tryz.prog 137 #[.slice p L.length c, .int .i64 0] V fun e w' => e = .returned (.int .u64 lo) /\ w' = V) := Lib.hid fun p c V h => by rw [<- hlo]; exact at_any L p c 0 V _ h
 have HC1 : Hid (∀ (p : Option Addr) (c : Nat) (V : World), LA V (fun _ => True) L p c -> Calls Tryz.prog 137 #[.slice p L.length c, .int .i64 1] V fun e w' => e = .returned (.int .u64 hi) /\ w' = V) := Lib.hid fun p c V h => by rw [<- hhi]; exact at_any L p c 1 V _ h
 have HD : Hid (L.length <= 2 -> n = lo + 4294967296 * hi) := Lib.hid fun h => by rw [<- hlo, <- hhi]; exact hd.out h
 clear hlo hhi hd
 by_cases h2 : L.length <= 2
 ·have hl : ¬ (2 : Int) < (L.length : Int) := by omega
  have hn := HD.out h2
  by_cases hb : hi < 2147483648
  ·have hI : Hid (natI n = n /\ natE n = 0 /\ n = lo + 4294967296 * hi) := Lib.hid (by unfold natI natE; rw [if_pos (by omega), if_pos (by omega)]; exact ⟨rfl, rfl, hn⟩)
   have hq : (hi : Int) / 2147483648 = 0 := by omega
   clear h2 hn HD hg
   go_enter Tryz.func125, Tryz.ntmps125
   go_wp2_with fail
   refine HA.out.mono ?_
   rintro e w1 ⟨p1, c1, rfl, h1, t1⟩
   have H1 := Lib.hid (And.intro h1 t1)
   clear h1 t1
   go_wp2_with fail
   refine (HC1.out p1 c1 w1 H1.out.1).mono ?_
   rintro e w2 ⟨rfl, hw⟩
   subst hw
   go_wp2_with fail
   refine (HC1.out p1 c1 _ H1.out.1).mono ?_
   rintro e w2 ⟨rfl, hw⟩
   subst hw
   go_wp2_with fail
   refine (HC0.out p1 c1 _ H1.out.1).mono ?_
   rintro e w2 ⟨rfl, hw⟩
   subst hw
   go_wp2_with fail
   go_ret2
   rw [or_word b0 hb hI.out.2.2, hI.out.1, hI.out.2.1]
   exact ⟨rfl, H1.out.2⟩
  ·have hI : Hid (natI n = 0 /\ natE n = 3) := Lib.hid (by unfold natI natE; rw [if_neg (by omega), if_neg (by omega)]; exact ⟨rfl, rfl⟩)
   have hq : (0 : Int) < (hi : Int) / 2147483648 := by omega
   clear h2 hn HD hg
   go_enter Tryz.func125, Tryz.ntmps125
   go_wp2_with fail
   refine HA.out.mono ?_
   rintro e w1 ⟨p1, c1, rfl, h1, t1⟩
   have H1 := Lib.hid (And.intro h1 t1)
   clear h1 t1
   go_wp2_with fail
   refine (HC1.out p1 c1 w1 H1.out.1).mono ?_
   rintro e w2 ⟨rfl, hw⟩
   subst hw
   go_wp2_with fail
   go_ret2
   rw [hI.out.1, hI.out.2]
   exact ⟨rfl, H1.out.2⟩
 ·have hl : (2 : Int) < (L.length : Int) := by omega
  have hI : Hid (natI n = 0 /\ natE n = 3) := Lib.hid (by have := hg.out (by omega); unfold natI natE; rw [if_neg (by omega), if_neg (by omega)]; exact ⟨rfl, rfl⟩)
  clear h2 HD hg
  go_enter Tryz.func125, Tryz.ntmps125
  go_wp2_with fail
  refine HA.out.mono ?_
  rintro e w1 ⟨p1, c1, rfl, h1, t1⟩
  have H1 := Lib.hid (And.intro h1 t1)
  clear h1 t1
  go_wp2_with fail
  go_ret2
  rw [hI.out.1, hI.out.2]
  exact ⟨rfl, H1.out.2⟩
theorem at_back (n : Int) (W : World) : Calls Tryz.prog 79 #[.int .i64 n] W fun e w' => Back W (atP n) e /\ w' = W := by
 by_cases h1 : n < 0
 ·have HB : Hid (atP n = .error 3) := Lib.hid (by unfold atP; rw [if_pos (.inl h1)])
  go_enter Tryz.func79, Tryz.ntmps79
  go_wp2_with fail
  go_ret2
  rw [HB.out]
  exact ⟨Back.err _ _ _, rfl⟩
 ·by_cases h2 : 1402560 < n
  ·have HB : Hid (atP n = .error 3) := Lib.hid (by unfold atP maxT; rw [if_pos (.inr h2)])
   go_enter Tryz.func79, Tryz.ntmps79
   go_wp2_with fail
   go_ret2
   rw [HB.out]
   exact ⟨Back.err _ _ _, rfl⟩
  ·have HB : Hid (atP n = .ok (.tick n)) := Lib.hid (by unfold atP maxT; rw [if_neg (by omega)])
   go_enter Tryz.func79, Tryz.ntmps79
   go_wp2_with fail
   go_ret2
   rw [HB.out]
   exact ⟨Back.ok rfl, rfl⟩
theorem gauge_any (n : Int) (W : World) : Calls Tryz.prog 31 #[.int .i64 n] W fun e w' => e = .returned (.bool (gaugeP n)) /\ w' = W := by
 by_cases h1 : 0 <= n
 ·by_cases h2 : n < 40
  ·have HB : Hid (gaugeP n = true) := Lib.hid (by unfold gaugeP; rw [decide_eq_true h1, decide_eq_true h2]; rfl)
   go_enter Tryz.func31, Tryz.ntmps31
   go_wp2_with fail
   go_ret
   rw [HB.out]
   exact ⟨rfl, rfl⟩
  ·have HB : Hid (gaugeP n = false) := Lib.hid (by unfold gaugeP; rw [decide_eq_false h2, Bool.and_false])
   go_enter Tryz.func31, Tryz.ntmps31
   go_wp2_with fail
   go_ret
   rw [HB.out]
   exact ⟨rfl, rfl⟩
 ·have HB : Hid (gaugeP n = false) := Lib.hid (by unfold gaugeP; rw [decide_eq_false h1, Bool.false_and])
  go_enter Tryz.func31, Tryz.ntmps31
  go_wp2_with fail
  go_ret
  rw [HB.out]
  exact ⟨rfl, rfl⟩
attribute [local go_sem ↓] run_eql_rat' run_neq_rat'
def floorE (u : Rv) : Int := if (floorF (fracR u) : Int) <= maxI then 0 else 3
def floorI (u : Rv) : Int := if (floorF (fracR u) : Int) <= maxI then sgn (fracR u).1 (floorF (fracR u)) else 0
theorem nat_val (m : Nat) : (m <= 999999999999999 /\ natI m = m /\ natE m = 0) \/ (999999999999999 < m /\ natI m = m /\ natE m = 0) \/ (999999999999999 < m /\ natI m = 0 /\ natE m = 3) := by
 unfold natI natE
 split <;> omega
theorem floor_any (u : Rv) (W : World) (hu : SzR u 100000000) : Calls Tryz.prog 115 #[ratV u] W fun e w' => e = .returned (.tuple #[(.int .i64 (floorI u)), (.int .i64 (floorE u))]) /\ Turned (fun _ => False) W w' := by
 have HO := Lib.hid (fun W => qOf_any u W (by have := hu.1; omega) (by have := hu.2; omega))
 have hz := fracR_size hu (by decide)
 have hd0 := fracR_den u
 have HI : Hid (floorI u = if (floorF (fracR u) : Int) <= maxI then sgn (fracR u).1 (floorF (fracR u)) else 0) := Lib.hid rfl
 have HE : Hid (floorE u = if (floorF (fracR u) : Int) <= maxI then 0 else 3) := Lib.hid rfl
 obtain ⟨un, ux, ud⟩ := u
 obtain ⟨⟨neg, n, d⟩, hf⟩ : ∃ f, fracR ⟨un, ux, ud⟩ = f := ⟨_, rfl⟩
 rw [hf] at HO hz hd0 HI HE
 have HD := Lib.hid (fun W => nDivMod_any (encB n) (encB d) W (by have := hz.1; simp only at this; omega) (by have := hz.2; simp only at this; omega) (by rw [natB_encB]; exact hd0))
 simp only [natB_encB] at HD
 have q1 : (encB (n / d)).size <= 100000000 := Nat.le_trans (encB_mono (Nat.div_le_self n d)) hz.1
 have HA := Lib.hid (fun W => nAdd_any (encB (n / d)) ⟨#[1]⟩ W (by omega) (by decide))
 rw [natB_encB, show natB ⟨#[1]⟩ = 1 from rfl] at HA
 obtain ⟨m, hm⟩ : ∃ m, floorF (neg, n, d) = m := ⟨_, rfl⟩
 rw [hm] at HI HE
 have hms : (encB m).size <= 900000000 := by
  have h1 : m <= n / d + 1 := by rw [<- hm]; unfold floorF; split <;> simp only <;> omega
  have h2 := encB_add (m := n / d) (n := 1) (k := 100000000) q1 (Nat.le_trans (encB_int (by decide)) (by decide))
  have := encB_mono h1
  omega
 have HV := Lib.hid (fun W => nValue_any (encB m) W hms)
 rw [natB_encB] at HV
 have hc := nat_val m
 unfold maxI at HI HE
 clear hz hf q1 hms
 obtain ⟨N, hN⟩ : ∃ x, encB n = x := ⟨_, rfl⟩
 obtain ⟨D, hD⟩ : ∃ x, encB d = x := ⟨_, rfl⟩
 simp only [frV] at HO
 rw [hN, hD] at HO HD
 clear hN hD
 generalize natI m = z at HV hc
 generalize natE m = c at HV hc
 have h3 : (neg = true /\ n % d ≠ 0 /\ encB m = encB (n / d + 1)) \/ (neg = false /\ encB m = encB (n / d)) \/ (neg = true /\ n % d = 0 /\ encB m = encB (n / d)) := by
  rw [<- hm]
  unfold floorF
  cases neg <;> by_cases h : n % d = 0 <;> simp [h]
 obtain ⟨M, hM⟩ : ∃ x, encB m = x := ⟨_, rfl⟩
 rw [hM] at h3 HV
 have HQ := Lib.hid h3
 clear hm hM hd0
 rcases h3 with ⟨rfl, h4, h5⟩ | ⟨rfl, h5⟩ | ⟨rfl, h4, h5⟩
 ·rw [<- h5] at HA
  obtain ⟨l1, l2⟩ := bytesNe (encB_ne h4)
  obtain ⟨R, hR⟩ : ∃ x, encB (n % d) = x := ⟨_, rfl⟩
  obtain ⟨Q, hQ⟩ : ∃ x, encB (n / d) = x := ⟨_, rfl⟩
  rw [hR, hQ] at HD
  rw [hQ] at HA
  rw [hR] at l1 l2
  clear hR hQ h4 h5 HQ
  rcases hc with ⟨h1, rfl, rfl⟩ | ⟨h1, rfl, rfl⟩ | ⟨h1, rfl, rfl⟩
  all_goals
   go_enter Tryz.func115, Tryz.ntmps115
   go_wp2_with fail
   refine (HO.out _).mono ?_
   rintro e w1 ⟨rfl, t1⟩
   have T1 := Lib.hid ((((Turned.refl (fun _ => False) W).alloc (.cells #[.bool un, .string ux, .string ud] 31)).trans t1).alloc (.cells #[.bool true, .string N, .string D] 92))
   obtain ⟨c0, c1, c2, -, -, -⟩ := box3 (World.alloc_heap_new w1 (.cells #[.bool true, .string N, .string D] 92))
   clear t1 HO
   go_wp2_with fail
   refine (HD.out _).mono ?_
   rintro e w2 ⟨rfl, t2⟩
   have T2 := Lib.hid (T1.out.trans t2)
   have d0 := cellT t2 id c0
   clear t2 T1 c0 c1 c2 HD
   go_wp2_with fail
   refine (HA.out _).mono ?_
   rintro e w3 ⟨rfl, t3⟩
   have T3 := Lib.hid (T2.out.trans t3)
   have e0 := cellT t3 id d0
   clear t3 T2 d0 HA
   go_wp2_with fail
   refine (HV.out _).mono ?_
   rintro e w4 ⟨rfl, t4⟩
   have T4 := Lib.hid (T3.out.trans t4)
   have f0 := cellT t4 id e0
   clear t4 T3 e0 HV
   go_wp2_with fail
   go_ret2
   rw [HI.out, HE.out]
   first
    | (rw [if_pos (by omega), if_pos (by omega)]; exact ⟨rfl, T4.out⟩)
    | (rw [if_neg (by omega), if_neg (by omega)]; exact ⟨rfl, T4.out⟩)
 ·rw [<- h5] at HD
  clear h5 HQ HA
  rcases hc with ⟨h1, rfl, rfl⟩ | ⟨h1, rfl, rfl⟩ | ⟨h1, rfl, rfl⟩
  all_goals
   go_enter Tryz.func115, Tryz.ntmps115
   go_wp2_with fail
   refine (HO.out _).mono ?_
   rintro e w1 ⟨rfl, t1⟩
   have T1 := Lib.hid ((((Turned.refl (fun _ => False) W).alloc (.cells #[.bool un, .string ux, .string ud] 31)).trans t1).alloc (.cells #[.bool false, .string N, .string D] 92))
   obtain ⟨c0, c1, c2, -, -, -⟩ := box3 (World.alloc_heap_new w1 (.cells #[.bool false, .string N, .string D] 92))
   clear t1 HO
   go_wp2_with fail
   refine (HD.out _).mono ?_
   rintro e w2 ⟨rfl, t2⟩
   have T2 := Lib.hid (T1.out.trans t2)
   have d0 := cellT t2 id c0
   clear t2 T1 c0 c1 c2 HD
   go_wp2_with fail
   refine (HV.out _).mono ?_
   rintro e w4 ⟨rfl, t4⟩
   have T4 := Lib.hid (T2.out.trans t4)
   have f0 := cellT t4 id d0
   clear t4 T2 d0 HV
   go_wp2_with fail
   go_ret2
   rw [HI.out, HE.out]
   first
    | (rw [if_pos (by omega), if_pos (by omega)]; exact ⟨rfl, T4.out⟩)
    | (rw [if_neg (by omega), if_neg (by omega)]; exact ⟨rfl, T4.out⟩)
 ·rw [<- h5, h4, encB_zero] at HD
  clear h5 HQ HA h4
  rcases hc with ⟨h1, rfl, rfl⟩ | ⟨h1, rfl, rfl⟩ | ⟨h1, rfl, rfl⟩
  all_goals
   go_enter Tryz.func115, Tryz.ntmps115
   go_wp2_with fail
   refine (HO.out _).mono ?_
   rintro e w1 ⟨rfl, t1⟩
   have T1 := Lib.hid ((((Turned.refl (fun _ => False) W).alloc (.cells #[.bool un, .string ux, .string ud] 31)).trans t1).alloc (.cells #[.bool true, .string N, .string D] 92))
   obtain ⟨c0, c1, c2, -, -, -⟩ := box3 (World.alloc_heap_new w1 (.cells #[.bool true, .string N, .string D] 92))
   clear t1 HO
   go_wp2_with fail
   refine (HD.out _).mono ?_
   rintro e w2 ⟨rfl, t2⟩
   have T2 := Lib.hid (T1.out.trans t2)
   have d0 := cellT t2 id c0
   clear t2 T1 c0 c1 c2 HD
   go_wp2_with fail
   refine (HV.out _).mono ?_
   rintro e w4 ⟨rfl, t4⟩
   have T4 := Lib.hid (T2.out.trans t4)
   have f0 := cellT t4 id d0
   clear t4 T2 d0 HV
   go_wp2_with fail
   go_ret2
   rw [HI.out, HE.out]
   first
    | (rw [if_pos (by omega), if_pos (by omega)]; exact ⟨rfl, T4.out⟩)
    | (rw [if_neg (by omega), if_neg (by omega)]; exact ⟨rfl, T4.out⟩)
theorem qIntegerN_any (n : Nat) (W : World) (h0 : 0 < n) (hn : n <= 999999999999999) : Calls Tryz.prog 41 #[(.int .i64 (-(n : Int)))] W fun e w' => e = .returned (frV (true, n, 1)) /\ Turned (fun _ => False) W w' := by
 have HI := Lib.hid (fun W => nInt_any n W (by omega))
 show Calls Tryz.prog 41 #[(.int .i64 (-(n : Int)))] W fun e w' => e = .returned (.agg #[.bool true, .string (encB n), .string (encB 1)]) /\ Turned (fun _ => False) W w'
 rw [encB_one]
 obtain ⟨X, hX⟩ : ∃ x, encB n = x := ⟨_, rfl⟩
 rw [hX] at HI ⊢
 clear hX
 have e1 : wrap64 (- -(n : Int)) = (n : Int) := by unfold wrap64; omega
 have e1' : wrap64 (n : Int) = (n : Int) := by unfold wrap64; omega
 have e2 : max (-(n : Int)) (n : Int) = (n : Int) := by omega
 have e4 : (0 : Int) < (n : Int) := by omega
 have e5 : -(n : Int) < (n : Int) := by omega
 clear hn
 go_enter Tryz.func41, Tryz.ntmps41
 go_wp2_with fail
 refine (HI.out _).mono ?_
 rintro e w1 ⟨rfl, t1⟩
 have HS := Lib.hid (And.intro (keepB t1 (World.alloc_heap_new W _)) (((Turned.refl (fun _ => False) W).alloc _).trans t1))
 clear t1 HI
 obtain ⟨d0, d1, d2, q0, q1, q2⟩ := box3 HS.out.1
 go_wp2_with fail
 obtain ⟨k1, k2⟩ := set3 HS.out.1 (.bool true) (.string X) (.string ⟨#[1]⟩)
 refine bodyPost_ret (results_int _ _ W.heap.size _ _ _ rfl k1) rfl ?_
 exact ⟨rfl, HS.out.2.fresh k2 fun g hg => by omega⟩
theorem qIntegerZ_any (z : Int) (W : World) (h1 : -999999999999999 <= z) (h2 : z <= 999999999999999) : Calls Tryz.prog 41 #[.int .i64 z] W fun e w' => e = .returned (frV (decide (z < 0), z.natAbs, 1)) /\ Turned (fun _ => False) W w' := by
 by_cases h : z < 0
 ·have := qIntegerN_any z.natAbs W (by omega) (by omega)
  rwa [show -(z.natAbs : Int) = z by omega, <- decide_eq_true h] at this
 ·have := qInteger_any z.natAbs W (by omega)
  rwa [show (z.natAbs : Int) = z by omega, <- decide_eq_false h] at this
theorem low_intZ (z : Int) : lowR (decide (z < 0)) z.natAbs 1 = intR z := by
 unfold intR repR
 rw [Rat.num_intCast, Rat.den_intCast]
theorem qIntZ_any (z : Int) (W : World) (h1 : -999999999999999 <= z) (h2 : z <= 999999999999999) : Calls Tryz.prog 17 #[.int .i64 z] W fun e w' => e = .returned (ratV (intR z)) /\ Turned (fun _ => False) W w' := by
 have HN := Lib.hid (fun W => qInside_any z W h1 h2)
 have HI := Lib.hid (fun W => qIntegerZ_any z W h1 h2)
 have hb : z.natAbs <= 999999999999999 := by omega
 have HL := Lib.hid (fun W => low_any (decide (z < 0), z.natAbs, 1) W (by show (1 : Nat) ≠ 0; decide) (Nat.le_trans (encB_int hb) (by decide)) (Nat.le_trans (encB_int (by decide : 1 <= 999999999999999)) (by decide)))
 rw [low_intZ] at HL
 obtain ⟨⟨sn, sx, sy⟩, hs⟩ : ∃ s, intR z = s := ⟨_, rfl⟩
 rw [hs] at HL ⊢
 simp only [frV] at HI HL
 obtain ⟨X, hX⟩ : ∃ x, encB z.natAbs = x := ⟨_, rfl⟩
 obtain ⟨Y, hY⟩ : ∃ x, encB 1 = x := ⟨_, rfl⟩
 obtain ⟨B, hB⟩ : ∃ x, decide (z < 0) = x := ⟨_, rfl⟩
 rw [hX, hY, hB] at HI HL
 clear hX hY hs h1 h2 hB hb
 go_enter Tryz.func17, Tryz.ntmps17
 go_wp2_with (go_at_call 40; refine (HN.out _).mono ?_; rintro e w' ⟨rfl, rfl⟩)
 refine (HI.out _).mono ?_
 rintro e w1 ⟨rfl, t1⟩
 have HS := Lib.hid (And.intro (keepB t1 (World.alloc_heap_new W _)) (((Turned.refl (fun _ => False) W).alloc _).trans t1))
 clear t1 HI
 go_wp2_with fail
 refine (HL.out _).mono ?_
 rintro e w2 ⟨rfl, t1⟩
 have HS2 := Lib.hid (And.intro (keepB t1 HS.out.1) (HS.out.2.trans t1))
 clear t1 HL HS
 obtain ⟨d0, d1, d2, q0, q1, q2⟩ := box3 HS2.out.1
 go_wp2_with fail
 obtain ⟨k1, k2⟩ := set3 HS2.out.1 (.bool sn) (.string sx) (.string sy)
 refine bodyPost_ret (results_qint _ _ W.heap.size _ _ _ rfl k1) rfl ?_
 exact ⟨rfl, HS2.out.2.fresh k2 fun g hg => by omega⟩
theorem is_rat (v : Value) (W : World) : (Instr.typeAssert (.iface 31 v) 20 31 false).run Tryz.prog W = .ok v W := by kernel_rfl
theorem is_wish (v : Value) (W : World) : (Instr.typeAssert (.iface 33 v) 20 33 false).run Tryz.prog W = .ok v W := by kernel_rfl
theorem is_tick (v : Value) (W : World) : (Instr.typeAssert (.iface 79 v) 20 79 false).run Tryz.prog W = .ok v W := by kernel_rfl
theorem yes_rat (v : Value) (W : World) : (Instr.typeAssert (.iface 31 v) 20 31 true).run Tryz.prog W = .ok (.tuple #[v, .bool true]) W := by kernel_rfl
theorem yes_tick (v : Value) (W : World) : (Instr.typeAssert (.iface 79 v) 20 79 true).run Tryz.prog W = .ok (.tuple #[v, .bool true]) W := by kernel_rfl
theorem yes_parts (v : Value) (W : World) : (Instr.typeAssert (.iface 29 v) 20 29 true).run Tryz.prog W = .ok (.tuple #[v, .bool true]) W := by kernel_rfl
theorem yes_wish (v : Value) (W : World) : (Instr.typeAssert (.iface 33 v) 20 33 true).run Tryz.prog W = .ok (.tuple #[v, .bool true]) W := by kernel_rfl
theorem no_tick_rat (v : Value) (W : World) : (Instr.typeAssert (.iface 31 v) 20 79 true).run Tryz.prog W = .ok (.tuple #[.int .i64 0, .bool false]) W := by kernel_rfl
theorem no_tick_parts (v : Value) (W : World) : (Instr.typeAssert (.iface 29 v) 20 79 true).run Tryz.prog W = .ok (.tuple #[.int .i64 0, .bool false]) W := by kernel_rfl
theorem no_parts_rat (v : Value) (W : World) : (Instr.typeAssert (.iface 31 v) 20 29 true).run Tryz.prog W = .ok (.tuple #[.slice none 0 0, .bool false]) W := by kernel_rfl
theorem no_parts_tick (v : Value) (W : World) : (Instr.typeAssert (.iface 79 v) 20 29 true).run Tryz.prog W = .ok (.tuple #[.slice none 0 0, .bool false]) W := by kernel_rfl
theorem no_parts_wish (v : Value) (W : World) : (Instr.typeAssert (.iface 33 v) 20 29 true).run Tryz.prog W = .ok (.tuple #[.slice none 0 0, .bool false]) W := by kernel_rfl
theorem no_wish_rat (v : Value) (W : World) : (Instr.typeAssert (.iface 31 v) 20 33 true).run Tryz.prog W = .ok (.tuple #[.agg (wishC noWs (.slice none 0 0)), .bool false]) W := by kernel_rfl
theorem no_wish_tick (v : Value) (W : World) : (Instr.typeAssert (.iface 79 v) 20 33 true).run Tryz.prog W = .ok (.tuple #[.agg (wishC noWs (.slice none 0 0)), .bool false]) W := by kernel_rfl
attribute [local go_sem ↓] run_eql_rat' run_neq_rat' is_rat
def wholeI (u : Rv) : Int := (wholeR u).getD 0
def wholeE (u : Rv) : Int := if (wholeR u).isSome then 0 else 3
theorem whole_of (u : Rv) : (floorE u = 3 /\ wholeI u = 0 /\ wholeE u = 3) \/ (floorE u = 0 /\ -999999999999999 <= floorI u /\ floorI u <= 999999999999999 /\ ((intR (floorI u) ≠ u /\ wholeI u = 0 /\ wholeE u = 3) \/ (intR (floorI u) = u /\ wholeI u = floorI u /\ wholeE u = 0))) := by
 have hw : wholeR u = if (floorF (fracR u) : Int) <= maxI /\ intR (sgn (fracR u).1 (floorF (fracR u))) = u then some (sgn (fracR u).1 (floorF (fracR u))) else none := rfl
 unfold wholeI wholeE floorE floorI
 rw [hw]
 by_cases h : (floorF (fracR u) : Int) <= maxI
 ·right
  rw [if_pos h, if_pos h]
  unfold maxI at h
  refine ⟨rfl, by unfold sgn; split <;> omega, by unfold sgn; split <;> omega, ?_⟩
  by_cases h2 : intR (sgn (fracR u).1 (floorF (fracR u))) = u
  ·right
   rw [if_pos ⟨h, h2⟩]
   exact ⟨h2, rfl, rfl⟩
  ·left
   rw [if_neg fun h3 => h2 h3.2]
   exact ⟨h2, rfl, rfl⟩
 ·left
  rw [if_neg h, if_neg fun h3 => h h3.1]
  exact ⟨rfl, rfl, rfl⟩
theorem three_cells {V : World} {b t : Nat} {x y z : Value} (h : V.heap[b]? = some (.cells #[x, y, z] t (0, 0))) : V.cell? ⟨b, 0, none⟩ = some x /\ V.cell? ⟨b, 1, none⟩ = some y /\ V.cell? ⟨b, 2, none⟩ = some z := by
 obtain ⟨h1, h2, h3, -⟩ := box3 h
 exact ⟨h1, h2, h3⟩
theorem integer_any (u : Rv) (W : World) (hu : SzR u 100000000) : Calls Tryz.prog 78 #[.iface 31 (ratV u)] W fun e w' => e = .returned (.tuple #[(.int .i64 (wholeI u)), (.int .i64 (wholeE u))]) /\ Turned (fun _ => False) W w' := by
 have HF := Lib.hid (fun W => floor_any u W hu)
 have hw := whole_of u
 have HR : Hid (∀ z, sameR (intR z) u = decide (intR z = u)) := Lib.hid fun z => rfl
 have HQ := Lib.hid qIntZ_any
 clear hu
 obtain ⟨z, hz⟩ : ∃ z, floorI u = z := ⟨_, rfl⟩
 obtain ⟨c, hc⟩ : ∃ c, floorE u = c := ⟨_, rfl⟩
 rw [hz, hc] at HF hw
 clear hz hc
 rcases hw with ⟨rfl, h1, h2⟩ | ⟨rfl, b1, b2, h3⟩
 ·rw [h1, h2]
  clear h1 h2 HR HQ
  obtain ⟨un, ux, ud⟩ := u
  go_enter Tryz.func78, Tryz.ntmps78
  go_wp2_with fail
  refine (HF.out _).mono ?_
  rintro e w1 ⟨rfl, t1⟩
  have T1 := Lib.hid (((Turned.refl (fun _ => False) W).alloc (.cells #[.bool un, .string ux, .string ud] 31)).trans t1)
  clear t1 HF
  go_wp2_with fail
  go_region
  go_wp2_with fail
  go_ret2
  exact ⟨rfl, T1.out.trans (Turned.refl _ _).drew⟩
 ·have HZ := Lib.hid (fun W => HQ.out z W b1 b2)
  have hs : ∃ b, sameR (intR z) u = b /\ ((b = false /\ wholeI u = 0 /\ wholeE u = 3) \/ (b = true /\ wholeI u = z /\ wholeE u = 0)) := by
   refine ⟨_, rfl, ?_⟩
   rw [HR.out]
   rcases h3 with ⟨h, h1, h2⟩ | ⟨h, h1, h2⟩
   ·exact .inl ⟨decide_eq_false h, h1, h2⟩
   ·exact .inr ⟨decide_eq_true h, h1, h2⟩
  obtain ⟨b, hb, hs⟩ := hs
  clear HR HQ h3 b1 b2
  obtain ⟨⟨sn, sx, sy⟩, hi⟩ : ∃ s, intR z = s := ⟨_, rfl⟩
  rw [hi] at HZ hb
  clear hi
  obtain ⟨un, ux, ud⟩ := u
  rcases hs with ⟨rfl, h1, h2⟩ | ⟨rfl, h1, h2⟩
  all_goals
   rw [h1, h2]
   clear h1 h2
   go_enter Tryz.func78, Tryz.ntmps78
   go_wp2_with fail
   refine (HF.out _).mono ?_
   rintro e w1 ⟨rfl, t1⟩
   have HS : Hid (w1.drew.heap[W.heap.size]? = some (.cells #[.bool un, .string ux, .string ud] 31 (0, 0))) := Lib.hid (keepB t1 (World.alloc_heap_new W (.cells #[.bool un, .string ux, .string ud] 31)))
   have T1 := Lib.hid (((Turned.refl (fun _ => False) W).alloc (.cells #[.bool un, .string ux, .string ud] 31)).trans t1.drew)
   have C1 := Lib.hid (three_cells HS.out)
   clear t1 HF
   go_wp2_with fail
   go_region_held3 (fun V => V.cell? ⟨W.heap.size, 0, none⟩ = some (.bool un) /\ V.cell? ⟨W.heap.size, 1, none⟩ = some (.string ux) /\ V.cell? ⟨W.heap.size, 2, none⟩ = some (.string ud))
    (first | exact C2.out | exact C1.out | go_keep)
    (first
     | (go_at_call 17; refine (HZ.out w1.drew).mono ?_; rintro e w2 ⟨rfl, t2⟩; have C2 := Lib.hid (three_cells (keepB t2 HS.out)); have T2 := Lib.hid (T1.out.trans t2); clear t2))
   go_wp2_with fail
   go_ret2
   exact ⟨rfl, T2.out⟩
theorem zero1_any (n : Int) (W : World) : Calls Tryz.prog 53 #[.int .i64 n] W fun e w' => e = .returned (.bool (n != 0)) /\ w' = W := by
 go_enter Tryz.func53, Tryz.ntmps53
 go_wp2_with fail
 go_ret
 exact ⟨rfl, rfl⟩
def Found (P : Int -> Bool) (l : List Int) (W w' : World) (e : Ending) : Prop := (∃ z : Int, e = .returned (.int .i64 z) /\ decide (0 <= z) = l.any P) /\ Turned (fun _ => False) W w'
theorem Found.at_ {P : Int -> Bool} {l : List Int} {k : Nat} {x : Int} {W w' : World} (hx : l[k]? = some x) (hp : P x = true) (ht : Turned (fun _ => False) W w') : Found P l W w' (.returned (.int .i64 ((k : Int)))) :=
 ⟨⟨k, rfl, by rw [decide_eq_true (by omega), List.any_eq_true.2 ⟨x, List.mem_of_getElem? hx, hp⟩]⟩, ht⟩
theorem Found.none {P : Int -> Bool} {l : List Int} {W w' : World} (h : ∀ j x, j < l.length -> l[j]? = some x -> P x = false) (ht : Turned (fun _ => False) W w') : Found P l W w' (.returned (.int .i64 (-1))) :=
 ⟨⟨-1, rfl, by
  rw [decide_eq_false (by omega), eq_comm, List.any_eq_false]
  intro x hx
  obtain ⟨j, hj⟩ := List.mem_iff_getElem?.1 hx
  rw [h j x (List.getElem?_eq_some_iff.1 hj).1 hj]
  decide⟩, ht⟩
theorem indI_any (l : List Int) (p : Option Addr) (c N : Nat) (W : World) (h : Lst N W 1 intCells l p c) : Calls Tryz.prog 84 #[.slice p l.length c, .func (.func 53) #[] #[]] W fun e w' => Found (fun n => n != 0) l W w' e := by
 have HL := Lib.hid h
 have hmx : (l.length : Int) <= 9223372036854775807 := by have := h.len; unfold maxLen at this; omega
 obtain ⟨n, hn⟩ : ∃ n, l.length = n := ⟨_, rfl⟩
 have HN := Lib.hid hn
 rw [hn] at hmx ⊢
 clear h hn
 go_enter Tryz.func84, Tryz.ntmps84
 go_wp2_with fail
 go_loopw [8] (fun i wr => ∃ k : Nat, k <= n /\ i = (.int .i64 k) /\ Hid (Turned (fun _ => False) W wr /\ ∀ j x, j < k -> l[j]? = some x -> (x != 0) = false)) (fun i _ => n - (intOf i).toNat)
 case atStart => exact ⟨0, Nat.zero_le _, rfl, Lib.hid ⟨Turned.refl _ _, fun j u h => by omega⟩⟩
 case round =>
  obtain ⟨k, hk, rfl, HH⟩ := hrel
  by_cases hlt : k < n
  ·obtain ⟨x, hx⟩ := some_of_lt (show k < l.length by rw [HN.out]; exact hlt)
   obtain ⟨b, a, rfl, -, e0⟩ := (HL.out.turned HH.out.1).ints hx
   have HX := Lib.hid hx
   clear hx
   obtain ⟨t, ht⟩ : ∃ t, (x != 0) = t := ⟨_, rfl⟩
   have HC := Lib.hid (zero1_any x wr)
   rw [ht] at HC
   have HT := Lib.hid ht
   clear ht
   cases t
   ·go_wp2_with fail
    refine HC.out.mono ?_
    rintro e w1 ⟨rfl, rfl⟩
    go_wp2_with fail
    go_roundw
    case rel => exact ⟨k + 1, by omega, by go_num, Lib.hid ⟨HH.out.1, fun j y hj hy => by
     rcases Nat.lt_or_ge j k with h1 | h1
     ·exact HH.out.2 j y h1 hy
     ·obtain rfl : j = k := by omega
      rw [HX.out] at hy; cases hy; exact HT.out⟩⟩
    case measure => simp [intOf]; omega
   ·go_wp2_with fail
    refine HC.out.mono ?_
    rintro e w1 ⟨rfl, rfl⟩
    go_wp2_with fail
    go_ret
    exact Found.at_ HX.out HT.out HH.out.1
  ·obtain rfl : k = n := by omega
   go_wp2_with fail
   go_ret
   exact Found.none (fun j x hj hx => HH.out.2 j x (by rw [<- HN.out]; exact hj) hx) HH.out.1
theorem contI_any (l : List Int) (p : Option Addr) (c N : Nat) (W : World) (h : Lst N W 1 intCells l p c) : Calls Tryz.prog 52 #[.slice p l.length c, .func (.func 53) #[] #[]] W fun e w' => e = .returned (.bool (l.any fun n => n != 0)) /\ Turned (fun _ => False) W w' := by
 have HC := Lib.hid (indI_any l p c N W h)
 clear h
 go_enter Tryz.func52, Tryz.ntmps52
 go_wp2_with fail
 refine HC.out.mono ?_
 rintro e w1 ⟨⟨z, rfl, hz⟩, t1⟩
 have T1 := Lib.hid (And.intro hz t1)
 clear t1 hz
 go_wp2_with fail
 go_ret
 rw [<- T1.out.1]
 exact ⟨rfl, T1.out.2⟩
theorem zero_any (l : List Int) (p : Option Addr) (c N : Nat) (W : World) (h : Lst N W 1 intCells l p c) : Calls Tryz.prog 29 #[.slice p l.length c] W fun e w' => e = .returned (.bool (!(l.any fun n => n != 0))) /\ Turned (fun _ => False) W w' := by
 have HC := Lib.hid (contI_any l p c N W h)
 obtain ⟨t, ht⟩ : ∃ t, (l.any fun n => n != 0) = t := ⟨_, rfl⟩
 rw [ht] at HC ⊢
 clear h ht
 go_enter Tryz.func29, Tryz.ntmps29
 go_wp2_with fail
 refine HC.out.mono ?_
 rintro e w1 ⟨rfl, t1⟩
 have T1 := Lib.hid t1
 clear t1
 go_wp2_with fail
 go_ret
 exact ⟨rfl, T1.out⟩
theorem indexI_any (l : List Int) (y : Int) (p : Option Addr) (c N : Nat) (W : World) (h : Lst N W 1 intCells l p c) : Calls Tryz.prog 77 #[.slice p l.length c, .int .i64 y] W fun e w' => Found (fun n => y == n) l W w' e := by
 have HL := Lib.hid h
 have hmx : (l.length : Int) <= 9223372036854775807 := by have := h.len; unfold maxLen at this; omega
 obtain ⟨n, hn⟩ : ∃ n, l.length = n := ⟨_, rfl⟩
 have HN := Lib.hid hn
 rw [hn] at hmx ⊢
 clear h hn
 go_enter Tryz.func77, Tryz.ntmps77
 go_wp2_with fail
 go_loopw [8] (fun i wr => ∃ k : Nat, k <= n /\ i = (.int .i64 k) /\ Hid (Turned (fun _ => False) W wr /\ ∀ j x, j < k -> l[j]? = some x -> (y == x) = false)) (fun i _ => n - (intOf i).toNat)
 case atStart => exact ⟨0, Nat.zero_le _, rfl, Lib.hid ⟨Turned.refl _ _, fun j u h => by omega⟩⟩
 case round =>
  obtain ⟨k, hk, rfl, HH⟩ := hrel
  by_cases hlt : k < n
  ·obtain ⟨x, hx⟩ := some_of_lt (show k < l.length by rw [HN.out]; exact hlt)
   obtain ⟨b, a, rfl, -, e0⟩ := (HL.out.turned HH.out.1).ints hx
   have HX := Lib.hid hx
   clear hx
   cases ht : (y == x)
   ·have HT := Lib.hid ht
    go_wp2_with fail
    go_roundw
    case rel => exact ⟨k + 1, by omega, by go_num, Lib.hid ⟨HH.out.1, fun j z hj hz => by
     rcases Nat.lt_or_ge j k with h1 | h1
     ·exact HH.out.2 j z h1 hz
     ·obtain rfl : j = k := by omega
      rw [HX.out] at hz; cases hz; exact HT.out⟩⟩
    case measure => simp [intOf]; omega
   ·have HT := Lib.hid ht
    go_wp2_with fail
    go_ret
    exact Found.at_ HX.out HT.out HH.out.1
  ·obtain rfl : k = n := by omega
   go_wp2_with fail
   go_ret
   exact Found.none (fun j x hj hx => HH.out.2 j x (by rw [<- HN.out]; exact hj) hx) HH.out.1
theorem contains_any (l : List Int) (y : Int) (p : Option Addr) (c N : Nat) (W : World) (h : Lst N W 1 intCells l p c) : Calls Tryz.prog 50 #[.slice p l.length c, .int .i64 y] W fun e w' => e = .returned (.bool (l.any fun n => y == n)) /\ Turned (fun _ => False) W w' := by
 have HC := Lib.hid (indexI_any l y p c N W h)
 clear h
 go_enter Tryz.func50, Tryz.ntmps50
 go_wp2_with fail
 refine HC.out.mono ?_
 rintro e w1 ⟨⟨z, rfl, hz⟩, t1⟩
 have T1 := Lib.hid (And.intro hz t1)
 clear t1 hz
 go_wp2_with fail
 go_ret
 rw [<- T1.out.1]
 exact ⟨rfl, T1.out.2⟩
theorem equal_any (l m : List Int) (p q : Option Addr) (c d N M : Nat) (W : World) (h : Lst N W 1 intCells l p c) (g : Lst M W 1 intCells m q d) : Calls Tryz.prog 68 #[.slice p l.length c, .slice q m.length d] W fun e w' => e = .returned (.bool (decide (l = m))) /\ Turned (fun _ => False) W w' := by
 have HL := Lib.hid h
 have HM := Lib.hid g
 have hmx : (l.length : Int) <= 9223372036854775807 := by have := h.len; unfold maxLen at this; omega
 by_cases hlm : l.length = m.length
 ·have HLM := Lib.hid hlm
  rw [<- hlm]
  obtain ⟨n, hn⟩ : ∃ n, l.length = n := ⟨_, rfl⟩
  have HN := Lib.hid hn
  rw [hn] at hmx ⊢
  clear h g hn hlm
  go_enter Tryz.func68, Tryz.ntmps68
  go_wp2_with fail
  go_loopw [13] (fun i wr => ∃ k : Nat, k <= n /\ i = (.int .i64 k) /\ Hid (Turned (fun _ => False) W wr /\ ∀ j, j < k -> l[j]? = m[j]?)) (fun i _ => n - (intOf i).toNat)
  case atStart => exact ⟨0, Nat.zero_le _, rfl, Lib.hid ⟨Turned.refl _ _, fun j h => by omega⟩⟩
  case round =>
   obtain ⟨k, hk, rfl, HH⟩ := hrel
   by_cases hlt : k < n
   ·obtain ⟨x, hx⟩ := some_of_lt (show k < l.length by rw [HN.out]; exact hlt)
    obtain ⟨y, hy⟩ := some_of_lt (show k < m.length by rw [<- HLM.out, HN.out]; exact hlt)
    obtain ⟨b, a, rfl, -, e0⟩ := (HL.out.turned HH.out.1).ints hx
    obtain ⟨b', a', rfl, -, e1⟩ := (HM.out.turned HH.out.1).ints hy
    have HX := Lib.hid (And.intro hx hy)
    clear hx hy
    have hk0 : (0 : Int) <= k := by omega
    have hk1 : (k : Int) < n := by omega
    by_cases hxy : x = y
    ·subst hxy
     go_wp2_with fail
     go_quiet (fail)
     go_wp2_with fail
     go_roundw
     case rel => exact ⟨k + 1, by omega, by go_num, Lib.hid ⟨HH.out.1.trans (drewNT _ _ nq), fun j hj => by
      rcases Nat.lt_or_ge j k with h1 | h1
      ·exact HH.out.2 j h1
      ·obtain rfl : j = k := by omega
       rw [HX.out.1, HX.out.2]⟩⟩
     case measure => simp [intOf]; omega
    ·have hne : (x == y) = false := by simpa using hxy
     have HD : Hid (decide (l = m) = false) := Lib.hid (decide_eq_false fun h => by
      subst h
      rw [HX.out.1] at HX
      exact hxy (Option.some.inj HX.out.2))
     clear hxy
     go_wp2_with fail
     go_quiet (fail)
     go_wp2_with fail
     go_ret
     rw [HD.out]
     exact ⟨rfl, HH.out.1.trans (drewNT _ _ nq)⟩
   ·obtain rfl : k = n := by omega
    have HD : Hid (decide (l = m) = true) := Lib.hid (decide_eq_true (List.ext_getElem? fun j => by
     rcases Nat.lt_or_ge j k with h1 | h1
     ·exact HH.out.2 j h1
     ·rw [List.getElem?_eq_none (by rw [HN.out]; exact h1), List.getElem?_eq_none (by rw [<- HLM.out, HN.out]; exact h1)]))
    go_wp2_with fail
    go_ret
    rw [HD.out]
    exact ⟨rfl, HH.out.1⟩
 ·have HD : Hid (decide (l = m) = false) := Lib.hid (decide_eq_false fun h => hlm (by rw [h]))
  have hne : ((l.length : Int) == (m.length : Int)) = false := by
   rw [beq_eq_false_iff_ne]
   omega
  clear h g hlm
  go_enter Tryz.func68, Tryz.ntmps68
  go_wp2_with fail
  go_ret
  rw [HD.out]
  exact ⟨rfl, Turned.refl _ _⟩
abbrev anyCells (x : TypeId × Value) : List Value := [.iface x.1 x.2]
def numA (u : Rv) : TypeId × Value := (31, ratV u)
theorem Lst.anys {l : List (TypeId × Value)} {N c : Nat} {W : World} {p : Option Addr} (h : Lst N W 1 anyCells l p c) {i : Nat} {x : TypeId × Value} (hi : l[i]? = some x) : ∃ b a, p = some ⟨b, a, none⟩ /\ b < N /\ W.cell? ⟨b, a + i, none⟩ = some (.iface x.1 x.2) := by
 obtain ⟨b, a, h1, h2, h3⟩ := h.cel i x hi
 exact ⟨b, a, h1, h2, by have := h3 0 _ rfl; simpa using this⟩
theorem infoI : (Tryz.prog.info? 3).map (fun i => (i.zero, i.size, i.bytes)) = some (some (.int .i64 0), 1, 8) := by kernel_rfl
theorem infoAny : (Tryz.prog.info? 20).map (fun i => (i.zero, i.size, i.bytes)) = some (some .nilIface, 1, 16) := by kernel_rfl
theorem app_int (W : World) {ops : Array Oper} {rest : List Oper} {o : Oper} {a : Act} {Q : Exit -> Act -> World -> Prop} (hg : o.guard = none) (so xo : Operand) (hop : o.op = Op.call { callee := Callee.builtin Builtin.append, args := #[so, xo], argTypes := #[75, 75] })
  (base : Nat) (v : Value) (x : Int) (L : List Int) (hs : a.eval so = v) (hx : a.eval xo = .slice (some ⟨W.heap.size, 0, none⟩) 1 1) (hown : Grown W base 3 1 intCells v L) (hb : base <= W.heap.size) (hl : L.length <= 100000)
  (hK : ∀ p c w', Grown w' base 3 1 intCells (.slice p (L ++ [x]).length c) (L ++ [x]) -> Turned (fun g => base <= g) W w' -> wpList Tryz.prog ops Q rest (a.put o.dst (.slice p (L ++ [x]).length c)) w') :
  wpList Tryz.prog ops Q (o :: rest) a (W.alloc (.cells #[.int .i64 x] 3)) :=
 app_row intCells 3 75 1 8 _ infoI Tryz.underlying75 rfl (by decide) (fun _ => rfl) (fun x u hu => by simp at hu; subst hu; rfl) W hg so xo hop base v x L hs hx hown hb hl (by decide) hK
theorem wholes_snoc (L : List Rv) (u : Rv) : wholes (L ++ [u]) = match wholes L, wholeR u with
  | some ns, some n => some (ns ++ [n])
  | _, _ => none := by
 induction L with
 | nil => rw [List.nil_append, wholes, wholes]; cases wholeR u <;> rfl
 | cons v r ih =>
  rw [List.cons_append, wholes, wholes, ih]
  cases wholeR v <;> cases wholes r <;> cases wholeR u <;> rfl
theorem wholes_len : ∀ {L : List Rv} {ns : List Int}, wholes L = some ns -> ns.length = L.length
 | [], ns, h => by rw [wholes] at h; cases h; rfl
 | u :: r, ns, h => by
  rw [wholes] at h
  cases h1 : wholeR u with
  | none => rw [h1] at h; cases h
  | some n =>
   rw [h1] at h
   cases h2 : wholes r with
   | none => rw [h2] at h; cases h
   | some ms => rw [h2] at h; cases h; rw [List.length_cons, List.length_cons, wholes_len h2]
theorem wholes_none {L M : List Rv} (h : wholes L = none) : wholes (L ++ M) = none := by
 induction L with
 | nil => rw [wholes] at h; cases h
 | cons v r ih =>
  rw [wholes] at h
  rw [List.cons_append, wholes]
  cases h1 : wholeR v with
  | none => rfl
  | some n =>
   rw [h1] at h
   cases h2 : wholes r with
   | none => rw [ih h2]
   | some ms => rw [h2] at h; cases h
def IntsR (us : List Rv) (W w' : World) (e : Ending) : Prop := (match wholes us with
 | some ns => ∃ q d, e = .returned (.tuple #[.slice q ns.length d, .int .i64 0]) /\ Lst w'.heap.size w' 1 intCells ns q d
 | none => e = .returned (.tuple #[.slice none 0 0, .int .i64 3])) /\ Turned (fun _ => False) W w'
theorem integers_any (us : List Rv) (p : Option Addr) (c N : Nat) (W : World) (h : Lst N W 1 anyCells (us.map numA) p c) (hs : ∀ u ∈ us, SzR u 100000000) (hl : us.length <= 100000) : Calls Tryz.prog 102 #[.slice p us.length c] W fun e w' => IntsR us W w' e := by
 have HL := Lib.hid h
 have HS := Lib.hid hs
 obtain ⟨n, hn⟩ : ∃ n, us.length = n := ⟨_, rfl⟩
 have HN := Lib.hid hn
 rw [hn] at hl ⊢
 clear h hn hs
 go_enter Tryz.func102, Tryz.ntmps102
 go_wp2_with fail
 go_loopw [4, 11] (fun v i wr => ∃ (k : Nat) (L : List Int) (p' : Option Addr) (c' : Nat), k <= n /\ i = (.int .i64 k) /\ v = .slice p' L.length c' /\ Hid (L.length = k /\ wholes (us.take k) = some L /\ Grown wr W.heap.size 3 1 intCells (.slice p' L.length c') L /\ Turned (fun _ => False) W wr)) (fun _ i _ => n - (intOf i).toNat)
 case atStart => exact ⟨0, [], none, 0, Nat.zero_le _, rfl, rfl, Lib.hid ⟨rfl, rfl, Grown.nil _ _ _ _ _, Turned.refl _ _⟩⟩
 case round =>
  obtain ⟨k, L, p', c', hk, rfl, rfl, HH⟩ := hrel
  by_cases hlt : k < n
  ·obtain ⟨u, hx⟩ := some_of_lt (show k < us.length by rw [HN.out]; exact hlt)
   obtain ⟨b, a, rfl, -, e0⟩ := (HL.out.turned HH.out.2.2.2).anys (i := k) (x := numA u) (by rw [List.getElem?_map, hx]; rfl)
   have hw : wholes (us.take (k + 1)) = match wholes (us.take k), wholeR u with
     | some ns, some n => some (ns ++ [n])
     | _, _ => none := by
    rw [List.take_add_one, hx]
    exact wholes_snoc _ _
   have HT := Lib.hid (List.take_append_drop (k + 1) us)
   rw [HH.out.2.1] at hw
   simp only [numA] at e0
   have HC := Lib.hid (integer_any u wr (HS.out u (List.mem_of_getElem? hx)))
   unfold wholeI wholeE at HC
   have hk0 : (0 : Int) <= k := by omega
   have hk1 : (k : Int) < n := by omega
   clear hx
   cases hu : wholeR u with
   | none =>
    rw [hu] at hw HC
    have HR : Hid (wholes us = none) := Lib.hid (by rw [<- HT.out]; exact wholes_none hw)
    simp only [Option.getD_none, Option.isSome_none] at HC
    clear hu hw
    go_wp2_with fail
    refine HC.out.mono ?_
    rintro e w1 ⟨rfl, t1⟩
    have T1 := Lib.hid (HH.out.2.2.2.trans t1)
    clear t1
    go_wp2_with fail
    go_ret2
    unfold IntsR
    rw [HR.out]
    exact ⟨rfl, T1.out⟩
   | some z =>
    rw [hu] at hw HC
    simp only [Option.getD_some, Option.isSome_some] at HC hw
    have HW := Lib.hid hw
    have HLK := Lib.hid HH.out.1
    have hlen : L.length <= 100000 := by have := HH.out.1; omega
    clear hu hw
    go_wp2_with fail
    refine HC.out.mono ?_
    rintro e w1 ⟨rfl, t1⟩
    have T1 := Lib.hid (HH.out.2.2.2.trans t1)
    have HG := Lib.hid (HH.out.2.2.1.turned t1 fun _ h => h.elim)
    have HZ := Lib.hid T1.out.size
    clear t1
    go_wp2_with (at_builtin; (refine app_int w1 rfl _ _ rfl W.heap.size (.slice p' L.length c') z L rfl rfl HG.out HZ.out hlen ?_); intro p2 c2 w4 ho4 ht4; have HB := Lib.hid (And.intro ho4 ht4); clear ho4 ht4)
    go_roundw
    case rel => exact ⟨k + 1, L ++ [z], p2, c2, by omega, by go_num, by rw [List.length_append, List.length_singleton], Lib.hid ⟨by rw [List.length_append, List.length_singleton, HLK.out], HW.out, HB.out.1, T1.out.fresh HB.out.2 fun _ => id⟩⟩
    case measure => simp [intOf]; omega
  ·obtain rfl : k = n := by omega
   have HR : Hid (wholes us = some L) := Lib.hid (by have := HH.out.2.1; rwa [<- HN.out, List.take_length] at this)
   go_wp2_with fail
   go_ret2
   unfold IntsR
   rw [HR.out]
   exact ⟨⟨p', c', rfl, HH.out.2.2.1.at_ (fun _ => rfl) (Nat.le_refl _)⟩, HH.out.2.2.2⟩
end Go.Proofs.YthejfklieedjmaaGreatDoor
