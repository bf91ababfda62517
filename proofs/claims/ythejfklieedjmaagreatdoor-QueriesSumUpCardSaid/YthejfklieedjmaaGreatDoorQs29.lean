/- Part 29 of the proof of lawSum.card: EvRun, EvMemo, EvOra, EvIdle, EvExt. Conditions: those of each theorem. -/
import Derived.Below
import Derived.WalkKit
import Derived.Defers
import Derived.Recover
import Derived.Laws.Pointers
import Derived.Lib.LaidTab
import Derived.Test.YthejfklieedjmaaGreatDoorQs01
import Derived.Test.YthejfklieedjmaaGreatDoorQs07
import Derived.Test.YthejfklieedjmaaGreatDoorQs08
import Derived.Test.YthejfklieedjmaaGreatDoorQs13
import Derived.Test.YthejfklieedjmaaGreatDoorQs28
set_option maxRecDepth 20000
set_option maxHeartbeats 2000000
namespace Go.Proofs.YthejfklieedjmaaGreatDoor
open Go.RowKit
open Go Go.Proofs
abbrev Tabs := List (Nat × List Value)
noncomputable def aoT (r : List Value) : AO := .tab (lenL r) (putL r 0 .nil)
noncomputable def putG : Tabs -> HH := List.rec (motive := fun _ => HH) .nil (fun p _ ih => setP (aoT p.2) (path p.1) ih)
structure TabOk (gs : Tabs) : Prop where
 low : ∀ p ∈ gs, p.1 < 400
 flat : ∀ p ∈ gs, flatL p.2 = true
 few : ∀ p ∈ gs, p.2.length <= LIM
theorem putG_mem {gs : Tabs} (h : TabOk gs) {n : Nat} {o : AO} (hn : n <= LIM + 1) (ho : hd (putG gs) n = some o) : ∃ p ∈ gs, p.1 = n /\ o = aoT p.2 := by
 induction gs with
 | nil => cases ho
 | cons p gs ih =>
  change hd (setP (aoT p.2) (path p.1) (putG gs)) n = _ at ho
  have := h.low p (List.mem_cons_self ..)
  rw [hd_set _ _ _ (by unfold LIM; omega) hn] at ho
  split at ho
  ·rename_i e
   injection ho with ho
   exact ⟨p, List.mem_cons_self .., e.symm, ho.symm⟩
  ·obtain ⟨q, h1, h2⟩ := ih ⟨fun q hq => h.low q (List.mem_cons_of_mem _ hq), fun q hq => h.flat q (List.mem_cons_of_mem _ hq), fun q hq => h.few q (List.mem_cons_of_mem _ hq)⟩ ho
   exact ⟨q, List.mem_cons_of_mem _ h1, h2⟩
theorem putG_free {gs : Tabs} (h : TabOk gs) : ∀ n, 400 <= n -> n <= LIM + 1 -> hd (putG gs) n = none := by
 intro n h1 h2
 cases ho : hd (putG gs) n with
 | none => rfl
 | some o =>
  obtain ⟨p, hp, e, -⟩ := putG_mem h h2 ho
  have := h.low p hp
  omega
structure Root (gs : Tabs) (E : En) (w : World) : Prop where
 none : ∀ n, 400 <= n -> E n = none
 glob : ∀ g, g < 400 -> ∃ z, E g = some ⟨g, 0, z⟩
 ag : Ag E (hd (putG gs)) (fun _ => True) w
theorem Root.low {gs : Tabs} {E : En} {w : World} (r : Root gs E w) {n : Nat} {l : Lo} (h : E n = some l) : n < 400 := by
 apply Nat.lt_of_not_le
 intro hn
 rw [r.none n hn] at h; cases h
theorem Root.pre {gs : Tabs} (hg : TabOk gs) {E : En} {w : World} (r : Root gs E w) (c A : Nat) : Pre E (putG gs) 400 c A (fun _ => True) w where
 new n h _ := r.none n h
 lim n l h := by have := r.low h; unfold LIM; omega
 glob := r.glob
 low := Nat.le_refl _
 top := by unfold LIM; omega
 free n h1 h2 := putG_free hg n h1 h2
 acc _ _ := trivial
 fresh _ _ _ := trivial
 ag := r.ag
def TabsAt (gs : Tabs) (w : World) : Prop := ∀ p ∈ gs, ∃ ty fr, w.heap[p.1]? = some (.cells ⟨p.2⟩ ty fr)
noncomputable def E0 (w : World) : En := fun n => if n < 400 then some ⟨n, 0, match w.heap[n]? with | some (.cells cs _ _) => cs.size | _ => 0⟩ else none
theorem lies_tab {E : En} {w : World} {l : Lo} {r : List Value} {ty : TypeId} {fr : Nat × Nat} (hf : flatL r = true) (hl : r.length <= LIM) (h : w.heap[l.b]? = some (.cells ⟨r⟩ ty fr)) (hs : l.sh = 0) (hz : l.z = r.length) : Lies E w l (aoT r) := by
 unfold aoT
 rw [lenL_eq]
 refine ⟨_, _, _, h, by rw [hz]; rfl, by omega, hl, fun i v hi hv => ?_⟩
 rw [putL_get r 0 .nil (by omega) i (by omega), if_pos (by omega), Nat.sub_zero] at hv
 rw [hs, Nat.zero_add]
 obtain ⟨x, hx, hr⟩ := (flat_vrs E r hf).get hv
 exact ⟨x, by rw [List.getElem?_toArray]; exact hx, hr⟩
theorem root_of {gs : Tabs} (hg : TabOk gs) {w : World} (h : TabsAt gs w) : Root gs (E0 w) w where
 none n hn := by unfold E0; rw [if_neg (by omega)]
 glob g hg := by unfold E0; rw [if_pos hg]; exact ⟨_, rfl⟩
 ag := by
  constructor
  ·intro n o hn _ ho _
   obtain ⟨p, hp, e, rfl⟩ := putG_mem hg hn ho
   subst e
   obtain ⟨ty, fr, hpl⟩ := h p hp
   refine ⟨_, by unfold E0; rw [if_pos (hg.low p hp)], lies_tab (hg.flat p hp) (hg.few p hp) hpl rfl ?_⟩
   rw [hpl]
   rfl
  ·intro n m o o' l l' _ _ _ _ _ _ _ _ h1 h2 h3
   unfold E0 at h1 h2
   split at h1
   ·split at h2
    ·injection h1 with h1; injection h2 with h2
     subst h1 h2
     exact h3
    ·cases h2
   ·cases h1
noncomputable def me0 (gs : Tabs) : Me := ⟨putG gs, 400, 0, 0⟩
noncomputable def lowM (m : Nat) : Nat := Nat.sub (Nat.pow 2 m) 1
noncomputable def pureB (W : Nat) : Bool := Nat.beq (Nat.land W (lowM 400)) 0
theorem and_low {W m n : Nat} (h : Nat.land W (lowM m) = 0) (hn : n < m) : W.testBit n = false := by
 have h2 : (W &&& (2 ^ m - 1)).testBit n = false := by
  rw [show W &&& (2 ^ m - 1) = 0 from h]; simp
 rw [Nat.testBit_and, Nat.testBit_two_pow_sub_one] at h2
 simpa [hn] using h2
theorem clean_low {W n : Nat} (h : pureB W = true) (hn : n < 400) : W.testBit n = false := and_low (m := 400) (Nat.eq_of_beq_eq_true h) hn
theorem trn_below {c' : Nat} {H' : HH} {W : Nat} {M : Nat -> Prop} {w w' : World} {E E' : En} (hc : pureB W = true) (t : Trn 400 c' H' W M E w E' w') : Below w.heap.size w w' where
 os := t.os
 tape := t.tape
 output := t.output
 size := t.size
 block k hk := (t.keep k hk fun n l h1 h2 _ _ => by rw [clean_low hc h1] at h2; cases h2).1
theorem trn_new {c' : Nat} {H' : HH} {W : Nat} {M : Nat -> Prop} {w w' : World} {E E' : En} (hc : pureB W = true) (t : Trn 400 c' H' W M E w E' w') : ∀ n l, 400 <= n -> n < c' -> E' n = some l -> w.heap.size <= l.b := by
 intro n l h1 h2 h3
 apply Nat.le_of_not_lt
 intro hb
 exact (t.keep l.b hb fun n l h1 h2 _ _ => by rw [clean_low hc h1] at h2; cases h2).2 n l h1 h2 h3 rfl
theorem run_any {ext : FuncId -> Option ExtF} {idle : FuncId -> Bool} (hX : ∀ f g, ext f = some g -> SoundX f g) (hI : IdleOk idle) {gs : Tabs} (hg : TabOk gs) {N : Nat} {f : FuncId} {args : List Value} {v : Value} {m : Me} (h : callN ext idle N f args (me0 gs) (fun v m => .ok v m) = .ok v m) (hc : pureB m.W = true) (ha : flatL args = true) {E : En} {w : World} (hr : Root gs E w) :
  Calls Tryz.prog f ⟨args⟩ w fun e w' => m.c <= LIM + 1 /\ ∃ x E', e = .returned x /\ VR E' v x /\ Trn 400 m.c m.H m.W (fun _ => True) E w E' w' /\ Below w.heap.size w w' /\ ∀ n l, 400 <= n -> n < m.c -> E' n = some l -> w.heap.size <= l.b := by
 obtain ⟨v', H', c', A, W, h1, s1, g1⟩ := callN_ok hX hI N f args (me0 gs) _ v m h (by unfold me0 LIM; simp)
 change R.ok v' _ = R.ok v m at h1
 injection h1 with h1 h2
 subst h1 h2
 refine (g1 E (fun _ => True) w args (hr.pre hg _ _) (flat_vrs E args ha)).mono ?_
 rintro e w' ⟨x, E', he, hx, ht⟩
 have ht' : Trn 400 c' H' (Nat.lor (me0 gs).W W) (fun _ => True) E w E' w' := by simpa [me0] using ht
 exact ⟨s1.lim (by unfold me0 LIM; simp), x, E', he, hx, ht', trn_below hc ht', trn_new hc ht'⟩
noncomputable def told : R -> Option Value
 | .ok v m => bif pureB m.W && flat v then some v else none
 | .no _ => none
theorem run_told {ext : FuncId -> Option ExtF} {idle : FuncId -> Bool} (hX : ∀ f g, ext f = some g -> SoundX f g) (hI : IdleOk idle) {gs : Tabs} (hg : TabOk gs) {N : Nat} {f : FuncId} {args : List Value} {v : Value} (h : told (callN ext idle N f args (me0 gs) (fun v m => .ok v m)) = some v) (ha : flatL args = true) {w : World} (hw : TabsAt gs w) :
  Calls Tryz.prog f ⟨args⟩ w fun e w' => e = .returned v /\ Below w.heap.size w w' := by
 generalize hr : callN ext idle N f args (me0 gs) (fun v m => .ok v m) = r at h
 cases r with
 | no c => cases h
 | ok v' m =>
  change (bif pureB m.W && flat v' then some v' else none) = _ at h
  cases hv : (pureB m.W && flat v') with
  | false => rw [hv] at h; cases h
  | true =>
   rw [hv, cond_true] at h
   injection h with h
   subst h
   rw [Bool.and_eq_true] at hv
   refine (run_any hX hI hg hr hv.1 ha (root_of hg hw)).mono ?_
   rintro e w' ⟨-, x, E', he, hx, -, hb, -⟩
   rw [flat_eq hx hv.2] at he
   exact ⟨he, hb⟩
noncomputable def pureX (g : List Value -> Option Value) : ExtF := fun args m k => Option.rec (motive := fun _ => R) (.no [300]) (fun v => k v m) (g args)
theorem trn_bel {E : En} {H : HH} {c c' A : Nat} {M : Nat -> Prop} {w w' : World} (p : Pre E H c c' A M w) (hb : Below w.heap.size w w') : Trn c c H 0 M E w E w' := by
 refine ⟨fun _ _ h => h, fun _ h _ => h, ?_, hb.size, fun b hb' _ => ⟨hb.block b hb', fun n l h1 h2 => absurd h2 (by omega)⟩, hb.os, hb.tape, hb.output⟩
 exact ⟨fun n o hn hm ho hg => by
  obtain ⟨l, he, hl⟩ := p.ag.lies n o hn hm ho hg
  exact ⟨l, he, hl.move (fun _ _ h => h) (hb.block _ (hl.lt hg))⟩, p.ag.inj⟩
theorem pure_ok {f : FuncId} {g : List Value -> Option Value} (hp : ∀ args v, g args = some v -> flatL args = true /\ flat v = true) (hc : ∀ args v, g args = some v -> ∀ w, Calls Tryz.prog f ⟨args⟩ w fun e w' => e = .returned v /\ Below w.heap.size w w') : SoundX f (pureX g) := by
 intro args m k v m0 h hmc
 unfold pureX at h
 cases hg : g args with
 | none => rw [hg] at h; cases h
 | some u =>
  rw [hg] at h
  obtain ⟨h1, h2⟩ := hp _ _ hg
  refine ⟨u, m.H, m.c, 0, 0, by rw [me_lor]; exact h, Stc.refl _ _, fun E M w args' p ha => ?_⟩
  rw [flat_eqs ha h1]
  refine (hc _ _ hg w).mono ?_
  rintro e w' ⟨he, hb⟩
  exact ⟨u, E, he, flat_vr E u h2, trn_bel p hb⟩
noncomputable section
mutual
def renV (f : Nat -> Option Nat) : Value -> Option Value
 | .pointer (some ⟨n, o, none⟩) => (f n).map fun k => .pointer (some ⟨k, o, none⟩)
 | .slice (some ⟨n, o, none⟩) a b => (f n).map fun k => .slice (some ⟨k, o, none⟩) a b
 | .iface t v => (renV f v).map (.iface t)
 | .agg ⟨l⟩ => (renL f l).map fun l => .agg ⟨l⟩
 | .tuple ⟨l⟩ => (renL f l).map fun l => .tuple ⟨l⟩
 | v => bif flat v then some v else none
def renL (f : Nat -> Option Nat) : List Value -> Option (List Value)
 | [] => some []
 | v :: l => (renV f v).bind fun x => (renL f l).map fun l => x :: l
end
abbrev RowE := List Value × TypeId
def findN (n : Nat) : List Nat -> Nat -> Option Nat := List.rec (motive := fun _ => Nat -> Option Nat) (fun _ => none) (fun x _ ih i => bif Nat.beq x n then some i else ih (i + 1))
def rho (ren : List Nat) (n : Nat) : Option Nat := findN n ren 400
def shN (c n : Nat) : Option Nat := bif Nat.blt n 400 then none else some (n - 400 + c)
def cellsT (t : Tr Value) : Nat -> Nat -> Option (List Value) := Nat.rec (motive := fun _ => Nat -> Option (List Value)) (fun _ => some []) (fun _ ih i => (getP t (path i)).bind fun v => (ih (i + 1)).map fun l => v :: l)
def rowO (ren : List Nat) (o : AO) : Option RowE := AO.rec (motive := fun _ => Option RowE) (fun z t ty => (cellsT t z 0).bind fun l => (renL (rho ren) l).map fun l => (l, ty)) (fun _ => none) none (fun _ _ => none) o
def rowsO (H : HH) (c : Nat) (all : List Nat) : List Nat -> Option (List RowE) := List.rec (motive := fun _ => Option (List RowE)) (some []) (fun n _ ih => bif Nat.ble 400 n && Nat.blt n c then (getP H (path n)).bind fun o => (rowO all o).bind fun r => ih.map fun l => r :: l else none)
def dupB : List Nat -> Bool := List.rec (motive := fun _ => Bool) false (fun x l ih => l.any (Nat.beq x) || ih)
def memoR (ren : List Nat) : R -> Option (Value × List RowE)
 | .ok v m => bif !pureB m.W || dupB ren then none else (renV (rho ren) v).bind fun v => (rowsO m.H m.c ren ren).map fun l => (v, l)
 | .no _ => none
def sameE : Value -> Value -> Bool
 | .int k a, .int j b => decide (k = j) && eqI a b
 | .string ⟨⟨a⟩⟩, .string ⟨⟨b⟩⟩ => bytesEq a b
 | .bool a, .bool b => bif a then b else !b
 | _, _ => false
def sameL : List Value -> List Value -> Bool := List.rec (motive := fun _ => List Value -> Bool) (fun l => List.rec (motive := fun _ => Bool) true (fun _ _ _ => false) l) (fun x _ ih l => List.rec (motive := fun _ => Bool) false (fun y r _ => bif sameE x y then ih r else false) l)
def layR (c : Nat) (k : Me -> R) : List RowE -> Me -> R := List.rec (motive := fun _ => Me -> R) k (fun r _ ih m => Option.rec (motive := fun _ => R) (.no [311]) (fun l => newL l r.2 m fun _ m => ih m) (renL (shN c) r.1))
def sameT (t : Tr Value) : Tr Value -> Bool := Tr.rec (motive := fun _ => Tr Value -> Bool) (fun u => Tr.rec (motive := fun _ => Bool) true (fun _ _ _ _ _ => false) u)
 (fun v _ _ ihl ihr u => Tr.rec (motive := fun _ => Bool) false (fun x l r _ _ => bif Option.rec (motive := fun _ => Bool) (Option.rec (motive := fun _ => Bool) true (fun _ => false) x) (fun a => Option.rec (motive := fun _ => Bool) false (fun b => sameE a b) x) v then bif ihl l then ihr r else false else false) u) t
def sameO (o : AO) (r : List Value) : Bool := AO.rec (motive := fun _ => Bool) (fun _ _ _ => false) (fun _ => false) false (fun z t => Nat.beq z (lenL r) && sameT t (putL r 0 .nil)) o
def chkG (gs : Tabs) (k : Me -> R) : Me -> R := List.rec (motive := fun _ => Me -> R) k (fun p _ ih m => lookE p.1 m fun o m => bif sameO o p.2 then ih m else .no [320]) gs
def memoX (gs : Tabs) (xs : List Value) (v0 : Value) (L : List RowE) : ExtF := fun args m k => bif sameL xs args then chkG gs (fun m => layR m.c (fun m' => Option.rec (motive := fun _ => R) (.no [312]) (fun v => k v m') (renV (shN m.c) v0)) L m) m else .no [313]
end
mutual
theorem ren_vr {E E' : En} {f : Nat -> Option Nat} (hf : ∀ n k l, f n = some k -> E n = some l -> E' k = some l) : ∀ {v x : Value}, VR E v x -> ∀ {v'}, renV f v = some v' -> VR E' v' x
 | _, _, .bool b, _, h => by injection h with h; subst h; exact .bool b
 | _, _, .int k n, _, h => by injection h with h; subst h; exact .int k n
 | _, _, .str s, _, h => by injection h with h; subst h; exact .str s
 | _, _, .ptr0, _, h => by injection h with h; subst h; exact .ptr0
 | _, _, .ptr (n := n) o hn, _, h => by
  unfold renV at h
  cases hk : f n with
  | none => rw [hk] at h; cases h
  | some k => rw [hk] at h; injection h with h; subst h; exact .ptr o (hf _ _ _ hk hn)
 | _, _, .sl0 n c, _, h => by injection h with h; subst h; exact .sl0 n c
 | _, _, .sl (n := n) o a c hn hc, _, h => by
  unfold renV at h
  cases hk : f n with
  | none => rw [hk] at h; cases h
  | some k => rw [hk] at h; injection h with h; subst h; exact .sl o a c (hf _ _ _ hk hn) hc
 | _, _, .slo (n := n) o a c s hn h1 h2, _, h => by
  unfold renV at h
  cases hk : f n with
  | none => rw [hk] at h; cases h
  | some k => rw [hk] at h; injection h with h; subst h; exact .slo o a c s (hf _ _ _ hk hn) h1 h2
 | _, _, .map0, _, h => by injection h with h; subst h; exact .map0
 | _, _, .map hn, _, h => by simp [renV, flat] at h
 | _, _, .fn0, _, h => by injection h with h; subst h; exact .fn0
 | _, _, .fn g (a := a) (b := b) ha hb, _, h => by
  unfold renV at h
  cases hg : flat (.func (.func g) ⟨a⟩ ⟨b⟩) with
  | false => rw [hg] at h; cases h
  | true =>
   rw [hg, cond_true] at h
   injection h with h
   subst h
   rw [flat_eq (.fn g ha hb) hg]
   exact flat_vr _ _ hg
 | _, _, .if0, _, h => by injection h with h; subst h; exact .if0
 | _, _, .ifc t (v := v) hv, _, h => by
  unfold renV at h
  cases hk : renV f v with
  | none => rw [hk] at h; cases h
  | some k => rw [hk] at h; injection h with h; subst h; exact .ifc t (ren_vr hf hv hk)
 | _, _, .agg (l := l) hl, _, h => by
  unfold renV at h
  cases hk : renL f l with
  | none => rw [hk] at h; cases h
  | some k => rw [hk] at h; injection h with h; subst h; exact .agg (ren_vrs hf hl hk)
 | _, _, .tup (l := l) hl, _, h => by
  unfold renV at h
  cases hk : renL f l with
  | none => rw [hk] at h; cases h
  | some k => rw [hk] at h; injection h with h; subst h; exact .tup (ren_vrs hf hl hk)
theorem ren_vrs {E E' : En} {f : Nat -> Option Nat} (hf : ∀ n k l, f n = some k -> E n = some l -> E' k = some l) : ∀ {l x : List Value}, VRs E l x -> ∀ {l'}, renL f l = some l' -> VRs E' l' x
 | _, _, .nil, _, h => by injection h with h; subst h; exact .nil
 | _, _, .cons (v := v) (l := l) hv t, _, h => by
  unfold renL at h
  cases hk : renV f v with
  | none => rw [hk] at h; cases h
  | some k =>
   cases hq : renL f l with
   | none => rw [hk, hq] at h; cases h
   | some q =>
    rw [hk, hq] at h
    injection h with h
    subst h
    exact .cons (ren_vr hf hv hk) (ren_vrs hf t hq)
end
theorem renL_get {f : Nat -> Option Nat} : ∀ {l l' : List Value}, renL f l = some l' -> l'.length = l.length /\ ∀ (i : Nat) (v : Value), l[i]? = some v -> ∃ v', l'[i]? = some v' /\ renV f v = some v' := by
 intro l
 induction l with
 | nil => intro l' h; injection h with h; subst h; exact ⟨rfl, fun i v h => by simp at h⟩
 | cons v l ih =>
  intro l' h
  unfold renL at h
  cases hk : renV f v with
  | none => rw [hk] at h; cases h
  | some k =>
   cases hq : renL f l with
   | none => rw [hk, hq] at h; cases h
   | some q =>
    rw [hk, hq] at h
    injection h with h
    subst h
    obtain ⟨h1, h2⟩ := ih hq
    refine ⟨by simp [h1], fun i u hu => ?_⟩
    cases i with
    | zero => simp at hu; subst hu; exact ⟨k, rfl, hk⟩
    | succ i => simpa using h2 i u (by simpa using hu)
theorem cellsT_get {t : Tr Value} : ∀ {n i : Nat} {l : List Value}, cellsT t n i = some l -> l.length = n /\ ∀ j, j < n -> getP t (path (i + j)) = l[j]? := by
 intro n
 induction n with
 | zero => intro i l h; injection h with h; subst h; exact ⟨rfl, fun j h => by omega⟩
 | succ n ih =>
  intro i l h
  change ((getP t (path i)).bind fun v => (cellsT t n (i + 1)).map fun l => v :: l) = _ at h
  cases hg : getP t (path i) with
  | none => rw [hg] at h; cases h
  | some v =>
   cases hq : cellsT t n (i + 1) with
   | none => rw [hg, hq] at h; cases h
   | some q =>
    rw [hg, hq] at h
    injection h with h
    subst h
    obtain ⟨h1, h2⟩ := ih hq
    refine ⟨by simp [h1], fun j hj => ?_⟩
    cases j with
    | zero => simpa using hg
    | succ j =>
     have := h2 j (by omega)
     rw [show i + (j + 1) = i + 1 + j by omega, this]
     simp
theorem findN_get {n : Nat} : ∀ {l : List Nat} {i k : Nat}, findN n l i = some k -> i <= k /\ l[k - i]? = some n := by
 intro l
 induction l with
 | nil => intro i k h; cases h
 | cons x l ih =>
  intro i k h
  change (bif Nat.beq x n then some i else findN n l (i + 1)) = _ at h
  cases hx : Nat.beq x n with
  | true =>
   rw [hx] at h
   injection h with h
   subst h
   have := Nat.eq_of_beq_eq_true hx
   exact ⟨Nat.le_refl _, by simp [this]⟩
  | false =>
   rw [hx] at h
   obtain ⟨h1, h2⟩ := ih h
   refine ⟨by omega, ?_⟩
   rw [show k - i = (k - (i + 1)) + 1 by omega]
   simpa using h2
theorem rowsO_get {H : HH} {c : Nat} {all : List Nat} : ∀ {ren : List Nat} {L : List RowE}, rowsO H c all ren = some L -> L.length = ren.length /\ ∀ (i n : Nat), ren[i]? = some n -> 400 <= n /\ n < c /\ ∃ (z : Nat) (t : Tr Value) (ty : TypeId) (l l' : List Value), hd H n = some (.cells z t ty) /\ cellsT t z 0 = some l /\ renL (rho all) l = some l' /\ L[i]? = some (l', ty) := by
 intro ren
 induction ren with
 | nil => intro L h; injection h with h; subst h; exact ⟨rfl, fun i n h => by simp at h⟩
 | cons x ren ih =>
  intro L h
  change (bif Nat.ble 400 x && Nat.blt x c then (getP H (path x)).bind fun o => (rowO all o).bind fun r => (rowsO H c all ren).map fun l => r :: l else none) = _ at h
  cases hb : (Nat.ble 400 x && Nat.blt x c) with
  | false => rw [hb] at h; cases h
  | true =>
   rw [hb, cond_true] at h
   rw [Bool.and_eq_true, Nat.blt_eq] at hb
   have hb1 := Nat.le_of_ble_eq_true hb.1
   cases hg : getP H (path x) with
   | none => rw [hg] at h; cases h
   | some o =>
    rw [hg] at h
    change ((rowO all o).bind fun r => (rowsO H c all ren).map fun l => r :: l) = _ at h
    cases hr : rowO all o with
    | none => rw [hr] at h; cases h
    | some r =>
     rw [hr] at h
     change ((rowsO H c all ren).map fun l => r :: l) = _ at h
     cases hq : rowsO H c all ren with
     | none => rw [hq] at h; cases h
     | some q =>
      rw [hq] at h
      injection h with h
      subst h
      obtain ⟨h1, h2⟩ := ih hq
      refine ⟨by simp [h1], fun i n hn => ?_⟩
      cases i with
      | succ i => simpa using h2 i n (by simpa using hn)
      | zero =>
       simp at hn
       subst hn
       cases o with
       | map es => cases hr
       | gone => cases hr
       | tab z t => cases hr
       | cells z t ty =>
        change ((cellsT t z 0).bind fun l => (renL (rho all) l).map fun l => (l, ty)) = _ at hr
        cases hc : cellsT t z 0 with
        | none => rw [hc] at hr; cases hr
        | some l =>
         rw [hc] at hr
         change ((renL (rho all) l).map fun l => (l, ty)) = _ at hr
         cases hl : renL (rho all) l with
         | none => rw [hl] at hr; cases hr
         | some l' =>
          rw [hl] at hr
          injection hr with hr
          exact ⟨hb1, hb.2, z, t, ty, l, l', hg, hc, hl, by simp [hr]⟩
theorem dup_ne : ∀ {l : List Nat}, dupB l = false -> ∀ {i j n : Nat}, l[i]? = some n -> l[j]? = some n -> i = j := by
 intro l
 induction l with
 | nil => intro _ i j n h; simp at h
 | cons x l ih =>
  intro h i j n h1 h2
  change (l.any (Nat.beq x) || dupB l) = false at h
  rw [Bool.or_eq_false_iff] at h
  have hx : ∀ k m : Nat, l[k]? = some m -> m ≠ x := by
   rintro k m hk rfl
   have := List.any_eq_false.1 h.1 m (List.mem_of_getElem? hk)
   simp at this
  cases i with
  | zero =>
   cases j with
   | zero => rfl
   | succ j => simp at h1 h2; exact absurd h1.symm (hx j n h2)
  | succ i =>
   cases j with
   | zero => simp at h1 h2; exact absurd h2.symm (hx i n h1)
   | succ j => simp at h1 h2; rw [ih h.2 h1 h2]
theorem sameA_eq : ∀ {a b : Value}, sameE a b = true -> a = b /\ flat a = true := by
 intro a b h
 unfold sameE at h
 split at h
 ·rw [Bool.and_eq_true, eqI_eq, decide_eq_true_eq, decide_eq_true_eq] at h
  exact ⟨by rw [h.1, h.2], rfl⟩
 ·exact ⟨by rw [bytesEq_eq, beq_iff_eq] at h; rw [h], rfl⟩
 ·rename_i x y
  cases x <;> cases y <;> first | exact ⟨rfl, rfl⟩ | cases h
 ·cases h
theorem sameT_eq : ∀ {t u : Tr Value}, sameT t u = true -> t = u := by
 intro t
 induction t with
 | nil => intro u h; cases u with
  | nil => rfl
  | node v l r => cases h
 | node v l r ihl ihr =>
  intro u h
  cases u with
  | nil => cases h
  | node x l' r' =>
   change (bif Option.rec (motive := fun _ => Bool) (Option.rec (motive := fun _ => Bool) true (fun _ => false) x) (fun a => Option.rec (motive := fun _ => Bool) false (fun b => sameE a b) x) v then bif sameT l l' then sameT r r' else false else false) = true at h
   have hv : v = x := by
    cases v <;> cases x
    ·rfl
    ·cases h
    ·cases h
    ·rename_i a b
     change (bif sameE a b then bif sameT l l' then sameT r r' else false else false) = true at h
     cases hab : sameE a b with
     | false => rw [hab] at h; cases h
     | true => rw [(sameA_eq hab).1]
   have h2 : (bif sameT l l' then sameT r r' else false) = true := by
    revert h
    cases (Option.rec (motive := fun _ => Bool) (Option.rec (motive := fun _ => Bool) true (fun _ => false) x) (fun a => Option.rec (motive := fun _ => Bool) false (fun b => sameE a b) x) v : Bool) with
    | false => intro h; cases h
    | true => exact id
   cases hl : sameT l l' with
   | false => rw [hl] at h2; cases h2
   | true =>
    rw [hl, cond_true] at h2
    rw [hv, ihl hl, ihr h2]
theorem sameO_eq {o : AO} {r : List Value} (h : sameO o r = true) : o = aoT r := by
 cases o with
 | map es => cases h
 | gone => cases h
 | cells z t ty => cases h
 | tab z t =>
  change (Nat.beq z (lenL r) && sameT t (putL r 0 .nil)) = true at h
  rw [Bool.and_eq_true] at h
  unfold aoT
  rw [Nat.eq_of_beq_eq_true h.1, sameT_eq h.2]
theorem chkG_ok {gs : Tabs} {k : Me -> R} : ∀ {m : Me} {v : Value} {m0 : Me}, chkG gs k m = .ok v m0 -> ∃ A, k ⟨m.H, m.c, Nat.lor m.A A, m.W⟩ = .ok v m0 /\ ∀ p ∈ gs, A.testBit p.1 = true /\ hd m.H p.1 = some (aoT p.2) := by
 induction gs with
 | nil => intro m v m0 h; exact ⟨0, by rw [lor0]; exact h, fun p hp => by cases hp⟩
 | cons q gs ih =>
  intro m v m0 h
  change lookE q.1 m (fun o m => bif sameO o q.2 then chkG gs k m else .no [320]) = _ at h
  obtain ⟨ob, h1, h⟩ := look_ok h
  obtain ⟨h2, h⟩ := bif_ok h
  obtain ⟨A, h3, h4⟩ := ih h
  refine ⟨Nat.lor (bit q.1) A, by rw [<- lor_assoc]; exact h3, fun p hp => ?_⟩
  rcases List.mem_cons.1 hp with rfl | hp
  ·exact ⟨by rw [or_bit, bit_test]; simp, by rw [<- sameO_eq h2]; exact h1⟩
  ·obtain ⟨a, b⟩ := h4 p hp
   exact ⟨by rw [or_bit, a, Bool.or_true], b⟩
theorem sameL_eq : ∀ {l r : List Value}, sameL l r = true -> l = r /\ flatL l = true := by
 intro l
 induction l with
 | nil => intro r h; cases r with
  | nil => exact ⟨rfl, rfl⟩
  | cons y r => cases h
 | cons x l ih =>
  intro r h
  cases r with
  | nil => cases h
  | cons y r =>
   change (bif sameE x y then sameL l r else false) = true at h
   cases hx : sameE x y with
   | false => rw [hx] at h; cases h
   | true =>
    rw [hx, cond_true] at h
    obtain ⟨h1, h2⟩ := ih h
    obtain ⟨h3, h4⟩ := sameA_eq hx
    exact ⟨by rw [h1, h3], by rw [flatL, h2, h4]; rfl⟩
theorem layR_ok {c : Nat} {k : Me -> R} : ∀ {L : List RowE} {m : Me} {v : Value} {m0 : Me}, layR c k L m = .ok v m0 -> m.c <= LIM + 1 -> ∃ H', k ⟨H', m.c + L.length, m.A, m.W⟩ = .ok v m0 /\ Stc m.H m.c H' (m.c + L.length) 0 0 /\
  ∀ (i : Nat) (r : RowE), L[i]? = some r -> ∃ (l : List Value) (tr : Tr Value), renL (shN c) r.1 = some l /\ hd H' (m.c + i) = some (.cells l.length tr r.2) /\ l.length <= LIM /\ ∀ j u, j < l.length -> getP tr (path j) = some u -> l[j]? = some u := by
 intro L
 induction L with
 | nil => intro m v m0 h _; exact ⟨m.H, h, Stc.refl _ _, fun i r h => by simp at h⟩
 | cons r L ih =>
  intro m v m0 h hmc
  change Option.rec (motive := fun _ => R) (.no [311]) (fun l => newL l r.2 m fun _ m => layR c k L m) (renL (shN c) r.1) = _ at h
  cases hl : renL (shN c) r.1 with
  | none => rw [hl] at h; cases h
  | some l =>
   rw [hl] at h
   obtain ⟨h1, h2, tr, h3, h⟩ := newL_ok h
   obtain ⟨H', h4, s, h5⟩ := ih h (by show m.c + 1 <= _; omega)
   have s1 := new_stc (H := m.H) (A := 0) (o := .cells l.length tr r.2) h2
   have s2 := s1.trans s hmc
   rw [lor0] at s2
   have e : m.c + 1 + L.length = m.c + (L.length + 1) := by omega
   refine ⟨H', by rw [List.length_cons, <- e]; exact h4, by rw [List.length_cons, <- e]; exact s2, fun i q hi => ?_⟩
   cases i with
   | zero =>
    simp at hi
    subst hi
    refine ⟨l, tr, hl, ?_, h1, h3⟩
    exact (s.same m.c (by omega) (by show m.c < m.c + 1; omega) (by simp)).trans (hd_set_same _ _ _)
   | succ i =>
    obtain ⟨l2, tr2, a1, a2, a3, a4⟩ := h5 i q (by simpa using hi)
    exact ⟨l2, tr2, a1, by rw [<- a2, show m.c + (i + 1) = m.c + 1 + i by omega], a3, a4⟩
theorem memoR_some {ren : List Nat} {r : R} {v0 : Value} {L : List RowE} (h : memoR ren r = some (v0, L)) : ∃ v m, r = .ok v m /\ pureB m.W = true /\ dupB ren = false /\ renV (rho ren) v = some v0 /\ rowsO m.H m.c ren ren = some L := by
 cases r with
 | no c => cases h
 | ok v m =>
  refine ⟨v, m, rfl, ?_⟩
  change (bif !pureB m.W || dupB ren then none else (renV (rho ren) v).bind fun v => (rowsO m.H m.c ren ren).map fun l => (v, l)) = _ at h
  cases hd : (!pureB m.W || dupB ren) with
  | true => rw [hd] at h; cases h
  | false =>
   rw [hd, cond_false] at h
   rw [Bool.or_eq_false_iff, Bool.not_eq_false'] at hd
   cases hv : renV (rho ren) v with
   | none => rw [hv] at h; cases h
   | some u =>
    rw [hv] at h
    change ((rowsO m.H m.c ren ren).map fun l => (u, l)) = _ at h
    cases hr : rowsO m.H m.c ren ren with
    | none => rw [hr] at h; cases h
    | some q =>
     rw [hr] at h
     injection h with h
     injection h with h1 h2
     subst h1 h2
     exact ⟨hd.1, hd.2, rfl, rfl⟩
theorem flatL_get : ∀ {l : List Value}, flatL l = true -> ∀ {i : Nat} {v : Value}, l[i]? = some v -> flat v = true := by
 intro l
 induction l with
 | nil => intro _ i v h; simp at h
 | cons x l ih =>
  intro h i v hv
  rw [flatL, Bool.and_eq_true] at h
  cases i with
  | zero => simp at hv; subst hv; exact h.1
  | succ i => exact ih h.2 (by simpa using hv)
theorem memo_ok {ext : FuncId -> Option ExtF} {idle : FuncId -> Bool} (hX : ∀ f g, ext f = some g -> SoundX f g) (hI : IdleOk idle) {gs : Tabs} (hgs : TabOk gs) {N : Nat} {f : FuncId} {xs : List Value} {ren : List Nat} {v0 : Value} {L : List RowE} (h : memoR ren (callN ext idle N f xs (me0 gs) (fun v m => .ok v m)) = some (v0, L)) : SoundX f (memoX gs xs v0 L) := by
 intro args m k v m0 hk hmc
 unfold memoX at hk
 obtain ⟨hs, hk3⟩ := bif_ok hk
 clear hk
 obtain ⟨he, hfl⟩ := sameL_eq hs
 subst he
 obtain ⟨u, m1, hrun, hcl, hdup, hv0, hrows⟩ := memoR_some h
 obtain ⟨A, hk4, hgA⟩ := chkG_ok hk3
 obtain ⟨hlen, hro⟩ := rowsO_get hrows
 obtain ⟨H', hk2, s, hL⟩ := layR_ok hk4 hmc
 dsimp only at s hL
 cases hv1 : renV (shN m.c) v0 with
 | none => rw [hv1] at hk2; cases hk2
 | some v1 =>
  rw [hv1] at hk2
  change k v1 _ = _ at hk2
  have s2 : Stc m.H m.c H' (m.c + L.length) A 0 := by
   have := (read_stc m.H m.c A).trans s hmc
   rwa [lor0, lor0] at this
  refine ⟨v1, H', m.c + L.length, A, 0, by rw [lor0]; exact hk2, s2, fun E M w args' p ha => ?_⟩
  rw [flat_eqs ha hfl]
  have hroot : Root gs (fun n => if n < 400 then E n else none) w := by
   refine ⟨fun n hn => if_neg (by omega), fun g hg => by obtain ⟨z, hz⟩ := p.glob g hg; exact ⟨z, by rw [if_pos hg, hz]⟩, ?_⟩
   have hof : ∀ n o, n <= LIM + 1 -> hd (putG gs) n = some o -> ∃ q ∈ gs, q.1 = n /\ o = aoT q.2 /\ hd m.H n = some o /\ M n := fun n o hn ho => by
    obtain ⟨q, hq, rfl, rfl⟩ := putG_mem hgs hn ho
    obtain ⟨a, b⟩ := hgA q hq
    exact ⟨q, hq, rfl, rfl, b, p.acc _ a⟩
   constructor
   ·intro n o hn _ ho hgo
    obtain ⟨q, hq, rfl, rfl, h1, h2⟩ := hof n o hn ho
    obtain ⟨l, he, hl⟩ := p.ag.lies _ _ hn h2 h1 hgo
    refine ⟨l, by rw [if_pos (hgs.low q hq)]; exact he, ?_⟩
    have hfq := hgs.flat q hq
    have hlq := hgs.few q hq
    unfold aoT at hl ⊢
    obtain ⟨cs, ty, fr, c1, c2, c3, c4, c5⟩ := hl
    refine ⟨cs, ty, fr, c1, c2, c3, c4, fun i v hi hv => ?_⟩
    obtain ⟨x, hx, hxr⟩ := c5 i v hi hv
    refine ⟨x, hx, ?_⟩
    rw [lenL_eq] at hi
    rw [putL_get q.2 0 .nil (by omega) i (by omega), if_pos (by omega), Nat.sub_zero] at hv
    have hfv : flat v = true := by
     have := flatL_get hfq hv
     exact this
    rw [flat_eq hxr hfv]
    exact flat_vr _ v hfv
   ·intro n n' o o' l l' hn hn' _ _ ho hgo ho' hgo' h1 h2 h3
    obtain ⟨q, hq, rfl, rfl, b1, b2⟩ := hof n o hn ho
    obtain ⟨q', hq', rfl, rfl, b1', b2'⟩ := hof n' o' hn' ho'
    rw [if_pos (hgs.low q hq)] at h1
    rw [if_pos (hgs.low q' hq')] at h2
    exact p.ag.inj _ _ _ _ l l' hn hn' b2 b2' b1 hgo b1' hgo' h1 h2 h3
  refine (run_any hX hI hgs hrun hcl hfl hroot).mono ?_
  rintro e w' ⟨hm1, x, E1, he, hx, t, hb, hnew⟩
  let E2 : En := fun n => if n < 400 then none else (ren[n - 400]?).bind E1
  let E3 : En := fun n => if m.c <= n /\ n < m.c + L.length then (ren[n - m.c]?).bind E1 else E n
  have hlow := p.low
  have h12 : ∀ n k l, rho ren n = some k -> E1 n = some l -> E2 k = some l := by
   intro n k l h1 h2
   obtain ⟨a1, a2⟩ := findN_get h1
   show (if k < 400 then _ else _) = _
   rw [if_neg (by omega), a2]
   exact h2
  have h23 : ∀ n k l, shN m.c n = some k -> E2 n = some l -> E3 k = some l := by
   intro n k l h1 h2
   unfold shN at h1
   cases hn : Nat.blt n 400 with
   | true => rw [hn] at h1; cases h1
   | false =>
    rw [hn, cond_false] at h1
    injection h1 with h1
    have hn : ¬ n < 400 := fun h => by rw [show Nat.blt n 400 = true by rw [Nat.blt_eq]; exact h] at hn; cases hn
    change (if n < 400 then none else (ren[n - 400]?).bind E1) = _ at h2
    rw [if_neg hn] at h2
    subst h1
    have hlt : n - 400 < L.length := by
     rw [hlen]
     apply Nat.lt_of_not_le
     intro hge
     rw [List.getElem?_eq_none hge] at h2
     cases h2
    show (if m.c <= n - 400 + m.c /\ n - 400 + m.c < m.c + L.length then (ren[n - 400 + m.c - m.c]?).bind E1 else _) = _
    rw [if_pos (by omega), Nat.add_sub_cancel]
    exact h2
  have hin : ∀ n l, m.c <= n -> n < m.c + L.length -> E3 n = some l -> ∃ q, ren[n - m.c]? = some q /\ E1 q = some l /\ 400 <= q /\ q < m1.c := by
   intro n l h1 h2 h3
   change (if m.c <= n /\ n < m.c + L.length then (ren[n - m.c]?).bind E1 else E n) = _ at h3
   rw [if_pos ⟨h1, h2⟩] at h3
   cases hq : ren[n - m.c]? with
   | none => rw [hq] at h3; cases h3
   | some q =>
    rw [hq] at h3
    obtain ⟨a, b, -⟩ := hro _ _ hq
    exact ⟨q, rfl, h3, a, b⟩
  have hout : ∀ n, n < m.c \/ m.c + L.length <= n -> E3 n = E n := by
   intro n hn
   show (if m.c <= n /\ n < m.c + L.length then _ else _) = _
   rw [if_neg (by omega)]
  have hold : ∀ n o, n <= LIM + 1 -> hd H' n = some o -> ¬ (m.c <= n /\ n < m.c + L.length) -> n < m.c /\ hd m.H n = some o := by
   intro n o hn ho hni
   by_cases h1 : n < m.c
   ·exact ⟨h1, (s.same n hn h1 (by simp)) ▸ ho⟩
   ·rw [s.free p.free n (by omega) hn] at ho
    cases ho
  have hext : Ext E E3 := by
   intro n l hn
   by_cases h1 : m.c <= n /\ n < m.c + L.length
   ·rw [p.new n h1.1 h1.2] at hn; cases hn
   ·rw [hout n (by omega)]; exact hn
  refine ⟨x, E3, he, ren_vr h23 (ren_vr h12 hx hv0) hv1, hext, fun n h1 h2 => by rw [hout n h2]; exact h1, ⟨?_, ?_⟩, hb.size, fun b hb' _ => ⟨hb.block b hb', fun n l h1 h2 h3 => ?_⟩, hb.os, hb.tape, hb.output⟩
  ·intro n o hn hm ho hg
   by_cases hr : m.c <= n /\ n < m.c + L.length
   ·obtain ⟨r, hr2⟩ : ∃ r, L[n - m.c]? = some r := ⟨L[n - m.c]'(by omega), List.getElem?_eq_getElem _⟩
    obtain ⟨q, hq⟩ : ∃ q, ren[n - m.c]? = some q := ⟨ren[n - m.c]'(by omega), List.getElem?_eq_getElem _⟩
    obtain ⟨q1, q2, z, tt, ty, l, l', c1, c2, c3, c4⟩ := hro _ _ hq
    rw [hr2] at c4
    injection c4 with c4
    subst c4
    obtain ⟨l3, tr, d1, d2, d3, d4⟩ := hL _ _ hr2
    rw [show m.c + (n - m.c) = n by omega, ho] at d2
    injection d2 with d2
    subst d2
    obtain ⟨lo, e1, cs, f1, f2, f3, f4, f5⟩ := t.ag.lies q _ (by omega) trivial c1 (by simp)
    obtain ⟨g1, g2⟩ := renL_get c3
    obtain ⟨g3, g4⟩ := renL_get d1
    obtain ⟨g5, g6⟩ := cellsT_get c2
    have hz : l3.length = z := by rw [g3, g1, g5]
    refine ⟨lo, ?_, cs, f1, f2, by omega, d3, fun i v hi hv => ?_⟩
    ·show (if m.c <= n /\ n < m.c + L.length then (ren[n - m.c]?).bind E1 else E n) = _
     rw [if_pos hr, hq]
     exact e1
    ·have hv3 := d4 i v hi hv
     have hli : i < l.length := by omega
     obtain ⟨y, hy, hyr⟩ := f5 i l[i] (by omega) (by have := g6 i (by omega); rw [Nat.zero_add] at this; rw [this]; exact List.getElem?_eq_getElem _)
     obtain ⟨u', hu, hu2⟩ := g2 i l[i] (List.getElem?_eq_getElem _)
     obtain ⟨u3, hu3, hu4⟩ := g4 i u' hu
     rw [hv3] at hu3
     injection hu3 with hu3
     subst hu3
     exact ⟨y, hy, ren_vr h23 (ren_vr h12 hyr hu2) hu4⟩
   ·obtain ⟨h1, h2⟩ := hold n o hn ho hr
    obtain ⟨l, he, hl⟩ := p.ag.lies n o hn hm h2 hg
    exact ⟨l, by rw [hout n (.inl h1)]; exact he, hl.move hext (hb.block _ (hl.lt hg))⟩
  ·intro n n' o o' l l' hn hn' hm hm' ho hg ho' hg' he he' hbb
   by_cases hr : m.c <= n /\ n < m.c + L.length <;> by_cases hr' : m.c <= n' /\ n' < m.c + L.length
   ·obtain ⟨q, a1, a2, a3, a4⟩ := hin n l hr.1 hr.2 he
    obtain ⟨q', b1, b2, b3, b4⟩ := hin n' l' hr'.1 hr'.2 he'
    obtain ⟨-, -, z, tt, ty, _, _, c1, -⟩ := hro _ _ a1
    obtain ⟨-, -, z', tt', ty', _, _, c1', -⟩ := hro _ _ b1
    have := t.ag.inj q q' _ _ l l' (by omega) (by omega) trivial trivial c1 (by simp) c1' (by simp) a2 b2 hbb
    subst this
    have := dup_ne hdup a1 b1
    omega
   ·obtain ⟨q, a1, a2, a3, a4⟩ := hin n l hr.1 hr.2 he
    obtain ⟨h1, h2⟩ := hold n' o' hn' ho' hr'
    rw [hout n' (.inl h1)] at he'
    obtain ⟨lo, e1, e2⟩ := p.ag.lies n' o' hn' hm' h2 hg'
    rw [he'] at e1
    injection e1 with e1
    subst e1
    have := e2.lt hg'
    have := hnew q l a3 a4 a2
    omega
   ·obtain ⟨q, a1, a2, a3, a4⟩ := hin n' l' hr'.1 hr'.2 he'
    obtain ⟨h1, h2⟩ := hold n o hn ho hr
    rw [hout n (.inl h1)] at he
    obtain ⟨lo, e1, e2⟩ := p.ag.lies n o hn hm h2 hg
    rw [he] at e1
    injection e1 with e1
    subst e1
    have := e2.lt hg
    have := hnew q l' a3 a4 a2
    omega
   ·obtain ⟨h1, h2⟩ := hold n o hn ho hr
    obtain ⟨h1', h2'⟩ := hold n' o' hn' ho' hr'
    rw [hout n (.inl h1)] at he
    rw [hout n' (.inl h1')] at he'
    exact p.ag.inj n n' o o' l l' hn hn' hm hm' h2 hg h2' hg' he he' hbb
  ·obtain ⟨q, a1, a2, a3, a4⟩ := hin n l h1 h2 h3
   have := hnew q l a3 a4 a2
   omega
noncomputable section
def unR : Value -> Option Rv
 | .agg ⟨[.bool n, .string a, .string b]⟩ => bif Nat.ble (lenL a.data.toList) 1000 && Nat.ble (lenL b.data.toList) 1000 then some ⟨n, a, b⟩ else none
 | _ => none
def unZ : Value -> Option Int
 | .int .i64 z => bif Nat.ble z.natAbs 999999999999999 then some z else none
 | _ => none
def one {α : Type} (d : Value -> Option α) (g : α -> Option Value) (l : List Value) : Option Value := List.rec (motive := fun _ => Option Value) none (fun x r _ => List.rec (motive := fun _ => Option Value) ((d x).bind g) (fun _ _ _ => none) r) l
def two {α : Type} (d : Value -> Option α) (g : α -> α -> Option Value) (l : List Value) : Option Value := List.rec (motive := fun _ => Option Value) none (fun x r _ => List.rec (motive := fun _ => Option Value) none (fun y r _ => List.rec (motive := fun _ => Option Value) ((d x).bind fun u => (d y).bind (g u)) (fun _ _ _ => none) r) r) l
end
theorem unR_some {v : Value} {u : Rv} (h : unR v = some u) : v = ratV u /\ SzR u 1000 := by
 unfold unR at h
 split at h
 ·rename_i n a b
  cases hb : (Nat.ble (lenL a.data.toList) 1000 && Nat.ble (lenL b.data.toList) 1000) with
  | false => rw [hb] at h; cases h
  | true =>
   rw [hb, cond_true] at h
   injection h with h
   subst h
   rw [Bool.and_eq_true] at hb
   have h1 := Nat.le_of_ble_eq_true hb.1
   have h2 := Nat.le_of_ble_eq_true hb.2
   rw [lenL_eq] at h1 h2
   exact ⟨rfl, by simpa using h1, by simpa using h2⟩
 ·cases h
theorem unZ_some {v : Value} {z : Int} (h : unZ v = some z) : v = (.int .i64 z) /\ -999999999999999 <= z /\ z <= 999999999999999 := by
 unfold unZ at h
 split at h
 ·rename_i y
  cases hb : Nat.ble y.natAbs 999999999999999 with
  | false => rw [hb] at h; cases h
  | true =>
   rw [hb, cond_true] at h
   injection h with h
   subst h
   have := Nat.le_of_ble_eq_true hb
   exact ⟨rfl, by omega, by omega⟩
 ·cases h
theorem below_of {A B : World} (h : Turned (fun _ => False) A B) : Below A.heap.size A B := h.below (Nat.le_refl _) fun _ h => h.elim
def Gives (f : FuncId) (l : List Value) (v : Value) : Prop := ∀ w, Calls Tryz.prog f ⟨l⟩ w fun e w' => e = .returned v /\ Turned (fun _ => False) w w'
theorem one_ok {α : Type} {d : Value -> Option α} {enc : α -> Value} {g : α -> Option Value} {f : FuncId} (hd : ∀ v u, d v = some u -> v = enc u /\ flat (enc u) = true) (hf : ∀ u v, g u = some v -> flat v = true) (h : ∀ x u v, d x = some u -> g u = some v -> Gives f [enc u] v) : SoundX f (pureX (one d g)) := by
 have key : ∀ args v, one d g args = some v -> ∃ x u, args = [x] /\ d x = some u /\ g u = some v := by
  intro args v ho
  match args with
  | [] => cases ho
  | [x] =>
   change (d x).bind g = _ at ho
   obtain ⟨u, h1, h2⟩ := Option.bind_eq_some_iff.1 ho
   exact ⟨x, u, rfl, h1, h2⟩
  | _ :: _ :: _ => cases ho
 refine pure_ok (fun args v ho => ?_) fun args v ho w => ?_
 ·obtain ⟨x, u, rfl, h1, h2⟩ := key _ _ ho
  obtain ⟨h3, h4⟩ := hd _ _ h1
  subst h3
  exact ⟨by rw [flatL, h4]; rfl, hf _ _ h2⟩
 ·obtain ⟨x, u, rfl, h1, h2⟩ := key _ _ ho
  have hg := h _ _ _ h1 h2 w
  rw [<- (hd _ _ h1).1] at hg
  exact hg.mono fun e w' h => ⟨h.1, below_of h.2⟩
theorem two_ok {α : Type} {d : Value -> Option α} {enc : α -> Value} {g : α -> α -> Option Value} {f : FuncId} (hd : ∀ v u, d v = some u -> v = enc u /\ flat (enc u) = true) (hf : ∀ u u2 v, g u u2 = some v -> flat v = true) (h : ∀ x u y u2 v, d x = some u -> d y = some u2 -> g u u2 = some v -> Gives f [enc u, enc u2] v) : SoundX f (pureX (two d g)) := by
 have key : ∀ args v, two d g args = some v -> ∃ x u y u2, args = [x, y] /\ d x = some u /\ d y = some u2 /\ g u u2 = some v := by
  intro args v ho
  match args with
  | [] => cases ho
  | [_] => cases ho
  | [x, y] =>
   change ((d x).bind fun u => (d y).bind (g u)) = _ at ho
   obtain ⟨u, h1, h2⟩ := Option.bind_eq_some_iff.1 ho
   obtain ⟨u2, h3, h4⟩ := Option.bind_eq_some_iff.1 h2
   exact ⟨x, u, y, u2, rfl, h1, h3, h4⟩
  | _ :: _ :: _ :: _ => cases ho
 refine pure_ok (fun args v ho => ?_) fun args v ho w => ?_
 ·obtain ⟨x, u, y, u2, rfl, h1, h2, h3⟩ := key _ _ ho
  obtain ⟨a, b⟩ := hd _ _ h1
  obtain ⟨c, e⟩ := hd _ _ h2
  subst a c
  exact ⟨by rw [flatL, flatL, b, e]; rfl, hf _ _ _ h3⟩
 ·obtain ⟨x, u, y, u2, rfl, h1, h2, h3⟩ := key _ _ ho
  have hg := h _ _ _ _ _ h1 h2 h3 w
  rw [<- (hd _ _ h1).1, <- (hd _ _ h2).1] at hg
  exact hg.mono fun e w' h => ⟨h.1, below_of h.2⟩
theorem unR_ok (v : Value) (u : Rv) (h : unR v = some u) : v = ratV u /\ flat (ratV u) = true := ⟨(unR_some h).1, rfl⟩
theorem unZ_ok (v : Value) (z : Int) (h : unZ v = some z) : v = (.int .i64 z) /\ flat (.int .i64 z) = true := ⟨(unZ_some h).1, rfl⟩
noncomputable section
def xInt : ExtF := pureX (one unZ fun z => some (ratV (intR z)))
def xFloor : ExtF := pureX (one unR fun u => some (.tuple #[(.int .i64 (floorI u)), (.int .i64 (floorE u))]))
def xValid : ExtF := pureX (one unR fun u => some (.bool (decide (validR u))))
def xAdd : ExtF := pureX (two unR fun u v => some (ratV (repR (qR u + qR v))))
def xSub : ExtF := pureX (two unR fun u v => some (ratV (repR (qR u - qR v))))
def xMul : ExtF := pureX (two unR fun u v => some (ratV (repR (qR u * qR v))))
def xDiv : ExtF := pureX (two unR fun u v => bif decide (qR v ≠ 0) then some (.tuple #[ratV (repR (qR u / qR v)), .int .i64 0]) else none)
def xMake : ExtF := pureX (two unZ fun n d => bif decide (0 <= n /\ 0 < d) then some (.tuple #[ratV (repR ((n.toNat : Rat) / (d.toNat : Rat))), .int .i64 0]) else none)
end
theorem int_ok : SoundX 17 xInt := one_ok unZ_ok (fun u v h => by injection h with h; subst h; rfl) fun x z v h1 h2 w => by
 injection h2 with h2
 subst h2
 obtain ⟨-, a, b⟩ := unZ_some h1
 exact qIntZ_any z w a b
theorem floor_ok : SoundX 115 xFloor := one_ok unR_ok (fun u v h => by injection h with h; subst h; rfl) fun x u v h1 h2 w => by
 injection h2 with h2
 subst h2
 exact floor_any u w ((unR_some h1).2.mono (by omega))
theorem xvalid_ok : SoundX 30 xValid := one_ok unR_ok (fun u v h => by injection h with h; subst h; rfl) fun x u v h1 h2 w => by
 injection h2 with h2
 subst h2
 have := (unR_some h1).2
 exact qValid_any u w (Nat.le_trans this.1 (by omega)) (Nat.le_trans this.2 (by omega))
theorem add_ok : SoundX 82 xAdd := two_ok unR_ok (fun u u2 v h => by injection h with h; subst h; rfl) fun x u y u2 v h1 h2 h3 w => by
 injection h3 with h3
 subst h3
 exact qAdd_any u u2 1000 w (by omega) (by omega) (unR_some h1).2 (unR_some h2).2
theorem sub_ok : SoundX 83 xSub := two_ok unR_ok (fun u u2 v h => by injection h with h; subst h; rfl) fun x u y u2 v h1 h2 h3 w => by
 injection h3 with h3
 subst h3
 exact qSub_any u u2 1000 w (by omega) (by omega) (unR_some h1).2 (unR_some h2).2
theorem mul_ok : SoundX 14 xMul := two_ok unR_ok (fun u u2 v h => by injection h with h; subst h; rfl) fun x u y u2 v h1 h2 h3 w => by
 injection h3 with h3
 subst h3
 exact qMul_any u u2 1000 w (by omega) (by omega) (unR_some h1).2 (unR_some h2).2
theorem div_ok : SoundX 18 xDiv := two_ok unR_ok (fun u u2 v h => by
  cases hb : decide (qR u2 ≠ 0) with
  | false => rw [hb] at h; cases h
  | true => rw [hb] at h; injection h with h; subst h; rfl) fun x u y u2 v h1 h2 h3 w => by
 cases hb : decide (qR u2 ≠ 0) with
 | false => rw [hb] at h3; cases h3
 | true =>
  rw [hb, cond_true] at h3
  injection h3 with h3
  subst h3
  exact qDiv_any u u2 1000 w (by omega) (by omega) (unR_some h1).2 (unR_some h2).2 (of_decide_eq_true hb)
theorem make_ok : SoundX 44 xMake := two_ok unZ_ok (fun u u2 v h => by
  cases hb : decide (0 <= u /\ 0 < u2) with
  | false => rw [hb] at h; cases h
  | true => rw [hb] at h; injection h with h; subst h; rfl) fun x n y d v h1 h2 h3 w => by
 cases hb : decide (0 <= n /\ 0 < d) with
 | false => rw [hb] at h3; cases h3
 | true =>
  rw [hb, cond_true] at h3
  injection h3 with h3
  subst h3
  obtain ⟨-, a1, a2⟩ := unZ_some h1
  obtain ⟨-, b1, b2⟩ := unZ_some h2
  obtain ⟨c1, c2⟩ := of_decide_eq_true hb
  have := qMake_any n.toNat d.toNat w (by omega) (by omega) (by omega)
  rw [Int.toNat_of_nonneg c1, Int.toNat_of_nonneg (by omega)] at this
  exact this
noncomputable section
def xContains : ExtF := pureX fun l => match l with
 | [.string s, .string ⟨⟨[c]⟩⟩] => some (.bool (decide (0 <= Lib.indexByte s.data.toList c)))
 | _ => none
def xPrefix : ExtF := pureX fun l => match l with
 | [.string s, .string p] => some (.bool (Lib.hasPrefix s.data.toList p.data.toList))
 | _ => none
def xClass : ExtF := pureX fun l => match l with
 | [.int .u8 (.ofNat c)] => bif Nat.ble c 255 then some (.int .i64 (clsI c)) else none
 | _ => none
def strU (v : Value) (k : List UInt8 -> R) : R := match v with
 | .string ⟨⟨b⟩⟩ => k b
 | _ => .no [330]
def strsU (l : List Value) : (List (List UInt8) -> R) -> R := List.rec (motive := fun _ => (List (List UInt8) -> R) -> R) (fun k => k []) (fun v _ ih k => strU v fun b => ih fun l => k (b :: l)) l
def xJoin : ExtF := fun args m k => match args with
 | [x, .string ⟨⟨sep⟩⟩] => vSl x fun _ n c => bif Nat.ble n c then firstC 1 x n m fun l m => strsU l fun ss => bif Nat.ble (lenL (Lib.join ss sep)) 140737488355328 && Nat.ble (lenL ss) 140737488355328 then k (.string ⟨⟨Lib.join ss sep⟩⟩) m else .no [331] else .no [332]
 | _ => .no [333]
end
theorem contains_ok : SoundX 169 xContains := pure_ok (fun args v h => by
  split at h
  ·injection h with h; subst h; exact ⟨rfl, rfl⟩
  ·cases h) fun args v h w => by
 split at h
 ·injection h with h
  subst h
  refine (Tryz.strings_Contains_one _ _ w).mono ?_
  rintro e w' ⟨rfl, rfl⟩
  exact ⟨rfl, .refl _ _⟩
 ·cases h
theorem prefix_ok : SoundX 168 xPrefix := pure_ok (fun args v h => by
  split at h
  ·injection h with h; subst h; exact ⟨rfl, rfl⟩
  ·cases h) fun args v h w => by
 split at h
 ·injection h with h
  subst h
  refine (Tryz.strings_HasPrefix _ _ w).mono ?_
  rintro e w' ⟨rfl, rfl⟩
  exact ⟨rfl, .refl _ _⟩
 ·cases h
theorem class_ok : SoundX 143 xClass := pure_ok (fun args v h => by
  split at h
  ·rename_i c
   cases hb : Nat.ble c 255 with
   | false => rw [hb] at h; cases h
   | true => rw [hb] at h; injection h with h; subst h; exact ⟨rfl, rfl⟩
  ·cases h) fun args v h w => by
 split at h
 ·rename_i c
  cases hb : Nat.ble c 255 with
  | false => rw [hb] at h; cases h
  | true =>
   rw [hb] at h
   injection h with h
   subst h
   have := Nat.le_of_ble_eq_true hb
   refine (class_any (Int.ofNat c) w (by show (0 : Int) <= (c : Int); omega) (by show (c : Int) <= 255; omega)).mono ?_
   rintro e w' ⟨rfl, rfl⟩
   exact ⟨rfl, .refl _ _⟩
 ·cases h
theorem strsU_ok : ∀ {l : List Value} {k : List (List UInt8) -> R} {v : Value} {m0 : Me}, strsU l k = .ok v m0 -> ∃ ss : List (List UInt8), k ss = .ok v m0 /\ l = ss.map fun b => Value.string ⟨⟨b⟩⟩ := by
 intro l
 induction l with
 | nil => intro k v m0 h; exact ⟨[], h, rfl⟩
 | cons u l ih =>
  intro k v m0 h
  change strU u (fun b => strsU l fun l => k (b :: l)) = _ at h
  unfold strU at h
  split at h
  ·rename_i b
   obtain ⟨ss, h1, h2⟩ := ih h
   exact ⟨_, h1, by rw [List.map_cons, <- h2]⟩
  ·cases h
theorem join_ok : SoundX 98 xJoin := by
 intro args m k v m0 h hmc
 unfold xJoin at h
 split at h
 case h_2 => cases h
 rename_i x sep
 obtain ⟨b0, n, cp, hx, h⟩ := vSl_ok h
 obtain ⟨hcap, h⟩ := bif_ok h
 have hcap := Nat.le_of_ble_eq_true hcap
 obtain ⟨l, A, h, hl, hr⟩ := firstC_ok h
 obtain ⟨ss, h, hss⟩ := strsU_ok h
 obtain ⟨hsz, h⟩ := bif_ok h
 rw [Bool.and_eq_true] at hsz
 have hs1 := Nat.le_of_ble_eq_true hsz.1
 have hs2 := Nat.le_of_ble_eq_true hsz.2
 rw [lenL_eq] at hs1 hs2
 refine ⟨_, m.H, m.c, A, 0, by rw [lor0]; exact h, read_stc _ _ _, fun E M w args' p ha => ?_⟩
 cases ha with
 | cons h1 t1 =>
  cases t1 with
  | cons h2 t2 =>
   cases t2
   cases h2
   rename_i x'
   obtain ⟨xs, ad, len, cap, g1, g2, g3⟩ := hr E w _ h1 (p.canRd fun i h => h)
   have hfl : ∀ ss : List (List UInt8), flatL (ss.map fun b => Value.string ⟨⟨b⟩⟩) = true := by
    intro ss
    induction ss with
    | nil => rfl
    | cons b ss ih => rw [List.map_cons, flatL, ih]; rfl
   have hxs : xs = l := flat_eqs g1 (by rw [hss]; exact hfl ss)
   subst hxs
   have hln : len = n /\ n <= cap := by
    rw [hx, g2] at h1
    cases h1 with
    | sl0 => exact ⟨rfl, hcap⟩
    | sl => exact ⟨rfl, hcap⟩
    | slo _ _ _ _ _ hk => exact ⟨rfl, hk⟩
   obtain ⟨rfl, hnc⟩ := hln
   have hlen : ss.length = len := by
    have := congrArg List.length hss
    rw [List.length_map, hl] at this
    omega
   have hmm : (ss.map fun b => (⟨⟨b⟩⟩ : ByteArray)).map (·.data.toList) = ss := by
    rw [List.map_map]
    exact List.map_id'' (fun _ => rfl) ss
   rcases g3 with ⟨rfl, h0, hn⟩ | ⟨ad', rfl, hc⟩
   ·subst h0
    have : ss = [] := List.eq_nil_of_length_eq_zero hlen
    subst this
    subst g2
    refine (Tryz.strings_Join_none none cap ⟨⟨sep⟩⟩ w).mono ?_
    rintro e w' ⟨rfl, rfl⟩
    exact ⟨_, E, rfl, .str _, trn_bel p (.refl _ _)⟩
   ·have had : ∃ b o, ad' = ⟨b, o, none⟩ := by
     rw [hx, g2] at h1
     cases h1 <;> exact ⟨_, _, rfl⟩
    obtain ⟨b, o, rfl⟩ := had
    have hcs : ∀ (j : Nat) (y : ByteArray), (ss.map fun b => (⟨⟨b⟩⟩ : ByteArray))[j]? = some y -> w.cell? ⟨b, o + j, none⟩ = some (.string y) := fun j y hj => by
     have := hc j (.string y) (by
      rw [hss, List.getElem?_map]
      rw [List.getElem?_map] at hj
      obtain ⟨z, hz, rfl⟩ := Option.map_eq_some_iff.1 hj
      rw [hz]; rfl)
     rwa [addr_add] at this
    cases hz : ss with
    | nil =>
     rw [hz] at hlen
     subst hlen
     subst g2
     refine (Tryz.strings_Join_none _ cap ⟨⟨sep⟩⟩ w).mono ?_
     rintro e w' ⟨rfl, rfl⟩
     exact ⟨_, E, rfl, .str _, trn_bel p (.refl _ _)⟩
    | cons s0 sr =>
     have hb : b < w.heap.size := by
      have := hcs 0 ⟨⟨s0⟩⟩ (by rw [hz]; rfl)
      apply Nat.lt_of_not_le
      intro hge
      simp [World.cell?, hge] at this
     have hJ := Tryz.strings_Join b o cap (ss.map fun b => (⟨⟨b⟩⟩ : ByteArray)) ⟨⟨sep⟩⟩ w hcs hb (by rw [List.length_map]; exact hs2) (by rw [List.length_map]; omega) (by rw [hmm]; exact hs1)
     rw [hmm, List.length_map, hlen, <- g2] at hJ
     refine hJ.mono ?_
     rintro e w' ⟨rfl, hbel⟩
     rw [<- hz]
     exact ⟨_, E, rfl, .str _, trn_bel p hbel⟩
attribute [local go_sem] Oper.semAt_some
theorem idle_any (x : Value) (w : World) :
  CallsD Tryz.prog 71 #[x] .returning w fun e u' w' => e = .returned (.tuple #[]) /\ u' = .returning /\ w' = w := by
 refine callsD_of_wpS Tryz.func71 rfl fun c₀ cs hu => ?_
 apply wpS_seq
 apply wpS_region
 simp [wpOpsS, go_sem, recoverD, hu, Tryz.ntmps71, Exit.thenS]
 refine wpS_of_wp ?_
 rw [show (#[x] ++ ((Array.replicate 15 undef).setIfInBounds 3 Value.nilIface).setIfInBounds 0 Value.nilIface) = #[x, Value.nilIface, undef, undef, Value.nilIface, undef, undef, undef, undef, undef, undef, undef, undef, undef, undef, undef] from rfl]
 go_wp2_with fail
 exact ⟨rfl, .returning, by cases c₀; simp_all, _, results_none rfl _ _ _, rfl, rfl, rfl⟩
noncomputable def idle0 (f : FuncId) : Bool := Nat.beq f 71
theorem idle_ok : IdleOk idle0 := by
 intro g hg x w
 rw [show g = 71 from Nat.eq_of_beq_eq_true hg]
 exact idle_any x w
abbrev ExtL := List (FuncId × ExtF)
noncomputable def extL (l : ExtL) : FuncId -> Option ExtF := List.rec (motive := fun _ => FuncId -> Option ExtF) (fun _ => none) (fun p _ ih f => bif Nat.beq f p.1 then some p.2 else ih f) l
theorem extL_ok {l : ExtL} (h : ∀ p ∈ l, SoundX p.1 p.2) : ∀ f g, extL l f = some g -> SoundX f g := by
 induction l with
 | nil => intro f g h; cases h
 | cons p l ih =>
  intro f g hg
  change (bif Nat.beq f p.1 then some p.2 else extL l f) = _ at hg
  cases hb : Nat.beq f p.1 with
  | true =>
   rw [hb] at hg
   injection hg with hg
   subst hg
   rw [Nat.eq_of_beq_eq_true hb]
   exact h p (List.mem_cons_self ..)
  | false =>
   rw [hb] at hg
   exact ih (fun q hq => h q (List.mem_cons_of_mem _ hq)) f g hg
noncomputable def base : ExtL := [(17, xInt), (115, xFloor), (30, xValid), (82, xAdd), (83, xSub), (14, xMul), (18, xDiv), (44, xMake), (143, xClass), (168, xPrefix), (169, xContains), (98, xJoin)]
theorem base_ok : ∀ p ∈ base, SoundX p.1 p.2 := by
 intro p hp
 simp only [base, List.mem_cons, List.not_mem_nil, or_false] at hp
 rcases hp with rfl | rfl | rfl | rfl | rfl | rfl | rfl | rfl | rfl | rfl | rfl | rfl
 ·exact int_ok
 ·exact floor_ok
 ·exact xvalid_ok
 ·exact add_ok
 ·exact sub_ok
 ·exact mul_ok
 ·exact div_ok
 ·exact make_ok
 ·exact class_ok
 ·exact prefix_ok
 ·exact contains_ok
 ·exact join_ok
def lengthsTab : List Int := [31, 28, 31, 30, 31, 30, 31, 31, 30, 31, 30, 31]
noncomputable def gs : Tabs := [(0, lengthsTab.map fun z => Value.int .i64 z), (1, Lib.asciiSpaceTab.map fun z => Value.int .u8 z), (2, Lib.pow10Tab.map fun z => Value.int .u64 z)]
theorem flatL_ints (k : IntKind) (l : List Int) : flatL (l.map fun z => Value.int k z) = true := by
 induction l with
 | nil => rfl
 | cons z l ih => rw [List.map_cons, flatL, ih]; rfl
theorem gs_ok : TabOk gs := by
 refine ⟨fun p hp => ?_, fun p hp => ?_, fun p hp => ?_⟩ <;> (simp only [gs, List.mem_cons, List.not_mem_nil, or_false] at hp; rcases hp with rfl | rfl | rfl)
 ·decide
 ·decide
 ·decide
 ·exact flatL_ints _ _
 ·exact flatL_ints _ _
 ·exact flatL_ints _ _
 ·exact Nat.le_of_ble_eq_true (by kernel_rfl)
 ·exact Nat.le_of_ble_eq_true (by kernel_rfl)
 ·exact Nat.le_of_ble_eq_true (by kernel_rfl)
theorem gs_at {w : World} (h1 : Lib.TabIs Tryz.prog w "strings.asciiSpace" .u8 Lib.asciiSpaceTab) (h2 : Lib.TabIs Tryz.prog w "internal/strconv.uint64pow10" .u64 Lib.pow10Tab) (h3 : Lib.TabIs Tryz.prog w "rivermark/calendar.lengths" .i64 lengthsTab) : TabsAt gs w := by
 have key : ∀ (nm : String) (g : Nat) (cs : List Value), Tryz.prog.globalNamed nm = some g -> w.var? Tryz.prog nm = some cs.toArray -> ∃ ty fr, w.heap[g]? = some (.cells ⟨cs⟩ ty fr) := by
  intro nm g cs hg hv
  unfold World.var? at hv
  rw [hg] at hv
  simp only [Option.bind_some] at hv
  split at hv
  ·rename_i cs' ty fr hw
   injection hv with hv
   subst hv
   exact ⟨ty, fr, hw⟩
  ·cases hv
 intro p hp
 simp only [gs, List.mem_cons, List.not_mem_nil, or_false] at hp
 rcases hp with rfl | rfl | rfl
 ·exact key "rivermark/calendar.lengths" _ _ (by kernel_rfl) h3
 ·exact key "strings.asciiSpace" _ _ (by kernel_rfl) h1
 ·exact key "internal/strconv.uint64pow10" _ _ (by kernel_rfl) h2
noncomputable def orX (xs : List Value) (g g' : ExtF) : ExtF := fun args m k => bif sameL xs args then g args m k else g' args m k
theorem orX_ok {f : FuncId} {xs : List Value} {g g' : ExtF} (h1 : SoundX f g) (h2 : SoundX f g') : SoundX f (orX xs g g') := by
 intro args m k v m0 h hmc
 unfold orX at h
 cases hb : sameL xs args with
 | true => rw [hb] at h; exact h1 _ _ _ _ _ h hmc
 | false => rw [hb] at h; exact h2 _ _ _ _ _ h hmc
noncomputable def go (x : ExtL) (f : FuncId) (args : List Value) : R := callN (extL x) idle0 80 f args (me0 gs) fun v m => .ok v m
theorem go_told {x : ExtL} (hx : ∀ p ∈ x, SoundX p.1 p.2) {f : FuncId} {args : List Value} {v : Value} (h : told (go x f args) = some v) (ha : flatL args = true) {w : World} (hw : TabsAt gs w) : Calls Tryz.prog f ⟨args⟩ w fun e w' => e = .returned v /\ Below w.heap.size w w' :=
 run_told (extL_ok hx) idle_ok gs_ok h ha hw
theorem go_memo {x : ExtL} (hx : ∀ p ∈ x, SoundX p.1 p.2) {f : FuncId} {args : List Value} {ren : List Nat} {v0 : Value} {L : List RowE} (h : memoR ren (go x f args) = some (v0, L)) : SoundX f (memoX gs args v0 L) :=
 memo_ok (extL_ok hx) idle_ok gs_ok h
end Go.Proofs.YthejfklieedjmaaGreatDoor
