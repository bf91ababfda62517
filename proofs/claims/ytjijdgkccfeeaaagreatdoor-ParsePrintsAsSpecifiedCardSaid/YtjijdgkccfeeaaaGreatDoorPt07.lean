/- Part 7 of the proof of card: ParAt, ParShow, ParWalkA, ParLays, ParOwn, ParWalkB. Conditions: those of each theorem. -/
import Derived.WalkLawsBesides
import Derived.OwnWalk
import Derived.Test.YtjijdgkccfeeaaaGreatDoorPt01
import Derived.Test.YtjijdgkccfeeaaaGreatDoorPt02
import Derived.Test.YtjijdgkccfeeaaaGreatDoorPt06
set_option maxRecDepth 20000
set_option maxHeartbeats 2000000
namespace Go.Proofs.YtjijdgkccfeeaaaGreatDoor
open Go Go.Proofs Go.RowKit
def Ex.op : Ex -> Int | .mk o _ _ _ _ => o
def Ex.n : Ex -> Int | .mk _ n _ _ _ => n
def Ex.s : Ex -> ByteArray | .mk _ _ s _ _ => s
def Ex.kids : Ex -> List Ex | .mk _ _ _ k _ => k
def Fm.word : Fm -> ByteArray | .mk w _ _ _ => w
def Fm.args : Fm -> List Ar | .mk _ a _ _ => a
def Fm.body : Fm -> List Fm | .mk _ _ b _ => b
def Fm.at_ : Fm -> Int | .mk _ _ _ a => a
def exV (x : Ex) (k : Value) : List Value := [(.int .i64 x.op), .int .i64 x.n, .string x.s, k, .int .i64 x.at_]
def arV (x : Ar) (k : Value) : List Value := [(.int .i64 x.kind), .int .i64 x.n, .string x.s, .int .i64 x.e.op, .int .i64 x.e.n, .string x.e.s, k, .int .i64 x.e.at_, .int .i64 x.at_]
def fmV (x : Fm) (a b : Value) : List Value := [.string x.word, a, b, .int .i64 x.at_]
def RowAt (W : World) (b a s : Nat) (n : Nat) (f : Nat -> List Value) : Prop := ∀ i, i < n -> ∀ j u, (f i)[j]? = some u -> W.cell? ⟨b, a + i * s + j, none⟩ = some u
theorem cell_turned {C : Nat -> Prop} {W W' : World} (h : Turned C W W') {b o : Nat} {u : Value} (hb : ¬ C b) (hc : W.cell? ⟨b, o, none⟩ = some u) : W'.cell? ⟨b, o, none⟩ = some u := by
 have hlt : b < W.heap.size := by
  rcases Nat.lt_or_ge b W.heap.size with h1 | h1
  ·exact h1
  ·simp [World.cell?, h1] at hc
 have hb2 := h.block b hlt hb
 simp only [World.cell?] at hc ⊢
 rw [hb2]
 exact hc
theorem RowAt.turned {C : Nat -> Prop} {W W' : World} {b a s n : Nat} {f : Nat -> List Value} (h : RowAt W b a s n f) (ht : Turned C W W') (hb : ¬ C b) : RowAt W' b a s n f := fun i hi j u hu => cell_turned ht hb (h i hi j u hu)
inductive KidsAt (W : World) (N : Nat -> Prop) : List Ex -> Value -> Prop
 | nil (p : Option Addr) (c : Nat) : KidsAt W N [] (.slice p 0 c)
 | some (kids : List Ex) (b a c : Nat) (k : Nat -> Value) (hN : N b) (hl : kids.length <= maxLen) (hcell : RowAt W b a 5 kids.length fun i => match kids[i]? with | .some x => exV x (k i) | .none => [])
   (hk : ∀ i x, kids[i]? = .some x -> KidsAt W N x.kids (k i)) : KidsAt W N kids (.slice (some ⟨b, a, none⟩) kids.length c)
inductive ArgsAt (W : World) (N : Nat -> Prop) : List Ar -> Value -> Prop
 | nil (p : Option Addr) (c : Nat) : ArgsAt W N [] (.slice p 0 c)
 | some (as_ : List Ar) (b a c : Nat) (k : Nat -> Value) (hN : N b) (hl : as_.length <= maxLen) (hcell : RowAt W b a 9 as_.length fun i => match as_[i]? with | .some x => arV x (k i) | .none => [])
   (hk : ∀ i x, as_[i]? = .some x -> KidsAt W N x.e.kids (k i)) : ArgsAt W N as_ (.slice (some ⟨b, a, none⟩) as_.length c)
inductive FormsAt (W : World) (N : Nat -> Prop) : List Fm -> Value -> Prop
 | nil (p : Option Addr) (c : Nat) : FormsAt W N [] (.slice p 0 c)
 | some (fs : List Fm) (b a c : Nat) (k l : Nat -> Value) (hN : N b) (hl : fs.length <= maxLen) (hcell : RowAt W b a 4 fs.length fun i => match fs[i]? with | .some x => fmV x (k i) (l i) | .none => [])
   (ha : ∀ i x, fs[i]? = .some x -> ArgsAt W N x.args (k i)) (hb : ∀ i x, fs[i]? = .some x -> FormsAt W N x.body (l i)) : FormsAt W N fs (.slice (some ⟨b, a, none⟩) fs.length c)
theorem KidsAt.move {W W' : World} {N M C : Nat -> Prop} {l : List Ex} {v : Value} (h : KidsAt W N l v) (ht : Turned C W W') (hC : ∀ b, N b -> ¬ C b) (hM : ∀ b, N b -> b < W.heap.size -> M b) : KidsAt W' M l v := by
 induction h with
 | nil p c => exact .nil p c
 | some kids b a c k hN hl hcell hk ih =>
  cases kids with
  | nil => exact .nil _ _
  | cons x xs =>
   have h0 := hcell 0 (by simp) 0 (.int .i64 x.op) (by simp [exV])
   have hlt : b < W.heap.size := by
    rcases Nat.lt_or_ge b W.heap.size with h1 | h1
    ·exact h1
    ·simp [World.cell?, h1] at h0
   exact .some _ b a c k (hM b hN hlt) hl (hcell.turned ht (hC b hN)) ih
theorem ArgsAt.move {W W' : World} {N M C : Nat -> Prop} {l : List Ar} {v : Value} (h : ArgsAt W N l v) (ht : Turned C W W') (hC : ∀ b, N b -> ¬ C b) (hM : ∀ b, N b -> b < W.heap.size -> M b) : ArgsAt W' M l v := by
 cases h with
 | nil p c => exact .nil p c
 | some _ b a c k hN hl hcell hk =>
  cases l with
  | nil => exact .nil _ _
  | cons x xs =>
   have h0 := hcell 0 (by simp) 0 (.int .i64 x.kind) (by simp [arV])
   have hlt : b < W.heap.size := by
    rcases Nat.lt_or_ge b W.heap.size with h1 | h1
    ·exact h1
    ·simp [World.cell?, h1] at h0
   exact .some _ b a c k (hM b hN hlt) hl (hcell.turned ht (hC b hN)) fun i x hx => (hk i x hx).move ht hC hM
theorem FormsAt.move {W W' : World} {N M C : Nat -> Prop} {l : List Fm} {v : Value} (h : FormsAt W N l v) (ht : Turned C W W') (hC : ∀ b, N b -> ¬ C b) (hM : ∀ b, N b -> b < W.heap.size -> M b) : FormsAt W' M l v := by
 induction h with
 | nil p c => exact .nil p c
 | some fs b a c k m hN hl hcell ha hb ih =>
  cases fs with
  | nil => exact .nil _ _
  | cons x xs =>
   have h0 := hcell 0 (by simp) 0 (.string x.word) (by simp [fmV])
   have hlt : b < W.heap.size := by
    rcases Nat.lt_or_ge b W.heap.size with h1 | h1
    ·exact h1
    ·simp [World.cell?, h1] at h0
   exact .some _ b a c k m (hM b hN hlt) hl (hcell.turned ht (hC b hN)) (fun i x hx => (ha i x hx).move ht hC hM) ih
theorem KidsAt.shape {W : World} {N : Nat -> Prop} {l : List Ex} {v : Value} (h : KidsAt W N l v) : ∃ p c, v = .slice p l.length c := by
 cases h with
 | nil p c => exact ⟨p, c, rfl⟩
 | some => exact ⟨_, _, rfl⟩
theorem ArgsAt.shape {W : World} {N : Nat -> Prop} {l : List Ar} {v : Value} (h : ArgsAt W N l v) : ∃ p c, v = .slice p l.length c := by
 cases h with
 | nil p c => exact ⟨p, c, rfl⟩
 | some => exact ⟨_, _, rfl⟩
theorem FormsAt.shape {W : World} {N : Nat -> Prop} {l : List Fm} {v : Value} (h : FormsAt W N l v) : ∃ p c, v = .slice p l.length c := by
 cases h with
 | nil p c => exact ⟨p, c, rfl⟩
 | some => exact ⟨_, _, rfl⟩
theorem kids_of_owns {W : World} {base e n : Nat} {v : Value} {N : Nat -> Prop} {ps : List (Ex × Value)} (h : W.ownsRow base e 5 v n (ps.flatMap fun p => exV p.1 p.2)) (hn : n = ps.length) (hN : ∀ g, v.ownBlock = some g -> N g) (hk : ∀ p ∈ ps, KidsAt W N p.1.kids p.2) : KidsAt W N (ps.map (·.1)) v := by
 subst hn
 rcases owns_cell (enc := fun p : Ex × Value => exV p.1 p.2) (fun _ => rfl) h with ⟨rfl, rfl⟩ | ⟨g, cap, rfl, h1, h2, h3, h4, h5⟩
 ·exact .nil _ _
 ·have := KidsAt.some (W := W) (N := N) (ps.map (·.1)) g 0 cap (fun i => ((ps[i]?).map (·.2)).getD undef) (hN g (by simp [Value.ownBlock])) (by rw [List.length_map]; omega) (fun i hi j u hu => ?_) (fun i x hx => ?_)
  ·simpa using this
  ·simp only [List.length_map] at hi
   simp only [List.getElem?_map, List.getElem?_eq_getElem hi, Option.map_some, Option.getD_some] at hu
   have hj : j < 5 := by
    have := (List.getElem?_eq_some_iff.1 hu).1
    simpa [exV] using this
   rw [h5 i j hi hj]
   exact hu
  ·simp only [List.getElem?_map] at hx ⊢
   obtain ⟨p, hp, rfl⟩ := Option.map_eq_some_iff.1 hx
   simp only [hp, Option.map_some, Option.getD_some]
   exact hk p (List.mem_of_getElem? hp)
theorem args_of_owns {W : World} {base e n : Nat} {v : Value} {N : Nat -> Prop} {ps : List (Ar × Value)} (h : W.ownsRow base e 9 v n (ps.flatMap fun p => arV p.1 p.2)) (hn : n = ps.length) (hN : ∀ g, v.ownBlock = some g -> N g) (hk : ∀ p ∈ ps, KidsAt W N p.1.e.kids p.2) : ArgsAt W N (ps.map (·.1)) v := by
 subst hn
 rcases owns_cell (enc := fun p : Ar × Value => arV p.1 p.2) (fun _ => rfl) h with ⟨rfl, rfl⟩ | ⟨g, cap, rfl, h1, h2, h3, h4, h5⟩
 ·exact .nil _ _
 ·have := ArgsAt.some (W := W) (N := N) (ps.map (·.1)) g 0 cap (fun i => ((ps[i]?).map (·.2)).getD undef) (hN g (by simp [Value.ownBlock])) (by rw [List.length_map]; omega) (fun i hi j u hu => ?_) (fun i x hx => ?_)
  ·simpa using this
  ·simp only [List.length_map] at hi
   simp only [List.getElem?_map, List.getElem?_eq_getElem hi, Option.map_some, Option.getD_some] at hu
   have hj : j < 9 := by
    have := (List.getElem?_eq_some_iff.1 hu).1
    simpa [arV] using this
   rw [h5 i j hi hj]
   exact hu
  ·simp only [List.getElem?_map] at hx ⊢
   obtain ⟨p, hp, rfl⟩ := Option.map_eq_some_iff.1 hx
   simp only [hp, Option.map_some, Option.getD_some]
   exact hk p (List.mem_of_getElem? hp)
theorem forms_of_owns {W : World} {base e n : Nat} {v : Value} {N : Nat -> Prop} {ps : List (Fm × Value × Value)} (h : W.ownsRow base e 4 v n (ps.flatMap fun p => fmV p.1 p.2.1 p.2.2)) (hn : n = ps.length) (hN : ∀ g, v.ownBlock = some g -> N g) (ha : ∀ p ∈ ps, ArgsAt W N p.1.args p.2.1) (hb : ∀ p ∈ ps, FormsAt W N p.1.body p.2.2) : FormsAt W N (ps.map (·.1)) v := by
 subst hn
 rcases owns_cell (enc := fun p : Fm × Value × Value => fmV p.1 p.2.1 p.2.2) (fun _ => rfl) h with ⟨rfl, rfl⟩ | ⟨g, cap, rfl, h1, h2, h3, h4, h5⟩
 ·exact .nil _ _
 ·have := FormsAt.some (W := W) (N := N) (ps.map (·.1)) g 0 cap (fun i => ((ps[i]?).map (·.2.1)).getD undef) (fun i => ((ps[i]?).map (·.2.2)).getD undef) (hN g (by simp [Value.ownBlock])) (by rw [List.length_map]; omega) (fun i hi j u hu => ?_) (fun i x hx => ?_) (fun i x hx => ?_)
  ·simpa using this
  ·simp only [List.length_map] at hi
   simp only [List.getElem?_map, List.getElem?_eq_getElem hi, Option.map_some, Option.getD_some] at hu
   have hj : j < 4 := by
    have := (List.getElem?_eq_some_iff.1 hu).1
    simpa [fmV] using this
   rw [h5 i j hi hj]
   exact hu
  ·simp only [List.getElem?_map] at hx ⊢
   obtain ⟨p, hp, rfl⟩ := Option.map_eq_some_iff.1 hx
   simp only [hp, Option.map_some, Option.getD_some]
   exact ha p (List.mem_of_getElem? hp)
  ·simp only [List.getElem?_map] at hx ⊢
   obtain ⟨p, hp, rfl⟩ := Option.map_eq_some_iff.1 hx
   simp only [hp, Option.map_some, Option.getD_some]
   exact hb p (List.mem_of_getElem? hp)
def sgT (s : ByteArray) : Tok := ⟨4, 0, s, 0⟩
def nmT (s : ByteArray) : Tok := ⟨1, 0, s, 0⟩
def nuT (n : Int) : Tok := ⟨2, 0, noB, n⟩
def txT (s : ByteArray) : Tok := ⟨3, 0, s, 0⟩
def letterB (c : UInt8) : Bool := (decide (97 <= c) && decide (c <= 122)) || (decide (65 <= c) && decide (c <= 90)) || c == 95
def digitB (c : UInt8) : Bool := decide (48 <= c) && decide (c <= 57)
def nameTo (s : ByteArray) : Nat -> Bool
 | 0 => decide (0 < s.size) && decide (s.size <= 32)
 | k + 1 => nameTo s k && (letterB (s.data.toList.getD k 0) || (decide (0 < k) && digitB (s.data.toList.getD k 0)))
def badName (s : ByteArray) : Bool := !nameTo s s.size
def textTo (s : ByteArray) : Nat -> Bool
 | 0 => decide (200 < s.size)
 | k + 1 => textTo s k || (s.data.toList.getD k 0 != 10 && (decide (s.data.toList.getD k 0 < 32) || decide (126 < s.data.toList.getD k 0)))
def badText (s : ByteArray) : Bool := textTo s s.size
def badNum (n : Int) : Bool := decide (n < 0) || decide (999999999999999 < n)
def lvlX (op : Int) : Nat := if op = 20 then 0 else if op = 5 then 3 else if op = 6 then 7 else match opRows.find? fun r => r.2.1 == op with | some r => r.2.2 | none => 8
abbrev Pr := List Tok × Bool
def Pr.app (a b : Pr) : Pr := (a.1 ++ b.1, a.2 || b.2)
def opndX (need : Nat) (op : Int) (p : Pr) : Pr := if need <= lvlX op then p else (sgT ⟨#[40]⟩ :: (p.1 ++ [sgT ⟨#[41]⟩]), p.2)
def callX : Nat -> List (Int × Pr) -> Pr
 | _, [] => ([], false)
 | k, (op, p) :: r => Pr.app (if 0 < k then [sgT ⟨#[44]⟩] else [], false) (Pr.app (opndX 0 op p) (callX (k + 1) r))
def headX (op n : Int) (s : ByteArray) (K : List (Int × Pr)) : Pr :=
 if op = 1 then ([nuT n], badNum n)
 else if op = 2 then ([txT s], badText s)
 else if op = 3 then ([nmT s], badName s)
 else if op = 4 then Pr.app ([nmT s, sgT ⟨#[40]⟩], badName s) (Pr.app (callX 0 K) ([sgT ⟨#[41]⟩], false))
 else match K with
  | [(p, a)] => if op = 5 then Pr.app ([sgT ⟨#[33]⟩], false) (opndX 3 p a) else if op = 6 then Pr.app ([sgT ⟨#[45]⟩], false) (opndX 7 p a) else ([], true)
  | [(p, a), (q, b)] => match opRows.find? fun r => r.2.1 == op with
   | some r => Pr.app (opndX (if r.2.2 = 4 then 5 else r.2.2) p a) (Pr.app ([sgT r.1], false) (opndX (r.2.2 + 1) q b))
   | none => ([], true)
  | [(p, a), (q, b), (r, c)] => if op = 20 then Pr.app (opndX 1 p a) (Pr.app ([sgT ⟨#[63]⟩], false) (Pr.app (opndX 0 q b) (Pr.app ([sgT ⟨#[58]⟩], false) (opndX 0 r c)))) else ([], true)
  | _ => ([], true)
mutual
def showX : Ex -> Int × Pr
 | .mk op n s ks _ => (op, headX op n s (showXs ks))
def showXs : List Ex -> List (Int × Pr)
 | [] => []
 | x :: xs => showX x :: showXs xs
end
def showA (a : Ar) : Pr :=
 if a.kind = 1 then ([nmT a.s], badName a.s)
 else if a.kind = 2 then if a.n < 0 then ([sgT ⟨#[45]⟩, nuT (max (wrap64 (-a.n)) 0)], badNum (max (wrap64 (-a.n)) 0) || decide (a.n < -999999999999999)) else ([nuT a.n], badNum a.n)
 else if a.kind = 3 then ([txT a.s], badText a.s)
 else if a.kind = 4 then ([sgT ⟨#[45, 62]⟩], false)
 else if a.kind = 5 then (sgT ⟨#[40]⟩ :: ((showX a.e).2.1 ++ [sgT ⟨#[41]⟩]), (showX a.e).2.2)
 else ([], true)
def showAs : List Ar -> Pr
 | [] => ([], false)
 | a :: as_ => Pr.app (showA a) (showAs as_)
mutual
def showF : Fm -> Pr
 | .mk w as_ fs _ => Pr.app ([nmT w], badName w) (Pr.app (showAs as_) (if fs.isEmpty then ([sgT ⟨#[59]⟩], false) else Pr.app ([sgT ⟨#[123]⟩], false) (Pr.app (showFs fs) ([sgT ⟨#[125]⟩], false))))
def showFs : List Fm -> Pr
 | [] => ([], false)
 | x :: xs => Pr.app (showF x) (showFs xs)
end
theorem Pr.app_nil (a : Pr) : Pr.app a ([], false) = a := by simp [Pr.app]
theorem Pr.nil_app (a : Pr) : Pr.app ([], false) a = a := by simp [Pr.app]
theorem Pr.app_assoc (a b c : Pr) : Pr.app (Pr.app a b) c = Pr.app a (Pr.app b c) := by simp [Pr.app, Bool.or_assoc]
theorem showXs_map (l : List Ex) : showXs l = l.map showX := by
 induction l with
 | nil => rfl
 | cons x xs ih => simp [showXs, ih]
attribute [local go_sem] Oper.semAt_some
def atT (ts : List Tok) (k : Nat) : Int := match ts[k]? with | .some t => t.at_ | .none => 0
def stopE (ts : List Tok) (k : Nat) (c : Int) : PanicEntry := { v := .iface 106 (.agg #[(.int .i64 (atT ts k)), .int .i64 c]), recovered := false }
def tokRow (ts : List Tok) (i : Nat) : List Value := match ts[i]? with | .some t => tokV t | .none => []
theorem field_tok1 (a b c d : Value) (w : World) : (Instr.field 68 (.agg #[a, b, c, d]) 1).run Tryz.prog w = .ok b w := by kernel_rfl
theorem field_tok2 (a b c d : Value) (w : World) : (Instr.field 68 (.agg #[a, b, c, d]) 2).run Tryz.prog w = .ok c w := by kernel_rfl
theorem field_tok3 (a b c d : Value) (w : World) : (Instr.field 68 (.agg #[a, b, c, d]) 3).run Tryz.prog w = .ok d w := by kernel_rfl
structure PS (B g cap : Nat) (ts : List Tok) (W : World) (k : Nat) (nf : Int) : Prop where
 box : W.heap[B]? = some (.cells #[.slice (some ⟨g, k * 4, none⟩) (ts.length - k) (cap - k), .int .i64 nf] 71 (0, 0))
 toks : RowAt W g 0 4 ts.length (tokRow ts)
 ne : g ≠ B
 ok : TokOK ts
 lt : k < ts.length
 cap1 : ts.length <= cap
 cap2 : cap <= maxLen
section
variable {B g cap : Nat} {ts : List Tok} {W W' : World} {k : Nat} {nf : Int}
theorem PS.ltB (h : PS B g cap ts W k nf) : B < W.heap.size := getElem?_lt h.box
theorem PS.cells (h : PS B g cap ts W k nf) : W.cell? ⟨B, 0, none⟩ = some (.slice (some ⟨g, k * 4, none⟩) (ts.length - k) (cap - k)) /\ W.cell? ⟨B, 1, none⟩ = some (.int .i64 nf) := by
 have := h.box
 simp [World.cell?, this]
theorem PS.free (h : PS B g cap ts W k nf) (o : Nat) : W.frozen? ⟨B, o, none⟩ = false := by
 have := h.box
 simp [World.frozen?, this]
theorem PS.tok (h : PS B g cap ts W k nf) {t : Tok} (ht : ts[k]? = some t) : W.cell? ⟨g, k * 4, none⟩ = some (.int .i64 t.kind) /\ W.cell? ⟨g, k * 4 + 1, none⟩ = some (.int .i64 t.at_) /\ W.cell? ⟨g, k * 4 + 2, none⟩ = some (.string t.s) /\ W.cell? ⟨g, k * 4 + 3, none⟩ = some (.int .i64 t.n) := by
 have hr := h.toks k h.lt
 simp only [tokRow, ht, tokV, Nat.zero_add] at hr
 exact ⟨hr 0 _ rfl, hr 1 _ rfl, hr 2 _ rfl, hr 3 _ rfl⟩
theorem PS.moved {C : Nat -> Prop} (h : PS B g cap ts W k nf) (ht : Turned C W W') (hg : ¬ C g) {j : Nat} {mf : Int} (hj : j < ts.length) (hb : W'.heap[B]? = some (.cells #[.slice (some ⟨g, j * 4, none⟩) (ts.length - j) (cap - j), .int .i64 mf] 71 (0, 0))) : PS B g cap ts W' j mf :=
 ⟨hb, h.toks.turned ht hg, h.ne, h.ok, hj, h.cap1, h.cap2⟩
theorem PS.same {C : Nat -> Prop} (h : PS B g cap ts W k nf) (ht : Turned C W W') (hC : ∀ b, C b -> W.heap.size <= b) : PS B g cap ts W' k nf := by
 have hB := h.ltB
 have hg : g < W.heap.size := by
  obtain ⟨t, ht'⟩ := some_of_lt h.lt
  have h0 := (h.tok ht').1
  rcases Nat.lt_or_ge g W.heap.size with h1 | h1
  ·exact h1
  ·simp [World.cell?, h1] at h0
 exact h.moved ht (fun hc => by have := hC g hc; omega) h.lt ((ht.block B hB (fun hc => by have := hC B hc; omega)).trans h.box)
theorem PS.ltg (h : PS B g cap ts W k nf) : g < W.heap.size := by
 obtain ⟨t, ht'⟩ := some_of_lt h.lt
 have h0 := (h.tok ht').1
 rcases Nat.lt_or_ge g W.heap.size with h1 | h1
 ·exact h1
 ·simp [World.cell?, h1] at h0
end
theorem atT_of {ts : List Tok} {k : Nat} {t : Tok} (h : ts[k]? = some t) : atT ts k = t.at_ := by unfold atT; rw [h]
theorem is_ps {B g cap : Nat} {ts : List Tok} {k : Nat} {nf : Int} {w : World} {t : Tok} (h : PS B g cap ts w k nf) (ht : ts[k]? = some t) (s : ByteArray) :
  Calls Tryz.prog 53 #[.pointer (some ⟨B, 0, none⟩), .string s] w fun e w' => e = .returned (.bool (isS t s)) /\ w = w' := by
 obtain ⟨c0, c1⟩ := h.cells
 obtain ⟨t0, t1, t2, t3⟩ := h.tok ht
 have hl := h.lt
 obtain ⟨m, hm⟩ : ∃ m, ts.length - k = m + 1 := ⟨ts.length - k - 1, by omega⟩
 rw [hm] at c0
 clear ht h hl hm
 unfold isS
 by_cases hk : t.kind = 4
 ·have bk : (t.kind == 4) = true := by simpa using hk
  go_enter Tryz.func53, Tryz.ntmps53
  go_wp2
  go_ret
  exact ⟨by simp [hk, ByteArray.toList_eq], rfl⟩
 ·have bk : (t.kind == 4) = false := by simpa using hk
  go_enter Tryz.func53, Tryz.ntmps53
  go_wp2
  go_ret
  exact ⟨by simp [hk], rfl⟩
theorem fail_ps {B g cap : Nat} {ts : List Tok} {k : Nat} {nf : Int} {w : World} (h : PS B g cap ts w k nf) (c : Int) :
  Calls Tryz.prog 51 #[.pointer (some ⟨B, 0, none⟩), .int .i64 c] w fun e w' => e = .panicked [stopE ts k c] /\ w = w' := by
 obtain ⟨t, ht⟩ := some_of_lt h.lt
 obtain ⟨c0, c1⟩ := h.cells
 obtain ⟨t0, t1, t2, t3⟩ := h.tok ht
 have hl := h.lt
 obtain ⟨m, hm⟩ : ∃ m, ts.length - k = m + 1 := ⟨ts.length - k - 1, by omega⟩
 rw [hm] at c0
 have hE : Hid (stopE ts k c = { v := .iface 106 (.agg #[.int .i64 t.at_, .int .i64 c]), recovered := false }) := by show _ = _; unfold stopE; rw [atT_of ht]
 clear ht h hl hm
 go_enter Tryz.func51, Tryz.ntmps51
 go_wp2
 rw [hE.out]
 exact ⟨rfl, rfl, rfl⟩
theorem next_ps {B g cap : Nat} {ts : List Tok} {k : Nat} {nf : Int} {w : World} {t : Tok} (h : PS B g cap ts w k nf) (ht : ts[k]? = some t) (hk : k + 1 < ts.length) :
  Calls Tryz.prog 52 #[.pointer (some ⟨B, 0, none⟩)] w fun e w' => e = .returned (.agg #[.int .i64 t.kind, .int .i64 t.at_, .string t.s, .int .i64 t.n]) /\ PS B g cap ts w' (k + 1) nf /\ Turned (fun b => b = B) w w' := by
 obtain ⟨c0, c1⟩ := h.cells
 have f0 := h.free 0
 obtain ⟨t0, t1, t2, t3⟩ := h.tok ht
 have hc1 := h.cap1
 have hc2 := h.cap2
 have hg := h.ltg
 have hB := h.ltB
 obtain ⟨m, hm⟩ : ∃ m, ts.length - k = m + 1 := ⟨ts.length - k - 1, by omega⟩
 obtain ⟨c, hc⟩ : ∃ c, cap - k = c + 1 := ⟨cap - k - 1, by omega⟩
 rw [hm, hc] at c0
 have H := Lib.hid h
 have hmc : m <= c := by omega
 clear ht h
 go_enter Tryz.func52, Tryz.ntmps52
 go_wp2
 refine bodyPost_ret (v := .agg #[.int .i64 t.kind, .int .i64 t.at_, .string t.s, .int .i64 t.n]) (by simp [results, Tryz.results52, go_sem]) rfl ?_
 have hT : Turned (fun b => b = B) w (((w.setCell ⟨B, 0, none⟩ (.slice (some ⟨g, k * 4 + 4, none⟩) m c)).alloc (.cells #[.int .i64 t.kind, .int .i64 t.at_, .string t.s, .int .i64 t.n] 68)).alloc (.cells #[.int .i64 t.kind, .int .i64 t.at_, .string t.s, .int .i64 t.n] 68)) := (((Turned.refl (fun b => b = B) w).setCell (p := ⟨B, 0, none⟩) rfl _).alloc _).alloc _
 refine ⟨rfl, H.out.moved hT H.out.ne hk ?_, hT⟩
 have hsz : B < (w.setCell ⟨B, 0, none⟩ (.slice (some ⟨g, k * 4 + 4, none⟩) m c)).heap.size := by simpa using hB
 have hb := H.out.box
 rw [hao _ _ (by simp; omega), heap_alloc_old _ _ hsz]
 ·simp only [World.setCell, Array.getElem?_modify, hb]
  have e1 : (k + 1) * 4 = k * 4 + 4 := by omega
  have e2 : ts.length - (k + 1) = m := by omega
  have e3 : cap - (k + 1) = c := by omega
  simp [e1, e2, e3]
theorem need_ps {B g cap : Nat} {ts : List Tok} {k : Nat} {nf : Int} {w : World} {t : Tok} (h : PS B g cap ts w k nf) (ht : ts[k]? = some t) (s : ByteArray) (hs : isS t s = true) :
  Calls Tryz.prog 58 #[.pointer (some ⟨B, 0, none⟩), .string s] w fun e w' => e = .returned (.tuple #[]) /\ PS B g cap ts w' (k + 1) nf /\ Turned (fun b => b = B) w w' := by
 have HI := Lib.hid (is_ps h ht s)
 have HN := Lib.hid (next_ps h ht (h.ok.sign ht hs))
 rw [hs] at HI
 clear h ht hs
 go_enter Tryz.func58, Tryz.ntmps58
 go_wp2_with (first | (go_at_call 53; refine HI.out.mono ?_; rintro e w' ⟨rfl, rfl⟩) | (go_at_call 52; refine HN.out.mono ?_; rintro e w' ⟨rfl, hp, ht⟩))
 go_end0
 exact ⟨rfl, hp, ht⟩
theorem need_no {B g cap : Nat} {ts : List Tok} {k : Nat} {nf : Int} {w : World} {t : Tok} (h : PS B g cap ts w k nf) (ht : ts[k]? = some t) (s : ByteArray) (hs : isS t s = false) :
  Calls Tryz.prog 58 #[.pointer (some ⟨B, 0, none⟩), .string s] w fun e w' => e = .panicked [stopE ts k 5] /\ w = w' := by
 have HI := Lib.hid (is_ps h ht s)
 have HN := Lib.hid (fail_ps h 5)
 rw [hs] at HI
 clear h ht hs
 go_enter Tryz.func58, Tryz.ntmps58
 go_wp2_with (first | (go_at_call 53; refine HI.out.mono ?_; rintro e w' ⟨rfl, rfl⟩) | (go_at_call 51; refine HN.out.mono ?_; rintro e w' ⟨rfl, rfl⟩))
 exact ⟨rfl, rfl, rfl⟩
theorem number_ps {B g cap : Nat} {ts : List Tok} {k : Nat} {nf : Int} {w : World} {t : Tok} (h : PS B g cap ts w k nf) (ht : ts[k]? = some t) (hs : t.kind = 2) :
  Calls Tryz.prog 87 #[.pointer (some ⟨B, 0, none⟩)] w fun e w' => e = .returned (.int .i64 t.n) /\ PS B g cap ts w' (k + 1) nf /\ Turned (fun b => b = B) w w' := by
 obtain ⟨c0, c1⟩ := h.cells
 obtain ⟨t0, t1, t2, t3⟩ := h.tok ht
 have hl := h.lt
 obtain ⟨m, hm⟩ : ∃ m, ts.length - k = m + 1 := ⟨ts.length - k - 1, by omega⟩
 rw [hm] at c0
 have HN := Lib.hid (next_ps h ht (h.ok.next _ _ ht (by rw [hs]; decide)))
 rw [hs] at t0
 have hf := field_tok3
 clear h ht hs hl hm
 go_enter Tryz.func87, Tryz.ntmps87
 go_wp2_with (go_at_call 52; refine HN.out.mono ?_; rintro e w' ⟨rfl, hp, ht⟩)
 go_ret
 exact ⟨rfl, hp, ht⟩
theorem number_no {B g cap : Nat} {ts : List Tok} {k : Nat} {nf : Int} {w : World} {t : Tok} (h : PS B g cap ts w k nf) (ht : ts[k]? = some t) (hs : ¬ t.kind = 2) :
  Calls Tryz.prog 87 #[.pointer (some ⟨B, 0, none⟩)] w fun e w' => e = .panicked [stopE ts k 5] /\ w = w' := by
 obtain ⟨c0, c1⟩ := h.cells
 obtain ⟨t0, t1, t2, t3⟩ := h.tok ht
 have hl := h.lt
 obtain ⟨m, hm⟩ : ∃ m, ts.length - k = m + 1 := ⟨ts.length - k - 1, by omega⟩
 rw [hm] at c0
 have HN := Lib.hid (fail_ps h 5)
 have bk : (t.kind == 2) = false := by simpa using hs
 clear h ht hl hm
 go_enter Tryz.func87, Tryz.ntmps87
 go_wp2_with (go_at_call 51; refine HN.out.mono ?_; rintro e w' ⟨rfl, rfl⟩)
 exact ⟨rfl, rfl, rfl⟩
theorem begins_ps {B g cap : Nat} {ts : List Tok} {k : Nat} {nf : Int} {w : World} {t : Tok} (h : PS B g cap ts w k nf) (ht : ts[k]? = some t) :
  Calls Tryz.prog 54 #[.pointer (some ⟨B, 0, none⟩)] w fun e w' => e = .returned (.bool (beginsT t)) /\ w = w' := by
 obtain ⟨c0, c1⟩ := h.cells
 obtain ⟨t0, t1, t2, t3⟩ := h.tok ht
 have hl := h.lt
 obtain ⟨m, hm⟩ : ∃ m, ts.length - k = m + 1 := ⟨ts.length - k - 1, by omega⟩
 rw [hm] at c0
 have HI := Lib.hid (is_ps h ht)
 have HB : Hid (beginsT t = (t.kind == 1 || t.kind == 2 || t.kind == 3 || isS t ⟨#[40]⟩ || isS t ⟨#[45]⟩)) := Lib.hid rfl
 clear h ht hl hm
 generalize beginsT t = bt at HB ⊢
 by_cases h1 : t.kind = 1
 ·have k1 : (t.kind == 1) = true := by simpa using h1
  have HE : Hid (bt = true) := by show _ = _; rw [HB.out, k1]; simp
  clear h1 HB
  go_enter Tryz.func54, Tryz.ntmps54
  go_wp2_with fail
  go_ret
  rw [HE.out]; exact ⟨rfl, rfl⟩
 have k1 : (t.kind == 1) = false := by simpa using h1
 by_cases h2 : t.kind = 2
 ·have k2 : (t.kind == 2) = true := by simpa using h2
  have HE : Hid (bt = true) := by show _ = _; rw [HB.out, k2]; simp
  clear h2 h1 HB
  go_enter Tryz.func54, Tryz.ntmps54
  go_wp2_with fail
  go_ret
  rw [HE.out]; exact ⟨rfl, rfl⟩
 have k2 : (t.kind == 2) = false := by simpa using h2
 by_cases h3 : t.kind = 3
 ·have k3 : (t.kind == 3) = true := by simpa using h3
  have HE : Hid (bt = true) := by show _ = _; rw [HB.out, k3]; simp
  clear h3 h2 h1 HB
  go_enter Tryz.func54, Tryz.ntmps54
  go_wp2_with fail
  go_ret
  rw [HE.out]; exact ⟨rfl, rfl⟩
 have k3 : (t.kind == 3) = false := by simpa using h3
 have HE : Hid (bt = (isS t ⟨#[40]⟩ || isS t ⟨#[45]⟩)) := by show _ = _; rw [HB.out, k1, k2, k3]; simp
 clear h3 h2 h1 HB
 by_cases b1 : isS t ⟨#[40]⟩ = true
 ·have HE2 : Hid (bt = true) := by show _ = _; rw [HE.out, b1]; rfl
  go_enter Tryz.func54, Tryz.ntmps54
  go_wp2_with (go_at_call 53; refine (HI.out _).mono ?_; rintro e w' ⟨rfl, rfl⟩)
  go_ret
  rw [HE2.out]; exact ⟨rfl, rfl⟩
 ·have b1 : isS t ⟨#[40]⟩ = false := by simpa using b1
  have HE2 : Hid (bt = isS t ⟨#[45]⟩) := by show _ = _; rw [HE.out, b1]; rfl
  go_enter Tryz.func54, Tryz.ntmps54
  go_wp2_with (go_at_call 53; refine (HI.out _).mono ?_; rintro e w' ⟨rfl, rfl⟩)
  go_ret
  rw [HE2.out]; exact ⟨rfl, rfl⟩
def DeepR (ts : List Tok) (k : Nat) (r : Option Int) (e : Ending) : Prop := match r with | .none => e = .returned (.tuple #[]) | .some c => e = .panicked [stopE ts k c]
theorem deep_ps {B g cap : Nat} {ts : List Tok} {k : Nat} {nf : Int} {w : World} {t : Tok} (h : PS B g cap ts w k nf) (ht : ts[k]? = some t) (d : Int) (no : Bool) :
  Calls Tryz.prog 56 #[.pointer (some ⟨B, 0, none⟩), .int .i64 d, .bool no] w fun e w' => DeepR ts k (firstP t d no) e /\ w = w' := by
 have H0 := Lib.hid (begins_ps h ht)
 have H1 := Lib.hid (is_ps h ht ⟨#[33]⟩)
 have HN := Lib.hid (fail_ps h 5)
 have HM := Lib.hid (fail_ps h 2)
 have HB : Hid (firstP t d no = if !beginsT t && !(no && isS t ⟨#[33]⟩) then some 5 else if 30 < d then some 2 else none) := Lib.hid rfl
 clear h ht
 generalize firstP t d no = r at HB ⊢
 generalize beginsT t = b0 at H0 HB
 generalize isS t ⟨#[33]⟩ = b1 at H1 HB
 have HT : b0 = true \/ (no = true /\ b1 = true) -> Hid (Calls Tryz.prog 56 #[.pointer (some ⟨B, 0, none⟩), .int .i64 d, .bool no] w fun e w' => DeepR ts k r e /\ w = w') := by
  intro hb
  have hbb : (!b0 && !(no && b1)) = false := by rcases hb with rfl | ⟨rfl, rfl⟩ <;> simp
  by_cases hd : 30 < d
  ·have HE : Hid (r = some 2) := by show _ = _; rw [HB.out, hbb]; simp [hd]
   clear HB
   cases b0 with
   | true =>
    go_enter Tryz.func56, Tryz.ntmps56
    go_wp2_with (first | (go_at_call 54; refine H0.out.mono ?_; rintro e w' ⟨rfl, rfl⟩) | (go_at_call 51; refine HM.out.mono ?_; rintro e w' ⟨rfl, rfl⟩))
    rw [HE.out]
    exact ⟨rfl, rfl, rfl⟩
   | false =>
    obtain ⟨rfl, rfl⟩ : no = true /\ b1 = true := by simpa using hb
    go_enter Tryz.func56, Tryz.ntmps56
    go_wp2_with (first | (go_at_call 54; refine H0.out.mono ?_; rintro e w' ⟨rfl, rfl⟩) | (go_at_call 53; refine H1.out.mono ?_; rintro e w' ⟨rfl, rfl⟩) | (go_at_call 51; refine HM.out.mono ?_; rintro e w' ⟨rfl, rfl⟩))
    rw [HE.out]
    exact ⟨rfl, rfl, rfl⟩
  ·have HE : Hid (r = none) := by show _ = _; rw [HB.out, hbb]; simp [hd]
   clear HB
   cases b0 with
   | true =>
    go_enter Tryz.func56, Tryz.ntmps56
    go_wp2_with (first | (go_at_call 54; refine H0.out.mono ?_; rintro e w' ⟨rfl, rfl⟩))
    go_end0
    rw [HE.out]
    exact ⟨rfl, rfl⟩
   | false =>
    obtain ⟨rfl, rfl⟩ : no = true /\ b1 = true := by simpa using hb
    go_enter Tryz.func56, Tryz.ntmps56
    go_wp2_with (first | (go_at_call 54; refine H0.out.mono ?_; rintro e w' ⟨rfl, rfl⟩) | (go_at_call 53; refine H1.out.mono ?_; rintro e w' ⟨rfl, rfl⟩))
    go_end0
    rw [HE.out]
    exact ⟨rfl, rfl⟩
 cases b0 with
 | true => exact (HT (.inl rfl)).out
 | false =>
  cases no with
  | false =>
   have HE : Hid (r = some 5) := by show _ = _; rw [HB.out]; simp
   clear HT HB
   go_enter Tryz.func56, Tryz.ntmps56
   go_wp2_with (first | (go_at_call 54; refine H0.out.mono ?_; rintro e w' ⟨rfl, rfl⟩) | (go_at_call 51; refine HN.out.mono ?_; rintro e w' ⟨rfl, rfl⟩))
   rw [HE.out]
   exact ⟨rfl, rfl, rfl⟩
  | true =>
   cases b1 with
   | true => exact (HT (.inr ⟨rfl, rfl⟩)).out
   | false =>
    have HE : Hid (r = some 5) := by show _ = _; rw [HB.out]; simp
    clear HT HB
    go_enter Tryz.func56, Tryz.ntmps56
    go_wp2_with (first | (go_at_call 54; refine H0.out.mono ?_; rintro e w' ⟨rfl, rfl⟩) | (go_at_call 53; refine H1.out.mono ?_; rintro e w' ⟨rfl, rfl⟩) | (go_at_call 51; refine HN.out.mono ?_; rintro e w' ⟨rfl, rfl⟩))
    rw [HE.out]
    exact ⟨rfl, rfl, rfl⟩
structure SP (B g cap : Nat) (ts : List Tok) (w W : World) (L : List (Nat × Obj)) (K : List (List Ex × Value)) (k : Nat) (nf : Int) : Prop where
 ps : PS B g cap ts W k nf
 lays : Lays W L
 new : ∀ p ∈ L, w.heap.size <= p.1
 kids : ∀ q ∈ K, KidsAt W (fun b => w.heap.size <= b /\ ∀ p ∈ L, p.1 ≠ b) q.1 q.2
 tur : Turned (fun b => b = B) w W
 ltB : B < w.heap.size
 ltg : g < w.heap.size
 dist : (L.map (·.1)).Nodup
theorem dist_ne {L : List (Nat × Obj)} (h : (L.map (·.1)).Nodup) {i j : Nat} {p q : Nat × Obj} (hi : L[i]? = some p) (hj : L[j]? = some q) (hne : j ≠ i) : q.1 ≠ p.1 := by
 intro he
 have h1 : (L.map (·.1))[j]? = (L.map (·.1))[i]? := by simp [hi, hj, he]
 exact hne ((List.getElem?_inj (by simpa using (List.getElem?_eq_some_iff.1 hj).1) h).1 h1)
section
variable {B g cap : Nat} {ts : List Tok} {w W W' : World} {L : List (Nat × Obj)} {K : List (List Ex × Value)} {k j : Nat} {nf mf : Int}
theorem SP.start (h : PS B g cap ts w k nf) : Hid (SP B g cap ts w w [] [] k nf) :=
 Lib.hid ⟨h, Lays.nil _, (fun _ h => by cases h), (fun _ h => by cases h), Turned.refl _ _, h.ltB, h.ltg, by simp⟩
theorem Lays.turned {C : Nat -> Prop} (h : Lays W L) (ht : Turned C W W') (hC : ∀ p ∈ L, ¬ C p.1) : Lays W' L := fun p hp => (ht.block p.1 (getElem?_lt (h p hp)) (hC p hp)).trans (h p hp)
theorem SP.same (h : Hid (SP B g cap ts w W L K k nf)) (ht : Turned (fun _ => False) W W') : Hid (SP B g cap ts w W' L K k nf) :=
 Lib.hid ⟨h.out.ps.same ht (fun _ h => h.elim), h.out.lays.turned ht fun _ _ => id, h.out.new, fun q hq => (h.out.kids q hq).move ht (fun _ _ => id) (fun _ h _ => h), h.out.tur.trans (ht.mono fun _ h => h.elim), h.out.ltB, h.out.ltg, h.out.dist⟩
theorem SP.call (h : Hid (SP B g cap ts w W L K k nf)) (ht : Turned (fun b => b = B) W W') (hp : PS B g cap ts W' j mf) : Hid (SP B g cap ts w W' L K j mf) := by
 have hB := h.out.ltB
 exact Lib.hid ⟨hp, h.out.lays.turned ht fun p hp => (by have := h.out.new p hp; omega), h.out.new, fun q hq => (h.out.kids q hq).move ht (fun b hb => by have := hb.1; omega) (fun _ h _ => h), h.out.tur.trans ht, hB, h.out.ltg, h.out.dist⟩
theorem SP.kid (h : Hid (SP B g cap ts w W L K k nf)) {V : World} (hV : ∀ p ∈ L, p.1 < V.heap.size) (hw : w.heap.size <= V.heap.size) {l : List Ex} {v : Value} (hk : KidsAt W (fun b => V.heap.size <= b) l v) : Hid (SP B g cap ts w W L ((l, v) :: K) k nf) := by
 refine Lib.hid ⟨h.out.ps, h.out.lays, h.out.new, fun q hq => ?_, h.out.tur, h.out.ltB, h.out.ltg, h.out.dist⟩
 rcases List.mem_cons.1 hq with rfl | hq
 ·exact hk.move (Turned.refl (fun _ => False) _) (fun _ _ => id) (fun b hb _ => ⟨Nat.le_trans hw hb, fun p hp => by have := hV p hp; omega⟩)
 ·exact h.out.kids q hq
theorem SP.size (h : Hid (SP B g cap ts w W L K k nf)) : w.heap.size <= W.heap.size := h.out.tur.size
theorem SP.below (h : Hid (SP B g cap ts w W L K k nf)) : ∀ p ∈ L, p.1 < W.heap.size := fun p hp => getElem?_lt (h.out.lays p hp)
theorem SP.callK (h : Hid (SP B g cap ts w W L K k nf)) (ht : Turned (fun b => b = B) W W') (hp : PS B g cap ts W' j mf) {l : List Ex} {v : Value} (hk : KidsAt W' (fun b => W.heap.size <= b) l v) : Hid (SP B g cap ts w W' L ((l, v) :: K) j mf) :=
 SP.kid (V := W) (SP.call h ht hp) (SP.below h) (SP.size h) hk
theorem SP.box (h : Hid (SP B g cap ts w W L K k nf)) (o : Obj) : ∃ W1 b, W1 = W.alloc o /\ b = W.heap.size /\ Hid (SP B g cap ts w W1 ((b, o) :: L) K k nf) := by
 have ht : Turned (fun _ => False) W (W.alloc o) := (Turned.refl _ _).alloc _
 refine ⟨_, _, rfl, rfl, Lib.hid ⟨h.out.ps.same ht (fun _ h => h.elim), fun p hp => ?_, fun p hp => ?_, fun q hq => ?_, h.out.tur.trans (ht.mono fun _ h => h.elim), h.out.ltB, h.out.ltg, ?_⟩⟩
 ·rcases List.mem_cons.1 hp with rfl | hp
  ·exact World.alloc_heap_new _ _
  ·exact h.out.lays.turned ht (fun _ _ => id) p hp
 ·rcases List.mem_cons.1 hp with rfl | hp
  ·exact SP.size h
  ·exact h.out.new p hp
 ·refine (h.out.kids q hq).move ht (fun _ _ => id) (fun b hb hlt => ⟨hb.1, fun p hp => ?_⟩)
  rcases List.mem_cons.1 hp with rfl | hp
  ·exact fun h => by have : W.heap.size = b := h; omega
  ·exact hb.2 p hp
 ·rw [List.map_cons, List.nodup_cons]
  refine ⟨fun hm => ?_, h.out.dist⟩
  obtain ⟨p, hp, he⟩ := List.mem_map.1 hm
  have := SP.below h p hp
  have he2 : p.1 = W.heap.size := he
  omega
theorem mem_set_cases {α : Type} {l : List α} {i : Nat} {a p : α} (h : p ∈ l.set i a) : p = a \/ p ∈ l := by
 rcases List.mem_or_eq_of_mem_set h with h | h
 ·exact .inr h
 ·exact .inl h
theorem SP.put (h : Hid (SP B g cap ts w W L K k nf)) (i : Nat) {b : Nat} {o o' : Obj} (hi : L[i]? = some (b, o)) (ht : Turned (fun c => c = b) W W') (hb : W'.heap[b]? = some o') : Hid (SP B g cap ts w W' (L.set i (b, o')) K k nf) := by
 have hd : ∀ j p, L[j]? = some p -> j ≠ i -> p.1 ≠ b := fun j p hj hne => dist_ne h.out.dist hi hj hne
 have hm : (b, o) ∈ L := List.mem_of_getElem? hi
 have hwb : w.heap.size <= b := h.out.new _ hm
 have hB := h.out.ltB
 have hg := h.out.ltg
 have hblt := SP.below h _ hm
 refine Lib.hid ⟨?_, fun p hp => ?_, fun p hp => ?_, fun q hq => ?_, ?_, hB, hg, ?_⟩
 ·exact h.out.ps.moved ht (by omega) h.out.ps.lt ((ht.block B h.out.ps.ltB (by omega)).trans h.out.ps.box)
 ·obtain ⟨m, hm2⟩ := List.mem_iff_getElem?.1 hp
  rw [List.getElem?_set] at hm2
  split at hm2
  ·split at hm2
   ·cases hm2; exact hb
   ·cases hm2
  ·rename_i hne
   exact (ht.block p.1 (SP.below h p (List.mem_of_getElem? hm2)) (hd m p hm2 (Ne.symm hne))).trans (h.out.lays p (List.mem_of_getElem? hm2))
 ·rcases mem_set_cases hp with rfl | hp
  ·exact hwb
  ·exact h.out.new p hp
 ·refine (h.out.kids q hq).move ht (fun c hc => fun h => hc.2 _ hm h.symm) (fun c hc _ => ⟨hc.1, fun p hp => ?_⟩)
  rcases mem_set_cases hp with rfl | hp
  ·exact hc.2 (b, o) hm
  ·exact hc.2 p hp
 ·refine ⟨ht.os.trans h.out.tur.os, ht.tape.trans h.out.tur.tape, ht.output.trans h.out.tur.output, Nat.le_trans h.out.tur.size ht.size, fun c hc hn => ?_⟩
  exact (ht.block c (Nat.lt_of_lt_of_le hc h.out.tur.size) (by omega)).trans (h.out.tur.block c hc hn)
 ·have e : (L.set i (b, o')).map (·.1) = L.map (·.1) := by
   rw [List.map_set]
   have h1 : (L.map (·.1))[i]? = some b := by simp [hi]
   obtain ⟨h2, h3⟩ := List.getElem?_eq_some_iff.1 h1
   conv => lhs; rw [show b = (L.map (·.1))[i] from h3.symm]
   exact List.set_getElem_self h2
  rw [e]; exact h.out.dist
theorem SP.adopt {b t : Nat} {cs : Array Value} (h : Hid (SP B g cap ts w W ((b, .cells cs t (0, 0)) :: L) K k nf)) (xs : List (Ex × Value)) (hcs : cs.toList = xs.flatMap fun p => exV p.1 p.2) (hk : ∀ p ∈ xs, (p.1.kids, p.2) ∈ K) (c : Nat) (hxl : xs.length <= maxLen := by simp [maxLen]) : Hid (SP B g cap ts w W L ((xs.map (·.1), .slice (some ⟨b, 0, none⟩) xs.length c) :: K) k nf) := by
 have hd := h.out.dist
 rw [List.map_cons, List.nodup_cons] at hd
 have hb : W.heap[b]? = some (.cells cs t (0, 0)) := h.out.lays (b, .cells cs t (0, 0)) (List.mem_cons_self ..)
 have hnew : w.heap.size <= b := h.out.new _ (List.mem_cons_self ..)
 have old : ∀ q ∈ K, KidsAt W (fun c => w.heap.size <= c /\ ∀ p ∈ L, p.1 ≠ c) q.1 q.2 := fun q hq => (h.out.kids q hq).move (Turned.refl (fun _ => False) _) (fun _ _ => id) (fun _ hb _ => ⟨hb.1, fun p hp => hb.2 p (List.mem_cons_of_mem _ hp)⟩)
 refine Lib.hid ⟨h.out.ps, fun p hp => h.out.lays p (List.mem_cons_of_mem _ hp), fun p hp => h.out.new p (List.mem_cons_of_mem _ hp), fun q hq => ?_, h.out.tur, h.out.ltB, h.out.ltg, hd.2⟩
 rcases List.mem_cons.1 hq with rfl | hq
 ·have := KidsAt.some (W := W) (N := fun c => w.heap.size <= c /\ ∀ p ∈ L, p.1 ≠ c) (xs.map (·.1)) b 0 c (fun i => ((xs[i]?).map (·.2)).getD undef) ⟨hnew, fun p hp he => hd.1 (List.mem_map.2 ⟨p, hp, he⟩)⟩ (by rw [List.length_map]; exact hxl) (fun i hi j u hu => ?_) (fun i x hx => ?_)
  ·simpa using this
  ·simp only [List.length_map] at hi
   simp only [List.getElem?_map, List.getElem?_eq_getElem hi, Option.map_some, Option.getD_some] at hu
   have hj : j < 5 := by
    have := (List.getElem?_eq_some_iff.1 hu).1
    simpa [exV] using this
   have h2 := flatMap_at (fun p : Ex × Value => exV p.1 p.2) 5 (fun _ => rfl) xs i j hi hj
   rw [hu, <- hcs] at h2
   rw [Nat.zero_add]
   simp only [World.cell?, hb]
   simpa using h2
  ·simp only [List.getElem?_map] at hx ⊢
   obtain ⟨p, hp, rfl⟩ := Option.map_eq_some_iff.1 hx
   simp only [hp, Option.map_some, Option.getD_some]
   exact old _ (hk p (List.mem_of_getElem? hp))
 ·exact old q hq
theorem SP.dropK (h : Hid (SP B g cap ts w W L K k nf)) {K' : List (List Ex × Value)} (hK : ∀ q ∈ K', q ∈ K) : Hid (SP B g cap ts w W L K' k nf) :=
 Lib.hid ⟨h.out.ps, h.out.lays, h.out.new, fun q hq => h.out.kids q (hK q hq), h.out.tur, h.out.ltB, h.out.ltg, h.out.dist⟩
def lenOf (v : Value) : Nat := match v with | .slice _ n _ => n | _ => 0
theorem PS.len (h : PS B g cap ts W k nf) : lenOf ((W.cell? ⟨B, 0, none⟩).getD undef) = ts.length - k := by
 rw [h.cells.1]; rfl
theorem SP.kidAt (h : Hid (SP B g cap ts w W L K k nf)) (i : Nat) {l : List Ex} {v : Value} (hi : K[i]? = some (l, v)) : KidsAt W (fun b => w.heap.size <= b) l v :=
 (h.out.kids _ (List.mem_of_getElem? hi)).move (Turned.refl (fun _ => False) _) (fun _ _ => id) (fun _ hb _ => hb.1)
theorem SP.boxAt (h : Hid (SP B g cap ts w W L K k nf)) (i : Nat) {b : Nat} {o : Obj} (hi : L[i]? = some (b, o)) : W.heap[b]? = some o /\ w.heap.size <= b /\ b < W.heap.size :=
 ⟨h.out.lays.get i hi, h.out.new _ (List.mem_of_getElem? hi), SP.below h _ (List.mem_of_getElem? hi)⟩
end
theorem cellsFive {V : World} {N t : Nat} {a b c d e : Value} (h : V.heap[N]? = some (.cells #[a, b, c, d, e] t (0, 0))) : V.cell? ⟨N, 0, none⟩ = some a /\ V.cell? ⟨N, 1, none⟩ = some b /\ V.cell? ⟨N, 2, none⟩ = some c /\ V.cell? ⟨N, 3, none⟩ = some d /\ V.cell? ⟨N, 4, none⟩ = some e := by
 simp [World.cell?, h]
theorem five_set {V : World} {N t : Nat} {a b c d e x y z u v : Value} (h : V.heap[N]? = some (.cells #[a, b, c, d, e] t (0, 0))) : (((((V.setCell ⟨N, 0, none⟩ x).setCell ⟨N, 1, none⟩ y).setCell ⟨N, 2, none⟩ z).setCell ⟨N, 3, none⟩ u).setCell ⟨N, 4, none⟩ v).heap[N]? = some (.cells #[x, y, z, u, v] t (0, 0)) := by
 simp [World.setCell, Array.getElem?_modify, h]
theorem five_turned (V : World) (N : Nat) (x y z u v : Value) : Turned (fun c => c = N) V (((((V.setCell ⟨N, 0, none⟩ x).setCell ⟨N, 1, none⟩ y).setCell ⟨N, 2, none⟩ z).setCell ⟨N, 3, none⟩ u).setCell ⟨N, 4, none⟩ v) :=
 (((((Turned.refl (fun c => c = N) V).setCell (p := ⟨N, 0, none⟩) rfl x).setCell (p := ⟨N, 1, none⟩) rfl y).setCell (p := ⟨N, 2, none⟩) rfl z).setCell (p := ⟨N, 3, none⟩) rfl u).setCell (p := ⟨N, 4, none⟩) rfl v
def Mov {α : Type} (at_ : World -> (Nat -> Prop) -> α -> Prop) : Prop := ∀ (W W' : World) (N M C : Nat -> Prop) (p : α), at_ W N p -> Turned C W W' -> (∀ b, N b -> ¬ C b) -> (∀ b, N b -> b < W.heap.size -> M b) -> at_ W' M p
structure Own {α : Type} (W : World) (lo e size : Nat) (enc : α -> List Value) (at_ : World -> (Nat -> Prop) -> α -> Prop) (v : Value) (n : Nat) (ps : List α) : Prop where
 own : W.ownsRow lo e size v n (ps.flatMap enc)
 kids : ∀ p ∈ ps, at_ W (fun b => lo <= b /\ ∀ g, v.ownBlock = some g -> b ≠ g) p
 top : lo <= W.heap.size
section
variable {α : Type} {W W' : World} {lo e size n : Nat} {enc : α -> List Value} {at_ : World -> (Nat -> Prop) -> α -> Prop} {v : Value} {ps : List α}
theorem Own.start (h : lo <= W.heap.size) : Hid (Own W lo e size enc at_ (.slice none 0 0) 0 []) :=
 Lib.hid ⟨⟨by simp, .inl ⟨rfl, rfl⟩⟩, fun _ h => (by cases h), h⟩
theorem Own.move (h : Hid (Own W lo e size enc at_ v n ps)) (hm : Mov at_) {C : Nat -> Prop} (ht : Turned C W W') (hC : ∀ b, C b -> b < lo) : Hid (Own W' lo e size enc at_ v n ps) :=
 Lib.hid ⟨ownsRow_turned ht hC h.out.own, fun p hp => hm _ _ _ _ _ p (h.out.kids p hp) ht (fun b hb hc => by have := hC b hc; have := hb.1; omega) (fun _ hb _ => hb), Nat.le_trans h.out.top ht.size⟩
theorem Own.fresh (h : Hid (Own W lo e size enc at_ v n ps)) (hm : Mov at_) {p : α} (hp : at_ W' (fun b => W.heap.size <= b) p) : at_ W' (fun b => lo <= b /\ ∀ g, v.ownBlock = some g -> b ≠ g) p := by
 refine hm _ _ _ _ (fun _ => False) p hp (Turned.refl _ _) (fun _ _ => id) (fun b hb _ => ⟨Nat.le_trans h.out.top hb, fun g hg he => ?_⟩)
 have := (ownsRow_block h.out.own g hg).2
 omega
theorem Own.grown (h : Hid (Own W lo e size enc at_ v n ps)) (hm : Mov at_) {v' : Value} {p : α} (hp : at_ W (fun b => lo <= b /\ ∀ g, v.ownBlock = some g -> b ≠ g) p) (hg : W.grownBy W' v.ownBlock) (hown : W'.ownsRow lo e size v' (n + 1) (ps.flatMap enc ++ enc p)) (hex : ∀ g, v'.ownBlock = some g -> v.ownBlock = some g \/ W.heap.size <= g) : Hid (Own W' lo e size enc at_ v' (n + 1) (ps ++ [p])) := by
 have ht : Turned (fun k => v.ownBlock = some k) W W' := Turned.of_grown hg fun _ h => h
 refine Lib.hid ⟨by simpa using hown, fun q hq => ?_, Nat.le_trans h.out.top ht.size⟩
 have hq2 : at_ W (fun b => lo <= b /\ ∀ g, v.ownBlock = some g -> b ≠ g) q := by
  rcases List.mem_append.1 hq with hq | hq
  ·exact h.out.kids q hq
  ·obtain rfl : q = p := by simpa using hq
   exact hp
 refine hm _ _ _ _ _ q hq2 ht (fun b hb hc => hb.2 b hc rfl) (fun b hb hlt => ⟨hb.1, fun g hg2 he => ?_⟩)
 rcases hex g hg2 with h1 | h1
 ·exact hb.2 g h1 he
 ·omega
theorem Own.turned_grown {B : Nat} (h : Hid (Own W lo e size enc at_ v n ps)) (hg : W.grownBy W' v.ownBlock) : Turned (fun k => v.ownBlock = some k) W W' /\ (∀ k, v.ownBlock = some k -> lo <= k) /\ B = B :=
 ⟨Turned.of_grown hg fun _ h => h, fun k hk => (ownsRow_block h.out.own k hk).1, rfl⟩
end
section
variable {B g cap : Nat} {ts : List Tok} {w W W' : World} {L : List (Nat × Obj)} {k : Nat} {nf : Int}
theorem SP.turn (h : Hid (SP B g cap ts w W L [] k nf)) {C : Nat -> Prop} (ht : Turned C W W') (hC : ∀ b, C b -> w.heap.size <= b /\ ∀ p ∈ L, p.1 ≠ b) : Hid (SP B g cap ts w W' L [] k nf) := by
 have hB := h.out.ltB
 have hg := h.out.ltg
 refine Lib.hid ⟨?_, h.out.lays.turned ht fun p hp hc => (hC _ hc).2 p hp rfl, h.out.new, (fun _ hq => by cases hq), ?_, hB, hg, h.out.dist⟩
 ·exact h.out.ps.moved ht (fun hc => by have := (hC _ hc).1; omega) h.out.ps.lt ((ht.block B h.out.ps.ltB (fun hc => by have := (hC _ hc).1; omega)).trans h.out.ps.box)
 ·refine ⟨ht.os.trans h.out.tur.os, ht.tape.trans h.out.tur.tape, ht.output.trans h.out.tur.output, Nat.le_trans h.out.tur.size ht.size, fun c hc hn => ?_⟩
  exact (ht.block c (Nat.lt_of_lt_of_le hc h.out.tur.size) (fun hcc => by have := (hC _ hcc).1; omega)).trans (h.out.tur.block c hc hn)
theorem SP.forget {b : Nat} {o : Obj} {K : List (List Ex × Value)} (h : Hid (SP B g cap ts w W ((b, o) :: L) K k nf)) : Hid (SP B g cap ts w W L K k nf) := by
 have hd := h.out.dist
 rw [List.map_cons, List.nodup_cons] at hd
 exact Lib.hid ⟨h.out.ps, fun p hp => h.out.lays p (List.mem_cons_of_mem _ hp), fun p hp => h.out.new p (List.mem_cons_of_mem _ hp), fun q hq => (h.out.kids q hq).move (Turned.refl (fun _ => False) _) (fun _ _ => id) (fun _ hb _ => ⟨hb.1, fun p hp => hb.2 p (List.mem_cons_of_mem _ hp)⟩), h.out.tur, h.out.ltB, h.out.ltg, hd.2⟩
end
theorem SP.addK {B g cap : Nat} {ts : List Tok} {w W : World} {L : List (Nat × Obj)} {K : List (List Ex × Value)} {k : Nat} {nf : Int} (h : Hid (SP B g cap ts w W L K k nf)) {l : List Ex} {v : Value} (hk : KidsAt W (fun b => w.heap.size <= b /\ ∀ p ∈ L, p.1 ≠ b) l v) : Hid (SP B g cap ts w W L ((l, v) :: K) k nf) := by
 refine Lib.hid ⟨h.out.ps, h.out.lays, h.out.new, fun q hq => ?_, h.out.tur, h.out.ltB, h.out.ltg, h.out.dist⟩
 rcases List.mem_cons.1 hq with rfl | hq
 ·exact hk
 ·exact h.out.kids q hq
theorem five_set0 {V : World} {N t : Nat} {a b c d e x : Value} (h : V.heap[N]? = some (.cells #[a, b, c, d, e] t (0, 0))) : (V.setCell ⟨N, 0, none⟩ x).heap[N]? = some (.cells #[x, b, c, d, e] t (0, 0)) := by
 simp [World.setCell, Array.getElem?_modify, h]
theorem five_set3 {V : World} {N t : Nat} {a b c d e x : Value} (h : V.heap[N]? = some (.cells #[a, b, c, d, e] t (0, 0))) : (V.setCell ⟨N, 3, none⟩ x).heap[N]? = some (.cells #[a, b, c, x, e] t (0, 0)) := by
 simp [World.setCell, Array.getElem?_modify, h]
theorem one_turned (V : World) (N i : Nat) (x : Value) : Turned (fun c => c = N) V (V.setCell ⟨N, i, none⟩ x) := (Turned.refl (fun c => c = N) V).setCell (p := ⟨N, i, none⟩) rfl x
theorem cells_list (w : World) (cs : List Value) (t : TypeId) : ∀ j u, cs[j]? = some u -> (w.alloc (.cells cs.toArray t)).cell? ((⟨w.heap.size, 0, none⟩ : Addr).add j) = some u := by
 intro j u hj
 rw [Addr.add_lit]
 simp only [World.cell?, World.alloc_heap_new]
 simpa using hj
theorem infoExpr : (Tryz.prog.info? 31).map (fun i => (i.zero, i.size, i.bytes)) = some (some (.agg #[.int .i64 0, .int .i64 0, .string ⟨#[]⟩, .slice none 0 0, .int .i64 0]), 5, 64) := by kernel_rfl
theorem infoArg : (Tryz.prog.info? 48).map (fun i => (i.zero, i.size, i.bytes)) = some (some (.agg #[.int .i64 0, .int .i64 0, .string ⟨#[]⟩, .int .i64 0, .int .i64 0, .string ⟨#[]⟩, .slice none 0 0, .int .i64 0, .int .i64 0]), 9, 104) := by kernel_rfl
theorem infoForm : (Tryz.prog.info? 45).map (fun i => (i.zero, i.size, i.bytes)) = some (some (.agg #[.string ⟨#[]⟩, .slice none 0 0, .slice none 0 0, .int .i64 0]), 4, 72) := by kernel_rfl
def exEnc (p : Ex × Value) : List Value := exV p.1 p.2
def exAt (W : World) (N : Nat -> Prop) (p : Ex × Value) : Prop := KidsAt W N p.1.kids p.2
theorem exMov : Mov exAt := fun _ _ _ _ _ _ h ht hC hM => KidsAt.move h ht hC hM
def arEnc (p : Ar × Value) : List Value := arV p.1 p.2
def arAt (W : World) (N : Nat -> Prop) (p : Ar × Value) : Prop := KidsAt W N p.1.e.kids p.2
theorem arMov : Mov arAt := fun _ _ _ _ _ _ h ht hC hM => KidsAt.move h ht hC hM
def fmEnc (p : Fm × Value × Value) : List Value := fmV p.1 p.2.1 p.2.2
def fmAt (W : World) (N : Nat -> Prop) (p : Fm × Value × Value) : Prop := ArgsAt W N p.1.args p.2.1 /\ FormsAt W N p.1.body p.2.2
theorem fmMov : Mov fmAt := fun _ _ _ _ _ _ h ht hC hM => ⟨ArgsAt.move h.1 ht hC hM, FormsAt.move h.2 ht hC hM⟩
theorem Own.kidsAt {W : World} {lo n : Nat} {v : Value} {ps : List (Ex × Value)} (h : Hid (Own W lo 31 5 exEnc exAt v n ps)) (hn : n = ps.length) : KidsAt W (fun b => lo <= b) (ps.map (·.1)) v :=
 kids_of_owns h.out.own hn (fun g hg => (ownsRow_block h.out.own g hg).1) fun p hp => KidsAt.move (h.out.kids p hp) (Turned.refl (fun _ => False) _) (fun _ _ => id) (fun _ hb _ => hb.1)
def binV (r : ByteArray × Int × Nat) : List Value := [.string r.1, .int .i64 r.2.1, (.int .i64 ((r.2.2 : Nat)))]
def opRow (i : Nat) : List Value := match opRows[i]? with | .some r => binV r | .none => []
theorem operators_any (w : World) : Calls Tryz.prog 76 #[] w fun e w' => ∃ b, e = .returned (.slice (some ⟨b, 0, none⟩) 13 13) /\ w.heap.size <= b /\ RowAt w' b 0 3 13 opRow /\ Turned (fun _ => False) w w' := by
 go_enter Tryz.func76, Tryz.ntmps76
 go_wp2
 go_ret
 refine ⟨_, rfl, Nat.le_refl _, ?_, (Turned.refl _ _).alloc _⟩
 intro i hi j u hu
 have h1 : opRow i = binV (opRows[i]'(by simpa [opRows] using hi)) := by
  unfold opRow
  rw [List.getElem?_eq_getElem (by simpa [opRows] using hi)]
 rw [h1] at hu
 have hj : j < 3 := by
  have := (List.getElem?_eq_some_iff.1 hu).1
  simpa [binV] using this
 have h2 := flatMap_at binV 3 (fun _ => rfl) opRows i j (by simpa [opRows] using hi) hj
 rw [hu] at h2
 simp only [World.cell?, World.alloc_heap_new]
 rw [Nat.zero_add]
 have h3 : (opRows.flatMap binV).toArray[i * 3 + j]? = some u := by simpa using h2
 exact h3
def opIdx (n : Nat) (t : Tok) : Option Nat := opRows.findIdx? fun r => r.2.2 == n && isS t r.1
def idxI (o : Option Nat) : Int := match o with | .some i => (i : Int) | .none => -1
theorem opAt_none {n : Nat} {t : Tok} (h : opAt n t = none) : opIdx n t = none := by
 unfold opAt at h
 unfold opIdx
 rw [Option.map_eq_none_iff, List.find?_eq_none] at h
 rw [List.findIdx?_eq_none_iff]
 intro x hx
 simpa using h x hx
theorem opAt_some {n : Nat} {t : Tok} {op : Int} (h : opAt n t = some op) : ∃ i, opIdx n t = some i /\ ∃ r, opRows[i]? = some r /\ r.2.1 = op := by
 unfold opAt at h
 obtain ⟨r, hr, ho⟩ := Option.map_eq_some_iff.1 h
 rw [List.find?_eq_some_iff_getElem] at hr
 obtain ⟨h1, i, hi, h2, h3⟩ := hr
 refine ⟨i, ?_, r, by rw [List.getElem?_eq_getElem hi, h2], ho⟩
 unfold opIdx
 rw [List.findIdx?_eq_some_iff_getElem]
 refine ⟨hi, by rw [h2]; exact h1, fun j hj => ?_⟩
 have := h3 j hj
 simp at this ⊢
 exact fun a => this.resolve_left fun h => h a
theorem levelE_ps {B g cap : Nat} {ts : List Tok} {k : Nat} {nf : Int} {w : World} {t : Tok} (h : PS B g cap ts w k nf) (ht : ts[k]? = some t) (n nb pb : Nat) (z : Int) (hz : z = n) (hn : w.cell? ⟨nb, 0, none⟩ = some (.int .i64 z)) (hp : w.cell? ⟨pb, 0, none⟩ = some (.pointer (some ⟨B, 0, none⟩))) (s : ByteArray) (op : Int) (lv : Nat) :
  Calls Tryz.prog 89 #[.agg #[.string s, .int .i64 op, (.int .i64 ((lv : Nat)))], .pointer (some ⟨nb, 0, none⟩), .pointer (some ⟨pb, 0, none⟩)] w fun e w' => e = .returned (.bool (lv == n && isS t s)) /\ Turned (fun _ => False) w w' := by
 have hT : Turned (fun _ => False) w (w.alloc (.cells #[.string s, .int .i64 op, (.int .i64 ((lv : Nat)))] 137)) := (Turned.refl _ _).alloc _
 have HI := Lib.hid (is_ps (h.same hT (fun _ h => h.elim)) ht s)
 have HT := Lib.hid hT
 have hnl : nb < w.heap.size := by
  rcases Nat.lt_or_ge nb w.heap.size with h1 | h1
  ·exact h1
  ·simp [World.cell?, h1] at hn
 have hpl : pb < w.heap.size := by
  rcases Nat.lt_or_ge pb w.heap.size with h1 | h1
  ·exact h1
  ·simp [World.cell?, h1] at hp
 clear h ht hT
 by_cases hl : lv = n
 ·have bl : ((lv : Int) == z) = true := by simp; omega
  have HL : Hid ((lv == n) = true) := by show _ = _; simpa using hl
  clear hl hz
  go_enter Tryz.func89, Tryz.ntmps89
  go_wp2_with (go_at_call 53; refine HI.out.mono ?_; rintro e w' ⟨rfl, rfl⟩)
  go_ret
  exact ⟨by rw [HL.out, Bool.true_and]; rfl, HT.out⟩
 ·have bl : ((lv : Int) == z) = false := by simp; omega
  have HL : Hid ((lv == n) = false) := by show _ = _; simpa using hl
  clear hl hz
  go_enter Tryz.func89, Tryz.ntmps89
  go_wp2_with fail
  go_ret
  exact ⟨by rw [HL.out, Bool.false_and]; rfl, HT.out⟩
structure OI (n : Nat) (t : Tok) (w : World) (i : Nat) (wr : World) : Prop where
 tur : Turned (fun _ => False) w wr
 no : ∀ j r, j < i -> opRows[j]? = some r -> (r.2.2 == n && isS t r.1) = false
theorem index_ps {B g cap : Nat} {ts : List Tok} {k : Nat} {nf : Int} {w : World} {t : Tok} (h : PS B g cap ts w k nf) (ht : ts[k]? = some t) (n nb pb gb : Nat) (z : Int) (hz : z = n) (hn : w.cell? ⟨nb, 0, none⟩ = some (.int .i64 z)) (hp : w.cell? ⟨pb, 0, none⟩ = some (.pointer (some ⟨B, 0, none⟩))) (hr : RowAt w gb 0 3 13 opRow) :
  Calls Tryz.prog 75 #[.slice (some ⟨gb, 0, none⟩) 13 13, .func (Fn.func 89) #[] #[.pointer (some ⟨nb, 0, none⟩), .pointer (some ⟨pb, 0, none⟩)]] w fun e w' => e = .returned (.int .i64 (idxI (opIdx n t))) /\ Turned (fun _ => False) w w' := by
 have H := Lib.hid h
 have HR := Lib.hid hr
 have HC := Lib.hid (fun (W : World) (hT : Turned (fun _ => False) w W) (s : ByteArray) (op : Int) (lv : Nat) => levelE_ps (h.same hT (fun _ h => h.elim)) ht n nb pb z hz (cell_turned hT id hn) (cell_turned hT id hp) s op lv)
 clear h ht hr hn hp hz
 go_enter Tryz.func75, Tryz.ntmps75
 go_wp2_with fail
 go_loopw [8] (fun u wr => ∃ i : Nat, i <= 13 /\ u = (.int .i64 i) /\ Hid (OI n t w i wr)) (fun u _ => 13 - (intOf u).toNat)
 case atStart => exact ⟨0, by omega, rfl, Lib.hid ⟨Turned.refl _ _, fun j r hj => by omega⟩⟩
 case round =>
  obtain ⟨i, hi, rfl, HO⟩ := hrel
  by_cases hlt : i < 13
  ·obtain ⟨r, hr⟩ := some_of_lt (show i < opRows.length by simpa [opRows] using hlt)
   obtain ⟨rs, ro, rl⟩ := r
   have hrow := HR.out.turned HO.out.tur id i hlt
   simp only [opRow, hr, binV, Nat.zero_add] at hrow
   have q0 : wr.cell? ⟨gb, i * 3, none⟩ = some (.string rs) := hrow 0 _ rfl
   have q1 : wr.cell? ⟨gb, i * 3 + 1, none⟩ = some (.int .i64 ro) := hrow 1 _ rfl
   have q2 : wr.cell? ⟨gb, i * 3 + 2, none⟩ = some (.int .i64 ((rl : Nat))) := hrow 2 _ rfl
   have HCr := Lib.hid (HC.out wr HO.out.tur rs ro rl)
   have HY : Hid ((rl == n && isS t rs) = true -> opIdx n t = some i) := fun hy => by
    unfold opIdx
    rw [List.findIdx?_eq_some_iff_getElem]
    obtain ⟨h1, h2⟩ := List.getElem?_eq_some_iff.1 hr
    refine ⟨h1, by rw [h2]; exact hy, fun j hj => ?_⟩
    have h3 := HO.out.no j opRows[j] hj (List.getElem?_eq_getElem (by omega))
    rw [h3]; decide
   have HN : Hid ((rl == n && isS t rs) = false -> ∀ wr', Turned (fun _ => False) wr wr' -> OI n t w (i + 1) wr') := fun hy wr' hT => ⟨HO.out.tur.trans hT, fun j r hj hjr => by
    rcases Nat.lt_or_ge j i with h1 | h1
    ·exact HO.out.no j r h1 hjr
    ·obtain rfl : j = i := by omega
     rw [hr] at hjr; cases hjr; exact hy⟩
   clear hr hrow
   generalize (rl == n && isS t rs) = m at HCr HY HN
   cases m with
   | true =>
    have HYX : Hid (idxI (opIdx n t) = i) := by show _ = _; rw [HY.out rfl]; rfl
    clear HY HN
    go_wp2_with (go_at_call 89; refine HCr.out.mono ?_; rintro e w' ⟨rfl, hT⟩)
    go_ret
    rw [HYX.out]
    exact ⟨rfl, HO.out.tur.trans hT⟩
   | false =>
    have HNX := Lib.hid (HN.out rfl)
    clear HY HN
    go_wp2_with (go_at_call 89; refine HCr.out.mono ?_; rintro e w' ⟨rfl, hT⟩)
    go_roundw
    case rel => exact ⟨i + 1, by omega, by go_num, Lib.hid (HNX.out _ hT)⟩
    case measure => simp [intOf]; omega
  ·obtain rfl : i = 13 := by omega
   have HE : Hid (idxI (opIdx n t) = -1) := by
    show _ = _
    suffices h : opIdx n t = none by rw [h]; rfl
    unfold opIdx
    rw [List.findIdx?_eq_none_iff]
    intro x hx
    obtain ⟨j, hj, rfl⟩ := List.mem_iff_getElem.1 hx
    have h3 := HO.out.no j opRows[j] (by simpa [opRows] using hj) (List.getElem?_eq_getElem hj)
    rw [h3]
   go_wp2_with fail
   go_ret
   rw [HE.out]
   exact ⟨rfl, HO.out.tur⟩
end Go.Proofs.YtjijdgkccfeeaaaGreatDoor
