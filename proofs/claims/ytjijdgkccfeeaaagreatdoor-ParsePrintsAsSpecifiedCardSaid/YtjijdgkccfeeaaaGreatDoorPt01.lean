/- Part 1 of the proof of card: RangeLaw, OutLaw, Lays, LexOnce, LexPlain, LexWalkA, Shelf. Conditions: those of each theorem. -/
import Derived.RangeFuncNested
import Derived.RangeFuncBound
import Derived.RangeFuncCalls
import Derived.RangeFuncLeaves
import Derived.WalkKit
import Derived.OwnWalkIn
import Derived.TacticsInMore
import Derived.LoopNIn
import Derived.LoopIn
import Derived.Maps.AppendAt
import Derived.Maps.OwnIn
import Derived.Lib.Hide
import Derived.Test.YtjijdgkccfeeaaaGreatDoorProg
import Derived.Conc.MuLone
import Derived.Conc.MuData
import Derived.RegionCalls
import Derived.RegionTactic
import Derived.ChangeAlike
import Derived.Lib.Bytealg
import Derived.Deep.QuietTactic
import Derived.BigQuiet
import Derived.Shelf.Strings.Builder1
import Derived.Shelf.Strings.Builder2
import Derived.Shelf.Strings.OnBuilder
import Derived.Shelf.Small.Strs
import Derived.Shelf.Strings.Builder2Cap
import Derived.Shelf.Strconv.Atoi
import Derived.Shelf.Strconv.Itoa0
import Derived.Shelf.Strconv.Itoa1
import Derived.Shelf.LaysM
import Derived.Shelf.Strconv.Itoa2
import Derived.Shelf.Strconv.Itoa3
import Derived.Shelf.Strconv.AtoiErrFast
import Derived.Shelf.Strconv.ParseIntEmpty
import Derived.Shelf.Strconv.AtoiFail
import Derived.Shelf.Strconv.Clone
import Derived.Shelf.Strconv.SyntaxError
import Derived.Shelf.LaysC
import Derived.Shelf.Strconv.ToError
import Derived.Shelf.Strconv.Lower
import Derived.Shelf.Strconv.ParseUint10
import Derived.Shelf.Strconv.ParseUint10Empty
import Derived.Shelf.Strconv.ParseUint10Any
import Derived.Shelf.Strconv.ParseInt10
import Derived.Shelf.Strconv.AtoiLong
import Derived.Shelf.Strconv.AtoiInnerAll
import Derived.Shelf.Strconv.RangeError
import Derived.Shelf.Strconv.ToErrorRange
import Derived.Shelf.Strconv.AtoiAll
import Derived.Shelf.Strconv.ErrVarAll
import Derived.Shelf.Strings.Search1
import Derived.Shelf.Strings.Search2
import Derived.Shelf.Strings.Search3
import Derived.Shelf.Strings.Count
import Derived.Shelf.Strings.Shaped
import Derived.Shelf.Strings.Prefix
import Derived.Shelf.Strings.Fields
import Derived.Shelf.Unicode.Latin
import Derived.Shelf.Unicode.Is16White
import Derived.Shelf.Unicode.IsSpaceAny
import Derived.Shelf.Unicode.Is16Any
import Derived.Shelf.Unicode.Is32Any
import Derived.Shelf.Unicode.ExclAny
import Derived.Below
set_option maxRecDepth 100000
set_option maxHeartbeats 1600000
namespace Go.Proofs.YtjijdgkccfeeaaaGreatDoor
theorem zz0 {α : Type} {xs : List α} {i : Nat} (h : i < xs.toArray.size) : xs.toArray[i] = xs[i]'(by simpa using h) := rfl
theorem zz1 {α : Type} {a : α} {l : List α} (h : 0 < (a :: l).length) : (a :: l)[0] = a := rfl
theorem zz2 {α : Type} {a : α} {l : List α} {i : Nat} (h : i + 1 < (a :: l).length) : (a :: l)[i + 1] = l[i]'(Nat.lt_of_succ_lt_succ h) := rfl
theorem zz3 {α : Type} {l : List α} {i : Nat} {a : α} : l.toArray.setIfInBounds i a = (l.set i a).toArray := List.setIfInBounds_toArray ..
theorem zz4 {α : Type} {a b : α} {l : List α} : (a :: l).set 0 b = b :: l := rfl
theorem zz5 {α : Type} {a b : α} {l : List α} {n : Nat} : (a :: l).set (n + 1) b = a :: l.set n b := rfl
theorem hao (w : Go.World) (o : Go.Obj) {r : Nat} (h : r < w.heap.size) : (w.alloc o).heap[r]? = w.heap[r]? := by
 show (w.heap.push o)[r]? = w.heap[r]?
 rw [Array.getElem?_push, if_neg (Nat.ne_of_lt h)]
open Go Go.Proofs Go.RowKit
structure Turned (C : Nat -> Prop) (A B : World) : Prop where
 os : B.os = A.os
 tape : B.tape = A.tape
 output : B.output = A.output
 size : A.heap.size <= B.heap.size
 block : ∀ k, k < A.heap.size -> ¬ C k -> B.heap[k]? = A.heap[k]?
theorem Turned.refl (C : Nat -> Prop) (A : World) : Turned C A A := ⟨rfl, rfl, rfl, Nat.le_refl _, fun _ _ _ => rfl⟩
theorem Turned.trans {C : Nat -> Prop} {a b c : World} (h : Turned C a b) (k : Turned C b c) : Turned C a c :=
 ⟨k.os.trans h.os, k.tape.trans h.tape, k.output.trans h.output, Nat.le_trans h.size k.size, fun i hi hc => (k.block i (Nat.lt_of_lt_of_le hi h.size) hc).trans (h.block i hi hc)⟩
theorem Turned.mono {C C' : Nat -> Prop} {a b : World} (h : Turned C a b) (hc : ∀ k, C k -> C' k) : Turned C' a b := ⟨h.os, h.tape, h.output, h.size, fun i hi hn => h.block i hi (fun x => hn (hc i x))⟩
theorem Turned.alloc {C : Nat -> Prop} {a w : World} (h : Turned C a w) (o : Obj) : Turned C a (w.alloc o) :=
 h.trans ⟨rfl, rfl, rfl, by simp, fun k hk _ => Below.heap_alloc _ _ _ hk⟩
theorem Turned.setCell {C : Nat -> Prop} {a w : World} (h : Turned C a w) {p : Addr} (hp : C p.block) (u : Value) : Turned C a (w.setCell p u) :=
 h.trans ⟨rfl, rfl, rfl, by simp [World.setCell], fun k _ hn => Below.heap_setCell _ _ _ _ (fun e => hn (e ▸ hp))⟩
theorem Turned.drew {C : Nat -> Prop} {a w : World} (h : Turned C a w) : Turned C a w.drew := ⟨h.os, h.tape, h.output, h.size, h.block⟩
theorem Turned.below {C : Nat -> Prop} {a b : World} (h : Turned C a b) {B : Nat} (hB : B <= a.heap.size) (hc : ∀ k, C k -> B <= k) : Below B a b := ⟨h.os, h.tape, h.output, h.size, fun k hk => h.block k (by omega) (fun x => by have := hc k x; omega)⟩
theorem Turned.of_new {C : Nat -> Prop} {a b : World} (h : Below a.heap.size a b) : Turned C a b := ⟨h.os, h.tape, h.output, h.size, fun k hk _ => h.block k hk⟩
theorem Turned.cell {C : Nat -> Prop} {a b : World} (h : Turned C a b) {p : Addr} (hp : p.block < a.heap.size) (hn : ¬ C p.block) : b.cell? p = a.cell? p := World.cell?_of_block (w := a) (h.block p.block hp hn)
theorem Turned.of_grown {C : Nat -> Prop} {a b : World} {row : Option Nat} (h : a.grownBy b row) (hr : ∀ k, row = some k -> C k) : Turned C a b :=
 ⟨h.os, h.tape, h.output, h.size, fun k hk hn => h.block k hk (fun e => hn (hr k e.symm))⟩
structure Kept (T : Nat -> Prop) (A B : World) : Prop where
 size : A.heap.size <= B.heap.size
 block : ∀ k, T k -> B.heap[k]? = A.heap[k]?
theorem getElem?_lt {w : World} {k : Nat} {o : Obj} (h : w.heap[k]? = some o) : k < w.heap.size := (Array.getElem?_eq_some_iff.1 h).1
theorem ownsRow_turned {C : Nat -> Prop} {A B : World} {base e size n : Nat} {v : Value} {xs : List Value} (ht : Turned C A B) (hC : ∀ k, C k -> k < base) (h : A.ownsRow base e size v n xs) : B.ownsRow base e size v n xs := by
 obtain ⟨h1, h2⟩ := h
 refine ⟨h1, ?_⟩
 rcases h2 with h2 | ⟨g, cap, cur, hv, hg, hh, r⟩
 ·exact .inl h2
 ·exact .inr ⟨g, cap, cur, hv, hg, (ht.block g (getElem?_lt hh) (fun h => by have := hC g h; omega)).trans hh, r⟩
theorem ownsRow_block {A : World} {base e size n : Nat} {v : Value} {xs : List Value} (h : A.ownsRow base e size v n xs) : ∀ g, v.ownBlock = some g -> base <= g /\ g < A.heap.size := by
 intro g hg
 obtain ⟨-, h2⟩ := h
 rcases h2 with ⟨rfl, -⟩ | ⟨g', cap, cur, rfl, hb, hh, -⟩
 ·simp [Value.ownBlock] at hg
 ·simp [Value.ownBlock] at hg
  subst hg
  exact ⟨hb, getElem?_lt hh⟩
def Out {α : Type} (W : World) (B T base N e size : Nat) (enc : α -> List Value) (bs : List α) : Prop :=
 ∃ v, W.heap[B]? = some (.cells #[v] T (0, 0)) /\ W.ownsRow base e size v bs.length (bs.flatMap enc) /\ (∀ g, v.ownBlock = some g -> g < N) /\ B < N
section
variable {α : Type} {W : World} {B T base N e size : Nat} {enc : α -> List Value} {bs : List α}
end
theorem cell_of_box {W : World} {B T : Nat} {v : Value} (h : W.heap[B]? = some (.cells #[v] T (0, 0))) : W.cell? ⟨B, 0, none⟩ = some v := by simp [World.cell?, h]
theorem free_of_box {W : World} {B T : Nat} {cs : Array Value} (h : W.heap[B]? = some (.cells cs T (0, 0))) (o : Nat) : W.frozen? ⟨B, o, none⟩ = false := by simp [World.frozen?, h]
theorem box_setCell {W : World} {B T : Nat} {v : Value} (u : Value) (h : W.heap[B]? = some (.cells #[v] T (0, 0))) : (W.setCell ⟨B, 0, none⟩ u).heap[B]? = some (.cells #[u] T (0, 0)) := by
 simp [World.setCell, Array.getElem?_modify, h]
theorem flatMap_at {α : Type} (enc : α -> List Value) (s : Nat) (henc : ∀ x, (enc x).length = s) : ∀ (bs : List α) (i j : Nat) (hi : i < bs.length), j < s -> (bs.flatMap enc)[i * s + j]? = (enc bs[i])[j]?
 | [], i, j, hi, _ => by simp at hi
 | b :: bs, 0, j, _, hj => by
  simp only [List.flatMap_cons, Nat.zero_mul, Nat.zero_add, zz1]
  rw [List.getElem?_append_left (by rw [henc]; exact hj)]
 | b :: bs, i + 1, j, hi, hj => by
  simp only [List.flatMap_cons, zz2]
  rw [List.getElem?_append_right (by rw [henc, Nat.add_mul]; omega), henc, <- flatMap_at enc s henc bs i j (by simpa using hi) hj]
  congr 1
  rw [Nat.add_mul]; omega
theorem owns_shape {W : World} {base e s n : Nat} {xs : List Value} {v : Value} (h : W.ownsRow base e s v n xs) : ∃ a c, v = .slice a n c := by
 obtain ⟨-, ⟨rfl, rfl⟩ | ⟨g, cap, cur, rfl, -⟩⟩ := h
 ·exact ⟨none, 0, rfl⟩
 ·exact ⟨_, cap, rfl⟩
theorem owns_cell {α : Type} {W : World} {base e s : Nat} {enc : α -> List Value} {bs : List α} {v : Value} (henc : ∀ x, (enc x).length = s) (h : W.ownsRow base e s v bs.length (bs.flatMap enc)) :
  (v = .slice none 0 0 /\ bs = []) \/ ∃ g cap, v = .slice (some ⟨g, 0, none⟩) bs.length cap /\ bs.length <= cap /\ cap <= maxLen /\ base <= g /\ g < W.heap.size /\ ∀ (i j : Nat) (hi : i < bs.length), j < s -> W.cell? ⟨g, 0 + i * s + j, none⟩ = (enc bs[i])[j]? := by
 obtain ⟨h1, h2⟩ := h
 rcases h2 with ⟨hv, hn⟩ | ⟨g, cap, cur, hv, hg, hh, hc1, hc2, hcs, ht⟩
 ·exact .inl ⟨hv, List.length_eq_zero_iff.1 hn⟩
 ·refine .inr ⟨g, cap, hv, hc1, hc2, hg, getElem?_lt hh, fun i j hi hj => ?_⟩
  have hlt : i * s + j < bs.length * s := by
   have : (i + 1) * s <= bs.length * s := Nat.mul_le_mul_right _ hi
   rw [Nat.add_mul] at this; omega
  rw [<- flatMap_at enc s henc bs i j hi hj, <- ht, List.getElem?_take_of_lt hlt]
  simp [World.cell?, hh]
def Lays (W : World) (L : List (Nat × Obj)) : Prop := ∀ p ∈ L, W.heap[p.1]? = some p.2
theorem Lays.get {W : World} {L : List (Nat × Obj)} (h : Lays W L) (i : Nat) {b : Nat} {o : Obj} (hi : L[i]? = some (b, o)) : W.heap[b]? = some o := h (b, o) (List.mem_of_getElem? hi)
theorem Lays.below {W W' : World} {L : List (Nat × Obj)} (h : Lays W L) (hb : Below W.heap.size W W') : Lays W' L := fun p hp => (hb.block p.1 (getElem?_lt (h p hp))).trans (h p hp)
theorem Lays.nil (W : World) : Lays W [] := fun _ h => by cases h
def Stays (T : World -> Prop) : Prop := ∀ A B, T A -> Below A.heap.size A B -> T B
theorem Stays.and {T R : World -> Prop} (h : Stays T) (k : Stays R) : Stays (fun W => T W /\ R W) := fun A B ha hb => ⟨h A B ha.1 hb, k A B ha.2 hb⟩
structure St (T : World -> Prop) (w W : World) (L : List (Nat × Obj)) : Prop where
 lays : Lays W L
 bel : Below w.heap.size w W
 tab : T W
 stays : Stays T
section
variable {T R : World -> Prop} {w W W' : World} {L : List (Nat × Obj)}
theorem St.start (h : T w) (hs : Stays T) : Hid (St T w w []) := Lib.hid ⟨Lays.nil _, Below.refl _ _, h, hs⟩
theorem St.call (h : Hid (St T w W L)) (hb : Below W.heap.size W W') : Hid (St T w W' L) :=
 Lib.hid ⟨h.out.lays.below hb, h.out.bel.trans (hb.mono h.out.bel.size), h.out.stays _ _ h.out.tab hb, h.out.stays⟩
theorem St.box (h : Hid (St T w W L)) (o : Obj) : ∃ W1 B, W1 = W.alloc o /\ B = W.heap.size /\ Hid (Below W.heap.size W W1) /\ Hid (St T w W1 ((B, o) :: L)) := by
 have hb : Below W.heap.size W (W.alloc o) := (Below.refl _ _).alloc (Nat.le_refl _) _
 refine ⟨_, _, rfl, rfl, Lib.hid hb, Lib.hid (St.mk (fun p hp => ?_) (h.out.bel.trans (hb.mono h.out.bel.size)) (h.out.stays _ _ h.out.tab hb) h.out.stays)⟩
 rcases List.mem_cons.1 hp with rfl | hp
 ·exact World.alloc_heap_new _ _
 ·exact h.out.lays.below hb p hp
theorem St.more (h : Hid (St T w W L)) (hR : R W) (hs : Stays R) : Hid (St (fun W => T W /\ R W) w W L) := Lib.hid ⟨h.out.lays, h.out.bel, ⟨h.out.tab, hR⟩, h.out.stays.and hs⟩
theorem St.cells4 (h : Hid (St T w W L)) (i : Nat) {b t : Nat} {x y z u : Value} (hi : L[i]? = some (b, .cells #[x, y, z, u] t (0, 0))) : W.cell? ⟨b, 0, none⟩ = some x /\ W.cell? ⟨b, 1, none⟩ = some y /\ W.cell? ⟨b, 2, none⟩ = some z /\ W.cell? ⟨b, 3, none⟩ = some u := by
 simp [World.cell?, h.out.lays.get i hi]
theorem St.cells2 (h : Hid (St T w W L)) (i : Nat) {b t : Nat} {x y : Value} (hi : L[i]? = some (b, .cells #[x, y] t (0, 0))) : W.cell? ⟨b, 0, none⟩ = some x /\ W.cell? ⟨b, 1, none⟩ = some y := by
 simp [World.cell?, h.out.lays.get i hi]
end
attribute [local go_sem] Oper.semAt_some
abbrev muLink : Go.Conc.Locks.MuLink := { lock := 138, unlock := 139, ilock := 157, iunlock := 158, lockSlow := 176, unlockSlow := 179, disable := 172, enable := 174, acquire := 175, relMerge := 177, cas32 := 173, add32 := 178, tMutex := 163, tIMutex := 161, tPMutex := 229, tPIMutex := 255, tPI32 := 257, tUP := 216, tNoCopy := 155, tU32 := 157 }
theorem muLib : Go.Conc.Locks.MuLib Tryz.prog muLink :=
 ⟨Tryz.func138, Tryz.func139, Tryz.func157, Tryz.func158, Tryz.func172, Tryz.func174, Tryz.func175, Tryz.func177, Tryz.func173, Tryz.func178, Tryz.underlying161, Tryz.runUnderlying161, Tryz.sizeOf161, Tryz.isAgg161, Tryz.zeroValue161, Tryz.underlying163, Tryz.runUnderlying163, Tryz.sizeOf163, Tryz.isAgg163, Tryz.zeroValue163, Tryz.underlying229, Tryz.runUnderlying229, Tryz.sizeOf229, Tryz.isAgg229, Tryz.zeroValue229, Tryz.underlying255, Tryz.runUnderlying255, Tryz.sizeOf255, Tryz.isAgg255, Tryz.zeroValue255, Tryz.underlying257, Tryz.runUnderlying257, Tryz.sizeOf257, Tryz.isAgg257, Tryz.zeroValue257, Tryz.underlying216, Tryz.runUnderlying216, Tryz.sizeOf216, Tryz.isAgg216, Tryz.zeroValue216, Tryz.underlying155, Tryz.runUnderlying155, Tryz.sizeOf155, Tryz.isAgg155, Tryz.zeroValue155, Tryz.underlying21, Tryz.runUnderlying21, Tryz.sizeOf21, Tryz.isAgg21, Tryz.zeroValue21, (by kernel_rfl)⟩
theorem store_deferred (a : Addr) (x : Value) (u : FrameMode) (w : World) (hc : w.cell? a = some x) (hz : w.frozen? a = false) :
  CallsD Tryz.prog 140 #[.pointer (some a), .bool true] u w fun e u' w' => u' = u /\ (e = .returned (.tuple #[]) /\ w' = w.drew.setCell a (.int .u32 1)) := by
 have hc' : w.drew.cell? a = some x := by go_simp
 have hz' : w.drew.frozen? a = false := by go_simp
 have hst := run_call_store (P := Tryz.prog) Tryz.func159 (by kernel_rfl) (by kernel_rfl) (by kernel_rfl) (by kernel_rfl) (k := .u32) (y := 1) hc' hz'
 go_enter_d Tryz.func140, Tryz.ntmps140
 go_wp2
 go_region_calls
 all_goals (go_end0; exact ⟨rfl, rfl⟩)
theorem slow_any (b : Nat) (p : Value) (w : World) (R : World -> Prop)
  (h0 : w.cell? ⟨b, 0, none⟩ = some (.int .u32 0)) (h1 : w.cell? ⟨b, 1, none⟩ = some (.int .i32 0))
  (f1 : w.frozen? ⟨b, 1, none⟩ = false)
  (hf : Calls Tryz.prog 102 #[p] (w.setCell ⟨b, 1, none⟩ (.int .i32 1)) fun e w' => e = .returned (.tuple #[]) /\ w'.cell? ⟨b, 0, none⟩ = some (.int .u32 0) /\ w'.cell? ⟨b, 1, none⟩ = some (.int .i32 1) /\ w'.frozen? ⟨b, 0, none⟩ = false /\ w'.frozen? ⟨b, 1, none⟩ = false /\ R w') :
  Calls Tryz.prog 120 #[.pointer (some ⟨b, 0, none⟩), .func (.func 102) #[p] #[]] w fun e w' => e = .returned (.tuple #[]) /\ ∃ w1, R w1 /\ w' = (w1.drew.setCell ⟨b, 0, none⟩ (.int .u32 1)).setCell ⟨b, 1, none⟩ (.int .i32 0) := by
 have hl := run_call_load (P := Tryz.prog) Tryz.func137 (by kernel_rfl) (by kernel_rfl) (by kernel_rfl) .u32 (by kernel_rfl) (w := w.setCell ⟨b, 1, none⟩ (.int .i32 1)) (a := ⟨b, 0, none⟩) (x := 0) ((World.cell?_setCell_other _ ⟨b, 1, none⟩ ⟨b, 0, none⟩ _ (by simp)).trans h0)
 have hnot : ∀ (x : Bool) (w : World), (Op.unary .not (.bool x)).run Tryz.prog w = .ok (.bool (!x)) w := fun _ _ => rfl
 go_enter_defers Tryz.func120, Tryz.ntmps120
 have HF := Lib.hid hf
 clear hf
 go_wp2_with (first | (go_at_call 138; refine (Go.MuLone.lock_free muLib ⟨b, 1, none⟩ _ (by go_simp) (by go_simp)).mono ?_; rintro e w' ⟨rfl, rfl⟩) | (go_at_call 119; go_in))
 refine HF.out.mono ?_
 rintro e w1 ⟨rfl, g0, g1, z0, z1, hR⟩
 have HR := Lib.hid hR
 clear hR
 go_wp2
 refine leaves_cons (f := 140) (args := #[.pointer (some ⟨b, 0, none⟩), .bool true]) (by simp) (by simp [go_sem]) ?_
 refine (store_deferred ⟨b, 0, none⟩ (.int .u32 0) .returning _ g0 z0).mono ?_
 rintro e u' w'' ⟨rfl, rfl, rfl⟩
 refine leaves_cons (f := 139) (args := #[.pointer (some ⟨b, 1, none⟩)]) (by simp [settle]) (by simp [go_sem]) ?_
 refine (Go.MuLone.unlock_deferred muLib ⟨b, 1, none⟩ _ _ ?_ (by simp [z1])).mono ?_
 ·refine (World.cell?_setCell_other _ ⟨b, 0, none⟩ ⟨b, 1, none⟩ _ (by simp)).trans ?_
  rw [World.cell?_drew]
  exact g1
 rintro e u' w'' ⟨rfl, rfl, rfl⟩
 simp [Leaves, settle, results, Tryz.results120]
 exact ⟨w1, HR.out, rfl⟩
theorem do_first (b : Nat) (p : Value) (w : World) (R : World -> Prop)
  (h0 : w.cell? ⟨b, 0, none⟩ = some (.int .u32 0)) (h1 : w.cell? ⟨b, 1, none⟩ = some (.int .i32 0))
  (f1 : w.frozen? ⟨b, 1, none⟩ = false)
  (hf : Calls Tryz.prog 102 #[p] (w.setCell ⟨b, 1, none⟩ (.int .i32 1)) fun e w' => e = .returned (.tuple #[]) /\ w'.cell? ⟨b, 0, none⟩ = some (.int .u32 0) /\ w'.cell? ⟨b, 1, none⟩ = some (.int .i32 1) /\ w'.frozen? ⟨b, 0, none⟩ = false /\ w'.frozen? ⟨b, 1, none⟩ = false /\ R w') :
  Calls Tryz.prog 101 #[.pointer (some ⟨b, 0, none⟩), .func (.func 102) #[p] #[]] w fun e w' => e = .returned (.tuple #[]) /\ ∃ w1, R w1 /\ w' = (w1.drew.setCell ⟨b, 0, none⟩ (.int .u32 1)).setCell ⟨b, 1, none⟩ (.int .i32 0) := by
 have hl := run_call_load (P := Tryz.prog) Tryz.func137 (by kernel_rfl) (by kernel_rfl) (by kernel_rfl) .u32 (by kernel_rfl) h0
 have hnot : ∀ (x : Bool) (w : World), (Op.unary .not (.bool x)).run Tryz.prog w = .ok (.bool (!x)) w := fun _ _ => rfl
 have HS := Lib.hid (slow_any b p w R h0 h1 f1 hf)
 clear hf
 go_enter Tryz.func101, Tryz.ntmps101
 go_wp2_with (first | (go_at_call 120; refine HS.out.mono ?_; rintro e w' ⟨rfl, w1, hR, rfl⟩; have HR := Lib.hid hR; clear hR) | (go_at_call 119; go_in))
 go_end0
 exact ⟨rfl, w1, HR.out, rfl⟩
def clsI (c : Int) : Int := if c = 95 \/ (97 <= c /\ c <= 122) \/ (65 <= c /\ c <= 90) then 3 else if 48 <= c /\ c <= 57 then 2 else if c = 32 \/ c = 9 \/ c = 10 \/ c = 13 then 1 else 0
def cls (b : UInt8) : Int := clsI b.toNat
def spanL (least : Int) (l : List UInt8) : Nat := (l.takeWhile fun b => decide (least <= cls b)).length
theorem spanL_cons_yes {least : Int} {b : UInt8} {l : List UInt8} (h : least <= cls b) : spanL least (b :: l) = spanL least l + 1 := by
 unfold spanL
 rw [List.takeWhile_cons_of_pos (by simpa using h)]
 rfl
theorem spanL_cons_no {least : Int} {b : UInt8} {l : List UInt8} (h : cls b < least) : spanL least (b :: l) = 0 := by
 unfold spanL
 rw [List.takeWhile_cons_of_neg (by simp; omega)]
 rfl
theorem spanL_le (least : Int) (l : List UInt8) : spanL least l <= l.length := (List.takeWhile_sublist _).length_le
theorem cls_bd (c : Int) : 0 <= clsI c /\ clsI c <= 3 := by unfold clsI; split <;> (try split) <;> (try split) <;> omega
def blankL : Bool -> List UInt8 -> Nat
 | _, [] => 0
 | false, b :: l => if cls b = 1 then blankL false l + 1 else if b = 35 then blankL true l + 1 else 0
 | true, b :: l => if b = 10 then blankL false l + 1 else blankL true l + 1
theorem blankL_le : ∀ (m : Bool) (l : List UInt8), blankL m l <= l.length
 | _, [] => Nat.le_refl _
 | false, b :: l => by
  simp only [blankL]
  have h1 := blankL_le false l
  have h2 := blankL_le true l
  split
  ·simp; omega
  ·split
   ·simp; omega
   ·simp
 | true, b :: l => by
  simp only [blankL]
  have h1 := blankL_le false l
  have h2 := blankL_le true l
  split <;> simp <;> omega
def rest (s : ByteArray) (k : Nat) : List UInt8 := s.data.toList.drop k
theorem rest_len (s : ByteArray) (k : Nat) : (rest s k).length = s.size - k := by simp [rest]
theorem rest_cons (s : ByteArray) (k : Nat) (h : k < s.size) : rest s k = s[k] :: rest s (k + 1) := by
 unfold rest
 rw [List.drop_eq_getElem_cons (by simpa using h)]
 rfl
theorem rest_nil (s : ByteArray) (k : Nat) (h : s.size <= k) : rest s k = [] := by
 unfold rest
 exact List.drop_eq_nil_of_le (by simpa using h)
def spanTo (s : ByteArray) (k : Nat) (least : Int) : Nat := k + spanL least (rest s k)
theorem spanTo_le (s : ByteArray) (k : Nat) (least : Int) (hk : k <= s.size) : spanTo s k least <= s.size := by
 have := spanL_le least (rest s k)
 rw [rest_len] at this
 unfold spanTo; omega
theorem spanTo_ge (s : ByteArray) (k : Nat) (least : Int) : k <= spanTo s k least := by unfold spanTo; omega
def blankTo (s : ByteArray) (k : Nat) : Nat := k + blankL false (rest s k)
theorem blankTo_le (s : ByteArray) (k : Nat) (hk : k <= s.size) : blankTo s k <= s.size := by
 have := blankL_le false (rest s k)
 rw [rest_len] at this
 unfold blankTo; omega
theorem blankTo_ge (s : ByteArray) (k : Nat) : k <= blankTo s k := by unfold blankTo; omega
theorem blankTo_end (s : ByteArray) (k : Nat) (hk : s.size <= k) : blankTo s k = k := by
 unfold blankTo; rw [rest_nil s k hk]; rfl
theorem blankTo_blank (s : ByteArray) (k : Nat) (hk : k < s.size) (h : cls s[k] = 1) : blankTo s k = blankTo s (k + 1) := by
 unfold blankTo; rw [rest_cons s k hk]; simp only [blankL]; rw [if_pos h]; omega
theorem blankTo_stop (s : ByteArray) (k : Nat) (hk : k < s.size) (h : cls s[k] ≠ 1) (h2 : s[k] ≠ 35) : blankTo s k = k := by
 unfold blankTo; rw [rest_cons s k hk]; simp only [blankL]; rw [if_neg h, if_neg h2]; rfl
def inComment (s : ByteArray) (k : Nat) : Nat := k + blankL true (rest s k)
theorem blankTo_comment (s : ByteArray) (k : Nat) (hk : k < s.size) (h2 : s[k] = 35) : blankTo s k = inComment s (k + 1) := by
 unfold blankTo inComment
 rw [rest_cons s k hk]
 simp only [blankL]
 rw [if_neg (by rw [h2]; decide), if_pos h2]; omega
theorem inComment_end (s : ByteArray) (k : Nat) (hk : s.size <= k) : inComment s k = k := by
 unfold inComment; rw [rest_nil s k hk]; rfl
theorem inComment_line (s : ByteArray) (k : Nat) (hk : k < s.size) (h : s[k] = 10) : inComment s k = blankTo s k := by
 unfold inComment blankTo
 rw [rest_cons s k hk]
 simp only [blankL]
 rw [if_pos h, if_pos (by rw [h]; decide)]
theorem inComment_step (s : ByteArray) (k : Nat) (hk : k < s.size) (h : s[k] ≠ 10) : inComment s k = inComment s (k + 1) := by
 unfold inComment; rw [rest_cons s k hk]; simp only [blankL]; rw [if_neg h]; omega
theorem inComment_far (s : ByteArray) : ∀ (n k : Nat), k + n <= s.size -> (∀ i (h : i < s.size), k <= i -> i < k + n -> s[i] ≠ 10) -> inComment s k = inComment s (k + n)
 | 0, _, _, _ => rfl
 | n + 1, k, h, hn => by
  rw [inComment_step s k (by omega) (hn k (by omega) (Nat.le_refl _) (by omega)), inComment_far s n (k + 1) (by omega) (fun i hi h1 h2 => hn i hi (by omega) (by omega))]
  congr 1; omega
theorem indexByte_spec (c : UInt8) : ∀ (l : List UInt8), (Lib.indexByte l c = -1 /\ ∀ b ∈ l, b ≠ c) \/ ∃ n : Nat, Lib.indexByte l c = n /\ l[n]? = some c /\ ∀ i b, i < n -> l[i]? = some b -> b ≠ c
 | [] => .inl ⟨rfl, fun _ h => by cases h⟩
 | b :: l => by
  by_cases h : b = c
  ·subst h
   exact .inr ⟨0, by simp [Lib.indexByte], rfl, fun _ _ h => by omega⟩
  ·have hb : (b == c) = false := by simpa using h
   rcases indexByte_spec c l with ⟨h1, h2⟩ | ⟨n, h1, h2, h3⟩
   ·refine .inl ⟨by simp [Lib.indexByte, hb, h1], fun x hx => ?_⟩
    rcases List.mem_cons.1 hx with rfl | hx
    ·exact h
    ·exact h2 x hx
   ·refine .inr ⟨n + 1, ?_, by simpa using h2, fun i x hi hx => ?_⟩
    ·simp only [Lib.indexByte, hb]
     rw [h1]
     have : ((n : Int) == -1) = false := by simp
     simp [this]
    ·cases i with
     | zero => simp at hx; subst hx; exact h
     | succ i => exact h3 i x (by omega) (by simpa using hx)
theorem rest_get (s : ByteArray) (k i : Nat) (h : k + i < s.size) : (rest s k)[i]? = some s[k + i] := by
 unfold rest
 rw [List.getElem?_drop, List.getElem?_eq_getElem (by simpa using h)]
 rfl
theorem comment_skip (s : ByteArray) (j : Nat) (hj : j < s.size) (h : s[j] = 35) :
  (Lib.indexByte (rest s j) 10 = -1 /\ blankTo s j = s.size) \/ ∃ n : Nat, Lib.indexByte (rest s j) 10 = n /\ 0 < n /\ j + n < s.size /\ blankTo s j = blankTo s (j + n) := by
 have e0 : blankTo s j = inComment s j := by
  rw [blankTo_comment s j hj h, <- inComment_step s j hj (by rw [h]; decide)]
 rcases indexByte_spec 10 (rest s j) with ⟨h1, h2⟩ | ⟨n, h1, h2, h3⟩
 ·refine .inl ⟨h1, ?_⟩
  rw [e0, inComment_far s (s.size - j) j (by omega) (fun i hi h4 h5 => ?_), inComment_end s _ (by omega)]
  ·omega
  ·refine h2 _ (List.mem_of_getElem? (i := i - j) ?_)
   rw [rest_get s j (i - j) (by omega)]
   congr 2; omega
 ·have hlt : n < (rest s j).length := (List.getElem?_eq_some_iff.1 h2).1
  rw [rest_len] at hlt
  refine .inr ⟨n, h1, ?_, by omega, ?_⟩
  ·rcases Nat.eq_zero_or_pos n with h0 | h0
   ·subst h0
    rw [rest_get s j 0 (by omega)] at h2
    simp [h] at h2
   ·exact h0
  ·rw [rest_get s j n (by omega)] at h2
   rw [e0, inComment_far s n j (by omega) (fun i hi h4 h5 => ?_), inComment_line s (j + n) (by omega) (by simpa using h2)]
   refine h3 (i - j) _ (by omega) ?_
   rw [rest_get s j (i - j) (by omega)]
   congr 2; omega
structure Tok where
 kind : Int
 at_ : Int
 s : ByteArray
 n : Int
theorem ret_int {k : IntKind} {a b : Int} (h : a = b) : Ending.returned (.int k a) = .returned (.int k b) := by rw [h]
theorem class_any (c : Int) (w : World) (h0 : 0 <= c) (h1 : c <= 255) : Calls Tryz.prog 109 #[.int .u8 c] w fun e w' => e = .returned (.int .i64 (clsI c)) /\ w = w' := by
 go_enter Tryz.func109, Tryz.ntmps109
 go_wp2
 all_goals go_ret
 all_goals refine ⟨ret_int ?_, rfl⟩
 all_goals (unfold clsI; simp at *; omega)
def Rd (W : World) (B : Nat) (s : ByteArray) (k : Int) (v : Value) : Prop := W.heap[B]? = some (.cells #[.string s, .int .i64 k, v] 146 (0, 0))
theorem Rd.cells {W : World} {B : Nat} {s : ByteArray} {k : Int} {v : Value} (h : Rd W B s k v) : W.cell? ⟨B, 0, none⟩ = some (.string s) /\ W.cell? ⟨B, 1, none⟩ = some (.int .i64 k) /\ W.cell? ⟨B, 2, none⟩ = some v := by
 unfold Rd at h; simp [World.cell?, h]
theorem Rd.free {W : World} {B : Nat} {s : ByteArray} {k : Int} {v : Value} (h : Rd W B s k v) (o : Nat) : W.frozen? ⟨B, o, none⟩ = false := by
 unfold Rd at h; simp [World.frozen?, h]
theorem span_any (B : Nat) (s : ByteArray) (k : Nat) (v : Value) (least : Int) (w : World) (hR : Rd w B s k v) (hs : s.size <= 9223372036854775807) (hk : k <= s.size) :
  Calls Tryz.prog 127 #[.pointer (some ⟨B, 0, none⟩), .int .i64 least] w fun e w' => e = .returned (.int .i64 ((spanTo s k least : Nat))) /\ w = w' := by
 obtain ⟨c0, c1, c2⟩ := hR.cells
 have HR := Lib.hid hR
 clear hR
 go_enter Tryz.func127, Tryz.ntmps127
 go_wp2
 go_loop [5] (fun u => ∃ j : Nat, k <= j /\ j <= s.size /\ u = (.int .i64 j) /\ Hid (j + spanL least (rest s j) = k + spanL least (rest s k))) (fun u => s.size - (intOf u).toNat)
 case atStart => exact ⟨k, Nat.le_refl _, hk, rfl, rfl⟩
 case round =>
  obtain ⟨j, hj1, hj2, rfl, HJ⟩ := hrel
  by_cases hlt : j < s.size
  ·have hb : (s[j].toNat : Int) <= 255 := by have := s[j].toNat_lt; omega
   have hc := rest_cons s j hlt
   have HY : Hid (least <= cls s[j] -> j + 1 + spanL least (rest s (j + 1)) = k + spanL least (rest s k)) := fun h => by
    rw [<- HJ.out, hc, spanL_cons_yes h]; omega
   have HN : Hid (cls s[j] < least -> j = k + spanL least (rest s k)) := fun h => by
    rw [<- HJ.out, hc, spanL_cons_no h]; rfl
   clear hc
   have HC := Lib.hid (class_any (s[j].toNat : Int) w (by omega) hb)
   by_cases hp : least <= cls s[j]
   ·have bp : decide (least <= clsI (s[j].toNat : Int)) = true := by simpa [cls] using hp
    go_wp2_with (go_at_call 109; refine HC.out.mono ?_; rintro e w' ⟨rfl, rfl⟩)
    go_round
    case rel => exact ⟨j + 1, by omega, by omega, by go_num, HY.out hp⟩
    case measure => simp [intOf]; omega
   ·have bp : decide (least <= clsI (s[j].toNat : Int)) = false := by simp [cls] at hp ⊢; omega
    have HE := Lib.hid (HN.out (by omega))
    go_wp2_with (go_at_call 109; refine HC.out.mono ?_; rintro e w' ⟨rfl, rfl⟩)
    go_ret
    exact ⟨ret_int (by have := HE.out; unfold spanTo; omega), rfl⟩
  ·have HE : Hid (j = k + spanL least (rest s k)) := by rw [<- HJ.out, rest_nil s j (by omega)]; rfl
   go_wp2
   go_ret
   exact ⟨ret_int (by have := HE.out; unfold spanTo; omega), rfl⟩
end Go.Proofs.YtjijdgkccfeeaaaGreatDoor
namespace Go.Proofs
open Go.Shelf
def Tryz.lays156_ren : Go.Shelf.Ren := ⟨fun | 156 => 73 | 165 => 103 | 166 => 104 | 169 => 105 | 240 => 122 | 241 => 123 | 276 => 143 | 277 => 144 | n => n, fun | 31 => 42 | 9 => 9 | 3 => 3 | 4 => 4 | 0 => 0 | 20 => 20 | 72 => 174 | 76 => 177 | 70 => 171 | 37 => 172 | 75 => 176 | 127 => 193 | 164 => 216 | 5 => 5 | 80 => 179 | n => n, fun | n => n⟩
theorem Tryz.lays156 : Go.Proofs.Lays.n156 Tryz.prog Tryz.lays156_ren := {
 mixed := by kernel_rfl
 f156 := Tryz.func73.trans (congrArg some (by kernel_rfl))
 f165 := Tryz.func103.trans (congrArg some (by kernel_rfl))
 f166 := Tryz.func104.trans (congrArg some (by kernel_rfl))
 f169 := Tryz.func105.trans (congrArg some (by kernel_rfl))
 f240 := Tryz.func122.trans (congrArg some (by kernel_rfl))
 f241 := Tryz.func123.trans (congrArg some (by kernel_rfl))
 f276 := Tryz.func143.trans (congrArg some (by kernel_rfl))
 f277 := Tryz.func144.trans (congrArg some (by kernel_rfl))
 t0 := Tryz.underlying0
 a0 := Tryz.isAgg0
 z0 := Tryz.sizeOf0
 v0 := Tryz.zeroValue0
 t3 := Tryz.underlying3
 a3 := Tryz.isAgg3
 z3 := Tryz.sizeOf3
 v3 := Tryz.zeroValue3
 t4 := Tryz.underlying4
 a4 := Tryz.isAgg4
 z4 := Tryz.sizeOf4
 v4 := Tryz.zeroValue4
 t9 := Tryz.underlying9
 a9 := Tryz.isAgg9
 z9 := Tryz.sizeOf9
 v9 := Tryz.zeroValue9
 t20 := Tryz.underlying20
 a20 := Tryz.isAgg20
 z20 := Tryz.sizeOf20
 v20 := Tryz.zeroValue20
 t31 := Tryz.underlying42
 a31 := Tryz.isAgg42
 z31 := Tryz.sizeOf42
 v31 := Tryz.zeroValue42
 t37 := Tryz.underlying172
 a37 := Tryz.isAgg172
 z37 := Tryz.sizeOf172
 v37 := Tryz.zeroValue172
 t70 := Tryz.underlying171
 a70 := Tryz.isAgg171
 z70 := Tryz.sizeOf171
 v70 := Tryz.zeroValue171
 t72 := Tryz.underlying174
 a72 := Tryz.isAgg174
 z72 := Tryz.sizeOf174
 v72 := Tryz.zeroValue174
 t75 := Tryz.underlying176
 a75 := Tryz.isAgg176
 z75 := Tryz.sizeOf176
 v75 := Tryz.zeroValue176
 t76 := Tryz.underlying177
 a76 := Tryz.isAgg177
 z76 := Tryz.sizeOf177
 v76 := Tryz.zeroValue177
 t127 := Tryz.underlying193
 a127 := Tryz.isAgg193
 z127 := Tryz.sizeOf193
 v127 := Tryz.zeroValue193
 t164 := Tryz.underlying216
 a164 := Tryz.isAgg216
 z164 := Tryz.sizeOf216
 v164 := Tryz.zeroValue216 }
theorem Tryz.Builder_Extra_156 : Builder.Extra Tryz.prog Tryz.lays156_ren := {
 sizeBuilder := by kernel_rfl
 liesBuilder := by kernel_rfl
 t5 := Tryz.underlying5
 a5 := Tryz.isAgg5
 z5 := Tryz.sizeOf5
 v5 := Tryz.zeroValue5
 infoByte := by kernel_rfl
 cellsByte := by kernel_rfl
 sizeByte := by kernel_rfl
 neB5 := by decide }
open Go.RowKit in
theorem Tryz.strings_Join_none (a : Option Addr) (c : Nat) (sep : ByteArray) (w : World) :
  Calls Tryz.prog 73 #[.slice a 0 c, .string sep] w fun e w' => e = .returned (.string ⟨#[]⟩) /\ w' = w := Any.strings_Join_none Tryz.lays156 Tryz.Builder_Extra_156 a c sep w
open Go.RowKit in
theorem Tryz.strings_Join (bk o c : Nat) (xs : List ByteArray) (sep : ByteArray) (w : World) (hcells : ∀ (j : Nat) x, xs[j]? = some x -> w.cell? ⟨bk, o + j, none⟩ = some (.string x)) (hbk : bk < w.heap.size) (hN : xs.length <= 140737488355328) (hcap : xs.length <= c) (hlen : (Lib.join (xs.map (·.data.toList)) sep.data.toList).length <= 140737488355328) :
  Calls Tryz.prog 73 #[.slice (some ⟨bk, o, none⟩) xs.length c, .string sep] w fun e w' => e = .returned (.string ⟨(Lib.join (xs.map (·.data.toList)) sep.data.toList).toArray⟩) /\ Below w.heap.size w w' := Any.strings_Join Tryz.lays156 Tryz.Builder_Extra_156 bk o c xs sep w hcells hbk hN hcap hlen
def Tryz.lays137_ren : Go.Shelf.Ren := ⟨fun | 137 => 108 | 217 => 126 | 266 => 145 | n => n, fun | 9 => 9 | 5 => 5 | 3 => 3 | n => n, fun | n => n⟩
theorem Tryz.lays137 : Go.Proofs.Lays.n137 Tryz.prog Tryz.lays137_ren := {
 mixed := by kernel_rfl
 f137 := Tryz.func108.trans (congrArg some (by kernel_rfl))
 f217 := Tryz.func126.trans (congrArg some (by kernel_rfl))
 f266 := Tryz.func145.trans (congrArg some (by kernel_rfl))
 t3 := Tryz.underlying3
 a3 := Tryz.isAgg3
 z3 := Tryz.sizeOf3
 v3 := Tryz.zeroValue3
 t5 := Tryz.underlying5
 a5 := Tryz.isAgg5
 z5 := Tryz.sizeOf5
 v5 := Tryz.zeroValue5
 t9 := Tryz.underlying9
 a9 := Tryz.isAgg9
 z9 := Tryz.sizeOf9
 v9 := Tryz.zeroValue9 }
open Go.RowKit in
theorem Tryz.strings_IndexByte (s : ByteArray) (c : Int) (w : World) :
  Calls Tryz.prog 108 #[.string s, .int .u8 c] w fun e w' => e = .returned (.int .i64 (Lib.indexByte s.data.toList c.toNat.toUInt8)) /\ w' = w := Any.strings_IndexByte Tryz.lays137 s c w
def Tryz.laysM171_ren : Go.Shelf.Ren := ⟨fun | 171 => 70 | 243 => 100 | 246 => 118 | 283 => 133 | 284 => 134 | 285 => 135 | 286 => 136 | 129 => 153 | 317 => 152 | 318 => 154 | 319 => 155 | 320 => 156 | 337 => 170 | 338 => 171 | n => n, fun | 3 => 3 | 9 => 9 | 2 => 2 | 4 => 4 | 171 => 195 | 0 => 0 | 53 => 196 | 37 => 172 | 5 => 5 | 173 => 199 | 212 => 224 | 51 => 157 | 20 => 20 | 213 => 225 | 46 => 227 | 232 => 280 | 233 => 281 | n => n, fun | 17 => 1 | 18 => 6 | 19 => 7 | n => n⟩
theorem Tryz.laysM171 : Go.Proofs.LaysM.n171 Tryz.prog Tryz.laysM171_ren := {
 mixed := by kernel_rfl
 f129 := Tryz.func153.trans (congrArg some (by kernel_rfl))
 f171 := Tryz.func70.trans (congrArg some (by kernel_rfl))
 f243 := Tryz.func100.trans (congrArg some (by kernel_rfl))
 f246 := Tryz.func118.trans (congrArg some (by kernel_rfl))
 f283 := Tryz.func133.trans (congrArg some (by kernel_rfl))
 f284 := Tryz.func134.trans (congrArg some (by kernel_rfl))
 f285 := Tryz.func135.trans (congrArg some (by kernel_rfl))
 f286 := Tryz.func136.trans (congrArg some (by kernel_rfl))
 f317 := Tryz.func152.trans (congrArg some (by kernel_rfl))
 f318 := Tryz.func154.trans (congrArg some (by kernel_rfl))
 f319 := Tryz.func155.trans (congrArg some (by kernel_rfl))
 f320 := Tryz.func156.trans (congrArg some (by kernel_rfl))
 f337 := Tryz.func170.trans (congrArg some (by kernel_rfl))
 f338 := Tryz.func171.trans (congrArg some (by kernel_rfl))
 t0 := Tryz.underlying0
 a0 := Tryz.isAgg0
 z0 := Tryz.sizeOf0
 v0 := Tryz.zeroValue0
 t2 := Tryz.underlying2
 a2 := Tryz.isAgg2
 z2 := Tryz.sizeOf2
 v2 := Tryz.zeroValue2
 t3 := Tryz.underlying3
 a3 := Tryz.isAgg3
 z3 := Tryz.sizeOf3
 v3 := Tryz.zeroValue3
 t4 := Tryz.underlying4
 a4 := Tryz.isAgg4
 z4 := Tryz.sizeOf4
 v4 := Tryz.zeroValue4
 t5 := Tryz.underlying5
 a5 := Tryz.isAgg5
 z5 := Tryz.sizeOf5
 v5 := Tryz.zeroValue5
 t9 := Tryz.underlying9
 a9 := Tryz.isAgg9
 z9 := Tryz.sizeOf9
 v9 := Tryz.zeroValue9
 t20 := Tryz.underlying20
 a20 := Tryz.isAgg20
 z20 := Tryz.sizeOf20
 v20 := Tryz.zeroValue20
 t37 := Tryz.underlying172
 a37 := Tryz.isAgg172
 z37 := Tryz.sizeOf172
 v37 := Tryz.zeroValue172
 t46 := Tryz.underlying227
 a46 := Tryz.isAgg227
 z46 := Tryz.sizeOf227
 v46 := Tryz.zeroValue227
 t51 := Tryz.underlying157
 a51 := Tryz.isAgg157
 z51 := Tryz.sizeOf157
 v51 := Tryz.zeroValue157
 t53 := Tryz.underlying196
 a53 := Tryz.isAgg196
 z53 := Tryz.sizeOf196
 v53 := Tryz.zeroValue196
 t171 := Tryz.underlying195
 a171 := Tryz.isAgg195
 z171 := Tryz.sizeOf195
 v171 := Tryz.zeroValue195
 t173 := Tryz.underlying199
 a173 := Tryz.isAgg199
 z173 := Tryz.sizeOf199
 v173 := Tryz.zeroValue199
 t212 := Tryz.underlying224
 a212 := Tryz.isAgg224
 z212 := Tryz.sizeOf224
 v212 := Tryz.zeroValue224
 t213 := Tryz.underlying225
 a213 := Tryz.isAgg225
 z213 := Tryz.sizeOf225
 t232 := Tryz.underlying280
 a232 := Tryz.isAgg280
 z232 := Tryz.sizeOf280
 v232 := Tryz.zeroValue280
 t233 := Tryz.underlying281
 a233 := Tryz.isAgg281
 z233 := Tryz.sizeOf281
 v233 := Tryz.zeroValue281
 g17 := by kernel_rfl
 g18 := by kernel_rfl
 g19 := by kernel_rfl
 i0 := by kernel_rfl
 i2 := by kernel_rfl
 i3 := by kernel_rfl
 i4 := by kernel_rfl
 i5 := by kernel_rfl
 i9 := by kernel_rfl
 i20 := by kernel_rfl
 i37 := by kernel_rfl
 i46 := by kernel_rfl
 i51 := by kernel_rfl
 i53 := by kernel_rfl
 i171 := by kernel_rfl
 i173 := by kernel_rfl
 i212 := by kernel_rfl
 i232 := by kernel_rfl
 i233 := by kernel_rfl
 m17 := by kernel_rfl
 m18 := by kernel_rfl
 m19 := by kernel_rfl }
open Go.RowKit Go.Sort Go.Lib in
theorem Tryz.strconv_Itoa (n : Int) (h0 : -9223372036854775808 <= n) (h1 : n <= 9223372036854775807) (w : World) (htab : Lib.TabIs Tryz.prog w "internal/strconv.uint64pow10" .u64 Lib.pow10Tab) :
  Calls Tryz.prog 70 #[.int .i64 n] w fun e w' => e = .returned (.string ⟨(Lib.itoa n).toArray⟩) /\ ∃ k os, w' = grow (w.drewN k) os := Any.strconv_Itoa Tryz.laysM171 n h0 h1 w htab
def Tryz.laysC172_ren : Go.Shelf.Ren := ⟨fun | 172 => 128 | 244 => 146 | 245 => 147 | 247 => 163 | 279 => 164 | 280 => 165 | 281 => 166 | 282 => 167 | 287 => 181 | 316 => 182 | 171 => 70 | 205 => 183 | 321 => 196 | 322 => 197 | 243 => 100 | 246 => 118 | 283 => 133 | 284 => 134 | 285 => 135 | 286 => 136 | 129 => 153 | 317 => 152 | 318 => 154 | 319 => 155 | 320 => 156 | 337 => 170 | 338 => 171 | n => n, fun | 9 => 9 | 3 => 3 | 75 => 176 | 76 => 177 | 4 => 4 | 5 => 5 | 167 => 243 | 37 => 172 | 0 => 0 | 85 => 244 | 2 => 2 | 168 => 246 | 53 => 196 | 175 => 264 | 46 => 227 | 210 => 267 | 127 => 193 | 145 => 286 | 143 => 284 | 21 => 21 | 171 => 195 | 173 => 199 | 212 => 224 | 51 => 157 | 20 => 20 | 213 => 225 | 232 => 280 | 233 => 281 | 80 => 179 | n => n, fun | 15 => 4 | 16 => 5 | 17 => 1 | 18 => 6 | 19 => 7 | n => n⟩
theorem Tryz.laysC172 : Go.Proofs.LaysC.n172 Tryz.prog Tryz.laysC172_ren := {
 mixed := by kernel_rfl
 f129 := Tryz.func153.trans (congrArg some (by kernel_rfl))
 f171 := Tryz.func70.trans (congrArg some (by kernel_rfl))
 f172 := Tryz.func128.trans (congrArg some (by kernel_rfl))
 f205 := Tryz.func183.trans (congrArg some (by kernel_rfl))
 f243 := Tryz.func100.trans (congrArg some (by kernel_rfl))
 f244 := Tryz.func146.trans (congrArg some (by kernel_rfl))
 f245 := Tryz.func147.trans (congrArg some (by kernel_rfl))
 f246 := Tryz.func118.trans (congrArg some (by kernel_rfl))
 f247 := Tryz.func163.trans (congrArg some (by kernel_rfl))
 f279 := Tryz.func164.trans (congrArg some (by kernel_rfl))
 f280 := Tryz.func165.trans (congrArg some (by kernel_rfl))
 f281 := Tryz.func166.trans (congrArg some (by kernel_rfl))
 f282 := Tryz.func167.trans (congrArg some (by kernel_rfl))
 f283 := Tryz.func133.trans (congrArg some (by kernel_rfl))
 f284 := Tryz.func134.trans (congrArg some (by kernel_rfl))
 f285 := Tryz.func135.trans (congrArg some (by kernel_rfl))
 f286 := Tryz.func136.trans (congrArg some (by kernel_rfl))
 f287 := Tryz.func181.trans (congrArg some (by kernel_rfl))
 f316 := Tryz.func182.trans (congrArg some (by kernel_rfl))
 f317 := Tryz.func152.trans (congrArg some (by kernel_rfl))
 f318 := Tryz.func154.trans (congrArg some (by kernel_rfl))
 f319 := Tryz.func155.trans (congrArg some (by kernel_rfl))
 f320 := Tryz.func156.trans (congrArg some (by kernel_rfl))
 f321 := Tryz.func196.trans (congrArg some (by kernel_rfl))
 f322 := Tryz.func197.trans (congrArg some (by kernel_rfl))
 f337 := Tryz.func170.trans (congrArg some (by kernel_rfl))
 f338 := Tryz.func171.trans (congrArg some (by kernel_rfl))
 t0 := Tryz.underlying0
 a0 := Tryz.isAgg0
 z0 := Tryz.sizeOf0
 v0 := Tryz.zeroValue0
 t2 := Tryz.underlying2
 a2 := Tryz.isAgg2
 z2 := Tryz.sizeOf2
 v2 := Tryz.zeroValue2
 t3 := Tryz.underlying3
 a3 := Tryz.isAgg3
 z3 := Tryz.sizeOf3
 v3 := Tryz.zeroValue3
 t4 := Tryz.underlying4
 a4 := Tryz.isAgg4
 z4 := Tryz.sizeOf4
 v4 := Tryz.zeroValue4
 t5 := Tryz.underlying5
 a5 := Tryz.isAgg5
 z5 := Tryz.sizeOf5
 v5 := Tryz.zeroValue5
 t9 := Tryz.underlying9
 a9 := Tryz.isAgg9
 z9 := Tryz.sizeOf9
 v9 := Tryz.zeroValue9
 t20 := Tryz.underlying20
 a20 := Tryz.isAgg20
 z20 := Tryz.sizeOf20
 v20 := Tryz.zeroValue20
 t21 := Tryz.underlying21
 a21 := Tryz.isAgg21
 z21 := Tryz.sizeOf21
 v21 := Tryz.zeroValue21
 t37 := Tryz.underlying172
 a37 := Tryz.isAgg172
 z37 := Tryz.sizeOf172
 v37 := Tryz.zeroValue172
 t46 := Tryz.underlying227
 a46 := Tryz.isAgg227
 z46 := Tryz.sizeOf227
 v46 := Tryz.zeroValue227
 t51 := Tryz.underlying157
 a51 := Tryz.isAgg157
 z51 := Tryz.sizeOf157
 v51 := Tryz.zeroValue157
 t53 := Tryz.underlying196
 a53 := Tryz.isAgg196
 z53 := Tryz.sizeOf196
 v53 := Tryz.zeroValue196
 t75 := Tryz.underlying176
 a75 := Tryz.isAgg176
 z75 := Tryz.sizeOf176
 v75 := Tryz.zeroValue176
 t76 := Tryz.underlying177
 a76 := Tryz.isAgg177
 z76 := Tryz.sizeOf177
 v76 := Tryz.zeroValue177
 t85 := Tryz.underlying244
 a85 := Tryz.isAgg244
 z85 := Tryz.sizeOf244
 v85 := Tryz.zeroValue244
 t127 := Tryz.underlying193
 a127 := Tryz.isAgg193
 z127 := Tryz.sizeOf193
 v127 := Tryz.zeroValue193
 t143 := Tryz.underlying284
 a143 := Tryz.isAgg284
 z143 := Tryz.sizeOf284
 v143 := Tryz.zeroValue284
 t145 := Tryz.underlying286
 a145 := Tryz.isAgg286
 z145 := Tryz.sizeOf286
 v145 := Tryz.zeroValue286
 t167 := Tryz.underlying243
 a167 := Tryz.isAgg243
 z167 := Tryz.sizeOf243
 v167 := Tryz.zeroValue243
 t168 := Tryz.underlying246
 a168 := Tryz.isAgg246
 z168 := Tryz.sizeOf246
 v168 := Tryz.zeroValue246
 t171 := Tryz.underlying195
 a171 := Tryz.isAgg195
 z171 := Tryz.sizeOf195
 v171 := Tryz.zeroValue195
 t173 := Tryz.underlying199
 a173 := Tryz.isAgg199
 z173 := Tryz.sizeOf199
 v173 := Tryz.zeroValue199
 t175 := Tryz.underlying264
 a175 := Tryz.isAgg264
 z175 := Tryz.sizeOf264
 v175 := Tryz.zeroValue264
 t210 := Tryz.underlying267
 a210 := Tryz.isAgg267
 z210 := Tryz.sizeOf267
 v210 := Tryz.zeroValue267
 t212 := Tryz.underlying224
 a212 := Tryz.isAgg224
 z212 := Tryz.sizeOf224
 v212 := Tryz.zeroValue224
 t213 := Tryz.underlying225
 a213 := Tryz.isAgg225
 z213 := Tryz.sizeOf225
 t232 := Tryz.underlying280
 a232 := Tryz.isAgg280
 z232 := Tryz.sizeOf280
 v232 := Tryz.zeroValue280
 t233 := Tryz.underlying281
 a233 := Tryz.isAgg281
 z233 := Tryz.sizeOf281
 v233 := Tryz.zeroValue281
 g15 := by kernel_rfl
 g16 := by kernel_rfl
 g17 := by kernel_rfl
 g18 := by kernel_rfl
 g19 := by kernel_rfl
 t80 := Tryz.underlying179
 a80 := Tryz.isAgg179
 z80 := Tryz.sizeOf179
 v80 := Tryz.zeroValue179
 i0 := by kernel_rfl
 i2 := by kernel_rfl
 i3 := by kernel_rfl
 i4 := by kernel_rfl
 i5 := by kernel_rfl
 i9 := by kernel_rfl
 i20 := by kernel_rfl
 i21 := by kernel_rfl
 i37 := by kernel_rfl
 i46 := by kernel_rfl
 i51 := by kernel_rfl
 i53 := by kernel_rfl
 i75 := by kernel_rfl
 i76 := by kernel_rfl
 i80 := by kernel_rfl
 i85 := by kernel_rfl
 i127 := by kernel_rfl
 i143 := by kernel_rfl
 i145 := by kernel_rfl
 i167 := by kernel_rfl
 i168 := by kernel_rfl
 i171 := by kernel_rfl
 i173 := by kernel_rfl
 i175 := by kernel_rfl
 i210 := by kernel_rfl
 i212 := by kernel_rfl
 i232 := by kernel_rfl
 i233 := by kernel_rfl
 m15 := by kernel_rfl
 m16 := by kernel_rfl
 m17 := by kernel_rfl
 m18 := by kernel_rfl
 m19 := by kernel_rfl
 c0 := by kernel_rfl
 c2 := by kernel_rfl
 c3 := by kernel_rfl
 c4 := by kernel_rfl
 c5 := by kernel_rfl
 c9 := by kernel_rfl
 c20 := by kernel_rfl
 c21 := by kernel_rfl
 c37 := by kernel_rfl
 c46 := by kernel_rfl
 c51 := by kernel_rfl
 c53 := by kernel_rfl
 c75 := by kernel_rfl
 c76 := by kernel_rfl
 c80 := by kernel_rfl
 c85 := by kernel_rfl
 c127 := by kernel_rfl
 c143 := by kernel_rfl
 c145 := by kernel_rfl
 c167 := by kernel_rfl
 c168 := by kernel_rfl
 c171 := by kernel_rfl
 c173 := by kernel_rfl
 c175 := by kernel_rfl
 c210 := by kernel_rfl
 c212 := by kernel_rfl
 c213 := by kernel_rfl
 c232 := by kernel_rfl
 c233 := by kernel_rfl }
open Go.RowKit in
theorem Tryz.strconv_Atoi_ok (s : ByteArray) (hmax : s.size <= 9223372036854775806) (v : Int) (h : Lib.atoiAll s.data.toList = .ok v) (w : World) :
  Calls Tryz.prog 128 #[.string s] w fun e w' => e = .returned (.tuple #[.int .i64 v, .nilIface]) /\ (w' = w \/ ∃ t, w' = Lib.bytesWorld w 5 t) := Any.strconv_Atoi_ok Tryz.laysC172 s hmax v h w
open Go.RowKit in
theorem Tryz.strconv_Atoi_range_var (s : ByteArray) (hlim : s.size <= 281474976710656) (h : Lib.atoiAll s.data.toList = .range) (tp : TypeId) (p : Value) (w : World) (hvar : w.var? Tryz.prog "strconv.ErrRange" = some #[.iface tp p]) :
  Calls Tryz.prog 128 #[.string s] w fun e w' => ∃ N, e = .returned (.tuple #[.int .i64 (Lib.atoiSat s.data.toList), .iface 246 (.pointer (some ⟨N, 0, none⟩))]) /\ w.heap.size <= N /\ w'.heap[N]? = some (.cells #[.string ⟨#[65, 116, 111, 105]⟩, .string s, .iface tp p] 267 (0, 0)) /\ Below w.heap.size w w' := Any.strconv_Atoi_range_var Tryz.laysC172 s hlim h tp p w hvar
def Tryz.lays144_ren : Go.Shelf.Ren := ⟨fun | 144 => 131 | 143 => 151 | 219 => 169 | 217 => 126 | 225 => 186 | 224 => 187 | 267 => 188 | 266 => 145 | 314 => 198 | n => n, fun | 9 => 9 | 4 => 4 | 3 => 3 | 5 => 5 | 46 => 227 | 146 => 289 | 51 => 157 | n => n, fun | 1 => 2 | n => n⟩
theorem Tryz.lays144 : Go.Proofs.Lays.n144 Tryz.prog Tryz.lays144_ren := {
 mixed := by kernel_rfl
 f143 := Tryz.func151.trans (congrArg some (by kernel_rfl))
 f144 := Tryz.func131.trans (congrArg some (by kernel_rfl))
 f217 := Tryz.func126.trans (congrArg some (by kernel_rfl))
 f219 := Tryz.func169.trans (congrArg some (by kernel_rfl))
 f224 := Tryz.func187.trans (congrArg some (by kernel_rfl))
 f225 := Tryz.func186.trans (congrArg some (by kernel_rfl))
 f266 := Tryz.func145.trans (congrArg some (by kernel_rfl))
 f267 := Tryz.func188.trans (congrArg some (by kernel_rfl))
 f314 := Tryz.func198.trans (congrArg some (by kernel_rfl))
 t3 := Tryz.underlying3
 a3 := Tryz.isAgg3
 z3 := Tryz.sizeOf3
 v3 := Tryz.zeroValue3
 t4 := Tryz.underlying4
 a4 := Tryz.isAgg4
 z4 := Tryz.sizeOf4
 v4 := Tryz.zeroValue4
 t5 := Tryz.underlying5
 a5 := Tryz.isAgg5
 z5 := Tryz.sizeOf5
 v5 := Tryz.zeroValue5
 t9 := Tryz.underlying9
 a9 := Tryz.isAgg9
 z9 := Tryz.sizeOf9
 v9 := Tryz.zeroValue9
 t46 := Tryz.underlying227
 a46 := Tryz.isAgg227
 z46 := Tryz.sizeOf227
 v46 := Tryz.zeroValue227
 t51 := Tryz.underlying157
 a51 := Tryz.isAgg157
 z51 := Tryz.sizeOf157
 v51 := Tryz.zeroValue157
 t146 := Tryz.underlying289
 a146 := Tryz.isAgg289
 z146 := Tryz.sizeOf289
 v146 := Tryz.zeroValue289
 g1 := by kernel_rfl }
open Go.RowKit Go.Lib in
theorem Tryz.strings_Contains_one (s : ByteArray) (c : UInt8) (w : World) :
  Calls Tryz.prog 131 #[.string s, .string ⟨#[c]⟩] w fun e w' => e = .returned (.bool (decide (0 <= Lib.indexByte s.data.toList c))) /\ w' = w := Any.strings_Contains_one Tryz.lays144 s c w
def Tryz.lays138_ren : Go.Shelf.Ren := ⟨fun | 138 => 226 | 195 => 227 | 218 => 228 | 143 => 151 | 219 => 169 | 217 => 126 | 225 => 186 | 224 => 187 | 267 => 188 | 266 => 145 | 314 => 198 | n => n, fun | 9 => 9 | 3 => 3 | 4 => 4 | 5 => 5 | 0 => 0 | 46 => 227 | 146 => 289 | 51 => 157 | n => n, fun | 1 => 2 | n => n⟩
theorem Tryz.lays138 : Go.Proofs.Lays.n138 Tryz.prog Tryz.lays138_ren := {
 mixed := by kernel_rfl
 f138 := Tryz.func226.trans (congrArg some (by kernel_rfl))
 f143 := Tryz.func151.trans (congrArg some (by kernel_rfl))
 f195 := Tryz.func227.trans (congrArg some (by kernel_rfl))
 f217 := Tryz.func126.trans (congrArg some (by kernel_rfl))
 f218 := Tryz.func228.trans (congrArg some (by kernel_rfl))
 f219 := Tryz.func169.trans (congrArg some (by kernel_rfl))
 f224 := Tryz.func187.trans (congrArg some (by kernel_rfl))
 f225 := Tryz.func186.trans (congrArg some (by kernel_rfl))
 f266 := Tryz.func145.trans (congrArg some (by kernel_rfl))
 f267 := Tryz.func188.trans (congrArg some (by kernel_rfl))
 f314 := Tryz.func198.trans (congrArg some (by kernel_rfl))
 t0 := Tryz.underlying0
 a0 := Tryz.isAgg0
 z0 := Tryz.sizeOf0
 v0 := Tryz.zeroValue0
 t3 := Tryz.underlying3
 a3 := Tryz.isAgg3
 z3 := Tryz.sizeOf3
 v3 := Tryz.zeroValue3
 t4 := Tryz.underlying4
 a4 := Tryz.isAgg4
 z4 := Tryz.sizeOf4
 v4 := Tryz.zeroValue4
 t5 := Tryz.underlying5
 a5 := Tryz.isAgg5
 z5 := Tryz.sizeOf5
 v5 := Tryz.zeroValue5
 t9 := Tryz.underlying9
 a9 := Tryz.isAgg9
 z9 := Tryz.sizeOf9
 v9 := Tryz.zeroValue9
 t46 := Tryz.underlying227
 a46 := Tryz.isAgg227
 z46 := Tryz.sizeOf227
 v46 := Tryz.zeroValue227
 t51 := Tryz.underlying157
 a51 := Tryz.isAgg157
 z51 := Tryz.sizeOf157
 v51 := Tryz.zeroValue157
 t146 := Tryz.underlying289
 a146 := Tryz.isAgg289
 z146 := Tryz.sizeOf289
 v146 := Tryz.zeroValue289
 g1 := by kernel_rfl }
open Go.RowKit Go.Lib in
theorem Tryz.strings_Count_one (s : ByteArray) (c : UInt8) (w : World) :
  Calls Tryz.prog 226 #[.string s, .string ⟨#[c]⟩] w fun e w' => e = .returned (.int .i64 (Lib.countByte s.data.toList c)) /\ w' = w := Any.strings_Count_one Tryz.lays138 s c w
def Tryz.lays99_ren : Go.Shelf.Ren := ⟨fun | 99 => 130 | 206 => 150 | n => n, fun | 9 => 9 | 4 => 4 | 3 => 3 | n => n, fun | n => n⟩
theorem Tryz.lays99 : Go.Proofs.Lays.n99 Tryz.prog Tryz.lays99_ren := {
 mixed := by kernel_rfl
 f99 := Tryz.func130.trans (congrArg some (by kernel_rfl))
 f206 := Tryz.func150.trans (congrArg some (by kernel_rfl))
 t3 := Tryz.underlying3
 a3 := Tryz.isAgg3
 z3 := Tryz.sizeOf3
 v3 := Tryz.zeroValue3
 t4 := Tryz.underlying4
 a4 := Tryz.isAgg4
 z4 := Tryz.sizeOf4
 v4 := Tryz.zeroValue4
 t9 := Tryz.underlying9
 a9 := Tryz.isAgg9
 z9 := Tryz.sizeOf9
 v9 := Tryz.zeroValue9 }
open Go.RowKit Go.Lib in
theorem Tryz.strings_HasPrefix (s p : ByteArray) (w : World) :
  Calls Tryz.prog 130 #[.string s, .string p] w fun e w' => e = .returned (.bool (Lib.hasPrefix s.data.toList p.data.toList)) /\ w' = w := Any.strings_HasPrefix Tryz.lays99 s p w
def Tryz.lays157_ren : Go.Shelf.Ren := ⟨fun | 157 => 129 | 229 => 148 | 199 => 149 | 261 => 168 | 311 => 184 | 312 => 185 | n => n, fun | 9 => 9 | 31 => 42 | 3 => 3 | 5 => 5 | 4 => 4 | 119 => 209 | 0 => 0 | 40 => 221 | 152 => 249 | 21 => 21 | 154 => 251 | 51 => 157 | 141 => 253 | 196 => 272 | 193 => 269 | 198 => 275 | 49 => 273 | 194 => 270 | 201 => 278 | 226 => 287 | 46 => 227 | 227 => 288 | n => n, fun | 0 => 0 | 6 => 3 | n => n⟩
theorem Tryz.lays157 : Go.Proofs.Lays.n157 Tryz.prog Tryz.lays157_ren := {
 mixed := by kernel_rfl
 f157 := Tryz.func129.trans (congrArg some (by kernel_rfl))
 f199 := Tryz.func149.trans (congrArg some (by kernel_rfl))
 f229 := Tryz.func148.trans (congrArg some (by kernel_rfl))
 f261 := Tryz.func168.trans (congrArg some (by kernel_rfl))
 f311 := Tryz.func184.trans (congrArg some (by kernel_rfl))
 f312 := Tryz.func185.trans (congrArg some (by kernel_rfl))
 t0 := Tryz.underlying0
 a0 := Tryz.isAgg0
 z0 := Tryz.sizeOf0
 v0 := Tryz.zeroValue0
 t3 := Tryz.underlying3
 a3 := Tryz.isAgg3
 z3 := Tryz.sizeOf3
 v3 := Tryz.zeroValue3
 t4 := Tryz.underlying4
 a4 := Tryz.isAgg4
 z4 := Tryz.sizeOf4
 v4 := Tryz.zeroValue4
 t5 := Tryz.underlying5
 a5 := Tryz.isAgg5
 z5 := Tryz.sizeOf5
 v5 := Tryz.zeroValue5
 t9 := Tryz.underlying9
 a9 := Tryz.isAgg9
 z9 := Tryz.sizeOf9
 v9 := Tryz.zeroValue9
 t21 := Tryz.underlying21
 a21 := Tryz.isAgg21
 z21 := Tryz.sizeOf21
 v21 := Tryz.zeroValue21
 t31 := Tryz.underlying42
 a31 := Tryz.isAgg42
 z31 := Tryz.sizeOf42
 v31 := Tryz.zeroValue42
 t40 := Tryz.underlying221
 a40 := Tryz.isAgg221
 z40 := Tryz.sizeOf221
 v40 := Tryz.zeroValue221
 t46 := Tryz.underlying227
 a46 := Tryz.isAgg227
 z46 := Tryz.sizeOf227
 v46 := Tryz.zeroValue227
 t49 := Tryz.underlying273
 a49 := Tryz.isAgg273
 z49 := Tryz.sizeOf273
 v49 := Tryz.zeroValue273
 t51 := Tryz.underlying157
 a51 := Tryz.isAgg157
 z51 := Tryz.sizeOf157
 v51 := Tryz.zeroValue157
 t119 := Tryz.underlying209
 a119 := Tryz.isAgg209
 z119 := Tryz.sizeOf209
 t141 := Tryz.underlying253
 a141 := Tryz.isAgg253
 z141 := Tryz.sizeOf253
 v141 := Tryz.zeroValue253
 t152 := Tryz.underlying249
 a152 := Tryz.isAgg249
 z152 := Tryz.sizeOf249
 v152 := Tryz.zeroValue249
 t154 := Tryz.underlying251
 a154 := Tryz.isAgg251
 z154 := Tryz.sizeOf251
 v154 := Tryz.zeroValue251
 t193 := Tryz.underlying269
 a193 := Tryz.isAgg269
 z193 := Tryz.sizeOf269
 v193 := Tryz.zeroValue269
 t194 := Tryz.underlying270
 a194 := Tryz.isAgg270
 z194 := Tryz.sizeOf270
 v194 := Tryz.zeroValue270
 t196 := Tryz.underlying272
 a196 := Tryz.isAgg272
 z196 := Tryz.sizeOf272
 v196 := Tryz.zeroValue272
 t198 := Tryz.underlying275
 a198 := Tryz.isAgg275
 z198 := Tryz.sizeOf275
 v198 := Tryz.zeroValue275
 t201 := Tryz.underlying278
 a201 := Tryz.isAgg278
 z201 := Tryz.sizeOf278
 v201 := Tryz.zeroValue278
 t226 := Tryz.underlying287
 a226 := Tryz.isAgg287
 z226 := Tryz.sizeOf287
 v226 := Tryz.zeroValue287
 t227 := Tryz.underlying288
 a227 := Tryz.isAgg288
 z227 := Tryz.sizeOf288
 v227 := Tryz.zeroValue288
 g0 := by kernel_rfl
 g6 := by kernel_rfl }
open Go.RowKit Go.Lib in
theorem Tryz.strings_Fields (s : ByteArray) (w : World) (hs : s.size < 4294967281) (hascii : ∀ (j : Nat) b, s.data.toList[j]? = some b -> b.toNat < 128) (htab : Lib.TabIs Tryz.prog w "strings.asciiSpace" .u8 Lib.asciiSpaceTab) :
  Calls Tryz.prog 129 #[.string s] w fun e w' =>
   e = .returned (.slice (some ⟨w.heap.size, 0, none⟩) (Lib.fields s.data.toList).length (Lib.fields s.data.toList).length) /\ w' = w.alloc (.cells ((Lib.fields s.data.toList).map fun l => Value.string ⟨l.toArray⟩).toArray 9) := Any.strings_Fields Tryz.lays157 (by kernel_rfl) (by kernel_rfl) s w hs hascii htab
end Go.Proofs
