/- Part 14 of the proof of lawSum.card: ParWalkI, LexWalkE, LexWalkF, LexWalkG, LexWalkH, LexList, LexWalkJ, LexRepl, LexBuild, LexBuildW, LexReplOnce, LexReplW, ParPrF. Conditions: those of each theorem. -/
import Derived.Laws.IdiomStrings
import Derived.Lib.BufferRead
import Derived.Maps.AppendAt
import Derived.Lib.AppendIntMem
import Derived.Test.YthejfklieedjmaaGreatDoorProg
import Derived.Conc.MuLone
import Derived.Conc.MuData
import Derived.RegionCalls
import Derived.RegionTactic
import Derived.ChangeAlike
import Derived.WalkKit
import Derived.Laws.NewBlocks
import Derived.Deep.WholeRow
import Derived.Lib.ConvBytes
import Derived.Deep.OwnRows
import Derived.Laws.CopyOwn
import Derived.Defers
import Derived.Recover
import Derived.Laws.Pointers
import Derived.Test.YthejfklieedjmaaGreatDoorQs01
import Derived.Test.YthejfklieedjmaaGreatDoorQs02
import Derived.Test.YthejfklieedjmaaGreatDoorQs07
import Derived.Test.YthejfklieedjmaaGreatDoorQs13
set_option linter.unusedSimpArgs false
namespace Go.Proofs.YthejfklieedjmaaGreatDoor
open Go Go.Proofs Go.RowKit
attribute [local go_sem] Oper.semAt_some
structure OBx (B ob g cap : Nat) (ts : List Tok) (w : World) (lo : Nat) (v : Value) (ps : List (Fm × Value × Value)) (j : Nat) (n : Nat) (W : World) : Prop where
 par : PS B g cap ts W j (n : Nat)
 box : W.heap[ob]? = some (.cells #[v] 63 (0, 0))
 own : Hid (Own W lo 69 4 fmEnc fmAt v ps.length ps)
 tur : Turned (fun b => b = B \/ b = ob) w W
 sep : ob ≠ B /\ g ≠ ob /\ B < lo /\ ob < lo /\ g < lo /\ w.heap.size <= lo
section
variable {B ob g cap : Nat} {ts : List Tok} {w W W' : World} {lo : Nat} {v : Value} {ps : List (Fm × Value × Value)} {j i n n' : Nat}
theorem OBx.same (h : Hid (OBx B ob g cap ts w lo v ps j n W)) (ht : Turned (fun _ => False) W W') : Hid (OBx B ob g cap ts w lo v ps j n W') :=
 Lib.hid ⟨h.out.par.same ht (fun _ h => h.elim), (ht.block ob (getElem?_lt h.out.box) id).trans h.out.box, Own.move h.out.own fmMov ht (fun _ h => h.elim), h.out.tur.trans (ht.mono fun _ h => h.elim), h.out.sep⟩
theorem OBx.call (h : Hid (OBx B ob g cap ts w lo v ps j n W)) (ht : Turned (fun b => b = B) W W') (hp : PS B g cap ts W' i (n' : Nat)) : Hid (OBx B ob g cap ts w lo v ps i n' W') :=
 Lib.hid ⟨hp, (ht.block ob (getElem?_lt h.out.box) h.out.sep.1).trans h.out.box, Own.move h.out.own fmMov ht (fun b hb => by have := h.out.sep; omega), h.out.tur.trans (ht.mono fun _ h => .inl h), h.out.sep⟩
end
def textL (k0 : Nat) : List UInt8 -> Nat -> List UInt8 -> TR
 | [], _, b => if 200 < b.length then .err 2 else .err 28
 | c :: l, j, b =>
  if 200 < b.length then .err 2
  else if c = 34 then .tok ⟨3, k0, ⟨b.toArray⟩, 0⟩ (j + 1)
  else if c = 92 then
   match l with
   | [] => .err 28
   | d :: l' => if d = 34 then textL k0 l' (j + 2) (b ++ [34]) else if d = 92 then textL k0 l' (j + 2) (b ++ [92]) else if d = 110 then textL k0 l' (j + 2) (b ++ [10]) else .err 28
  else if c.toNat < 32 \/ 126 < c.toNat then .err 28
  else textL k0 l (j + 1) (b ++ [c])
def textT (s : ByteArray) (k : Nat) : TR := if (rest s k)[0]! ≠ 34 then .none else textL k (rest s (k + 1)) (k + 1) []
def encBy (c : UInt8) : Value := .int .u8 (c.toNat : Int)
structure TS (w : World) (s : ByteArray) (k : Nat) (v : Value) (bs : List UInt8) (j : Nat) (wr : World) : Prop where
 gt : k < j
 le : j <= s.size
 own : wr.ownsRow w.heap.size 5 1 v bs.length (bs.map encBy)
 tur : Turned (fun i => w.heap.size <= i) w wr
 eq : textL k (rest s j) j bs = textL k (rest s (k + 1)) (k + 1) []
theorem TS.push {w wr w4 : World} {s : ByteArray} {k j : Nat} {v v' : Value} {bs : List UInt8} (h : TS w s k v bs j wr) (x : UInt8) (j' : Nat) (hj : j <= j') (hj' : j' <= s.size) (he : textL k (rest s j) j bs = textL k (rest s j') j' (bs ++ [x]))
  (hown' : w4.ownsRow w.heap.size 5 1 v' (bs.length + 1) (bs.map encBy ++ [encBy x])) (hgrow : (wr.alloc (.cells #[encBy x] 5)).grownBy w4 v.ownBlock) : TS w s k v' (bs ++ [x]) j' w4 := by
 have hg := h.gt
 refine ⟨by omega, hj', by simpa using hown', ?_, by rw [<- he, h.eq]⟩
 have hb := ownsRow_block h.own
 exact (h.tur.alloc _).trans (Turned.of_grown hgrow fun g hgr => (hb g hgr).1)
theorem TS.conv {w wr : World} {s : ByteArray} {k j : Nat} {v : Value} {bs : List UInt8} (h : TS w s k v bs j wr) : (convert 192 9 v).run Tryz.prog wr = .ok (.string ⟨bs.toArray⟩) wr := by
 obtain ⟨hl, h2⟩ := h.own
 rcases h2 with ⟨rfl, h0⟩ | ⟨g, cap, cur, rfl, hg, hh, hc, hm, hs, ht⟩
 ·have : bs = [] := List.length_eq_zero_iff.1 h0
  subst this
  exact Lib.run_convert_nil_bytes wr 192 9 5 0 Tryz.underlying192 Tryz.underlying5 Tryz.underlying9
 ·refine run_convert_bytes_back wr 192 9 5 ⟨g, 0, none⟩ cap bs Tryz.underlying192 Tryz.underlying5 Tryz.underlying9 (fun i hi => ?_)
  have h1 : (bs.map encBy)[i]? = some (encBy bs[i]) := by simp [hi]
  rw [<- ht, List.getElem?_take_of_lt (by omega)] at h1
  rw [show (⟨g, 0, none⟩ : Addr).add i = ⟨g, i, none⟩ by cases i <;> simp [Addr.add]]
  simpa [World.cell?, hh, encBy] using h1
def pairs : List (List UInt8) := [[45, 62], [58, 61], [61, 61], [33, 61], [60, 61], [62, 61], [38, 38], [124, 124], [46, 46]]
def signText : ByteArray := ⟨#[40, 41, 123, 125, 91, 93, 44, 59, 58, 46, 43, 45, 42, 47, 37, 60, 62, 61, 33, 38, 124, 64, 63, 94, 126]⟩
def signL (s : ByteArray) (k : Nat) : List (List UInt8) -> TR
 | [] => if 0 <= Lib.indexByte signText.data.toList (rest s k)[0]! then .tok ⟨4, k, ⟨#[(rest s k)[0]!]⟩, 0⟩ (k + 1) else .none
 | p :: ps => if Lib.hasPrefix (rest s k) p then .tok ⟨4, k, ⟨p.toArray⟩, 0⟩ (k + 2) else signL s k ps
def signT (s : ByteArray) (k : Nat) : TR := signL s k pairs
def pairAt (j : Nat) : List UInt8 := pairs[j]!
theorem pairs_drop (j : Nat) (h : j < 9) : pairs.drop j = pairAt j :: pairs.drop (j + 1) := by
 have : ∀ j : Fin 9, pairs.drop j.1 = pairAt j.1 :: pairs.drop (j.1 + 1) := by decide
 exact this ⟨j, h⟩
theorem pairAt_len (j : Nat) (h : j < 9) : (pairAt j).length = 2 := by
 have : ∀ j : Fin 9, (pairAt j.1).length = 2 := by decide
 exact this ⟨j, h⟩
theorem pair_fits {s : ByteArray} {k j : Nat} (h : j < 9) (hp : Lib.hasPrefix (rest s k) (pairAt j) = true) : k + 2 <= s.size := by
 have h1 := (List.isPrefixOf_iff_prefix.1 hp).length_le
 rw [pairAt_len j h, rest_len] at h1
 omega
def firstT : List TR -> TR
 | [] => .err 26
 | .none :: l => firstT l
 | r :: _ => r
def nextT (s : ByteArray) (k : Nat) : TR := firstT [nameT s k, numT s k, textT s k, signT s k]
theorem textL_fits (k0 : Nat) (t : Tok) (tt : Nat) (l : List UInt8) (j : Nat) (b : List UInt8) (h : textL k0 l j b = .tok t tt) : j < tt /\ tt <= j + l.length := by
 fun_induction textL k0 l j b <;> simp_all <;> omega
theorem firstT_mem {t : Tok} {tt : Nat} : ∀ (l : List TR), firstT l = .tok t tt -> .tok t tt ∈ l
 | [], h => by simp [firstT] at h
 | .none :: l, h => List.mem_cons_of_mem _ (firstT_mem l h)
 | .err c :: l, h => by simp [firstT] at h
 | .tok _ _ :: l, h => by simp [firstT] at h; simp [h]
theorem next_fits {s : ByteArray} {k tt : Nat} {t : Tok} (hk : k < s.size) (h : nextT s k = .tok t tt) : k < tt /\ tt <= s.size := by
 have hto := spanTo_le s k 2 (by omega)
 have hg := spanTo_gt s k hk 2
 rw [<- rest_head s k hk] at hg
 have n1 : ∀ t tt, nameT s k = .tok t tt -> k < tt /\ tt <= s.size := by
  intro t tt h
  unfold nameT at h
  split at h
  ·cases h
  ·split at h
   ·cases h
   ·cases h; exact ⟨hg (by simp at *; omega), hto⟩
 have n2 : ∀ t tt, numT s k = .tok t tt -> k < tt /\ tt <= s.size := by
  intro t tt h
  unfold numT numOf at h
  split at h
  ·cases h
  ·split at h
   ·split at h
    ·cases h
    ·cases h; exact ⟨hg (by simp at *; omega), hto⟩
   ·cases h
 have n3 : ∀ t tt, textT s k = .tok t tt -> k < tt /\ tt <= s.size := by
  intro t tt h
  unfold textT at h
  split at h
  ·cases h
  ·have := textL_fits _ _ _ _ _ _ h
   rw [rest_len] at this
   omega
 have n4 : ∀ t tt, signT s k = .tok t tt -> k < tt /\ tt <= s.size := by
  intro t tt h
  have gen : ∀ (n : Nat) (j : Nat), n + j = 9 -> signL s k (pairs.drop j) = .tok t tt -> k < tt /\ tt <= s.size := by
   intro n
   induction n with
   | zero =>
    intro j hj h
    obtain rfl : j = 9 := by omega
    simp only [show pairs.drop 9 = [] from rfl, signL] at h
    split at h
    ·cases h; omega
    ·cases h
   | succ n ih =>
    intro j hj h
    rw [pairs_drop j (by omega)] at h
    simp only [signL] at h
    split at h
    ·rename_i hp
     have := pair_fits (by omega) hp
     cases h; omega
    ·exact ih (j + 1) (by omega) h
  exact gen 9 0 rfl h
 have hm := firstT_mem _ h
 simp only [List.mem_cons, List.not_mem_nil, or_false] at hm
 rcases hm with hm | hm | hm | hm
 ·exact n1 _ _ hm.symm
 ·exact n2 _ _ hm.symm
 ·exact n3 _ _ hm.symm
 ·exact n4 _ _ hm.symm
def NS (w : World) (B base : Nat) (s : ByteArray) (v : Value) (k : Nat) (ts : List Tok) (l : List TR) (wr : World) : Prop := At wr B base s k v ts /\ Moved B base w wr /\ firstT l = nextT s k
theorem NS.step {w wr w' : World} {B base : Nat} {s : ByteArray} {v : Value} {k : Nat} {ts : List Tok} {l : List TR} {r : TR} (h : NS w B base s v k ts (r :: l) wr) (hr : r = .none) (h2 : Hid (At w' B base s k v ts /\ Moved B base wr w')) : NS w B base s v k ts l w' := by
 subst hr; exact ⟨h2.out.1, h.2.1.trans h2.out.2, h.2.2⟩
inductive LR where
 | ok (ts : List Tok)
 | err (at_ : Nat) (c : Int)
def endTok (s : ByteArray) : Tok := ⟨5, s.size, ⟨#[]⟩, 0⟩
def lexF (s : ByteArray) : Nat -> Nat -> List Tok -> LR
 | 0, k, _ => .err k 26
 | n + 1, k, ts =>
  if k < s.size then
   match nextT s k with
   | .tok t tt => lexF s n (blankTo s tt) (ts ++ [t])
   | .err c => .err k c
   | .none => .err k 26
  else .ok (ts ++ [endTok s])
def tokensP (s : ByteArray) : LR := if 65536 < s.size then .err 0 2 else lexF s (s.size + 1) (blankTo s 0) []
structure TL (w : World) (s : ByteArray) (k : Nat) (v : Value) (ts : List Tok) (f : Nat) (wr : World) : Prop where
 at_ : At wr (w.heap.size + 1) (w.heap.size + 2) s k v ts
 le : k <= s.size
 fuel : s.size < k + f
 eq : lexF s f k ts = tokensP s
 cell : wr.heap[w.heap.size]? = some (.cells #[.int .i64 0, .int .i64 0] 26 (0, 0))
 tur : Turned (fun j => w.heap.size <= j) w wr
theorem skip_at {w wr : World} {s : ByteArray} {k : Nat} {v : Value} {ts : List Tok} {f : Nat} (hs : s.size <= 65536) (hA : At wr (w.heap.size + 1) (w.heap.size + 2) s k v ts) (hk : k <= s.size) (hf : s.size < blankTo s k + f) (he : lexF s f (blankTo s k) ts = tokensP s)
  (hc : wr.heap[w.heap.size]? = some (.cells #[.int .i64 0, .int .i64 0] 26 (0, 0))) (ht : Turned (fun j => w.heap.size <= j) w wr) :
  Calls Tryz.prog 109 #[.pointer (some ⟨w.heap.size + 1, 0, none⟩)] wr fun e w' => e = .returned (.tuple #[]) /\ Hid (TL w s (blankTo s k) v ts f w') := by
 refine (skip_any _ s k v wr hA.rd (by omega) hk).mono ?_
 rintro e w' ⟨rfl, h1, h2⟩
 have hlt := getElem?_lt hA.rd
 refine ⟨rfl, ⟨⟨h1, ownsRow_turned' h2 (fun g hg he => ?_) hA.own, hA.lt, Nat.le_trans hA.le h2.size, Nat.le_trans hA.len (blankTo_ge s k), hA.vars.turned h2 fun g hg he => by omega⟩, blankTo_le s k hk, hf, he, ?_, ht.trans (h2.mono fun j hj => by omega)⟩⟩
 ·have := (ownsRow_block hA.own g hg).1
  omega
 ·rw [h2.block _ (by omega) (by omega)]; exact hc
theorem TL.next {w wr : World} {s : ByteArray} {k : Nat} {v : Value} {ts : List Tok} {f : Nat} (hs : s.size <= 65536) (h : TL w s k v ts f wr) (hk : k < s.size) {t : Tok} {tt : Nat} {v' : Value} {w' : World} (hn : nextT s k = .tok t tt) (hA : At w' (w.heap.size + 1) (w.heap.size + 2) s tt v' (ts ++ [t])) (hM : Moved (w.heap.size + 1) (w.heap.size + 2) wr w') :
  Hid (∃ f', Calls Tryz.prog 109 #[.pointer (some ⟨w.heap.size + 1, 0, none⟩)] w' fun e w2 => e = .returned (.tuple #[]) /\ Hid (TL w s (blankTo s tt) v' (ts ++ [t]) f' w2)) := by
 obtain ⟨hg, hle⟩ := next_fits hk hn
 have hfu := h.fuel
 have hge := blankTo_ge s tt
 have hlt := getElem?_lt h.cell
 obtain ⟨f', rfl⟩ : ∃ f', f = f' + 1 := ⟨f - 1, by have := h.le; omega⟩
 refine ⟨f', skip_at hs hA hle (by omega) ?_ ?_ (h.tur.trans (hM.mono fun j hj => by omega))⟩
 ·rw [<- h.eq]
  conv => rhs; unfold lexF
  rw [if_pos hk, hn]
 ·rw [hM.block _ hlt (by omega)]; exact h.cell
theorem two_cells {V : World} {N : Nat} {a b : Value} {t : TypeId} (h : V.heap[N]? = some (.cells #[a, b] t (0, 0))) : V.cell? ⟨N, 0, none⟩ = some a /\ V.cell? ⟨N, 1, none⟩ = some b /\ V.frozen? ⟨N, 0, none⟩ = false /\ V.frozen? ⟨N, 1, none⟩ = false := by
 simp [World.cell?, World.frozen?, h]
theorem two_set {V : World} {N : Nat} {a b x y : Value} {t : TypeId} (h : V.heap[N]? = some (.cells #[a, b] t (0, 0))) : ((V.setCell ⟨N, 0, none⟩ x).setCell ⟨N, 1, none⟩ y).heap[N]? = some (.cells #[x, y] t (0, 0)) := by
 simp [World.setCell, Array.getElem?_modify, h]
theorem Vars.mono {n m : Nat} {w : World} (h : Vars n w) (hm : n <= m) : Vars m w := by
 obtain ⟨⟨a, b, h1⟩, ⟨c, d, h2⟩, h3⟩ := h
 exact ⟨⟨a, b, h1.1, fun g hg => Nat.lt_of_lt_of_le (h1.2 g hg) hm⟩, ⟨c, d, h2.1, fun g hg => Nat.lt_of_lt_of_le (h2.2 g hg) hm⟩, h3.1, fun g hg => Nat.lt_of_lt_of_le (h3.2 g hg) hm⟩
theorem TL.meas {w wr : World} {s : ByteArray} {k : Nat} {v : Value} {ts : List Tok} {f : Nat} (h : TL w s k v ts f wr) : intOf ((wr.cell? ⟨w.heap.size + 1, 1, none⟩).getD undef) = k := by
 rw [h.at_.rd.cells.2.1]; rfl
def Breaks (y : List UInt8) : Prop := ∃ c y', y = c :: y' /\ (c = 32 \/ c = 9 \/ c = 10 \/ c = 13 \/ c = 35)
theorem Breaks.cls {c : UInt8} (h : c = 32 \/ c = 9 \/ c = 10 \/ c = 13 \/ c = 35) : clsI c.toNat < 2 := by
 rcases h with rfl | rfl | rfl | rfl | rfl <;> decide
def ToksAt (W : World) (b o : Nat) (ts : List Tok) : Prop := b < W.heap.size /\ ∀ (j : Nat) (t : Tok), ts[j]? = some t ->
 W.cell? ⟨b, o + j * 4, none⟩ = some (.int .i64 t.kind) /\ W.cell? ⟨b, o + j * 4 + 1, none⟩ = some (.int .i64 t.at_) /\ W.cell? ⟨b, o + j * 4 + 2, none⟩ = some (.string t.s) /\ W.cell? ⟨b, o + j * 4 + 3, none⟩ = some (.int .i64 t.n)
theorem ToksAt.turned {W W' : World} {b o : Nat} {ts : List Tok} (h : ToksAt W b o ts) (ht : Turned (fun _ => False) W W') : ToksAt W' b o ts := by
 refine ⟨Nat.lt_of_lt_of_le h.1 ht.size, fun j t hj => ?_⟩
 have hc := fun i => ht.cell (p := ⟨b, i, none⟩) h.1 id
 rw [hc, hc, hc, hc]
 exact h.2 j t hj
structure XS (w : World) (ws : List ByteArray) (v : Value) (wr : World) : Prop where
 own : wr.ownsRow w.heap.size 9 1 v ws.length (ws.map Value.string)
 tur : Turned (fun i => w.heap.size <= i) w wr
theorem XS.push {w wr wa w4 : World} {v v' : Value} {ws : List ByteArray} (h : XS w ws v wr) (ha : Turned (fun _ => False) wr wa) (x : ByteArray) (hown' : w4.ownsRow w.heap.size 9 1 v' (ws.length + 1) (ws.map Value.string ++ [.string x])) (hgrow : wa.grownBy w4 v.ownBlock) : XS w (ws ++ [x]) v' w4 := by
 refine ⟨by simpa using hown', ?_⟩
 have hb := ownsRow_block h.own
 exact (h.tur.trans (ha.mono fun _ h => h.elim)).trans (Turned.of_grown hgrow fun g hgr => (hb g hgr).1)
def six : List (List UInt8) := [[34], [92, 34], [92], [92, 92], [10], [92, 110]]
def sixV : List Value := six.map fun l => Value.string ⟨l.toArray⟩
def SixAt (W : World) (g : Nat) : Prop := ∀ (j : Nat) (y : Value), sixV[j]? = some y -> W.cell? ⟨g, j, none⟩ = some y
def BytesAt (W : World) (q : Nat) (l : List UInt8) : Prop := ∃ arr fz, W.heap[q]? = some (.cells arr 5 fz) /\ ∀ (j : Nat) (c : UInt8), l[j]? = some c -> arr[j]? = some (encBy c)
structure BT (base R : Nat) (D : List (UInt8 × List UInt8)) (W : World) (arr : Array Value) (v : Value) : Prop where
 row : W.heap[R]? = some (.cells arr 274 (0, 0))
 size : arr.size = 257
 nil : ∀ b, b < 256 -> (∀ p ∈ D, p.1.toNat ≠ b) -> arr[b]? = some (.slice none 0 0)
 set : ∀ p ∈ D, ∃ q cap, arr[p.1.toNat]? = some (.slice (some ⟨q, 0, none⟩) p.2.length cap) /\ BytesAt W q p.2
 last : arr[256]? = some v
 own : W.ownsRow base 9 1 v D.length (D.map fun p => .string ⟨#[p.1]⟩)
theorem set_block {W : World} {R : Nat} {arr : Array Value} {t : TypeId} {fz : Nat × Nat} (h : W.heap[R]? = some (.cells arr t fz)) (i : Nat) (x : Value) : (W.setCell ⟨R, i, none⟩ x).heap[R]? = some (.cells (arr.setIfInBounds i x) t fz) := by
 simp [World.setCell, Array.getElem?_modify, h]
theorem row_cell' {W : World} {g : Nat} {arr : Array Value} {t : TypeId} {fz : Nat × Nat} (h : W.heap[g]? = some (.cells arr t fz)) (j : Nat) : W.cell? ⟨g, j, none⟩ = arr[j]? := by
 simp [World.cell?, h]
theorem own_type {W : World} {base e size n : Nat} {v : Value} {xs : List Value} (h : W.ownsRow base e size v n xs) : ∀ g, v.ownBlock = some g -> ∃ cur, W.heap[g]? = some (.cells cur e (0, 0)) := by
 intro g hg
 obtain ⟨-, h2⟩ := h
 rcases h2 with ⟨rfl, -⟩ | ⟨g', cap, cur, rfl, hb, hh, -⟩
 ·cases hg
 ·cases hg; exact ⟨cur, hh⟩
theorem own_not {W : World} {base e size n R : Nat} {v : Value} {xs : List Value} {arr : Array Value} {t : TypeId} {fz : Nat × Nat} (h : W.ownsRow base e size v n xs) (hR : W.heap[R]? = some (.cells arr t fz)) (hte : t ≠ e) : v.ownBlock ≠ some R := fun hg => by
 obtain ⟨cur, h1⟩ := own_type h R hg
 rw [h1] at hR
 simp at hR
 exact hte hR.2.1.symm
theorem BT.after {base R : Nat} {D : List (UInt8 × List UInt8)} {W wa w4 : World} {arr : Array Value} {v : Value} (h : BT base R D W arr v) (ha : Turned (fun _ => False) W wa) (hg : wa.grownBy w4 v.ownBlock) : w4.heap[R]? = some (.cells arr 274 (0, 0)) /\ ∀ q l, BytesAt W q l -> BytesAt w4 q l := by
 refine ⟨?_, fun q l hq => ?_⟩
 ·have hlt := getElem?_lt h.row
  rw [hg.block R (Nat.lt_of_lt_of_le hlt ha.size) (fun e => own_not h.own h.row (by decide) e.symm), ha.block R hlt id]
  exact h.row
 ·obtain ⟨ar, fz, h1, h2⟩ := hq
  have hlt := getElem?_lt h1
  refine ⟨ar, fz, ?_, h2⟩
  rw [hg.block q (Nat.lt_of_lt_of_le hlt ha.size) (fun e => own_not h.own h1 (by decide) e.symm), ha.block q hlt id]
  exact h1
theorem BytesAt.set {W : World} {q R i : Nat} {l : List UInt8} {x : Value} (h : BytesAt W q l) (hne : R ≠ q) : BytesAt (W.setCell ⟨R, i, none⟩ x) q l := by
 obtain ⟨ar, fz, h1, h2⟩ := h
 exact ⟨ar, fz, by rw [show (W.setCell ⟨R, i, none⟩ x).heap[q]? = W.heap[q]? by simp [World.setCell, Array.getElem?_modify, hne]]; exact h1, h2⟩
theorem BytesAt.bytes {W : World} {q : Nat} {l : List UInt8} {s : ByteArray} (h : BytesAt W q l) : BytesAt (Lib.bytesWorld W 5 s) q l := by
 obtain ⟨ar, fz, h1, h2⟩ := h
 exact ⟨ar, fz, by rw [Lib.bytesWorld_at_old _ _ _ _ (getElem?_lt h1)]; exact h1, h2⟩
theorem BytesAt.ne {W : World} {q R : Nat} {l : List UInt8} {arr : Array Value} (h : BytesAt W q l) (hR : W.heap[R]? = some (.cells arr 274 (0, 0))) : R ≠ q := fun e => by
 subst e
 obtain ⟨ar, fz, h1, -⟩ := h
 rw [hR] at h1
 simp at h1
theorem bytes_new (W : World) (l : List UInt8) : BytesAt (Lib.bytesWorld W 5 ⟨l.toArray⟩) W.heap.size l := by
 refine ⟨_, _, Lib.bytesWorld_at_new _ _ _, fun j c hj => ?_⟩
 have hlt : j < l.length := (List.getElem?_eq_some_iff.1 hj).1
 unfold Lib.bytesCells
 rw [Array.getElem?_append_left (by simp; exact hlt)]
 simp [hj, encBy]
theorem bytesWorld_turned (W : World) (s : ByteArray) : Turned (fun _ => False) W (Lib.bytesWorld W 5 s) := by
 refine ⟨rfl, rfl, rfl, by rw [Lib.bytesWorld_size]; omega, fun k hk _ => Lib.bytesWorld_at_old _ _ _ _ hk⟩
theorem ownsRow_bytes {W : World} {base e size n : Nat} {v : Value} {xs : List Value} {s : ByteArray} (h : W.ownsRow base e size v n xs) : (Lib.bytesWorld W 5 s).ownsRow base e size v n xs := ownsRow_turned' (bytesWorld_turned W s) (fun _ _ => id) h
theorem BT.step {base R : Nat} {D : List (UInt8 × List UInt8)} {W wa w4 : World} {arr : Array Value} {v v' : Value} (h : BT base R D W arr v) (ha : Turned (fun _ => False) W wa) (hg : wa.grownBy w4 v.ownBlock) (o : UInt8) (l : List UInt8) (ho : ∀ p ∈ D, p.1 ≠ o)
  (hown : w4.ownsRow base 9 1 v' (D.length + 1) (D.map (fun p => .string ⟨#[p.1]⟩) ++ [.string ⟨#[o]⟩])) (c : Nat) :
  BT base R (D ++ [(o, l)]) ((Lib.bytesWorld (w4.setCell ⟨R, 256, none⟩ v') 5 ⟨l.toArray⟩).setCell ⟨R, o.toNat, none⟩ (.slice (some ⟨w4.heap.size, 0, none⟩) l.length c)) ((arr.setIfInBounds 256 v').setIfInBounds o.toNat (.slice (some ⟨w4.heap.size, 0, none⟩) l.length c)) v' := by
 obtain ⟨g1, g2⟩ := h.after ha hg
 have hsz := h.size
 have ho256 := o.toNat_lt
 have hR4 := getElem?_lt g1
 have e5 := set_block g1 256 v'
 have hs5 : (w4.setCell ⟨R, 256, none⟩ v').heap.size = w4.heap.size := by simp [World.setCell]
 have e6 : (Lib.bytesWorld (w4.setCell ⟨R, 256, none⟩ v') 5 ⟨l.toArray⟩).heap[R]? = some (.cells (arr.setIfInBounds 256 v') 274 (0, 0)) := by
  rw [Lib.bytesWorld_at_old _ _ _ _ (by rw [hs5]; exact hR4)]; exact e5
 have e7 := set_block e6 o.toNat (.slice (some ⟨w4.heap.size, 0, none⟩) l.length c)
 have hR5 : v'.ownBlock ≠ some R := own_not hown g1 (by decide)
 have hown5 : (w4.setCell ⟨R, 256, none⟩ v').ownsRow base 9 1 v' (D.length + 1) (D.map (fun p => .string ⟨#[p.1]⟩) ++ [.string ⟨#[o]⟩]) :=
  ownsRow_turned' (C := fun j => j = R) ((Turned.refl (fun j => j = R) _).setCell (p := ⟨R, 256, none⟩) rfl v') (fun g hg e => hR5 (by rw [hg, e])) hown
 refine ⟨e7, by simp [hsz], fun b hb hp => ?_, fun p hp => ?_, ?_, ?_⟩
 ·have hob : o.toNat ≠ b := hp (o, l) (List.mem_append_right _ (List.mem_singleton.2 rfl))
  rw [Array.getElem?_setIfInBounds_ne hob, Array.getElem?_setIfInBounds_ne (by omega)]
  exact h.nil b hb fun p hp2 => hp p (List.mem_append_left _ hp2)
 ·rcases List.mem_append.1 hp with hp | hp
  ·obtain ⟨q, cap, h1, h2⟩ := h.set p hp
   have hpo : o.toNat ≠ p.1.toNat := fun e => ho p hp (UInt8.toNat_inj.1 e.symm)
   have hp256 := p.1.toNat_lt
   refine ⟨q, cap, ?_, ?_⟩
   ·rw [Array.getElem?_setIfInBounds_ne hpo, Array.getElem?_setIfInBounds_ne (by omega)]
    exact h1
   ·have h3 := g2 q _ h2
    have h4 := h3.ne g1
    exact ((h3.set h4).bytes).set h4
  ·obtain rfl := List.mem_singleton.1 hp
   refine ⟨w4.heap.size, c, ?_, ?_⟩
   ·rw [Array.getElem?_setIfInBounds_self_of_lt (by simp [hsz]; omega)]
   ·have h3 := bytes_new (w4.setCell ⟨R, 256, none⟩ v') l
    rw [hs5] at h3
    exact h3.set (by omega)
 ·rw [Array.getElem?_setIfInBounds_ne (by omega), Array.getElem?_setIfInBounds_self_of_lt (by omega)]
 ·have h9 : (D ++ [(o, l)]).map (fun p : UInt8 × List UInt8 => Value.string ⟨#[p.1]⟩) = D.map (fun p => .string ⟨#[p.1]⟩) ++ [.string ⟨#[o]⟩] := by simp
  rw [h9]
  have h10 := ownsRow_bytes (s := ⟨l.toArray⟩) hown5
  have h11 := ownsRow_turned' (C := fun j => j = R) ((Turned.refl (fun j => j = R) (Lib.bytesWorld (w4.setCell ⟨R, 256, none⟩ v') 5 ⟨l.toArray⟩)).setCell (p := ⟨R, o.toNat, none⟩) rfl (.slice (some ⟨w4.heap.size, 0, none⟩) l.length c)) (fun g hg e => hR5 (by rw [hg, e])) h10
  simpa using h11
theorem SixAt.turned {C : Nat -> Prop} {W W' : World} {g : Nat} (h : SixAt W g) (ht : Turned C W W') (hg : g < W.heap.size) (hC : ¬ C g) : SixAt W' g := fun j y hj => by
 rw [ht.cell (p := ⟨g, j, none⟩) hg hC]; exact h j y hj
theorem BT.other {base R B : Nat} {D : List (UInt8 × List UInt8)} {W : World} {arr arr2 : Array Value} {v : Value} {fz : Nat × Nat} (h : BT base R D W arr v) (hB : W.heap[B]? = some (.cells arr2 218 fz)) (i : Nat) (x : Value) : BT base R D (W.setCell ⟨B, i, none⟩ x) arr v := by
 have ne : ∀ (q : Nat) (c : Array Value) (t : TypeId) (f : Nat × Nat), W.heap[q]? = some (.cells c t f) -> t ≠ 218 -> (W.setCell ⟨B, i, none⟩ x).heap[q]? = W.heap[q]? := fun q c t f hq ht => by
  have hne : B ≠ q := fun e => by
   subst e
   rw [hB] at hq
   simp at hq
   exact ht hq.2.1.symm
  simp [World.setCell, Array.getElem?_modify, hne]
 refine ⟨?_, h.size, h.nil, fun p hp => ?_, h.last, ?_⟩
 ·rw [ne _ _ _ _ h.row (by decide)]; exact h.row
 ·obtain ⟨q, cap, h1, ar, f, h2, h3⟩ := h.set p hp
  exact ⟨q, cap, h1, ar, f, by rw [ne _ _ _ _ h2 (by decide)]; exact h2, h3⟩
 ·refine ownsRow_turned' (C := fun j => j = B) ((Turned.refl (fun j => j = B) _).setCell (p := ⟨B, i, none⟩) rfl x) (fun g hg e => ?_) h.own
  subst e
  exact own_not h.own hB (by decide) hg
theorem BT.drew {base R : Nat} {D : List (UInt8 × List UInt8)} {W : World} {arr : Array Value} {v : Value} (h : BT base R D W arr v) : BT base R D W.drew arr v :=
 ⟨h.row, h.size, h.nil, h.set, h.last, h.own⟩
structure BufAt (w1 : World) (g N : Nat) (l : List UInt8) (wr : World) : Prop where
 row : ∃ c : Array Value, wr.heap[g]? = some (.cells c 5 (0, 0)) /\ c.size = N /\ ∀ (k : Nat) (b : UInt8), l[k]? = some b -> c[k]? = some (encBy b)
 le : l.length <= N
 tur : Turned (fun i => i = g) w1 wr
theorem BufAt.one {w1 wr : World} {g N : Nat} {l : List UInt8} (h : BufAt w1 g N l wr) (b : UInt8) (hN : l.length < N) : BufAt w1 g N (l ++ [b]) (wr.setCell ⟨g, l.length, none⟩ (encBy b)) := by
 obtain ⟨c, h1, h2, h3⟩ := h.row
 refine ⟨⟨_, set_block h1 _ _, by simp [h2], fun k x hk => ?_⟩, by simp; omega, h.tur.setCell (p := ⟨g, l.length, none⟩) rfl _⟩
 rcases Nat.lt_trichotomy k l.length with hlt | rfl | hgt
 ·rw [Array.getElem?_setIfInBounds_ne (by omega)]
  rw [List.getElem?_append_left hlt] at hk
  exact h3 k x hk
 ·rw [Array.getElem?_setIfInBounds_self_of_lt (by omega)]
  simp at hk
  rw [hk]
 ·rw [List.getElem?_eq_none (by simp; omega)] at hk
  cases hk
theorem BufAt.drewN {w1 wr : World} {g N : Nat} {l : List UInt8} (h : BufAt w1 g N l wr) (n : Nat) : BufAt w1 g N l (wr.drewN n) := ⟨h.row, h.le, h.tur.trans (drewN_turned _ _ _)⟩
theorem BufAt.cell {w1 wr : World} {g N : Nat} {l : List UInt8} (h : BufAt w1 g N l wr) (k : Nat) (hk : k < N) : (wr.cell? ⟨g, k, none⟩).isSome = true /\ wr.frozen? ⟨g, k, none⟩ = false := by
 obtain ⟨c, h1, h2, h3⟩ := h.row
 refine ⟨?_, by simp [World.frozen?, h1]⟩
 rw [row_cell' h1, Array.getElem?_eq_getElem (by omega)]; rfl
theorem BufAt.conv {w1 wr : World} {g N : Nat} {l : List UInt8} (h : BufAt w1 g N l wr) (hl : l.length = N) : (convert 192 9 (.slice (some ⟨g, 0, none⟩) N N)).run Tryz.prog wr = .ok (.string ⟨l.toArray⟩) wr := by
 subst hl
 obtain ⟨c, h1, h2, h3⟩ := h.row
 refine run_convert_bytes_back wr 192 9 5 ⟨g, 0, none⟩ l.length l Tryz.underlying192 Tryz.underlying5 Tryz.underlying9 (fun i hi => ?_)
 rw [show (⟨g, 0, none⟩ : Addr).add i = ⟨g, i, none⟩ by cases i <;> simp [Addr.add], row_cell' h1]
 have := h3 i l[i] (List.getElem?_eq_getElem hi)
 simpa [encBy] using this
theorem BufAt.two {w1 wr w4 : World} {g N : Nat} {l : List UInt8} {cur : Array Value} (h : BufAt w1 g N l wr) (a b : UInt8) (hs : w1.heap.size = g + 1) (hc : wr.heap[g]? = some (.cells cur 5 (0, 0))) (hN : l.length + 1 < N)
  (h4 : w4.heap[g]? = some (.cells (splice cur.toList l.length [encBy a, encBy b]).toArray 5 (0, 0))) (hb : Below g wr w4) : BufAt w1 g N (l ++ [a, b]) w4 := by
 obtain ⟨c, h1, h2, h3⟩ := h.row
 rw [hc] at h1
 obtain rfl : cur = c := by simpa using h1
 refine ⟨⟨_, h4, ?_, fun k x hk => ?_⟩, by simp; omega, ?_⟩
 ·have := length_splice cur.toList l.length [encBy a, encBy b] (by simp; omega)
  simpa [h2] using this
 ·have e : (splice cur.toList l.length [encBy a, encBy b]).toArray[k]? = (cur.toList.take l.length ++ ([encBy a, encBy b] ++ cur.toList.drop (l.length + 2)))[k]? := by simp [splice]
  rw [e]
  have hl : (cur.toList.take l.length).length = l.length := by simp; omega
  rcases Nat.lt_or_ge k l.length with hlt | hge
  ·rw [List.getElem?_append_left (by omega), List.getElem?_take_of_lt hlt]
   rw [List.getElem?_append_left hlt] at hk
   simpa using h3 k x hk
  ·rw [List.getElem?_append_right (by omega), hl]
   rw [List.getElem?_append_right hge] at hk
   have hk2 : k - l.length < 2 := by have := (List.getElem?_eq_some_iff.1 hk).1; simpa using this
   rcases (by omega : k - l.length = 0 \/ k - l.length = 1) with e0 | e0
   ·rw [e0] at hk ⊢; simp at hk ⊢; rw [hk]
   ·rw [e0] at hk ⊢; simp at hk ⊢; rw [hk]
 ·exact ⟨by rw [hb.os, h.tur.os], by rw [hb.tape, h.tur.tape], by rw [hb.output, h.tur.output], Nat.le_trans h.tur.size hb.size, fun k hk hne => (hb.block k (by omega)).trans (h.tur.block k hk hne)⟩
def PV (n : Nat) (W : World) : Prop := Vars n W /\ VarAt n W "internal/strconv.uint64pow10" (Lib.pow10Tab.map fun z => Value.int .u64 z).toArray
theorem PV.mono {n m : Nat} {W : World} (h : PV n W) (hm : n <= m) : PV m W := ⟨h.1.mono hm, h.2.1, fun g hg => Nat.lt_of_lt_of_le (h.2.2 g hg) hm⟩
theorem PV.turned {n : Nat} {C : Nat -> Prop} {W W' : World} (h : PV n W) (ht : Turned C W W') (hC : ∀ g, g < n -> ¬ C g) : PV n W' := ⟨h.1.turned ht hC, h.2.turned ht hC⟩
theorem PrS.new {w : World} (B : Nat) (hB : B = w.heap.size) : PrS B [] false (w.alloc (.cells #[.slice none 0 0, .bool false] 123)) := by
 subst hB
 exact ⟨_, heap_alloc_new _ _, by simp, .inl ⟨rfl, rfl⟩⟩
end Go.Proofs.YthejfklieedjmaaGreatDoor
