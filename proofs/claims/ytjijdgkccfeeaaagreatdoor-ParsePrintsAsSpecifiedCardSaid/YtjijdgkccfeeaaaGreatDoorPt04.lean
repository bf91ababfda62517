/- Part 4 of the proof of card: LexRepl, LexBuild, LexBuildW, LexReplOnce, LexEsc. Conditions: those of each theorem. -/
import Derived.Laws.NewBlocks
import Derived.Deep.WholeRow
import Derived.Lib.ConvBytes
import Derived.Test.YtjijdgkccfeeaaaGreatDoorPt01
import Derived.Test.YtjijdgkccfeeaaaGreatDoorPt03
set_option maxRecDepth 20000
set_option maxHeartbeats 4000000
namespace Go.Proofs.YtjijdgkccfeeaaaGreatDoor
open Go Go.Proofs Go.RowKit
attribute [local go_sem] Oper.semAt_some
def six : List (List UInt8) := [[34], [92, 34], [92], [92, 92], [10], [92, 110]]
def sixV : List Value := six.map fun l => Value.string ⟨l.toArray⟩
def SixAt (W : World) (g : Nat) : Prop := ∀ (j : Nat) (y : Value), sixV[j]? = some y -> W.cell? ⟨g, j, none⟩ = some y
def Fresh (W : World) (B : Nat) : Prop := ∃ g cap, W.heap[B]? = some (.cells #[.int .u32 0, .int .i32 0, .int .u32 0, .nilIface, .slice (some ⟨g, 0, none⟩) 6 cap] 169 (0, 0)) /\ g < W.heap.size /\ g ≠ B /\ SixAt W g
theorem six_own {W : World} {base : Nat} {v : Value} (h : W.ownsRow base 9 1 v 6 sixV) : ∃ g cap, v = .slice (some ⟨g, 0, none⟩) 6 cap /\ base <= g /\ g < W.heap.size /\ SixAt W g := by
 obtain ⟨hl, h2⟩ := h
 rcases h2 with ⟨rfl, h0⟩ | ⟨g, cap, cur, rfl, hg, hh, hc, hm, hs, ht⟩
 ·cases h0
 ·refine ⟨g, cap, rfl, hg, getElem?_lt hh, fun j y hj => ?_⟩
  have hlt : j < sixV.length := (List.getElem?_eq_some_iff.1 hj).1
  rw [<- ht, List.getElem?_take_of_lt (by have : sixV.length = 6 := rfl; omega)] at hj
  simpa [World.cell?, hh] using hj
theorem new_any (G : Nat) (w : World) (h6 : SixAt w G) : Calls Tryz.prog 71 #[.slice (some ⟨G, 0, none⟩) 6 6] w fun e w' => ∃ B, e = .returned (.pointer (some ⟨B, 0, none⟩)) /\ Hid (Fresh w' B /\ w.heap.size <= B /\ Turned (fun _ => False) w w') := by
 obtain ⟨i0, hif, hz0, hz1, hz2⟩ := info_parts infoStr
 have HOwn : Hid (w.ownsRow w.heap.size 9 1 (.slice none 0 0) 0 []) := ⟨rfl, .inl ⟨rfl, rfl⟩⟩
 have H6 := Lib.hid h6
 clear h6
 go_enter Tryz.func71, Tryz.ntmps71
 have hadd : ∀ (j : Nat), (⟨G, 0, none⟩ : Addr).add j = ⟨G, j, none⟩ := fun j => by cases j <;> simp [Addr.add]
 have HC : Hid (∀ (j : Nat) (u : Value), sixV[j]? = some u -> w.cell? ((⟨G, 0, none⟩ : Addr).add j) = some u) := fun j u hj => by rw [hadd]; exact H6.out j u hj
 clear hadd
 go_wp2_with (at_builtin; refine wpList_append_own _ rfl _ _ 42 rfl w.heap.size 9 i0 (.string ⟨#[]⟩) 1 16 Tryz.underlying42 hif hz0 hz1 hz2 rfl (by decide) _ _ _ rfl HOwn.out ⟨G, 0, none⟩ 6 6 sixV rfl rfl HC.out (by decide) (by unfold maxLen; omega) (by omega) (by omega) ?_; intro v' w4 hown' hgrow hnil; have HG := Lib.hid hgrow; obtain ⟨g, cap, hv, hg, hgl, hS⟩ := six_own hown'; subst hv; have HS := Lib.hid hS; clear hown' hgrow hnil hS)
 go_ret
 refine ⟨_, rfl, Lib.hid ⟨⟨g, cap, heap_alloc_new _ _, by simp; omega, by omega, ?_⟩, ?_, ?_⟩⟩
 ·intro j y hj
  rw [World.cell?_alloc_past _ _ _ hgl]
  exact HS.out j y hj
 ·exact HG.out.size
 ·exact (Turned.of_grown (C := fun _ => False) HG.out fun g hg => by cases hg).alloc _
theorem six_cells6 {W : World} {g : Nat} (h : SixAt W g) : W.cell? ⟨g, 0, none⟩ = some (.string ⟨#[34]⟩) /\ W.cell? ⟨g, 1, none⟩ = some (.string ⟨#[92, 34]⟩) /\ W.cell? ⟨g, 2, none⟩ = some (.string ⟨#[92]⟩) /\ W.cell? ⟨g, 3, none⟩ = some (.string ⟨#[92, 92]⟩) /\ W.cell? ⟨g, 4, none⟩ = some (.string ⟨#[10]⟩) /\ W.cell? ⟨g, 5, none⟩ = some (.string ⟨#[92, 110]⟩) :=
 ⟨h 0 _ rfl, h 1 _ rfl, h 2 _ rfl, h 3 _ rfl, h 4 _ rfl, h 5 _ rfl⟩
def rows : List (UInt8 × List UInt8) := [(10, [92, 110]), (92, [92, 92]), (34, [92, 34])]
def BytesAt (W : World) (q : Nat) (l : List UInt8) : Prop := ∃ arr fz, W.heap[q]? = some (.cells arr 5 fz) /\ ∀ (j : Nat) (c : UInt8), l[j]? = some c -> arr[j]? = some (encB c)
structure BT (base R : Nat) (D : List (UInt8 × List UInt8)) (W : World) (arr : Array Value) (v : Value) : Prop where
 row : W.heap[R]? = some (.cells arr 214 (0, 0))
 size : arr.size = 257
 nil : ∀ b, b < 256 -> (∀ p ∈ D, p.1.toNat ≠ b) -> arr[b]? = some (.slice none 0 0)
 set : ∀ p ∈ D, ∃ q cap, arr[p.1.toNat]? = some (.slice (some ⟨q, 0, none⟩) p.2.length cap) /\ BytesAt W q p.2
 last : arr[256]? = some v
 own : W.ownsRow base 9 1 v D.length (D.map fun p => .string ⟨#[p.1]⟩)
theorem set_block {W : World} {R : Nat} {arr : Array Value} {t : TypeId} {fz : Nat × Nat} (h : W.heap[R]? = some (.cells arr t fz)) (i : Nat) (x : Value) : (W.setCell ⟨R, i, none⟩ x).heap[R]? = some (.cells (arr.setIfInBounds i x) t fz) := by
 simp [World.setCell, Array.getElem?_modify, h]
theorem row_cell' {W : World} {g : Nat} {arr : Array Value} {t : TypeId} {fz : Nat × Nat} (h : W.heap[g]? = some (.cells arr t fz)) (j : Nat) : W.cell? ⟨g, j, none⟩ = arr[j]? := by
 simp [World.cell?, h]
theorem own_type {W : World} {base e size n : Nat} {v : Value} {xs : List Value} (h : W.ownsRow base e size v n xs) : ∀ g, v.ownBlock = some g -> ∃ cur, W.heap[g]? = some (.cells cur e (0, 0)) := by
 intro g hg
 obtain ⟨-, h2⟩ := h
 rcases h2 with ⟨rfl, -⟩ | ⟨g', cap, cur, rfl, hb, hh, -⟩
 ·cases hg
 ·cases hg; exact ⟨cur, hh⟩
theorem own_not {W : World} {base e size n R : Nat} {v : Value} {xs : List Value} {arr : Array Value} {t : TypeId} {fz : Nat × Nat} (h : W.ownsRow base e size v n xs) (hR : W.heap[R]? = some (.cells arr t fz)) (hte : t ≠ e) : v.ownBlock ≠ some R := fun hg => by
 obtain ⟨cur, h1⟩ := own_type h R hg
 rw [h1] at hR
 simp at hR
 exact hte hR.2.1.symm
theorem BT.after {base R : Nat} {D : List (UInt8 × List UInt8)} {W wa w4 : World} {arr : Array Value} {v : Value} (h : BT base R D W arr v) (ha : Turned (fun _ => False) W wa) (hg : wa.grownBy w4 v.ownBlock) : w4.heap[R]? = some (.cells arr 214 (0, 0)) /\ ∀ q l, BytesAt W q l -> BytesAt w4 q l := by
 refine ⟨?_, fun q l hq => ?_⟩
 ·have hlt := getElem?_lt h.row
  rw [hg.block R (Nat.lt_of_lt_of_le hlt ha.size) (fun e => own_not h.own h.row (by decide) e.symm), ha.block R hlt id]
  exact h.row
 ·obtain ⟨ar, fz, h1, h2⟩ := hq
  have hlt := getElem?_lt h1
  refine ⟨ar, fz, ?_, h2⟩
  rw [hg.block q (Nat.lt_of_lt_of_le hlt ha.size) (fun e => own_not h.own h1 (by decide) e.symm), ha.block q hlt id]
  exact h1
theorem BytesAt.set {W : World} {q R i : Nat} {l : List UInt8} {x : Value} (h : BytesAt W q l) (hne : R ≠ q) : BytesAt (W.setCell ⟨R, i, none⟩ x) q l := by
 obtain ⟨ar, fz, h1, h2⟩ := h
 exact ⟨ar, fz, by rw [show (W.setCell ⟨R, i, none⟩ x).heap[q]? = W.heap[q]? by simp [World.setCell, Array.getElem?_modify, hne]]; exact h1, h2⟩
theorem BytesAt.bytes {W : World} {q : Nat} {l : List UInt8} {s : ByteArray} (h : BytesAt W q l) : BytesAt (Lib.bytesWorld W 5 s) q l := by
 obtain ⟨ar, fz, h1, h2⟩ := h
 exact ⟨ar, fz, by rw [Lib.bytesWorld_at_old _ _ _ _ (getElem?_lt h1)]; exact h1, h2⟩
theorem BytesAt.ne {W : World} {q R : Nat} {l : List UInt8} {arr : Array Value} (h : BytesAt W q l) (hR : W.heap[R]? = some (.cells arr 214 (0, 0))) : R ≠ q := fun e => by
 subst e
 obtain ⟨ar, fz, h1, -⟩ := h
 rw [hR] at h1
 simp at h1
theorem bytes_new (W : World) (l : List UInt8) : BytesAt (Lib.bytesWorld W 5 ⟨l.toArray⟩) W.heap.size l := by
 refine ⟨_, _, Lib.bytesWorld_at_new _ _ _, fun j c hj => ?_⟩
 have hlt : j < l.length := (List.getElem?_eq_some_iff.1 hj).1
 unfold Lib.bytesCells
 rw [Array.getElem?_append_left (by simp; exact hlt)]
 simp [hj, encB]
theorem bytesWorld_turned (W : World) (s : ByteArray) : Turned (fun _ => False) W (Lib.bytesWorld W 5 s) := by
 refine ⟨rfl, rfl, rfl, by rw [Lib.bytesWorld_size]; omega, fun k hk _ => Lib.bytesWorld_at_old _ _ _ _ hk⟩
theorem ownsRow_bytes {W : World} {base e size n : Nat} {v : Value} {xs : List Value} {s : ByteArray} (h : W.ownsRow base e size v n xs) : (Lib.bytesWorld W 5 s).ownsRow base e size v n xs := ownsRow_turned' (bytesWorld_turned W s) (fun _ _ => id) h
theorem BT.step {base R : Nat} {D : List (UInt8 × List UInt8)} {W wa w4 : World} {arr : Array Value} {v v' : Value} (h : BT base R D W arr v) (ha : Turned (fun _ => False) W wa) (hg : wa.grownBy w4 v.ownBlock) (o : UInt8) (l : List UInt8) (ho : ∀ p ∈ D, p.1 ≠ o)
  (hown : w4.ownsRow base 9 1 v' (D.length + 1) (D.map (fun p => .string ⟨#[p.1]⟩) ++ [.string ⟨#[o]⟩])) (c : Nat) :
  BT base R (D ++ [(o, l)]) ((Lib.bytesWorld (w4.setCell ⟨R, 256, none⟩ v') 5 ⟨l.toArray⟩).setCell ⟨R, o.toNat, none⟩ (.slice (some ⟨w4.heap.size, 0, none⟩) l.length c)) ((arr.setIfInBounds 256 v').setIfInBounds o.toNat (.slice (some ⟨w4.heap.size, 0, none⟩) l.length c)) v' := by
 obtain ⟨g1, g2⟩ := h.after ha hg
 have hsz := h.size
 have ho256 := o.toNat_lt
 have hR4 := getElem?_lt g1
 have e5 := set_block g1 256 v'
 have hs5 : (w4.setCell ⟨R, 256, none⟩ v').heap.size = w4.heap.size := by simp [World.setCell]
 have e6 : (Lib.bytesWorld (w4.setCell ⟨R, 256, none⟩ v') 5 ⟨l.toArray⟩).heap[R]? = some (.cells (arr.setIfInBounds 256 v') 214 (0, 0)) := by
  rw [Lib.bytesWorld_at_old _ _ _ _ (by rw [hs5]; exact hR4)]; exact e5
 have e7 := set_block e6 o.toNat (.slice (some ⟨w4.heap.size, 0, none⟩) l.length c)
 have hR5 : v'.ownBlock ≠ some R := own_not hown g1 (by decide)
 have hown5 : (w4.setCell ⟨R, 256, none⟩ v').ownsRow base 9 1 v' (D.length + 1) (D.map (fun p => .string ⟨#[p.1]⟩) ++ [.string ⟨#[o]⟩]) :=
  ownsRow_turned' (C := fun j => j = R) ((Turned.refl (fun j => j = R) _).setCell (p := ⟨R, 256, none⟩) rfl v') (fun g hg e => hR5 (by rw [hg, e])) hown
 refine ⟨e7, by simp [hsz], fun b hb hp => ?_, fun p hp => ?_, ?_, ?_⟩
 ·have hob : o.toNat ≠ b := hp (o, l) (List.mem_append_right _ (List.mem_singleton.2 rfl))
  rw [Array.getElem?_setIfInBounds_ne hob, Array.getElem?_setIfInBounds_ne (by omega)]
  exact h.nil b hb fun p hp2 => hp p (List.mem_append_left _ hp2)
 ·rcases List.mem_append.1 hp with hp | hp
  ·obtain ⟨q, cap, h1, h2⟩ := h.set p hp
   have hpo : o.toNat ≠ p.1.toNat := fun e => ho p hp (UInt8.toNat_inj.1 e.symm)
   have hp256 := p.1.toNat_lt
   refine ⟨q, cap, ?_, ?_⟩
   ·rw [Array.getElem?_setIfInBounds_ne hpo, Array.getElem?_setIfInBounds_ne (by omega)]
    exact h1
   ·have h3 := g2 q _ h2
    have h4 := h3.ne g1
    exact ((h3.set h4).bytes).set h4
  ·obtain rfl := List.mem_singleton.1 hp
   refine ⟨w4.heap.size, c, ?_, ?_⟩
   ·rw [Array.getElem?_setIfInBounds_self_of_lt (by simp [hsz]; omega)]
   ·have h3 := bytes_new (w4.setCell ⟨R, 256, none⟩ v') l
    rw [hs5] at h3
    exact h3.set (by omega)
 ·rw [Array.getElem?_setIfInBounds_ne (by omega), Array.getElem?_setIfInBounds_self_of_lt (by omega)]
 ·have h9 : (D ++ [(o, l)]).map (fun p : UInt8 × List UInt8 => Value.string ⟨#[p.1]⟩) = D.map (fun p => .string ⟨#[p.1]⟩) ++ [.string ⟨#[o]⟩] := by simp
  rw [h9]
  have h10 := ownsRow_bytes (s := ⟨l.toArray⟩) hown5
  have h11 := ownsRow_turned' (C := fun j => j = R) ((Turned.refl (fun j => j = R) (Lib.bytesWorld (w4.setCell ⟨R, 256, none⟩ v') 5 ⟨l.toArray⟩)).setCell (p := ⟨R, o.toNat, none⟩) rfl (.slice (some ⟨w4.heap.size, 0, none⟩) l.length c)) (fun g hg e => hR5 (by rw [hg, e])) h10
  simpa using h11
theorem bsr_size : (Tryz.prog.info? 214).map (·.size) = some 257 := by kernel_rfl
theorem zero_size : Tryz.zeroCells214.size = 257 := by kernel_rfl
theorem zero_take : Tryz.zeroCells214.toList.take 256 = List.replicate 256 (.slice none 0 0) := by kernel_rfl
theorem zero_one : Tryz.zeroCells214.toList.all (·.oneCell') = true := by kernel_rfl
theorem set_row (zs : Array Value) (v : Value) (h1 : zs.size = 257) (h2 : zs.toList.take 256 = List.replicate 256 (.slice none 0 0)) (h3 : zs.toList.all (·.oneCell') = true) (hv : v.oneCell' = true) :
  ∃ arr : Array Value, arr.toList = zs.toList.set 256 v /\ arr.size = 257 /\ (∀ b, b < 256 -> arr[b]? = some (.slice none 0 0)) /\ arr[256]? = some v /\ arr.all (·.oneCell') = true := by
 refine ⟨(zs.toList.set 256 v).toArray, rfl, by simp [h1], fun b hb => ?_, ?_, ?_⟩
 ·have h4 : (zs.toList.set 256 v).toArray[b]? = (zs.toList.set 256 v)[b]? := by simp
  rw [h4, List.getElem?_set_ne (by omega), <- List.getElem?_take_of_lt hb, h2, List.getElem?_replicate]
  simp [hb]
 ·have h4 : (zs.toList.set 256 v).toArray[256]? = (zs.toList.set 256 v)[256]? := by simp
  rw [h4, List.getElem?_set_self (by simp [h1])]
 ·rw [List.all_toArray, List.all_eq_true]
  intro x hx
  rcases List.mem_or_eq_of_mem_set hx with h | rfl
  ·exact List.all_eq_true.1 h3 x h
  ·exact hv
theorem store_fresh (w : World) (v : Value) (hv : v.oneCell' = true) : ∃ arr : Array Value, arr.size = 257 /\ (∀ b, b < 256 -> arr[b]? = some (.slice none 0 0)) /\ arr[256]? = some v /\
  (storeCells ⟨w.heap.size, 0, none⟩ (Tryz.zeroCells214.toList.set 256 v)).run Tryz.prog (w.alloc (.cells Tryz.zeroCells214 214)) = .ok () (w.alloc (.cells arr 214)) := by
 obtain ⟨arr, e1, e2, e3, e4, e5⟩ := set_row _ v zero_size zero_take zero_one hv
 have h := run_storeCells_new (P := Tryz.prog) w 214 Tryz.zeroCells214 arr (by rw [bsr_size, e2]) (by rw [zero_size, e2]) e5
 rw [e1] at h
 exact ⟨arr, e2, e3, e4, h⟩
def BS (w : World) (R : Nat) (D : List (UInt8 × List UInt8)) (W : World) : Prop := ∃ arr v, BT w.heap.size R D W arr v /\ Turned (fun i => w.heap.size <= i) w W
theorem SixAt.turned {C : Nat -> Prop} {W W' : World} {g : Nat} (h : SixAt W g) (ht : Turned C W W') (hg : g < W.heap.size) (hC : ¬ C g) : SixAt W' g := fun j y hj => by
 rw [ht.cell (p := ⟨g, j, none⟩) hg hC]; exact h j y hj
theorem bt_cells {base R : Nat} {D : List (UInt8 × List UInt8)} {W : World} {arr : Array Value} {v : Value} (h : BT base R D W arr v) (o : UInt8) (ho : ∀ p ∈ D, p.1 ≠ o) : W.cell? ⟨R, o.toNat, none⟩ = some (.slice none 0 0) /\ W.cell? ⟨R, 256, none⟩ = some v /\ ∀ i, W.frozen? ⟨R, i, none⟩ = false := by
 refine ⟨?_, ?_, fun i => by simp [World.frozen?, h.row]⟩
 ·rw [row_cell' h.row]
  exact h.nil _ o.toNat_lt fun p hp e => ho p hp (UInt8.toNat_inj.1 e)
 ·rw [row_cell' h.row]; exact h.last
theorem bt_after {base R : Nat} {D : List (UInt8 × List UInt8)} {W wa w4 : World} {arr : Array Value} {v v' : Value} (h : BT base R D W arr v) (ha : Turned (fun _ => False) W wa) (hg : wa.grownBy w4 v.ownBlock) (o : UInt8) (ho : ∀ p ∈ D, p.1 ≠ o) (s : ByteArray) :
  w4.cell? ⟨R, 256, none⟩ = some v /\ (∀ i, w4.frozen? ⟨R, i, none⟩ = false) /\ (Lib.bytesWorld (w4.setCell ⟨R, 256, none⟩ v') 5 s).cell? ⟨R, o.toNat, none⟩ = some (.slice none 0 0) /\ (∀ i, (Lib.bytesWorld (w4.setCell ⟨R, 256, none⟩ v') 5 s).frozen? ⟨R, i, none⟩ = false) /\ (w4.setCell ⟨R, 256, none⟩ v').heap.size = w4.heap.size := by
 obtain ⟨g1, -⟩ := h.after ha hg
 have hs5 : (w4.setCell ⟨R, 256, none⟩ v').heap.size = w4.heap.size := by simp [World.setCell]
 have e5 := set_block g1 256 v'
 have e6 : (Lib.bytesWorld (w4.setCell ⟨R, 256, none⟩ v') 5 s).heap[R]? = some (.cells (arr.setIfInBounds 256 v') 214 (0, 0)) := by
  rw [Lib.bytesWorld_at_old _ _ _ _ (by rw [hs5]; exact getElem?_lt g1)]; exact e5
 refine ⟨?_, fun i => by simp [World.frozen?, g1], ?_, fun i => by simp [World.frozen?, e6], hs5⟩
 ·rw [row_cell' g1]; exact h.last
 ·rw [row_cell' e6, Array.getElem?_setIfInBounds_ne (by have := o.toNat_lt; omega)]
  exact h.nil _ o.toNat_lt fun p hp e => ho p hp (UInt8.toNat_inj.1 e)
theorem bs_step {w W wa w4 : World} {R : Nat} {D : List (UInt8 × List UInt8)} {arr : Array Value} {v v' : Value} (h : BT w.heap.size R D W arr v) (ht : Turned (fun i => w.heap.size <= i) w W) (hRw : w.heap.size <= R) (ha : Turned (fun _ => False) W wa) (hg : wa.grownBy w4 v.ownBlock) (o : UInt8) (l : List UInt8) (ho : ∀ p ∈ D, p.1 ≠ o)
  (hown : w4.ownsRow w.heap.size 9 1 v' (D.length + 1) (D.map (fun p => .string ⟨#[p.1]⟩) ++ [.string ⟨#[o]⟩])) :
  Hid (∀ c, BS w R (D ++ [(o, l)]) ((Lib.bytesWorld (w4.setCell ⟨R, 256, none⟩ v') 5 ⟨l.toArray⟩).setCell ⟨R, o.toNat, none⟩ (.slice (some ⟨w4.heap.size, 0, none⟩) l.length c))) := fun c => by
 refine ⟨_, _, h.step ha hg o l ho hown c, ?_⟩
 have hb := ownsRow_block h.own
 have t1 : Turned (fun i => w.heap.size <= i) wa w4 := Turned.of_grown hg fun g hgr => (hb g hgr).1
 exact (((ht.trans (ha.mono fun _ h => h.elim)).trans t1).setCell (p := ⟨R, 256, none⟩) hRw v').trans ((bytesWorld_turned _ _).mono fun _ h => h.elim) |>.setCell (p := ⟨R, o.toNat, none⟩) hRw _
theorem build_any (B g cap : Nat) (w : World) (h4 : w.cell? ⟨B, 4, none⟩ = some (.slice (some ⟨g, 0, none⟩) 6 cap)) (h6 : SixAt w g) (hg : g < w.heap.size) : Calls Tryz.prog 121 #[.pointer (some ⟨B, 0, none⟩)] w fun e w' => e = .returned (.iface 215 (.pointer (some ⟨w.heap.size + 1, 0, none⟩))) /\ Hid (BS w (w.heap.size + 1) rows w') := by
 obtain ⟨i0, hif, hz0, hz1, hz2⟩ := info_parts infoStr
 obtain ⟨s0, s1, s2, s3, s4, s5⟩ := six_cells6 h6
 have H6 := Lib.hid h6
 clear h6
 have hmk : ∀ w : World, (Instr.makeSlice 42 (.int .i64 0) (.int .i64 3)).run Tryz.prog w = .ok (.slice (some ⟨w.heap.size, 0, none⟩) 0 3) (w.alloc (.cells #[.string ⟨#[]⟩, .string ⟨#[]⟩, .string ⟨#[]⟩] 9)) := fun _ => by kernel_rfl
 go_enter Tryz.func121, Tryz.ntmps121
 go_wp2_with fail
 go_loop [4, 5] (fun b i => b = .bool true /\ i = (.int .i64 0) \/ b = .bool false /\ i = (.int .i64 2) \/ b = .bool false /\ i = (.int .i64 4) \/ b = .bool false /\ i = (.int .i64 6)) (fun _ i => 6 - (intOf i).toNat)
 case atStart => exact .inl ⟨rfl, rfl⟩
 case round =>
  rcases hrel with ⟨rfl, rfl⟩ | ⟨rfl, rfl⟩ | ⟨rfl, rfl⟩ | ⟨rfl, rfl⟩
  ·go_wp2
   go_round
   case rel => exact .inr (.inl ⟨rfl, by first | rfl | go_num⟩)
   case measure => simp [intOf]
  ·go_wp2
   go_round
   case rel => exact .inr (.inr (.inl ⟨rfl, by first | rfl | go_num⟩))
   case measure => simp [intOf]
  ·go_wp2
   go_round
   case rel => exact .inr (.inr (.inr ⟨rfl, by first | rfl | go_num⟩))
   case measure => simp [intOf]
  ·obtain ⟨arr, ar1, ar2, ar3, hst⟩ := store_fresh (w.alloc (.cells #[.string ⟨#[]⟩, .string ⟨#[]⟩, .string ⟨#[]⟩] 9)) (.slice (some ⟨w.heap.size, 0, none⟩) 0 3) rfl
   rw [show (w.alloc (.cells #[.string ⟨#[]⟩, .string ⟨#[]⟩, .string ⟨#[]⟩] 9)).heap.size = w.heap.size + 1 by simp] at hst
   have H0 : Hid (BS w (w.heap.size + 1) [] ((w.alloc (.cells #[.string ⟨#[]⟩, .string ⟨#[]⟩, .string ⟨#[]⟩] 9)).alloc (.cells arr 214))) := by
    have e1 := heap_alloc_new (w.alloc (.cells #[.string ⟨#[]⟩, .string ⟨#[]⟩, .string ⟨#[]⟩] 9)) (.cells arr 214)
    rw [show (w.alloc (.cells #[.string ⟨#[]⟩, .string ⟨#[]⟩, .string ⟨#[]⟩] 9)).heap.size = w.heap.size + 1 by simp] at e1
    refine ⟨arr, _, ⟨e1, ar1, fun b hb _ => ar2 b hb, fun p hp => absurd hp (by simp), ar3, ⟨rfl, .inr ⟨w.heap.size, 3, #[.string ⟨#[]⟩, .string ⟨#[]⟩, .string ⟨#[]⟩], rfl, Nat.le_refl _, ?_, by simp, by unfold maxLen; omega, rfl, rfl⟩⟩⟩, ((Turned.refl _ _).alloc _).alloc _⟩
    rw [hao _ _ (by simp)]; exact heap_alloc_new _ _
   clear ar1 ar2 ar3
   go_wp2_with fail
   clear s0 s1 s2 s3 s4 s5 h4 hmk hst
   generalize (w.alloc (.cells #[.string ⟨#[]⟩, .string ⟨#[]⟩, .string ⟨#[]⟩] 9)).alloc (.cells arr 214) = W0 at H0 ⊢
   clear arr
   have hcvs : ∀ (l : List UInt8) (W : World), (convert 9 172 (.string ⟨l.toArray⟩)).run Tryz.prog W = .ok (.slice (some ⟨W.heap.size, 0, none⟩) l.length (grownCap W l.length 0 5)) (Lib.bytesWorld W 5 ⟨l.toArray⟩) := fun l W => Lib.run_convert_string_bytes W 9 172 5 ⟨l.toArray⟩ Tryz.underlying9 Tryz.underlying172 Tryz.underlying5
   have hcvb : ∀ (o : UInt8) (W : World) (n : Nat), W.heap.size = n -> (convert 172 9 (.slice (some ⟨n, 0, none⟩) 1 1)).run Tryz.prog (W.alloc (.cells #[.int .u8 o.toNat] 5)) = .ok (.string ⟨#[o]⟩) (W.alloc (.cells #[.int .u8 o.toNat] 5)) := fun o W n hn => by
    subst hn
    refine run_convert_bytes_back _ 172 9 5 ⟨W.heap.size, 0, none⟩ 1 [o] Tryz.underlying172 Tryz.underlying5 Tryz.underlying9 (fun i hi => ?_)
    simp at hi; subst hi
    simp [Addr.add]
   have hcmp : ∀ W : World, (binOp .eql 172 (.slice none 0 0) (.slice none 0 0)).run Tryz.prog W = .ok (.bool true) W := fun _ => by kernel_rfl
   go_loopw [12] (fun i wr => i = (.int .i64 4) /\ Hid (BS w (w.heap.size + 1) [] wr) \/ i = (.int .i64 2) /\ Hid (BS w (w.heap.size + 1) (rows.take 1) wr) \/ i = (.int .i64 0) /\ Hid (BS w (w.heap.size + 1) (rows.take 2) wr) \/ i = (.int .i64 (-2)) /\ Hid (BS w (w.heap.size + 1) rows wr)) (fun i _ => (intOf i + 2).toNat)
   case atStart => exact .inl ⟨rfl, H0⟩
   case round =>
    clear H0
    rcases hrel with ⟨rfl, HS⟩ | ⟨rfl, HS⟩ | ⟨rfl, HS⟩ | ⟨rfl, HS⟩
    ·obtain ⟨arr, v, hB, hT⟩ := HS.out
     obtain ⟨t0, t1, t2, t3, t4, t5⟩ := six_cells6 (H6.out.turned hT hg (by omega))
     obtain ⟨va, vc, rfl⟩ := owns_shape hB.own
     have ho : ∀ p ∈ ([] : List (UInt8 × List UInt8)), p.1 ≠ (10 : UInt8) := by decide
     obtain ⟨r1, r2, rf⟩ := bt_cells hB 10 ho
     have HB := Lib.hid hB
     have HT := Lib.hid hT
     have hws := hT.size
     have hb1 : (convert 172 9 (.slice (some ⟨wr.heap.size, 0, none⟩) 1 1)).run Tryz.prog (wr.alloc (.cells #[.int .u8 10] 5)) = .ok (.string ⟨#[10]⟩) (wr.alloc (.cells #[.int .u8 10] 5)) := hcvb 10 wr _ rfl
     have hs1 := hcvs [92, 110]
     have hx : ((ByteArray.mk #[10])[0]'(by decide)).toNat = 10 := rfl
     have HO : Hid (((wr.alloc (.cells #[.int .u8 10] 5)).alloc (.cells #[.string ⟨#[10]⟩] 9)).ownsRow w.heap.size 9 1 (.slice va 0 vc) 0 (([] : List (UInt8 × List UInt8)).map fun p => Value.string ⟨#[p.1]⟩)) := ownsRow_turned' ((Turned.refl (fun _ => False) wr).alloc (.cells #[.int .u8 10] 5) |>.alloc (.cells #[.string ⟨#[10]⟩] 9)) (fun _ _ => id) hB.own
     clear hB hT
     simp only [show ([] : List (UInt8 × List UInt8)).length = 0 from rfl, show ((10 : UInt8).toNat) = 10 from rfl, show ([92, 110] : List UInt8).length = 2 from rfl] at r1 r2 hs1 ⊢
     go_wp2_with (at_builtin; refine wpList_append_own _ rfl _ _ 42 rfl w.heap.size 9 i0 (.string ⟨#[]⟩) 1 16 Tryz.underlying42 hif hz0 hz1 hz2 rfl (by decide) _ _ _ rfl HO.out ⟨wr.heap.size + 1, 0, none⟩ 1 1 [.string ⟨#[10]⟩] rfl rfl (cell_one_at (by simp)) (by intro u hu; simp at hu; subst hu; rfl) (by unfold maxLen; omega) (by omega) (by simp; omega) ?_; intro v' w4 hown' hgrow hnil; obtain ⟨c1, c2, c3, c4, c5⟩ := bt_after (v' := v') HB.out (((Turned.refl (fun _ => False) wr).alloc (.cells #[.int .u8 10] 5)).alloc (.cells #[.string ⟨#[10]⟩] 9)) hgrow 10 ho ⟨([92, 110] : List UInt8).toArray⟩; simp only [show ((10 : UInt8).toNat) = 10 from rfl] at c3; have HE := bs_step HB.out HT.out (Nat.le_succ _) (((Turned.refl (fun _ => False) wr).alloc (.cells #[.int .u8 10] 5)).alloc (.cells #[.string ⟨#[10]⟩] 9)) hgrow 10 [92, 110] ho hown'; obtain ⟨va', vc', rfl⟩ := owns_shape hown'; clear hown' hgrow hnil)
     go_roundw
     case rel => exact .inr (.inl ⟨by first | rfl | go_num, HE.out _⟩)
     case measure => simp [intOf]
    ·obtain ⟨arr, v, hB, hT⟩ := HS.out
     obtain ⟨t0, t1, t2, t3, t4, t5⟩ := six_cells6 (H6.out.turned hT hg (by omega))
     obtain ⟨va, vc, rfl⟩ := owns_shape hB.own
     have ho : ∀ p ∈ (rows.take 1), p.1 ≠ (92 : UInt8) := by decide
     obtain ⟨r1, r2, rf⟩ := bt_cells hB 92 ho
     have HB := Lib.hid hB
     have HT := Lib.hid hT
     have hws := hT.size
     have hb1 : (convert 172 9 (.slice (some ⟨wr.heap.size, 0, none⟩) 1 1)).run Tryz.prog (wr.alloc (.cells #[.int .u8 92] 5)) = .ok (.string ⟨#[92]⟩) (wr.alloc (.cells #[.int .u8 92] 5)) := hcvb 92 wr _ rfl
     have hs1 := hcvs [92, 92]
     have hx : ((ByteArray.mk #[92])[0]'(by decide)).toNat = 92 := rfl
     have HO : Hid (((wr.alloc (.cells #[.int .u8 92] 5)).alloc (.cells #[.string ⟨#[92]⟩] 9)).ownsRow w.heap.size 9 1 (.slice va 1 vc) 1 ((rows.take 1).map fun p => Value.string ⟨#[p.1]⟩)) := ownsRow_turned' ((Turned.refl (fun _ => False) wr).alloc (.cells #[.int .u8 92] 5) |>.alloc (.cells #[.string ⟨#[92]⟩] 9)) (fun _ _ => id) hB.own
     clear hB hT
     simp only [show (rows.take 1).length = 1 from rfl, show ((92 : UInt8).toNat) = 92 from rfl, show ([92, 92] : List UInt8).length = 2 from rfl] at r1 r2 hs1 ⊢
     go_wp2_with (at_builtin; refine wpList_append_own _ rfl _ _ 42 rfl w.heap.size 9 i0 (.string ⟨#[]⟩) 1 16 Tryz.underlying42 hif hz0 hz1 hz2 rfl (by decide) _ _ _ rfl HO.out ⟨wr.heap.size + 1, 0, none⟩ 1 1 [.string ⟨#[92]⟩] rfl rfl (cell_one_at (by simp)) (by intro u hu; simp at hu; subst hu; rfl) (by unfold maxLen; omega) (by omega) (by simp; omega) ?_; intro v' w4 hown' hgrow hnil; obtain ⟨c1, c2, c3, c4, c5⟩ := bt_after (v' := v') HB.out (((Turned.refl (fun _ => False) wr).alloc (.cells #[.int .u8 92] 5)).alloc (.cells #[.string ⟨#[92]⟩] 9)) hgrow 92 ho ⟨([92, 92] : List UInt8).toArray⟩; simp only [show ((92 : UInt8).toNat) = 92 from rfl] at c3; have HE := bs_step HB.out HT.out (Nat.le_succ _) (((Turned.refl (fun _ => False) wr).alloc (.cells #[.int .u8 92] 5)).alloc (.cells #[.string ⟨#[92]⟩] 9)) hgrow 92 [92, 92] ho hown'; obtain ⟨va', vc', rfl⟩ := owns_shape hown'; clear hown' hgrow hnil)
     go_roundw
     case rel => exact .inr (.inr (.inl ⟨by first | rfl | go_num, HE.out _⟩))
     case measure => simp [intOf]
    ·obtain ⟨arr, v, hB, hT⟩ := HS.out
     obtain ⟨t0, t1, t2, t3, t4, t5⟩ := six_cells6 (H6.out.turned hT hg (by omega))
     obtain ⟨va, vc, rfl⟩ := owns_shape hB.own
     have ho : ∀ p ∈ (rows.take 2), p.1 ≠ (34 : UInt8) := by decide
     obtain ⟨r1, r2, rf⟩ := bt_cells hB 34 ho
     have HB := Lib.hid hB
     have HT := Lib.hid hT
     have hws := hT.size
     have hb1 : (convert 172 9 (.slice (some ⟨wr.heap.size, 0, none⟩) 1 1)).run Tryz.prog (wr.alloc (.cells #[.int .u8 34] 5)) = .ok (.string ⟨#[34]⟩) (wr.alloc (.cells #[.int .u8 34] 5)) := hcvb 34 wr _ rfl
     have hs1 := hcvs [92, 34]
     have hx : ((ByteArray.mk #[34])[0]'(by decide)).toNat = 34 := rfl
     have HO : Hid (((wr.alloc (.cells #[.int .u8 34] 5)).alloc (.cells #[.string ⟨#[34]⟩] 9)).ownsRow w.heap.size 9 1 (.slice va 2 vc) 2 ((rows.take 2).map fun p => Value.string ⟨#[p.1]⟩)) := ownsRow_turned' ((Turned.refl (fun _ => False) wr).alloc (.cells #[.int .u8 34] 5) |>.alloc (.cells #[.string ⟨#[34]⟩] 9)) (fun _ _ => id) hB.own
     clear hB hT
     simp only [show (rows.take 2).length = 2 from rfl, show ((34 : UInt8).toNat) = 34 from rfl, show ([92, 34] : List UInt8).length = 2 from rfl] at r1 r2 hs1 ⊢
     go_wp2_with (at_builtin; refine wpList_append_own _ rfl _ _ 42 rfl w.heap.size 9 i0 (.string ⟨#[]⟩) 1 16 Tryz.underlying42 hif hz0 hz1 hz2 rfl (by decide) _ _ _ rfl HO.out ⟨wr.heap.size + 1, 0, none⟩ 1 1 [.string ⟨#[34]⟩] rfl rfl (cell_one_at (by simp)) (by intro u hu; simp at hu; subst hu; rfl) (by unfold maxLen; omega) (by omega) (by simp; omega) ?_; intro v' w4 hown' hgrow hnil; obtain ⟨c1, c2, c3, c4, c5⟩ := bt_after (v' := v') HB.out (((Turned.refl (fun _ => False) wr).alloc (.cells #[.int .u8 34] 5)).alloc (.cells #[.string ⟨#[34]⟩] 9)) hgrow 34 ho ⟨([92, 34] : List UInt8).toArray⟩; simp only [show ((34 : UInt8).toNat) = 34 from rfl] at c3; have HE := bs_step HB.out HT.out (Nat.le_succ _) (((Turned.refl (fun _ => False) wr).alloc (.cells #[.int .u8 34] 5)).alloc (.cells #[.string ⟨#[34]⟩] 9)) hgrow 34 [92, 34] ho hown'; obtain ⟨va', vc', rfl⟩ := owns_shape hown'; clear hown' hgrow hnil)
     go_roundw
     case rel => exact .inr (.inr (.inr ⟨by first | rfl | go_num, HE.out _⟩))
     case measure => simp [intOf]
    ·go_wp2_with fail
     go_ret
     exact ⟨rfl, HS⟩
theorem BT.other {base R B : Nat} {D : List (UInt8 × List UInt8)} {W : World} {arr arr2 : Array Value} {v : Value} {fz : Nat × Nat} (h : BT base R D W arr v) (hB : W.heap[B]? = some (.cells arr2 169 fz)) (i : Nat) (x : Value) : BT base R D (W.setCell ⟨B, i, none⟩ x) arr v := by
 have ne : ∀ (q : Nat) (c : Array Value) (t : TypeId) (f : Nat × Nat), W.heap[q]? = some (.cells c t f) -> t ≠ 169 -> (W.setCell ⟨B, i, none⟩ x).heap[q]? = W.heap[q]? := fun q c t f hq ht => by
  have hne : B ≠ q := fun e => by
   subst e
   rw [hB] at hq
   simp at hq
   exact ht hq.2.1.symm
  simp [World.setCell, Array.getElem?_modify, hne]
 refine ⟨?_, h.size, h.nil, fun p hp => ?_, h.last, ?_⟩
 ·rw [ne _ _ _ _ h.row (by decide)]; exact h.row
 ·obtain ⟨q, cap, h1, ar, f, h2, h3⟩ := h.set p hp
  exact ⟨q, cap, h1, ar, f, by rw [ne _ _ _ _ h2 (by decide)]; exact h2, h3⟩
 ·refine ownsRow_turned' (C := fun j => j = B) ((Turned.refl (fun j => j = B) _).setCell (p := ⟨B, i, none⟩) rfl x) (fun g hg e => ?_) h.own
  subst e
  exact own_not h.own hB (by decide) hg
theorem BT.drew {base R : Nat} {D : List (UInt8 × List UInt8)} {W : World} {arr : Array Value} {v : Value} (h : BT base R D W arr v) : BT base R D W.drew arr v :=
 ⟨h.row, h.size, h.nil, h.set, h.last, h.own⟩
def Built (w : World) (B Rb : Nat) (W : World) : Prop := ∃ arr v c, BT w.heap.size Rb rows W arr v /\ W.heap[B]? = some (.cells #[.int .u32 0, .int .i32 1, .int .u32 c, .iface 215 (.pointer (some ⟨Rb, 0, none⟩)), .slice none 0 0] 169 (0, 0)) /\ Turned (fun i => i = B \/ w.heap.size <= i) w W
theorem set_at {W : World} {B : Nat} {a b c d e x : Value} {t : TypeId} (h : W.heap[B]? = some (.cells #[a, b, c, d, e] t (0, 0))) : (W.setCell ⟨B, 0, none⟩ x).heap[B]? = some (.cells #[x, b, c, d, e] t (0, 0)) /\ (W.setCell ⟨B, 1, none⟩ x).heap[B]? = some (.cells #[a, x, c, d, e] t (0, 0)) /\ (W.setCell ⟨B, 3, none⟩ x).heap[B]? = some (.cells #[a, b, c, x, e] t (0, 0)) /\ (W.setCell ⟨B, 4, none⟩ x).heap[B]? = some (.cells #[a, b, c, d, x] t (0, 0)) := by
 simp [World.setCell, Array.getElem?_modify, h]
theorem five_cells {V : World} {N : Nat} {a b c d e : Value} {t : TypeId} (h : V.heap[N]? = some (.cells #[a, b, c, d, e] t (0, 0))) : V.cell? ⟨N, 0, none⟩ = some a /\ V.cell? ⟨N, 1, none⟩ = some b /\ V.cell? ⟨N, 2, none⟩ = some c /\ V.cell? ⟨N, 3, none⟩ = some d /\ V.cell? ⟨N, 4, none⟩ = some e /\ ∀ i, V.frozen? ⟨N, i, none⟩ = false := by
 simp [World.cell?, World.frozen?, h]
theorem once_any (B g cap : Nat) (w : World) (h5 : w.heap[B]? = some (.cells #[.int .u32 0, .int .i32 1, .int .u32 0, .nilIface, .slice (some ⟨g, 0, none⟩) 6 cap] 169 (0, 0))) (h6 : SixAt w g) (hg : g < w.heap.size) :
  Calls Tryz.prog 102 #[.pointer (some ⟨B, 0, none⟩)] w fun e w' => e = .returned (.tuple #[]) /\ w'.cell? ⟨B, 0, none⟩ = some (.int .u32 0) /\ w'.cell? ⟨B, 1, none⟩ = some (.int .i32 1) /\ w'.frozen? ⟨B, 0, none⟩ = false /\ w'.frozen? ⟨B, 1, none⟩ = false /\ Built w B (w.heap.size + 1) w' := by
 have hb := getElem?_lt h5
 have HBld := Lib.hid (build_any B g cap w (five_cells h5).2.2.2.2.1 h6 hg)
 have H5 := Lib.hid h5
 clear h5 h6
 go_enter Tryz.func102, Tryz.ntmps102
 go_wp2_with fail
 refine HBld.out.mono ?_
 rintro e X ⟨rfl, HS⟩
 obtain ⟨arr, v, hB, hT⟩ := HS.out
 have h7 : X.heap[B]? = some (.cells #[.int .u32 0, .int .i32 1, .int .u32 0, .nilIface, .slice (some ⟨g, 0, none⟩) 6 cap] 169 (0, 0)) := (hT.block B hb (by omega)).trans H5.out
 obtain ⟨c0, c1, c2, c3, c4, cf⟩ := five_cells h7
 have HB := Lib.hid hB
 have HT := Lib.hid hT
 have H7 := Lib.hid h7
 clear hB hT h7 HS
 go_wp2_with fail
 have s3 := (set_at (x := .iface 215 (.pointer (some ⟨w.heap.size + 1, 0, none⟩))) H7.out).2.2.1
 have s4 := (set_at (x := .slice none 0 0) s3).2.2.2
 obtain ⟨d0, d1, -, -, -, df⟩ := five_cells s4
 go_end0
 refine ⟨rfl, d0, d1, df 0, df 1, arr, v, 0, (HB.out.other H7.out 3 _).other s3 4 _, s4, ?_⟩
 exact ((HT.out.mono fun i hi => .inr hi).setCell (p := ⟨B, 3, none⟩) (.inl rfl) _).setCell (p := ⟨B, 4, none⟩) (.inl rfl) _
def esc (b : UInt8) : List UInt8 := if b = 10 then [92, 110] else if b = 92 then [92, 92] else if b = 34 then [92, 34] else [b]
def escL (l : List UInt8) : List UInt8 := l.flatMap esc
def escN (l : List UInt8) : Nat := l.count 10 + l.count 92 + l.count 34
theorem esc_one {b : UInt8} (h1 : b ≠ 10) (h2 : b ≠ 92) (h3 : b ≠ 34) : esc b = [b] := by
 unfold esc; rw [if_neg h1, if_neg h2, if_neg h3]
theorem escL_snoc (l : List UInt8) (b : UInt8) : escL (l ++ [b]) = escL l ++ esc b := by simp [escL]
theorem escN_snoc (l : List UInt8) (b : UInt8) : escN (l ++ [b]) = escN l + ((esc b).length - 1) := by
 unfold escN esc
 rw [List.count_append, List.count_append, List.count_append]
 by_cases h1 : b = 10
 ·subst h1; simp; omega
 ·by_cases h2 : b = 92
  ·subst h2; simp; omega
  ·by_cases h3 : b = 34
   ·subst h3; simp; omega
   ·rw [if_neg h1, if_neg h2, if_neg h3]
    simp [h1, h2, h3]
theorem escL_len : ∀ l : List UInt8, (escL l).length = l.length + escN l
 | [] => rfl
 | b :: l => by
  have ih := escL_len l
  have h : (escL (b :: l)).length = (esc b).length + (escL l).length := by simp [escL]
  rw [h, ih]
  unfold escN esc
  rw [List.count_cons, List.count_cons, List.count_cons]
  by_cases h1 : b = 10
  ·subst h1; simp; omega
  ·by_cases h2 : b = 92
   ·subst h2; simp; omega
   ·by_cases h3 : b = 34
    ·subst h3; simp; omega
    ·rw [if_neg h1, if_neg h2, if_neg h3]
     simp [h1, h2, h3]; omega
theorem escN_le (l : List UInt8) : escN l <= l.length := by
 have : ∀ l : List UInt8, escN l <= l.length := by
  intro l
  induction l with
  | nil => simp [escN]
  | cons b l ih =>
   unfold escN at ih ⊢
   rw [List.count_cons, List.count_cons, List.count_cons, List.length_cons]
   by_cases h1 : b = 10
   ·subst h1; simp; omega
   ·by_cases h2 : b = 92
    ·subst h2; simp; omega
    ·by_cases h3 : b = 34
     ·subst h3; simp; omega
     ·simp [h1, h2, h3]; omega
 exact this l
theorem escL_same (l : List UInt8) (h : escN l = 0) : escL l = l := by
 induction l with
 | nil => rfl
 | cons b l ih =>
  unfold escN at h
  rw [List.count_cons, List.count_cons, List.count_cons] at h
  have h1 : b ≠ 10 := fun e => by subst e; simp at h
  have h2 : b ≠ 92 := fun e => by subst e; simp at h
  have h3 : b ≠ 34 := fun e => by subst e; simp at h
  have h4 : escN l = 0 := by unfold escN; omega
  have : escL (b :: l) = esc b ++ escL l := by simp [escL]
  rw [this, esc_one h1 h2 h3, ih h4]
  rfl
theorem bytes_two {W : World} {q : Nat} {a b : UInt8} (h : BytesAt W q [a, b]) : W.cell? ⟨q, 0, none⟩ = some (encB a) /\ W.cell? ⟨q, 1, none⟩ = some (encB b) := by
 obtain ⟨ar, fz, h1, h2⟩ := h
 rw [row_cell' h1, row_cell' h1]
 exact ⟨h2 0 a rfl, h2 1 b rfl⟩
theorem tab_at {base R : Nat} {W : World} {arr : Array Value} {v : Value} (h : BT base R rows W arr v) (b : UInt8) :
  (esc b = [b] /\ (esc b).length = 1 /\ W.cell? ⟨R, b.toNat, none⟩ = some (.slice none 0 0)) \/ ∃ (x : UInt8) (q cap : Nat), esc b = [92, x] /\ W.cell? ⟨R, b.toNat, none⟩ = some (.slice (some ⟨q, 0, none⟩) 2 cap) /\ W.cell? ⟨q, 0, none⟩ = some (.int .u8 92) /\ W.cell? ⟨q, 1, none⟩ = some (encB x) /\ q < W.heap.size := by
 have key : ∀ p ∈ rows, b = p.1 -> ∀ x, p.2 = [92, x] -> esc b = [92, x] -> ∃ (x : UInt8) (q cap : Nat), esc b = [92, x] /\ W.cell? ⟨R, b.toNat, none⟩ = some (.slice (some ⟨q, 0, none⟩) 2 cap) /\ W.cell? ⟨q, 0, none⟩ = some (.int .u8 92) /\ W.cell? ⟨q, 1, none⟩ = some (encB x) /\ q < W.heap.size := by
  intro p hp hb x hx he
  obtain ⟨q, cap, h1, h2⟩ := h.set p hp
  rw [hx] at h1 h2
  obtain ⟨c0, c1⟩ := bytes_two h2
  obtain ⟨ar, fz, h3, -⟩ := h2
  refine ⟨x, q, cap, he, ?_, c0, c1, getElem?_lt h3⟩
  rw [row_cell' h.row, hb]; exact h1
 by_cases h1 : b = 10
 ·exact .inr (key (10, [92, 110]) (by simp [rows]) h1 110 rfl (by subst h1; rfl))
 ·by_cases h2 : b = 92
  ·exact .inr (key (92, [92, 92]) (by simp [rows]) h2 92 rfl (by subst h2; rfl))
  ·by_cases h3 : b = 34
   ·exact .inr (key (34, [92, 34]) (by simp [rows]) h3 34 rfl (by subst h3; rfl))
   ·have he := esc_one h1 h2 h3
    refine .inl ⟨he, by rw [he]; rfl, ?_⟩
    rw [row_cell' h.row]
    refine h.nil _ b.toNat_lt fun p hp e => ?_
    simp only [rows, List.mem_cons, List.not_mem_nil, or_false] at hp
    rcases hp with rfl | rfl | rfl
    ·exact h1 (UInt8.toNat_inj.1 e.symm)
    ·exact h2 (UInt8.toNat_inj.1 e.symm)
    ·exact h3 (UInt8.toNat_inj.1 e.symm)
theorem tab_list {base R : Nat} {W : World} {arr : Array Value} {v : Value} (h : BT base R rows W arr v) : ∃ T cap, W.cell? ⟨R, 256, none⟩ = some (.slice (some ⟨T, 0, none⟩) 3 cap) /\ W.cell? ⟨T, 0, none⟩ = some (.string ⟨#[10]⟩) /\ W.cell? ⟨T, 1, none⟩ = some (.string ⟨#[92]⟩) /\ W.cell? ⟨T, 2, none⟩ = some (.string ⟨#[34]⟩) := by
 obtain ⟨hl, h2⟩ := h.own
 rcases h2 with ⟨rfl, h0⟩ | ⟨g, cap, cur, hv, hg, hh, hc, hm, hs, ht⟩
 ·simp [rows] at h0
 ·refine ⟨g, cap, by rw [row_cell' h.row, h.last, hv]; rfl, ?_, ?_, ?_⟩
  all_goals rw [row_cell' hh]
  ·have : (cur.toList.take (rows.length * 1))[0]? = some (.string ⟨#[10]⟩) := by rw [ht]; rfl
   rw [List.getElem?_take_of_lt (by decide)] at this; simpa using this
  ·have : (cur.toList.take (rows.length * 1))[1]? = some (.string ⟨#[92]⟩) := by rw [ht]; rfl
   rw [List.getElem?_take_of_lt (by decide)] at this; simpa using this
  ·have : (cur.toList.take (rows.length * 1))[2]? = some (.string ⟨#[34]⟩) := by rw [ht]; rfl
   rw [List.getElem?_take_of_lt (by decide)] at this; simpa using this
end Go.Proofs.YtjijdgkccfeeaaaGreatDoor
