/- Part 2 of the proof of card: RoundLaw, ColLaw, Quiet, LexWalkB, LexWalkC, LexWalkD. Conditions: those of each theorem. -/
import Derived.OrdersIn
import Derived.OrdersHeld
import Derived.ArgAppend
import Derived.StillTail
import Derived.Deep.QuietTactic
import Derived.Calls
import Derived.Lib.IndexBytes
import Derived.OwnWalk
import Derived.StillTailTactics
import Derived.Lib.SmallJoins
import Derived.Shelf.Strconv.AtoiAll
import Derived.Test.YtjijdgkccfeeaaaGreatDoorPt01
set_option maxRecDepth 20000
set_option maxHeartbeats 2000000
namespace Go.Proofs.YtjijdgkccfeeaaaGreatDoor
open Go Go.Proofs Go.RowKit
section
variable {P : Program} {ops : Array Oper} {Q : Exit -> Act -> World -> Prop} {md : Region.Mode} {l n : Nat}
theorem wpOp_plain {i : Nat} {o : Oper} {K : Act -> World -> Prop} {a : Act} {w : World} (ho : ops[i]? = some o) (hg : o.guard = none) (h : o.wp P a w K Q) : wpOp P ops Q i K a w := by
 unfold wpOp
 simp only [ho]
 rw [if_pos (by simp [Region.wanted, hg])]
 exact .inl h
def wpAnyR (P : Program) (md : Region.Mode) (ops : Array Oper) (Q : Exit -> Act -> World -> Prop) (R : Nat -> World -> Prop) : Nat -> Array Bool -> Act -> World -> Prop
 | 0, listed, a, w => Region.ready md ops listed = [] /\ Q .normal a w
 | fuel + 1, listed, a, w =>
  (Region.ready md ops listed = [] -> Q .normal a w) /\
  ∀ i ∈ Region.ready md ops listed, wpOp P ops Q i (fun a' w' => R i w' /\ wpAnyR P md ops Q R fuel (listed.setIfInBounds i true) a' w') a w
theorem wpAny_of_R {R : Nat -> World -> Prop} : ∀ (fuel : Nat) (listed : Array Bool) (a : Act) (w : World), wpAnyR P md ops Q R fuel listed a w -> wpAny P md ops Q fuel listed a w
 | 0, _, _, _, h => h
 | fuel + 1, _, _, _, h => ⟨h.1, fun i hi => wpOp_mono (fun a' w' h' => wpAny_of_R fuel _ a' w' h'.2) (h.2 i hi)⟩
theorem wpAnyR_first {R : Nat -> World -> Prop} {S : World -> Prop} {L : Array Bool} {i : Nat} {oi : Oper} {v : Value} (hi : ops[i]? = some oi) (hsel : ∀ (j : Nat) (o : Oper) cs b, ops[j]? = some o -> o.op ≠ .select cs b)
  (hQ : ∀ c a w, Q (.panic c) (a.put oi.dst v) w -> Q (.panic c) a w) (hRS : ∀ j oj, ops[j]? = some oj -> L.getD j true = false -> (∀ e ∈ oj.after, Region.binds md e = true -> e.on ≠ i) -> ∀ w, R j w -> S w) :
  ∀ (fuel : Nat) (listed : Array Bool) (a : Act) (w : World), (∀ j, listed.getD j true = false -> L.getD j true = false) ->
   (∀ j oj, ops[j]? = some oj -> j ≠ i -> listed.getD j true = false -> (∀ e ∈ oj.after, Region.binds md e = true -> e.on ≠ i) -> oi.apart ops oj = true) ->
   i ∈ Region.ready md ops listed -> YieldsIf P ops S oi v a -> S w -> (∀ w, S w -> R i w) ->
   wpAnyR P md ops Q R fuel (listed.setIfInBounds i true) (a.put oi.dst v) w -> wpAnyR P md ops Q R (fuel + 1) listed a w := by
 intro fuel
 induction fuel with
 | zero =>
  intro listed a w _ _ hr hy hS hRi H
  refine ⟨fun h => (by rw [h] at hr; cases hr), fun j hj => ?_⟩
  by_cases hji : j = i
  ·subst hji; exact hy.wpOp hi hS ⟨hRi _ hS, H⟩
  ·have := ready_mono hj hji
   rw [H.1] at this
   cases this
 | succ fuel ih =>
  intro listed a w hL hfree hr hy hS hRi H
  refine ⟨fun h => (by rw [h] at hr; cases hr), fun j hj => ?_⟩
  by_cases hji : j = i
  ·subst hji; exact hy.wpOp hi hS ⟨hRi _ hS, H⟩
  ·have h1 := H.2 j (ready_mono hj hji)
   obtain ⟨hjun, oj, hoj, hall⟩ := mem_ready.1 hj
   have hnot : ∀ e ∈ oj.after, Region.binds md e = true -> e.on ≠ i := fun e he hb heq => by
    have h1 := hall e he hb
    have h0 := (mem_ready.1 hr).1
    rw [heq] at h1
    rcases Nat.lt_or_ge i listed.size with h' | h'
    ·simp [h'] at h0 h1; rw [h0] at h1; cases h1
    ·simp [Array.getElem?_eq_none h'] at h1
   have h2 := wpOp_putIf hoj (hfree j oj hoj hji hjun hnot) (fun cs b => hsel i oi cs b hi) (fun cs b => hsel j oj cs b hoj) hQ hy h1
   have hfree' : ∀ k ok, ops[k]? = some ok -> k ≠ i -> (listed.setIfInBounds j true).getD k true = false ->
     (∀ e ∈ ok.after, Region.binds md e = true -> e.on ≠ i) -> oi.apart ops ok = true := fun k ok hk hki hun hno => by
    refine hfree k ok hk hki ?_ hno
    by_cases hjk : j = k
    ·subst hjk; exact hjun
    ·rw [getD_set_ne true hjk] at hun; exact hun
   refine wpOp_mono (fun a' w' h3 => ⟨h3.2.1, ih (listed.setIfInBounds j true) a' w' (fun k hk => hL k (by by_cases hjk : j = k; (subst hjk; exact hjun); (rw [getD_set_ne true hjk] at hk; exact hk))) hfree' (ready_mono hr (Ne.symm hji)) h3.1 (hRS j oj hoj (hL j hjun) hnot w' h3.2.1) hRi ?_⟩) h2
   rw [Array.setIfInBounds_comm _ _ hji]
   exact h3.2.2
theorem wpAnyR_take {R : Nat -> World -> Prop} (S : World -> Prop) (early : Nat -> Bool) {i : Nat} {oi : Oper} {v : Value} {fuel : Nat} {listed : Array Bool} {a : Act} {w : World} (hi : ops[i]? = some oi)
  (hs : Region.noSelect ops = true) (hf : Region.free md ops listed i = true) (hr : (Region.ready md ops listed).contains i = true)
  (he : ((List.range ops.size).all fun j => listed.getD j true || Region.waitsFor md ops j i || early j) = true) (hRS : ∀ j w, early j = true -> R j w -> S w) (hRi : ∀ w, S w -> R i w)
  (hQ : ∀ c a w, Q (.panic c) (a.put oi.dst v) w -> Q (.panic c) a w) (hy : YieldsIf P ops S oi v a) (hS : S w)
  (h : wpAnyR P md ops Q R fuel (listed.setIfInBounds i true) (a.put oi.dst v) w) : wpAnyR P md ops Q R (fuel + 1) listed a w := by
 refine wpAnyR_first (L := listed) hi (Region.noSelect_spec hs) hQ (fun j oj hj hl hno w' hRj => ?_) fuel listed a w (fun _ h => h) (Region.free_spec hi hf) (by simpa using hr) hy hS hRi h
 refine hRS j w' ?_ hRj
 have hlt : j < ops.size := (Array.getElem?_eq_some_iff.1 hj).1
 have := List.all_eq_true.1 he j (List.mem_range.2 hlt)
 rw [hl, Bool.false_or] at this
 rcases Bool.or_eq_true_iff.1 this with h | h
 ·obtain ⟨oj', hj', e, he, hb, hon⟩ := Region.waitsFor_spec h
  rw [hj] at hj'; cases hj'
  exact absurd hon (hno e he hb)
 ·exact h
theorem tk {S : World -> Prop} {n : Nat} (i : Nat) (v : Value) {oi : Oper} {fuel : Nat} {listed : Array Bool} {a : Act} {w : World} (hi : ops[i]? = some oi) (hy : YieldsIf P ops S oi v a) (hS : S w)
 (h : wpAnyR P md ops Q (fun j V => j < n -> S V) fuel (listed.setIfInBounds i true) (a.put oi.dst v) w) (hs : Region.noSelect ops = true := by kernel_rfl) (hf : Region.free md ops listed i = true := by kernel_rfl) (hr : (Region.ready md ops listed).contains i = true := by kernel_rfl)
 (he : ((List.range ops.size).all fun j => listed.getD j true || Region.waitsFor md ops j i || decide (j < n)) = true := by kernel_rfl) (hQ : ∀ c a w, Q (.panic c) (a.put oi.dst v) w -> Q (.panic c) a w := by exact fun _ _ _ h => h) : wpAnyR P md ops Q (fun j V => j < n -> S V) (fuel + 1) listed a w :=
 wpAnyR_take S (fun j => decide (j < n)) hi hs hf hr he (fun _ _ he h => h (of_decide_eq_true he)) (fun _ h _ => h) hQ hy hS h
theorem wpAnyR_all {R : Nat -> World -> Prop} {rs : List Nat} {fuel : Nat} {listed : Array Bool} {a : Act} {w : World} (hr : Region.ready md ops listed = rs) (hne : rs ≠ [])
  (h : ∀ i ∈ rs, wpOp P ops Q i (fun a' w' => R i w' /\ wpAnyR P md ops Q R fuel (listed.setIfInBounds i true) a' w') a w) : wpAnyR P md ops Q R (fuel + 1) listed a w :=
 ⟨fun h0 => absurd (hr ▸ h0) hne, hr ▸ h⟩
theorem wpAnyR_done {R : Nat -> World -> Prop} {listed : Array Bool} {a : Act} {w : World} (hr : Region.ready md ops listed = []) (h : Q .normal a w) :
  ∀ fuel, wpAnyR P md ops Q R fuel listed a w
 | 0 => ⟨hr, h⟩
 | _ + 1 => ⟨fun _ => h, by rw [hr]; simp⟩
theorem region_R {id : Nat} {R : Nat -> World -> Prop} {a : Act} {w : World} (hm : P.follows .mixedOrders = true)
  (h : wpAnyR P .any ops Q R ops.size (Array.replicate ops.size false) a w.drew) : (Code.region id ops true).wp P Q a w :=
 wp_region_any hm (wpAny_of_R _ _ _ _ h)
end
section
variable {P : Program}
theorem run_append_exact (w : World) (base : Nat) (t ty e : TypeId) (i : TypeInfo) (z : Value) (size bytes : Nat) (ht : P.underlying t = some (.slice e)) (hi : P.info? e = some i) (hz : i.zero = some z)
  (hsize : i.size = size) (hby : i.bytes = bytes) (hzs : z.cells.size = size) (hsz : 0 < size)
  (v : Value) (n : Nat) (xs : List Value) (hown : w.ownsRow base e size v n xs)
  (a : Addr) (m c : Nat) (news : List Value) (hl : news.length = m * size) (hnews : ∀ j u, news[j]? = some u -> w.cell? (a.add j) = some u) (h1 : ∀ u ∈ news, u.oneCell' = true)
  (h63 : n + m <= maxLen) (hbytes : (n + m) * bytes <= 140737488355328) (hbase : base <= w.heap.size) :
  ∃ v' w', (Builtin.append_ #[t, t] ty #[v, .slice (some a) m c]).run P w = .ok v' w' /\ w'.ownsRow base e size v' (n + m) (xs ++ news) /\ w.grownBy w' v.ownBlock /\
   (∀ g, v'.ownBlock = some g -> v.ownBlock = some g \/ w.heap.size <= g) := by
 obtain ⟨v', w', hrun, r1, r2, -⟩ := run_append_own (P := P) w base t ty e i z size bytes ht hi hz hsize hby hzs hsz v n xs hown a m c news hl hnews h1 h63 hbytes hbase
 refine ⟨v', w', hrun, r1, r2, ?_⟩
 have new : ∀ v'' w'', (Builtin.append_ #[t, t] ty #[v, .slice (some a) m c]).run P w = .ok v'' w'' -> w''.ownsRow w.heap.size e size v'' (n + m) (xs ++ news) -> ∀ g, v'.ownBlock = some g -> w.heap.size <= g := by
  intro v'' w'' hr ho g hg
  rw [hrun] at hr
  cases hr
  obtain ⟨-, ⟨rfl, -⟩ | ⟨g', cap', cur', rfl, hb, -⟩⟩ := ho
  ·simp [Value.ownBlock] at hg
  ·simp [Value.ownBlock] at hg; omega
 obtain ⟨hlen, ⟨rfl, rfl⟩ | ⟨g0, cap, cur, rfl, hb, hh, hc1, hc2, hcs, htk⟩⟩ := hown
 ·obtain ⟨v'', w'', hr, ho, -, -⟩ := run_append_own (P := P) w w.heap.size t ty e i z size bytes ht hi hz hsize hby hzs hsz (.slice none 0 0) 0 xs ⟨hlen, .inl ⟨rfl, rfl⟩⟩ a m c news hl hnews h1 h63 hbytes (Nat.le_refl _)
  exact fun g hg => .inr (new v'' w'' hr ho g hg)
 ·have hcell : ∀ j u, cur.toList[j]? = some u -> w.cell? ⟨g0, j, none⟩ = some u := fun j u hj => by simpa [World.cell?, hh] using hj
  by_cases hr : n + m <= cap
  ·subst hsize
   have hmul : (n + m) * i.size <= cap * i.size := Nat.mul_le_mul_right _ hr
   rw [Nat.add_mul] at hmul
   have hrun2 := run_append_room_cells (P := P) w t ty e i ht hi g0 0 n cap a m c news hl hnews h1 hr
    (fun j hj => by
     have : 0 + n * i.size + j < cur.size := by omega
     simp [World.cell?, hh, Array.getElem?_eq_getElem (by omega : n * i.size + j < cur.size)])
    (fun j hj => by simp [World.frozen?, hh])
   rw [hrun] at hrun2
   cases hrun2
   intro g hg
   exact .inl hg
  ·obtain ⟨v'', w'', hr2, ho, -⟩ := run_append_arg_grows (P := P) w t ty e i z size bytes ht hi hz hsize hby hzs hsz ⟨g0, 0, none⟩ n cap xs hlen
    (fun j u hj => by
     rw [Addr.add_lit]
     simp only [Nat.zero_add]
     refine hcell j u ?_
     rw [<- htk] at hj
     have hlt : j < n * size := by
      have := (List.getElem?_eq_some_iff.1 hj).1
      simp at this; omega
     rwa [List.getElem?_take_of_lt hlt] at hj)
    a m c news hl hnews (by omega) h63 hbytes
   exact fun g hg => .inr (new v'' w'' hr2 ho g hg)
theorem wpList_append_exact (w : World) {ops : Array Oper} {rest : List Oper} {o : Oper} {a : Act} {Q : Exit -> Act -> World -> Prop}
  (hg : o.guard = none) (s x : Operand) (t : TypeId) (hop : o.op = Op.call { callee := Callee.builtin Builtin.append, args := #[s, x], argTypes := #[t, t] })
  (base : Nat) (e : TypeId) (i : TypeInfo) (z : Value) (size bytes : Nat) (h1 : P.underlying t = some (.slice e)) (h2 : P.info? e = some i) (h3 : i.zero = some z) (h4 : i.size = size) (h5 : i.bytes = bytes) (h6 : z.cells.size = size) (h7 : 0 < size)
  (v : Value) (k : Nat) (xs : List Value) (hs : a.eval s = v) (hown : w.ownsRow base e size v k xs) (ad : Addr) (m c : Nat) (news : List Value) (hx : a.eval x = .slice (some ad) m c) (hn : news.length = m * size)
  (hc : ∀ j u, news[j]? = some u -> w.cell? (ad.add j) = some u) (h1c : ∀ u ∈ news, u.oneCell' = true) (b1 : k + m <= maxLen) (b2 : (k + m) * bytes <= 140737488355328) (b3 : base <= w.heap.size)
  (hK : ∀ v' w', w'.ownsRow base e size v' (k + m) (xs ++ news) -> w.grownBy w' v.ownBlock -> (∀ g, v'.ownBlock = some g -> v.ownBlock = some g \/ w.heap.size <= g) -> wpList P ops Q rest (a.put o.dst v') w') :
  wpList P ops Q (o :: rest) a w := by
 refine wpList_plain hg fun K hK' => ?_
 obtain ⟨v', w', hrun, r1, r2, r3⟩ := run_append_exact (P := P) w base t o.type e i z size bytes h1 h2 h3 h4 h5 h6 h7 v k xs hown ad m c news hn hc h1c b1 b2 b3
 unfold Oper.wp
 simp [execOp, hop, resolve, invoke, builtin, hs, hx, hrun, Result.andThen]
 exact hK' _ _ (hK v' w' r1 r2 r3)
theorem wpOp_append_exact (w : World) {ops : Array Oper} {o : Oper} {a : Act} {Q : Exit -> Act -> World -> Prop} {j : Nat} {K : Act -> World -> Prop} (ho : ops[j]? = some o)
  (hg : o.guard = none) (s x : Operand) (t : TypeId) (hop : o.op = Op.call { callee := Callee.builtin Builtin.append, args := #[s, x], argTypes := #[t, t] })
  (base : Nat) (e : TypeId) (i : TypeInfo) (z : Value) (size bytes : Nat) (h1 : P.underlying t = some (.slice e)) (h2 : P.info? e = some i) (h3 : i.zero = some z) (h4 : i.size = size) (h5 : i.bytes = bytes) (h6 : z.cells.size = size) (h7 : 0 < size)
  (v : Value) (k : Nat) (xs : List Value) (hs : a.eval s = v) (hown : w.ownsRow base e size v k xs) (ad : Addr) (m c : Nat) (news : List Value) (hx : a.eval x = .slice (some ad) m c) (hn : news.length = m * size)
  (hc : ∀ j u, news[j]? = some u -> w.cell? (ad.add j) = some u) (h1c : ∀ u ∈ news, u.oneCell' = true) (b1 : k + m <= maxLen) (b2 : (k + m) * bytes <= 140737488355328) (b3 : base <= w.heap.size)
  (hK : ∀ v' w', w'.ownsRow base e size v' (k + m) (xs ++ news) -> w.grownBy w' v.ownBlock -> (∀ g, v'.ownBlock = some g -> v.ownBlock = some g \/ w.heap.size <= g) -> K (a.put o.dst v') w') :
  wpOp P ops Q j K a w := by
 unfold wpOp
 simp only [ho]
 rw [if_pos (by simp [Region.wanted, hg])]
 left
 obtain ⟨v', w', hrun, r1, r2, r3⟩ := run_append_exact (P := P) w base t o.type e i z size bytes h1 h2 h3 h4 h5 h6 h7 v k xs hown ad m c news hn hc h1c b1 b2 b3
 unfold Oper.wp
 simp [execOp, hop, resolve, invoke, builtin, hs, hx, hrun, Result.andThen]
 exact hK v' w' r1 r2 r3
end
def Col {α : Type} (W : World) (B T : Nat) (G : Nat -> Prop) (e size : Nat) (enc : α -> List Value) (bs : List α) : Prop :=
 ∃ v, W.heap[B]? = some (.cells #[v] T (0, 0)) /\ W.ownsRow 0 e size v bs.length (bs.flatMap enc) /\ (∀ g, v.ownBlock = some g -> G g)
theorem ownsRow_turned' {C : Nat -> Prop} {A B : World} {base e size n : Nat} {v : Value} {xs : List Value} (ht : Turned C A B) (hC : ∀ g, v.ownBlock = some g -> ¬ C g) (h : A.ownsRow base e size v n xs) : B.ownsRow base e size v n xs := by
 obtain ⟨h1, h2⟩ := h
 refine ⟨h1, ?_⟩
 rcases h2 with h2 | ⟨g, cap, cur, rfl, hg, hh, r⟩
 ·exact .inl h2
 ·exact .inr ⟨g, cap, cur, rfl, hg, (ht.block g (getElem?_lt hh) (hC g rfl)).trans hh, r⟩
section
variable {α : Type} {W : World} {B T e size : Nat} {G : Nat -> Prop} {enc : α -> List Value} {bs : List α}
end
theorem ownsRow_lower {W : World} {base base' e size n : Nat} {v : Value} {xs : List Value} (h : W.ownsRow base e size v n xs) (hb : ∀ g, v.ownBlock = some g -> base' <= g) : W.ownsRow base' e size v n xs := by
 obtain ⟨h1, h2⟩ := h
 refine ⟨h1, ?_⟩
 rcases h2 with h2 | ⟨g, cap, cur, rfl, hg, r⟩
 ·exact .inl h2
 ·exact .inr ⟨g, cap, cur, rfl, hb g rfl, r⟩
theorem quiet_add_same {P : Program} {f : FuncId} {args : Array Value} {w : World} {a n : Nat} {v : Value}
  (h : Calls P f args (w.drewN (a + n)) fun e w' => e = .returned v /\ w' = w.drewN (a + n)) :
  Calls P f args (w.drewN (a + n)) fun e w'' => e = .returned v /\ ∃ m, w'' = w.drewN (a + m) :=
 h.mono fun _ _ ⟨he, hm⟩ => ⟨he, n, hm⟩
attribute [local go_sem] Oper.semAt_some
theorem Rd.turned {C : Nat -> Prop} {W W' : World} {B : Nat} {s : ByteArray} {k : Int} {v : Value} (h : Rd W B s k v) (ht : Turned C W W') (hB : ¬ C B) : Rd W' B s k v := (ht.block B (getElem?_lt h) hB).trans h
theorem Rd.setAt {W : World} {B : Nat} {s : ByteArray} {k k' : Int} {v : Value} (h : Rd W B s k v) : Rd (W.setCell ⟨B, 1, none⟩ (.int .i64 k')) B s k' v := by
 unfold Rd at h ⊢
 simp [World.setCell, Array.getElem?_modify, h]
theorem Rd.setOut {W : World} {B : Nat} {s : ByteArray} {k : Int} {v v' : Value} (h : Rd W B s k v) : Rd (W.setCell ⟨B, 2, none⟩ v') B s k v' := by
 unfold Rd at h ⊢
 simp [World.setCell, Array.getElem?_modify, h]
theorem drewN_turned (C : Nat -> Prop) (W : World) (n : Nat) : Turned C W (W.drewN n) := ⟨rfl, rfl, rfl, Nat.le_refl _, fun _ _ _ => rfl⟩
structure SkipR (w : World) (B : Nat) (s : ByteArray) (v : Value) (k j : Nat) (wr : World) : Prop where
 le : j <= s.size
 eq : blankTo s j = blankTo s k
 rd : Rd wr B s j v
 tur : Turned (fun i => i = B) w wr
theorem SkipR.step {w : World} {B : Nat} {s : ByteArray} {v : Value} {k j : Nat} {wr : World} (h : Hid (SkipR w B s v k j wr)) (j' : Nat) (x : Int) (hx : x = j') (h1 : j' <= s.size) (h2 : blankTo s j' = blankTo s j) : Hid (∀ n, SkipR w B s v k j' ((wr.drewN n).setCell ⟨B, 1, none⟩ (.int .i64 x))) :=
 Lib.hid fun n => by subst hx; exact ⟨h1, h2.trans h.out.eq, Rd.setAt (k := j) h.out.rd, (h.out.tur.trans (drewN_turned _ _ n)).setCell (p := ⟨B, 1, none⟩) rfl _⟩
theorem SkipR.meas {w : World} {B : Nat} {s : ByteArray} {v : Value} {k j : Nat} {wr : World} (h : SkipR w B s v k j wr) : intOf ((wr.cell? ⟨B, 1, none⟩).getD undef) = j := by
 rw [h.rd.cells.2.1]; rfl
theorem SkipR.fin {w : World} {B : Nat} {s : ByteArray} {v : Value} {k j : Nat} {wr : World} (h : Hid (SkipR w B s v k j wr)) (h2 : blankTo s j = j) : Hid (∀ n, Rd (wr.drewN n) B s (blankTo s k) v /\ Turned (fun i => i = B) w (wr.drewN n)) :=
 Lib.hid fun n => ⟨by rw [<- h.out.eq, h2]; exact h.out.rd, h.out.tur.trans (drewN_turned _ _ _)⟩
theorem idx_any (s : ByteArray) (j : Nat) (W : World) : Calls Tryz.prog 108 #[.string (s.extract j s.size), .int .u8 10] W fun e w' => e = .returned (.int .i64 (Lib.indexByte (rest s j) 10)) /\ w' = W := by
 have := Tryz.strings_IndexByte (s.extract j s.size) 10 W
 rw [Lib.extract_to_end] at this
 exact this
theorem skip_any (B : Nat) (s : ByteArray) (k : Nat) (v : Value) (w : World) (hR : Rd w B s k v) (hs : s.size <= 9223372036854775807) (hk : k <= s.size) :
  Calls Tryz.prog 84 #[.pointer (some ⟨B, 0, none⟩)] w fun e w' => e = .returned (.tuple #[]) /\ Rd w' B s (blankTo s k) v /\ Turned (fun i => i = B) w w' := by
 have H0 : Hid (SkipR w B s v k k w) := ⟨hk, rfl, hR, Turned.refl _ _⟩
 clear hR
 go_enter Tryz.func84, Tryz.ntmps84
 go_wp2_with fail
 go_loopw [2] (fun _ wr => ∃ j : Nat, Hid (SkipR w B s v k j wr)) (fun _ wr => s.size - (intOf ((wr.cell? ⟨B, 1, none⟩).getD undef)).toNat)
 case atStart => exact ⟨k, H0⟩
 case round =>
  clear H0
  obtain ⟨j, HS⟩ := hrel
  obtain ⟨c0, c1, c2⟩ := HS.out.rd.cells
  have f1 := HS.out.rd.free 1
  have hj := HS.out.le
  have HM : Hid (intOf ((wr.cell? ⟨B, 1, none⟩).getD undef) = j) := by show _ = _; rw [c1]; rfl
  by_cases hlt : j < s.size
  ·have kl : decide ((j : Int) < s.size) = true := by simpa using hlt
   have kl2 : decide (j < s.size) = true := by simpa using hlt
   have hb : (s[j].toNat : Int) <= 255 := by have := s[j].toNat_lt; omega
   have HC := Lib.hid (fun (W : World) => class_any (s[j].toNat : Int) W (by omega) hb)
   by_cases hh : s[j] = 35
   ·have kh : ((s[j].toNat : Int) == 35) = true := by rw [hh]; rfl
    have HI := Lib.hid (fun (W : World) => idx_any s j W)
    rcases comment_skip s j hlt hh with ⟨h1, h2⟩ | ⟨n, h1, h2, h3, h4⟩
    ·have HF := SkipR.step HS s.size ((j : Int) + ((s.size : Int) - j)) (by omega) (Nat.le_refl _) (by rw [h2, blankTo_end s s.size (Nat.le_refl _)])
     have hw : IntKind.i64.wrap ((s.size : Int) - j) = (s.size : Int) - j := IntWalk.i64_in _ (by omega)
     have hw0 : (0 : Int) <= (s.size : Int) - j := by omega
     clear hh h2
     go_wp2_with fail
     go_quiet (fail)
     go_wp2_with fail
     go_quiet (fail)
     go_wp2_with fail
     go_quiet ((go_at_call 108; (first | exact quiet_add_same (HI.out _) | exact Calls.quiet_of_same (HI.out _))))
     rw [h1]
     go_wp2_with fail
     go_quiet (fail)
     go_wp2_with fail
     exact ⟨⟨s.size, Lib.hid (HF.out _)⟩, by rw [(HF.out _).meas, HM.out]; omega⟩
    ·have HF := SkipR.step HS (j + n) ((j : Int) + n) (by omega) (by omega) h4.symm
     have kn : decide ((n : Int) < 0) = false := by simp
     clear hh h4
     go_wp2_with fail
     go_quiet (fail)
     go_wp2_with fail
     go_quiet (fail)
     go_wp2_with fail
     go_quiet ((go_at_call 108; (first | exact quiet_add_same (HI.out _) | exact Calls.quiet_of_same (HI.out _))))
     rw [h1]
     go_wp2_with fail
     exact ⟨⟨j + n, Lib.hid (HF.out _)⟩, by rw [(HF.out _).meas, HM.out]; omega⟩
   ·have kh : ((s[j].toNat : Int) == 35) = false := by
     have : s[j].toNat ≠ 35 := fun h => hh (UInt8.toNat_inj.1 h)
     simp; omega
    by_cases hc : cls s[j] = 1
    ·have HF := SkipR.step HS (j + 1) ((j : Int) + 1) (by omega) (by omega) (blankTo_blank s j hlt hc).symm
     have kc : (clsI (s[j].toNat : Int) == 1) = true := by simpa [cls] using hc
     clear hh hc
     go_wp2_with fail
     go_quiet (fail)
     go_wp2_with fail
     go_quiet (fail)
     go_wp2_with fail
     refine (HC.out _).mono ?_
     rintro e w' ⟨rfl, rfl⟩
     go_wp2_with fail
     exact ⟨⟨j + 1, Lib.hid (HF.out _)⟩, by rw [(HF.out _).meas, HM.out]; omega⟩
    ·have HF := SkipR.fin HS (blankTo_stop s j hlt hc hh)
     have kc : (clsI (s[j].toNat : Int) == 1) = false := by simpa [cls] using hc
     clear hh hc
     go_wp2_with fail
     go_quiet (fail)
     go_wp2_with fail
     go_quiet (fail)
     go_wp2_with fail
     refine (HC.out _).mono ?_
     rintro e w' ⟨rfl, rfl⟩
     go_wp2_with fail
     refine bodyPost_ret (results_none rfl _ _ _) rfl ?_
     exact ⟨rfl, HF.out _⟩
  ·have HF := SkipR.fin HS (blankTo_end s j (by omega))
   have kl : decide ((j : Int) < s.size) = false := by simp; omega
   have kl2 : decide (j < s.size) = false := by simp; omega
   go_wp2_with fail
   go_quiet (fail)
   go_wp2_with fail
   go_end0
   exact ⟨rfl, HF.out _⟩
def tokV (x : Tok) : List Value := [(.int .i64 x.kind), .int .i64 x.at_, .string x.s, .int .i64 x.n]
theorem cells_four (w : World) (a b c d : Value) (t : TypeId) : ∀ j u, [a, b, c, d][j]? = some u -> (w.alloc (.cells #[a, b, c, d] t)).cell? ((⟨w.heap.size, 0, none⟩ : Addr).add j) = some u := by
 intro j u hj
 match j, hj with
 | 0, hj => simp at hj; subst hj; simp [Addr.add]
 | 1, hj => simp at hj; subst hj; simp [Addr.add]
 | 2, hj => simp at hj; subst hj; simp [Addr.add]
 | 3, hj => simp at hj; subst hj; simp [Addr.add]
theorem infoTok : (Tryz.prog.info? 68).map (fun i => (i.zero, i.size, i.bytes)) = some (some (.agg #[.int .i64 0, .int .i64 0, .string ⟨#[]⟩, .int .i64 0]), 4, 40) := by kernel_rfl
theorem put_any (B base : Nat) (s : ByteArray) (k kind tt n : Int) (str : ByteArray) (v : Value) (ts : List Tok) (w : World) (hR : Rd w B s k v) (hown : w.ownsRow base 68 4 v ts.length (ts.flatMap tokV)) (hB : B < base) (hbase : base <= w.heap.size) (hlen : ts.length <= 100000) :
  Calls Tryz.prog 86 #[.pointer (some ⟨B, 0, none⟩), .int .i64 kind, .int .i64 tt, .string str, .int .i64 n] w fun e w' => e = .returned (.int .i64 0) /\
   ∃ v', Rd w' B s tt v' /\ w'.ownsRow base 68 4 v' (ts ++ [Tok.mk kind k str n]).length ((ts ++ [Tok.mk kind k str n]).flatMap tokV) /\ Turned (fun j => j = B \/ base <= j) w w' := by
 obtain ⟨i0, hif, hz0, hz1, hz2⟩ := info_parts infoTok
 obtain ⟨c0, c1, c2⟩ := hR.cells
 have f1 := hR.free 1
 have f2 := hR.free 2
 obtain ⟨va, vc, rfl⟩ := owns_shape hown
 have HR := Lib.hid hR
 have HO := Lib.hid hown
 clear hR hown
 go_enter Tryz.func86, Tryz.ntmps86
 go_wp2_with fail
 refine region_R (R := fun j V => j < 17 -> (fun V => V.cell? ⟨B, 1, none⟩ = some (.int .i64 k) /\ V.cell? ⟨B, 2, none⟩ = some (.slice va ts.length vc)) V) (by kernel_rfl) ?_
 refine tk (n := 17) 0 (.pointer (some ⟨B, 0, none⟩)) rfl (.inl ⟨by rfl, ?_⟩) ⟨c1, c2⟩ ?_
 ·rintro V ⟨v1, v2⟩
  go_simp
 simp only [zz0, zz1, Act.put, zz3, zz4, zz5]
 refine tk (n := 17) 1 (.pointer (some ⟨B, 0, none⟩)) rfl (.inl ⟨by rfl, ?_⟩) ⟨c1, c2⟩ ?_
 ·rintro V ⟨v1, v2⟩
  go_simp
 simp only [zz0, zz1, zz2, Act.put, zz3, zz4, zz5]
 refine tk (n := 17) 2 (.pointer (some ⟨B, 0, none⟩)) rfl (.inl ⟨by rfl, ?_⟩) ⟨c1, c2⟩ ?_
 ·rintro V ⟨v1, v2⟩
  go_simp
 simp only [zz0, zz1, zz2, Act.put, zz3, zz4, zz5]
 refine tk (n := 17) 3 (.pointer (some ⟨B, 2, none⟩)) rfl (.inl ⟨by rfl, ?_⟩) ⟨c1, c2⟩ ?_
 ·rintro V ⟨v1, v2⟩
  go_simp
 simp only [zz0, zz1, zz2, Act.put, zz3, zz4, zz5]
 refine tk (n := 17) 4 (.slice va ts.length vc) rfl (.inl ⟨by rfl, ?_⟩) ⟨c1, c2⟩ ?_
 ·rintro V ⟨v1, v2⟩
  go_simp
 simp only [zz0, zz1, zz2, Act.put, zz3, zz4, zz5]
 refine tk (n := 17) 5 (.int .i64 kind) rfl (.inl ⟨by rfl, ?_⟩) ⟨c1, c2⟩ ?_
 ·rintro V ⟨v1, v2⟩
  go_simp
 simp only [zz0, zz1, zz2, Act.put, zz3, zz4, zz5]
 refine tk (n := 17) 6 (.pointer (some ⟨B, 0, none⟩)) rfl (.inl ⟨by rfl, ?_⟩) ⟨c1, c2⟩ ?_
 ·rintro V ⟨v1, v2⟩
  go_simp
 simp only [zz0, zz1, zz2, Act.put, zz3, zz4, zz5]
 refine tk (n := 17) 7 (.pointer (some ⟨B, 0, none⟩)) rfl (.inl ⟨by rfl, ?_⟩) ⟨c1, c2⟩ ?_
 ·rintro V ⟨v1, v2⟩
  go_simp
 simp only [zz0, zz1, zz2, Act.put, zz3, zz4, zz5]
 refine tk (n := 17) 8 (.pointer (some ⟨B, 1, none⟩)) rfl (.inl ⟨by rfl, ?_⟩) ⟨c1, c2⟩ ?_
 ·rintro V ⟨v1, v2⟩
  go_simp
 simp only [zz0, zz1, zz2, Act.put, zz3, zz4, zz5]
 refine tk (n := 17) 9 (.int .i64 k) rfl (.inl ⟨by rfl, ?_⟩) ⟨c1, c2⟩ ?_
 ·rintro V ⟨v1, v2⟩
  go_simp
 simp only [zz0, zz1, zz2, Act.put, zz3, zz4, zz5]
 refine tk (n := 17) 10 (.string str) rfl (.inl ⟨by rfl, ?_⟩) ⟨c1, c2⟩ ?_
 ·rintro V ⟨v1, v2⟩
  go_simp
 simp only [zz0, zz1, zz2, Act.put, zz3, zz4, zz5]
 refine tk (n := 17) 11 (.int .i64 n) rfl (.inl ⟨by rfl, ?_⟩) ⟨c1, c2⟩ ?_
 ·rintro V ⟨v1, v2⟩
  go_simp
 simp only [zz0, zz1, zz2, Act.put, zz3, zz4, zz5]
 refine tk (n := 17) 12 (.agg #[.int .i64 kind, .int .i64 k, .string str, .int .i64 n]) rfl (.inl ⟨by rfl, ?_⟩) ⟨c1, c2⟩ ?_
 ·rintro V ⟨v1, v2⟩
  go_simp
 simp only [zz0, zz1, zz2, Act.put, zz3, zz4, zz5]
 refine wpAnyR_all (rs := [13]) (by kernel_rfl) (by simp) (fun i hi2 => ?_)
 obtain rfl : i = 13 := by simpa using hi2
 clear hi2
 refine wpOp_plain rfl rfl ?_
 simp only [zz0, zz1, zz2]
 go_simp
 have tA : Turned (fun _ => False) w (w.alloc (.cells #[.int .i64 kind, .int .i64 k, .string str, .int .i64 n] 68)) := (Turned.refl _ _).alloc _
 have hA := Rd.turned HR.out tA id
 refine ⟨⟨hA.cells.2.1, hA.cells.2.2⟩, ?_⟩
 refine wpAnyR_all (rs := [14]) (by kernel_rfl) (by simp) (fun i hi2 => ?_)
 obtain rfl : i = 14 := by simpa using hi2
 clear hi2
 refine wpOp_append_exact _ rfl rfl _ _ 69 rfl base 68 i0 (.agg #[.int .i64 0, .int .i64 0, .string ⟨#[]⟩, .int .i64 0]) 4 40 Tryz.underlying69 hif hz0 hz1 hz2 rfl (by decide) (.slice va ts.length vc) ts.length (ts.flatMap tokV) rfl (ownsRow_turned' tA.drew (fun _ _ h => h.elim) HO.out) ⟨w.heap.size, 0, none⟩ 1 1 [(.int .i64 kind), .int .i64 k, .string str, .int .i64 n] rfl rfl (cells_four w _ _ _ _ _) (by simp [Value.oneCell']) (by unfold maxLen; omega) (by omega) (by show base <= (w.alloc _).heap.size; simp; omega) ?_
 intro v' w4 hown' hgrow hex
 have hob := ownsRow_block HO.out
 have hBw := getElem?_lt HR.out
 have t4 : Turned (fun j => (Value.slice va ts.length vc).ownBlock = some j) w w4 := (tA.mono fun _ h => h.elim).trans (Turned.of_grown (a := w.alloc (.cells #[.int .i64 kind, .int .i64 k, .string str, .int .i64 n] 68)) ⟨hgrow.os, hgrow.tape, hgrow.output, hgrow.size, hgrow.block⟩ fun _ h => h)
 have hR4 : Rd w4 B s k (.slice va ts.length vc) := Rd.turned HR.out t4 (fun h => by have := (hob _ h).1; omega)
 obtain ⟨q0, q1, q2⟩ := hR4.cells
 have g1 := hR4.free 1
 have g2 := hR4.free 2
 refine ⟨fun _ => ⟨q1, q2⟩, ?_⟩
 simp only [zz0, zz1, zz2, Act.put, zz3, zz4, zz5]
 obtain ⟨g', cap', rfl⟩ := ownsRow_succ hown'
 have t5 : Turned (fun j => j = B \/ base <= j) w ((w4.setCell ⟨B, 2, none⟩ (.slice (some ⟨g', 0, none⟩) (ts.length + 1) cap')).setCell ⟨B, 1, none⟩ (.int .i64 tt)) := ((t4.mono fun j h => .inr (hob j h).1).setCell (p := ⟨B, 2, none⟩) (.inl rfl) _).setCell (p := ⟨B, 1, none⟩) (.inl rfl) _
 have hR5 : Rd ((w4.setCell ⟨B, 2, none⟩ (.slice (some ⟨g', 0, none⟩) (ts.length + 1) cap')).setCell ⟨B, 1, none⟩ (.int .i64 tt)) B s tt (.slice (some ⟨g', 0, none⟩) (ts.length + 1) cap') := Rd.setAt (k := k) (Rd.setOut hR4)
 have hO5 : ((w4.setCell ⟨B, 2, none⟩ (.slice (some ⟨g', 0, none⟩) (ts.length + 1) cap')).setCell ⟨B, 1, none⟩ (.int .i64 tt)).ownsRow base 68 4 (.slice (some ⟨g', 0, none⟩) (ts.length + 1) cap') (ts ++ [Tok.mk kind k str n]).length ((ts ++ [Tok.mk kind k str n]).flatMap tokV) := by
  have h1 := ownsRow_turned (C := fun j => j = B) (((Turned.refl (fun j => j = B) w4).setCell (p := ⟨B, 2, none⟩) rfl (.slice (some ⟨g', 0, none⟩) (ts.length + 1) cap')).setCell (p := ⟨B, 1, none⟩) rfl (.int .i64 tt)) (fun k hk => by rw [hk]; exact hB) hown'
  simpa [tokV] using h1
 have FIN := Lib.hid (And.intro hR5 (And.intro hO5 t5))
 clear hR5 hO5 t5 hown' hgrow hex t4 tA hA hob
 have c1 := q1
 have c2 := q2
 refine wpAnyR_all (rs := [15]) (by kernel_rfl) (by simp) (fun i hi2 => ?_)
 obtain rfl : i = 15 := by simpa using hi2
 clear hi2
 refine wpOp_plain rfl rfl ?_
 simp only [zz0, zz1, zz2]
 go_simp
 refine wpAnyR_all (rs := [16]) (by kernel_rfl) (by simp) (fun i hi2 => ?_)
 obtain rfl : i = 16 := by simpa using hi2
 clear hi2
 refine wpOp_plain rfl rfl ?_
 simp only [zz0, zz1, zz2]
 go_simp
 refine wpAnyR_all (rs := [17]) (by kernel_rfl) (by simp) (fun i hi2 => ?_)
 obtain rfl : i = 17 := by simpa using hi2
 clear hi2
 refine wpOp_plain rfl rfl ?_
 simp only [zz0, zz1, zz2]
 go_simp
 refine wpAnyR_done (by kernel_rfl) ?_ _
 go_wp2_with fail
 go_ret
 exact ⟨rfl, _, FIN.out⟩
inductive TR where
 | none
 | err (c : Int)
 | tok (t : Tok) (tt : Nat)
def VarAt (n : Nat) (w : World) (name : String) (cs : Array Value) : Prop := w.var? Tryz.prog name = some cs /\ ∀ g, Tryz.prog.globalNamed name = some g -> g < n
theorem VarAt.turned {n : Nat} {C : Nat -> Prop} {w w' : World} {name : String} {cs : Array Value} (h : VarAt n w name cs) (ht : Turned C w w') (hC : ∀ g, g < n -> ¬ C g) : VarAt n w' name cs := by
 obtain ⟨h1, h2⟩ := h
 refine ⟨?_, h2⟩
 unfold World.var? at h1 ⊢
 cases hg : Tryz.prog.globalNamed name with
 | none => simp [hg] at h1
 | some g =>
  simp only [hg, Option.bind_some] at h1 ⊢
  have hlt : g < w.heap.size := by
   rcases Nat.lt_or_ge g w.heap.size with h' | h'
   ·exact h'
   ·simp [Array.getElem?_eq_none h'] at h1
  rw [ht.block g hlt (hC g (h2 g hg))]
  exact h1
structure Vars (n : Nat) (w : World) : Prop where
 syn : ∃ tp p, VarAt n w "strconv.ErrSyntax" #[.iface tp p]
 ran : ∃ tp p, VarAt n w "strconv.ErrRange" #[.iface tp p]
 tab : VarAt n w "strings.asciiSpace" (Lib.asciiSpaceTab.map fun z => Value.int .u8 z).toArray
theorem Vars.turned {n : Nat} {C : Nat -> Prop} {w w' : World} (h : Vars n w) (ht : Turned C w w') (hC : ∀ g, g < n -> ¬ C g) : Vars n w' := by
 obtain ⟨⟨a, b, h1⟩, ⟨c, d, h2⟩, h3⟩ := h
 exact ⟨⟨a, b, h1.turned ht hC⟩, ⟨c, d, h2.turned ht hC⟩, h3.turned ht hC⟩
structure At (w : World) (B base : Nat) (s : ByteArray) (k : Nat) (v : Value) (ts : List Tok) : Prop where
 rd : Rd w B s k v
 own : w.ownsRow base 68 4 v ts.length (ts.flatMap tokV)
 lt : B < base
 le : base <= w.heap.size
 len : ts.length <= k
 vars : Vars B w
theorem At.same {w w' : World} {B base : Nat} {s : ByteArray} {k : Nat} {v : Value} {ts : List Tok} (h : At w B base s k v ts) (ht : Turned (fun _ => False) w w') : At w' B base s k v ts :=
 ⟨h.rd.turned ht id, ownsRow_turned' ht (fun _ _ => id) h.own, h.lt, Nat.le_trans h.le ht.size, h.len, h.vars.turned ht fun _ _ => id⟩
def Moved (B base : Nat) (w w' : World) : Prop := Turned (fun j => j = B \/ base <= j) w w'
theorem Moved.of {B base : Nat} {w w' : World} (h : Turned (fun _ => False) w w') : Moved B base w w' := h.mono fun _ h => h.elim
theorem Moved.trans {B base : Nat} {a b c : World} (h : Moved B base a b) (k : Moved B base b c) : Moved B base a c := Turned.trans h k
def Took (w : World) (B base : Nat) (s : ByteArray) (v : Value) (k : Nat) (ts : List Tok) (r : TR) (e : Ending) (w' : World) : Prop :=
 match r with
 | .none => e = .returned (.tuple #[.bool false, .int .i64 0]) /\ At w' B base s k v ts /\ Moved B base w w'
 | .err c => e = .returned (.tuple #[.bool true, .int .i64 c]) /\ At w' B base s k v ts /\ Moved B base w w'
 | .tok t tt => e = .returned (.tuple #[.bool true, .int .i64 0]) /\ ∃ v', At w' B base s tt v' (ts ++ [t]) /\ Moved B base w w'
def PutR (w : World) (B base : Nat) (s : ByteArray) (tt : Nat) (ts : List Tok) (e : Ending) (w' : World) : Prop := e = .returned (.int .i64 0) /\ ∃ v', At w' B base s tt v' ts /\ Moved B base w w'
theorem put_at {w : World} {B base : Nat} {s : ByteArray} {k : Nat} {v : Value} {ts : List Tok} (h : At w B base s k v ts) (kind n : Int) (str : ByteArray) (tt : Nat) (hk : k < tt) (hto : tt <= 65536) (x : Int) (hx : x = tt) :
  Calls Tryz.prog 86 #[.pointer (some ⟨B, 0, none⟩), .int .i64 kind, .int .i64 x, .string str, .int .i64 n] w (PutR w B base s tt (ts ++ [Tok.mk kind k str n])) := by
 subst hx
 have hl := h.len
 refine (put_any B base s k kind tt n str v ts w h.rd h.own h.lt h.le (by omega)).mono ?_
 rintro e w' ⟨rfl, v', h1, h2, h3⟩
 exact ⟨rfl, v', ⟨h1, h2, h.lt, Nat.le_trans h.le h3.size, by simp; omega, h.vars.turned h3 (by intro g hg hc; have := h.lt; omega)⟩, h3⟩
theorem At.drew {w : World} {B base : Nat} {s : ByteArray} {k : Nat} {v : Value} {ts : List Tok} (h : At w B base s k v ts) (n : Nat) : At (w.drewN n) B base s k v ts := h.same (drewN_turned _ _ _)
theorem moved_drew (B base : Nat) (w : World) (n : Nat) : Moved B base w (w.drewN n) := drewN_turned _ _ _
theorem class_same (c : Int) (w : World) (h0 : 0 <= c) (h1 : c <= 255) : Calls Tryz.prog 109 #[.int .u8 c] w fun e w' => e = .returned (.int .i64 (clsI c)) /\ w' = w := (class_any c w h0 h1).mono fun _ _ ⟨h, h2⟩ => ⟨h, h2.symm⟩
theorem region_tail {P : Program} {id : Nat} {Q : Exit -> Act -> World -> Prop} {a : Act} {w W : World} {l : List Oper} (hW : Turned (fun _ => False) w W) (n : Nat) (hm : P.follows .mixedOrders = true) (hB : Region.lexTailB .any l.toArray n = true)
  (h : ∀ V, Turned (fun _ => False) w V -> wpStill P l.toArray V (fun a' => wpList P l.toArray Q (l.drop n) a' V) (l.take n) a) : (Code.region id l.toArray true).wp P Q a W :=
 wp_region_still_tail n hm hB (h _ hW.drew)
def nameT (s : ByteArray) (k : Nat) : TR :=
 if clsI (rest s k)[0]!.toNat ≠ 3 then .none else if 32 < spanTo s k 2 - k then .err 2 else .tok ⟨1, k, s.extract k (spanTo s k 2), 0⟩ (spanTo s k 2)
theorem rest_head (s : ByteArray) (k : Nat) (h : k < s.size) : (rest s k)[0]! = s[k] := by rw [rest_cons s k h]; rfl
theorem spanTo_gt (s : ByteArray) (k : Nat) (h : k < s.size) (least : Int) (hc : least <= clsI s[k].toNat) : k < spanTo s k least := by
 unfold spanTo
 rw [rest_cons s k h, spanL_cons_yes (by exact hc)]
 omega
theorem span_calls (B : Nat) (s : ByteArray) (k : Nat) (v : Value) (least : Int) (w : World) (hR : Rd w B s k v) (hs : s.size <= 65536) (hk : k <= s.size) : ∀ n, 
  Calls Tryz.prog 127 #[.pointer (some ⟨B, 0, none⟩), .int .i64 least] (w.drewN n) fun e w' => e = .returned (.int .i64 ((spanTo s k least : Nat))) /\ w.drewN n = w' := fun n => span_any B s k v least (w.drewN n) hR (by omega) hk
theorem name_any (B base : Nat) (s : ByteArray) (k : Nat) (v : Value) (ts : List Tok) (w : World) (h : At w B base s k v ts) (hs : s.size <= 65536) (hk : k < s.size) :
  Calls Tryz.prog 110 #[.pointer (some ⟨B, 0, none⟩)] w (Took w B base s v k ts (nameT s k)) := by
 obtain ⟨c0, c1, c2⟩ := h.rd.cells
 have hb : (s[k].toNat : Int) <= 255 := by have := s[k].toNat_lt; omega
 have HC := Lib.hid (fun (W : World) => class_same (s[k].toNat : Int) W (by omega) hb)
 have HS := Lib.hid (span_calls B s k v 2 w h.rd hs (by omega))
 have HN : Hid (nameT s k = if clsI s[k].toNat ≠ 3 then .none else if 32 < spanTo s k 2 - k then .err 2 else .tok ⟨1, k, s.extract k (spanTo s k 2), 0⟩ (spanTo s k 2)) := by
  show _ = _
  unfold nameT; rw [rest_head s k hk]
 have HG := Lib.hid (spanTo_gt s k hk 2)
 have hto := spanTo_le s k 2 (by omega)
 have hge := spanTo_ge s k 2
 have H := Lib.hid h
 have hw : IntKind.i64.wrap (((spanTo s k 2 : Nat) : Int) - k) = ((spanTo s k 2 : Nat) : Int) - k := IntWalk.i64_in _ (by omega)
 clear h
 go_enter Tryz.func110, Tryz.ntmps110
 go_wp2_with fail
 by_cases hc : clsI s[k].toNat = 3
 ·have kc : (clsI s[k].toNat == 3) = true := by simpa using hc
  have hgt := HG.out (by omega)
  go_quiet ((go_at_call 109; (first | exact quiet_add_same (HC.out _) | exact Calls.quiet_of_same (HC.out _))))
  by_cases hl : 32 < spanTo s k 2 - k
  ·have HF : Hid (nameT s k = .err 2) := by show _ = _; rw [HN.out, if_neg (by simpa using hc), if_pos hl]
   go_wp2_with (go_at_call 127; refine (HS.out _).mono ?_; rintro e w' ⟨rfl, rfl⟩)
   go_ret2
   rw [HF.out]
   exact ⟨rfl, H.out.drew _, moved_drew _ _ _ _⟩
  ·have HF : Hid (nameT s k = .tok ⟨1, k, s.extract k (spanTo s k 2), 0⟩ (spanTo s k 2)) := by show _ = _; rw [HN.out, if_neg (by simpa using hc), if_neg hl]
   have HP := Lib.hid (fun (W : World) (ht : Turned (fun _ => False) w W) => put_at (H.out.same ht) 1 0 (s.extract k (spanTo s k 2)) (spanTo s k 2) hgt (by omega) _ rfl)
   go_wp2_with (go_at_call 127; refine (HS.out _).mono ?_; rintro e w' ⟨rfl, rfl⟩)
   refine region_tail (w := w) (drewN_turned _ w _) 12 (by kernel_rfl) (by kernel_rfl) (fun V hT => ?_)
   obtain ⟨d0, d1, d2⟩ := (H.out.same hT).rd.cells
   have HV := Lib.hid (HP.out V hT)
   have HT := Lib.hid hT
   clear hT
   simp only [List.take_succ_cons, List.take_zero, List.drop_succ_cons, List.drop_zero]
   repeat still_step
   refine wpStill_nil ?_
   go_wp2_with (go_at_call 86; refine (HV.out.mono ?_); rintro e w6 ⟨rfl, HQ⟩; have HQ := Lib.hid HQ)
   go_wp2_with fail
   go_ret2
   rw [HF.out]
   obtain ⟨v', q1, q2⟩ := HQ.out
   exact ⟨rfl, v', q1, (Moved.of HT.out).trans q2⟩
 ·have kc : (clsI s[k].toNat == 3) = false := by simpa using hc
  have HF : Hid (nameT s k = .none) := by show _ = _; rw [HN.out, if_pos hc]
  go_quiet ((go_at_call 109; (first | exact quiet_add_same (HC.out _) | exact Calls.quiet_of_same (HC.out _))))
  go_wp2_with fail
  go_ret2
  rw [HF.out]
  exact ⟨rfl, H.out.drew _, moved_drew _ _ _ _⟩
def AtoiR (w : World) (l : List UInt8) (e : Ending) (w' : World) : Prop :=
 Turned (fun _ => False) w w' /\ match Lib.atoiAll l with
  | .ok n => e = .returned (.tuple #[.int .i64 n, .nilIface])
  | _ => ∃ n te pe, e = .returned (.tuple #[.int .i64 n, .iface te pe])
theorem atoi_any (str : ByteArray) (hs : str.size <= 65536) (n : Nat) (w : World) (hv : Vars n w) : Calls Tryz.prog 128 #[.string str] w (AtoiR w str.data.toList) := by
 obtain ⟨⟨a, b, h1, _⟩, ⟨c, d, h2, _⟩, _⟩ := hv
 have hok := fun m h => Tryz.strconv_Atoi_ok str (by omega) m h w
 have hsy := fun h => Any.strconv_Atoi_syntax_var Tryz.laysC172 str (by omega) h a b w h1
 have hra := fun h => Tryz.strconv_Atoi_range_var str (by omega) h c d w h2
 unfold AtoiR
 revert hok hsy hra
 generalize Lib.atoiAll str.data.toList = r
 intro hok hsy hra
 cases r
 case ok m =>
  refine (hok m rfl).mono ?_
  rintro e w' ⟨rfl, h3⟩
  refine ⟨?_, rfl⟩
  rcases h3 with rfl | ⟨t, rfl⟩
  ·exact Turned.refl _ _
  ·exact Turned.of_new (Go.Joins.below_bytesWorld _ _ _ _ (Nat.le_refl _))
 case range =>
  refine (hra rfl).mono ?_
  rintro e w' ⟨N, rfl, h3, h4, h5⟩
  exact ⟨Turned.of_new h5, _, _, _, rfl⟩
 all_goals
  refine (hsy rfl).mono ?_
  rintro e w' ⟨N, rfl, h3, h4, h5⟩
  exact ⟨Turned.of_new h5, _, _, _, rfl⟩
def numOf (k tt : Nat) (str : ByteArray) : TR :=
 match Lib.atoiAll str.data.toList with
 | .ok n => if 15 < str.size \/ (1 < str.size /\ str[0]! = 48) then .err 27 else .tok ⟨2, k, ⟨#[]⟩, n⟩ tt
 | _ => .err 27
def numT (s : ByteArray) (k : Nat) : TR :=
 if clsI (rest s k)[0]!.toNat ≠ 2 then .none else numOf k (spanTo s k 2) (s.extract k (spanTo s k 2))
theorem number_any (B base : Nat) (s : ByteArray) (k : Nat) (v : Value) (ts : List Tok) (w : World) (h : At w B base s k v ts) (hs : s.size <= 65536) (hk : k < s.size) :
  Calls Tryz.prog 111 #[.pointer (some ⟨B, 0, none⟩)] w (Took w B base s v k ts (numT s k)) := by
 obtain ⟨c0, c1, c2⟩ := h.rd.cells
 have hb : (s[k].toNat : Int) <= 255 := by have := s[k].toNat_lt; omega
 have HC := Lib.hid (fun (W : World) => class_same (s[k].toNat : Int) W (by omega) hb)
 have HS := Lib.hid (span_calls B s k v 2 w h.rd hs (by omega))
 have HN : Hid (numT s k = if clsI s[k].toNat ≠ 2 then .none else numOf k (spanTo s k 2) (s.extract k (spanTo s k 2))) := by
  show _ = _
  unfold numT; rw [rest_head s k hk]
 have HG := Lib.hid (spanTo_gt s k hk 2)
 have hto := spanTo_le s k 2 (by omega)
 have hge := spanTo_ge s k 2
 have H := Lib.hid h
 clear h
 go_enter Tryz.func111, Tryz.ntmps111
 go_wp2_with fail
 by_cases hc : clsI s[k].toNat = 2
 ·have kc : (clsI s[k].toNat == 2) = true := by simpa using hc
  have hgt := HG.out (by omega)
  go_quiet ((go_at_call 109; (first | exact quiet_add_same (HC.out _) | exact Calls.quiet_of_same (HC.out _))))
  have HF : Hid (numT s k = numOf k (spanTo s k 2) (s.extract k (spanTo s k 2))) := by show _ = _; rw [HN.out, if_neg (by simpa using hc)]
  go_wp2_with (go_at_call 127; refine (HS.out _).mono ?_; rintro e w' ⟨rfl, rfl⟩)
  go_quiet (fail)
  have hsz : (s.extract k (spanTo s k 2)).size = spanTo s k 2 - k := by simp; omega
  generalize s.extract k (spanTo s k 2) = str at HF hsz ⊢
  have h0 : 0 < str.size := by omega
  have h0v : str[0]! = str[0] := by simp [getElem!_pos, h0]
  have HA := Lib.hid (fun (W : World) (ht : Turned (fun _ => False) w W) => atoi_any str (by omega) B W (H.out.same ht).vars)
  have HK := Lib.hid (fun (W W' : World) (e : Ending) (ht : Turned (fun _ => False) w W) (hr : AtoiR W str.data.toList e W') => (show Turned (fun _ => False) w W' from ht.trans hr.1))
  cases ha : Lib.atoiAll str.data.toList
  case ok n =>
   have HP := Lib.hid (fun (W : World) (ht : Turned (fun _ => False) w W) => put_at (H.out.same ht) 2 n ⟨#[]⟩ (spanTo s k 2) hgt (by omega) _ rfl)
   have HR := Lib.hid (fun (W W' : World) (e : Ending) (hr : AtoiR W str.data.toList e W') => (show e = .returned (.tuple #[.int .i64 n, .nilIface]) by have := hr.2; rw [ha] at this; exact this))
   have HX : Hid (numOf k (spanTo s k 2) str = if 15 < str.size \/ (1 < str.size /\ str[0]! = 48) then .err 27 else .tok ⟨2, k, ⟨#[]⟩, n⟩ (spanTo s k 2)) := by show _ = _; unfold numOf; rw [ha]
   clear ha
   by_cases h15 : 15 < str.size
   ·have HY : Hid (numT s k = .err 27) := by show _ = _; rw [HF.out, HX.out, if_pos (.inl h15)]
    go_wp2_with (go_at_call 128; refine ((HA.out _ (drewN_turned _ w _)).mono ?_); intro e w7 hr; obtain rfl := HR.out _ _ _ hr; have HT := Lib.hid (HK.out _ _ _ (drewN_turned _ w _) hr); clear hr)
    go_ret2
    rw [HY.out]
    exact ⟨rfl, H.out.same HT.out, Moved.of HT.out⟩
   ·by_cases h1 : 1 < str.size
    ·have hi : (1 : Int) < str.size := by omega
     by_cases h48 : str[0] = 48
     ·have k48 : ((str[0].toNat : Int) == 48) = true := by rw [h48]; rfl
      have HY : Hid (numT s k = .err 27) := by show _ = _; rw [HF.out, HX.out, if_pos (.inr ⟨h1, by rw [h0v]; exact h48⟩)]
      clear h48 h0v
      go_wp2_with (go_at_call 128; refine ((HA.out _ (drewN_turned _ w _)).mono ?_); intro e w7 hr; obtain rfl := HR.out _ _ _ hr; have HT := Lib.hid (HK.out _ _ _ (drewN_turned _ w _) hr); clear hr)
      go_ret2
      rw [HY.out]
      exact ⟨rfl, H.out.same HT.out, Moved.of HT.out⟩
     ·have k48 : ((str[0].toNat : Int) == 48) = false := by
       have : str[0].toNat ≠ 48 := fun h => h48 (UInt8.toNat_inj.1 h)
       simp; omega
      have HY : Hid (numT s k = .tok ⟨2, k, ⟨#[]⟩, n⟩ (spanTo s k 2)) := by show _ = _; rw [HF.out, HX.out, if_neg (by rw [h0v]; exact fun h => h.elim h15 fun h => h48 h.2)]
      clear h48 h0v
      go_wp2_with (first | (go_at_call 128; refine ((HA.out _ (drewN_turned _ w _)).mono ?_); intro e w7 hr; obtain rfl := HR.out _ _ _ hr; have HT := Lib.hid (HK.out _ _ _ (drewN_turned _ w _) hr); clear hr) | (go_at_call 86; refine ((HP.out _ HT.out).mono ?_); rintro e w6 ⟨rfl, HQ⟩; have HQ := Lib.hid HQ))
      go_ret2
      rw [HY.out]
      obtain ⟨v', q1, q2⟩ := HQ.out
      exact ⟨rfl, v', q1, (Moved.of HT.out).trans q2⟩
    ·have HY : Hid (numT s k = .tok ⟨2, k, ⟨#[]⟩, n⟩ (spanTo s k 2)) := by show _ = _; rw [HF.out, HX.out, if_neg (fun h => h.elim h15 fun h => h1 h.1)]
     go_wp2_with (first | (go_at_call 128; refine ((HA.out _ (drewN_turned _ w _)).mono ?_); intro e w7 hr; obtain rfl := HR.out _ _ _ hr; have HT := Lib.hid (HK.out _ _ _ (drewN_turned _ w _) hr); clear hr) | (go_at_call 86; refine ((HP.out _ HT.out).mono ?_); rintro e w6 ⟨rfl, HQ⟩; have HQ := Lib.hid HQ))
     go_ret2
     rw [HY.out]
     obtain ⟨v', q1, q2⟩ := HQ.out
     exact ⟨rfl, v', q1, (Moved.of HT.out).trans q2⟩
  all_goals
   have HR := Lib.hid (fun (W W' : World) (e : Ending) (hr : AtoiR W str.data.toList e W') => (show ∃ n te pe, e = .returned (.tuple #[.int .i64 n, .iface te pe]) by have := hr.2; rw [ha] at this; exact this))
   have HY : Hid (numT s k = .err 27) := by show _ = _; rw [HF.out]; unfold numOf; rw [ha]
   clear ha
   go_wp2_with (go_at_call 128; refine ((HA.out _ (drewN_turned _ w _)).mono ?_); intro e w7 hr; obtain ⟨n7, te, pe, rfl⟩ := HR.out _ _ _ hr; have HT := Lib.hid (HK.out _ _ _ (drewN_turned _ w _) hr); clear hr)
   go_ret2
   rw [HY.out]
   exact ⟨rfl, H.out.same HT.out, Moved.of HT.out⟩
 ·have kc : (clsI s[k].toNat == 2) = false := by simpa using hc
  have HF : Hid (numT s k = .none) := by show _ = _; rw [HN.out, if_pos hc]
  go_quiet ((go_at_call 109; (first | exact quiet_add_same (HC.out _) | exact Calls.quiet_of_same (HC.out _))))
  go_wp2_with fail
  go_ret2
  rw [HF.out]
  exact ⟨rfl, H.out.drew _, moved_drew _ _ _ _⟩
end Go.Proofs.YtjijdgkccfeeaaaGreatDoor
