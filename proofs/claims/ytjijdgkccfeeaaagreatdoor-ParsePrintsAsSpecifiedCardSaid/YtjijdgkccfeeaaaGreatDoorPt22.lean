/- Part 22 of the proof of card: ParRefL, ParRefA, ParRefB, ParRefC. Conditions: those of each theorem. -/
import Derived.Test.YtjijdgkccfeeaaaGreatDoorPt01
import Derived.Test.YtjijdgkccfeeaaaGreatDoorPt03
import Derived.Test.YtjijdgkccfeeaaaGreatDoorPt07
import Derived.Test.YtjijdgkccfeeaaaGreatDoorPt11
set_option maxRecDepth 20000
set_option maxHeartbeats 4000000
namespace Go.Proofs.YtjijdgkccfeeaaaGreatDoor
open Go Go.Proofs Go.RowKit
structure TQ (g cap : Nat) (ts : List Tok) (W : World) : Prop where
 toks : RowAt W g 0 4 ts.length (tokRow ts)
 ok : TokOK ts
 ltg : g < W.heap.size
 cap1 : ts.length <= cap
 cap2 : cap <= maxLen
theorem TQ.tok {g cap : Nat} {ts : List Tok} {W : World} (h : TQ g cap ts W) {k : Nat} {t : Tok} (ht : ts[k]? = some t) : W.cell? ⟨g, k * 4, none⟩ = some (.int .i64 t.kind) /\ W.cell? ⟨g, k * 4 + 1, none⟩ = some (.int .i64 t.at_) /\ W.cell? ⟨g, k * 4 + 2, none⟩ = some (.string t.s) /\ W.cell? ⟨g, k * 4 + 3, none⟩ = some (.int .i64 t.n) := by
 have hr := h.toks k (lt_of_some ht)
 simp only [tokRow, ht, tokV, Nat.zero_add] at hr
 exact ⟨hr 0 _ rfl, hr 1 _ rfl, hr 2 _ rfl, hr 3 _ rfl⟩
theorem TQ.turned {C : Nat -> Prop} {g cap : Nat} {ts : List Tok} {W W' : World} (h : TQ g cap ts W) (ht : Turned C W W') (hg : ¬ C g) : TQ g cap ts W' :=
 ⟨h.toks.turned ht hg, h.ok, Nat.lt_of_lt_of_le h.ltg ht.size, h.cap1, h.cap2⟩
structure SQ (g cap : Nat) (ts : List Tok) (w W : World) (L : List (Nat × Obj)) (K : List (List Ex × Value)) : Prop where
 tq : TQ g cap ts W
 lays : Lays W L
 new : ∀ p ∈ L, w.heap.size <= p.1
 kids : ∀ q ∈ K, KidsAt W (fun b => w.heap.size <= b /\ ∀ p ∈ L, p.1 ≠ b) q.1 q.2
 tur : Turned (fun _ => False) w W
 ltg : g < w.heap.size
 dist : (L.map (·.1)).Nodup
section
variable {g cap : Nat} {ts : List Tok} {w W W' : World} {L : List (Nat × Obj)} {K : List (List Ex × Value)}
theorem SQ.start (h : TQ g cap ts w) : Hid (SQ g cap ts w w [] []) := Lib.hid ⟨h, Lays.nil _, (fun _ h => by cases h), (fun _ h => by cases h), Turned.refl _ _, h.ltg, by simp⟩
theorem SQ.same (h : Hid (SQ g cap ts w W L K)) (ht : Turned (fun _ => False) W W') : Hid (SQ g cap ts w W' L K) :=
 Lib.hid ⟨h.out.tq.turned ht id, h.out.lays.turned ht fun _ _ => id, h.out.new, fun q hq => (h.out.kids q hq).move ht (fun _ _ => id) (fun _ h _ => h), h.out.tur.trans ht, h.out.ltg, h.out.dist⟩
theorem SQ.size (h : Hid (SQ g cap ts w W L K)) : w.heap.size <= W.heap.size := h.out.tur.size
theorem SQ.below (h : Hid (SQ g cap ts w W L K)) : ∀ p ∈ L, p.1 < W.heap.size := fun p hp => getElem?_lt (h.out.lays p hp)
theorem SQ.callK (h : Hid (SQ g cap ts w W L K)) (ht : Turned (fun _ => False) W W') {l : List Ex} {v : Value} (hk : KidsAt W' (fun b => W.heap.size <= b) l v) : Hid (SQ g cap ts w W' L ((l, v) :: K)) := by
 have h2 := SQ.same h ht
 refine Lib.hid ⟨h2.out.tq, h2.out.lays, h2.out.new, fun q hq => ?_, h2.out.tur, h2.out.ltg, h2.out.dist⟩
 rcases List.mem_cons.1 hq with rfl | hq
 ·exact hk.move (Turned.refl (fun _ => False) _) (fun _ _ => id) (fun b hb _ => ⟨Nat.le_trans (SQ.size h) hb, fun p hp => by have := SQ.below h p hp; omega⟩)
 ·exact h2.out.kids q hq
theorem SQ.box (h : Hid (SQ g cap ts w W L K)) (o : Obj) : ∃ W1 b, W1 = W.alloc o /\ b = W.heap.size /\ Hid (SQ g cap ts w W1 ((b, o) :: L) K) := by
 have ht : Turned (fun _ => False) W (W.alloc o) := (Turned.refl _ _).alloc _
 refine ⟨_, _, rfl, rfl, Lib.hid ⟨h.out.tq.turned ht id, fun p hp => ?_, fun p hp => ?_, fun q hq => ?_, h.out.tur.trans ht, h.out.ltg, ?_⟩⟩
 ·rcases List.mem_cons.1 hp with rfl | hp
  ·exact World.alloc_heap_new _ _
  ·exact h.out.lays.turned ht (fun _ _ => id) p hp
 ·rcases List.mem_cons.1 hp with rfl | hp
  ·exact SQ.size h
  ·exact h.out.new p hp
 ·refine (h.out.kids q hq).move ht (fun _ _ => id) (fun b hb hlt => ⟨hb.1, fun p hp => ?_⟩)
  rcases List.mem_cons.1 hp with rfl | hp
  ·exact fun h => by have : W.heap.size = b := h; omega
  ·exact hb.2 p hp
 ·rw [List.map_cons, List.nodup_cons]
  refine ⟨fun hm => ?_, h.out.dist⟩
  obtain ⟨p, hp, he⟩ := List.mem_map.1 hm
  have := SQ.below h p hp
  have he2 : p.1 = W.heap.size := he
  omega
theorem SQ.put (h : Hid (SQ g cap ts w W L K)) (i : Nat) {b : Nat} {o o' : Obj} (hi : L[i]? = some (b, o)) (ht : Turned (fun c => c = b) W W') (hb : W'.heap[b]? = some o') : Hid (SQ g cap ts w W' (L.set i (b, o')) K) := by
 have hd : ∀ j p, L[j]? = some p -> j ≠ i -> p.1 ≠ b := fun j p hj hne => dist_ne h.out.dist hi hj hne
 have hm : (b, o) ∈ L := List.mem_of_getElem? hi
 have hwb : w.heap.size <= b := h.out.new _ hm
 have hg := h.out.ltg
 refine Lib.hid ⟨h.out.tq.turned ht (by omega), fun p hp => ?_, fun p hp => ?_, fun q hq => ?_, ?_, hg, ?_⟩
 ·obtain ⟨m, hm2⟩ := List.mem_iff_getElem?.1 hp
  rw [List.getElem?_set] at hm2
  split at hm2
  ·split at hm2
   ·cases hm2; exact hb
   ·cases hm2
  ·rename_i hne
   exact (ht.block p.1 (SQ.below h p (List.mem_of_getElem? hm2)) (hd m p hm2 (Ne.symm hne))).trans (h.out.lays p (List.mem_of_getElem? hm2))
 ·rcases mem_set_cases hp with rfl | hp
  ·exact hwb
  ·exact h.out.new p hp
 ·refine (h.out.kids q hq).move ht (fun c hc => fun h => hc.2 _ hm h.symm) (fun c hc _ => ⟨hc.1, fun p hp => ?_⟩)
  rcases mem_set_cases hp with rfl | hp
  ·exact hc.2 (b, o) hm
  ·exact hc.2 p hp
 ·refine ⟨ht.os.trans h.out.tur.os, ht.tape.trans h.out.tur.tape, ht.output.trans h.out.tur.output, Nat.le_trans h.out.tur.size ht.size, fun c hc hn => ?_⟩
  exact (ht.block c (Nat.lt_of_lt_of_le hc h.out.tur.size) (by omega)).trans (h.out.tur.block c hc hn)
 ·have e : (L.set i (b, o')).map (·.1) = L.map (·.1) := by
   rw [List.map_set]
   have h1 : (L.map (·.1))[i]? = some b := by simp [hi]
   obtain ⟨h2, h3⟩ := List.getElem?_eq_some_iff.1 h1
   conv => lhs; rw [show b = (L.map (·.1))[i] from h3.symm]
   exact List.set_getElem_self h2
  rw [e]; exact h.out.dist
theorem SQ.kidAt (h : Hid (SQ g cap ts w W L K)) (i : Nat) {l : List Ex} {v : Value} (hi : K[i]? = some (l, v)) : KidsAt W (fun b => w.heap.size <= b) l v :=
 (h.out.kids _ (List.mem_of_getElem? hi)).move (Turned.refl (fun _ => False) _) (fun _ _ => id) (fun _ hb _ => hb.1)
theorem SQ.boxAt (h : Hid (SQ g cap ts w W L K)) (i : Nat) {b : Nat} {o : Obj} (hi : L[i]? = some (b, o)) : W.heap[b]? = some o /\ w.heap.size <= b /\ b < W.heap.size :=
 ⟨h.out.lays.get i hi, h.out.new _ (List.mem_of_getElem? hi), SQ.below h _ (List.mem_of_getElem? hi)⟩
theorem SQ.dropK (h : Hid (SQ g cap ts w W L K)) {K' : List (List Ex × Value)} (hK : ∀ q ∈ K', q ∈ K) : Hid (SQ g cap ts w W L K') :=
 Lib.hid ⟨h.out.tq, h.out.lays, h.out.new, fun q hq => h.out.kids q (hK q hq), h.out.tur, h.out.ltg, h.out.dist⟩
theorem SQ.forget {b : Nat} {o : Obj} (h : Hid (SQ g cap ts w W ((b, o) :: L) K)) : Hid (SQ g cap ts w W L K) := by
 have hd := h.out.dist
 rw [List.map_cons, List.nodup_cons] at hd
 exact Lib.hid ⟨h.out.tq, fun p hp => h.out.lays p (List.mem_cons_of_mem _ hp), fun p hp => h.out.new p (List.mem_cons_of_mem _ hp), fun q hq => (h.out.kids q hq).move (Turned.refl (fun _ => False) _) (fun _ _ => id) (fun _ hb _ => ⟨hb.1, fun p hp => hb.2 p (List.mem_cons_of_mem _ hp)⟩), h.out.tur, h.out.ltg, hd.2⟩
theorem SQ.addK (h : Hid (SQ g cap ts w W L K)) {l : List Ex} {v : Value} (hk : KidsAt W (fun b => w.heap.size <= b /\ ∀ p ∈ L, p.1 ≠ b) l v) : Hid (SQ g cap ts w W L ((l, v) :: K)) := by
 refine Lib.hid ⟨h.out.tq, h.out.lays, h.out.new, fun q hq => ?_, h.out.tur, h.out.ltg, h.out.dist⟩
 rcases List.mem_cons.1 hq with rfl | hq
 ·exact hk
 ·exact h.out.kids q hq
theorem SQ.turn {C : Nat -> Prop} (h : Hid (SQ g cap ts w W L [])) (ht : Turned C W W') (hC : ∀ b, C b -> w.heap.size <= b /\ ∀ p ∈ L, p.1 ≠ b) : Hid (SQ g cap ts w W' L []) := by
 have hg := h.out.ltg
 refine Lib.hid ⟨h.out.tq.turned ht (fun hc => by have := (hC _ hc).1; omega), h.out.lays.turned ht fun p hp hc => (hC _ hc).2 p hp rfl, h.out.new, (fun _ hq => by cases hq), ?_, hg, h.out.dist⟩
 refine ⟨ht.os.trans h.out.tur.os, ht.tape.trans h.out.tur.tape, ht.output.trans h.out.tur.output, Nat.le_trans h.out.tur.size ht.size, fun c hc hn => ?_⟩
 exact (ht.block c (Nat.lt_of_lt_of_le hc h.out.tur.size) (fun hcc => by have := (hC _ hcc).1; omega)).trans (h.out.tur.block c hc hn)
theorem SQ.adopt {b t : Nat} {cs : Array Value} (h : Hid (SQ g cap ts w W ((b, .cells cs t (0, 0)) :: L) K)) (xs : List (Ex × Value)) (hcs : cs.toList = xs.flatMap fun p => exV p.1 p.2) (hk : ∀ p ∈ xs, (p.1.kids, p.2) ∈ K) (c : Nat) (hxl : xs.length <= maxLen := by simp [maxLen]) : Hid (SQ g cap ts w W L ((xs.map (·.1), .slice (some ⟨b, 0, none⟩) xs.length c) :: K)) := by
 have hd := h.out.dist
 rw [List.map_cons, List.nodup_cons] at hd
 have hb : W.heap[b]? = some (.cells cs t (0, 0)) := h.out.lays (b, .cells cs t (0, 0)) (List.mem_cons_self ..)
 have hnew : w.heap.size <= b := h.out.new _ (List.mem_cons_self ..)
 have h2 := SQ.forget h
 refine SQ.addK h2 ?_
 have := KidsAt.some (W := W) (N := fun c => w.heap.size <= c /\ ∀ p ∈ L, p.1 ≠ c) (xs.map (·.1)) b 0 c (fun i => ((xs[i]?).map (·.2)).getD undef) ⟨hnew, fun p hp he => hd.1 (List.mem_map.2 ⟨p, hp, he⟩)⟩ (by rw [List.length_map]; exact hxl) (fun i hi j u hu => ?_) (fun i x hx => ?_)
 ·simpa using this
 ·simp only [List.length_map] at hi
  simp only [List.getElem?_map, List.getElem?_eq_getElem hi, Option.map_some, Option.getD_some] at hu
  have hj : j < 5 := by
   have := (List.getElem?_eq_some_iff.1 hu).1
   simpa [exV] using this
  have h2 := flatMap_at (fun p : Ex × Value => exV p.1 p.2) 5 (fun _ => rfl) xs i j hi hj
  rw [hu, <- hcs] at h2
  rw [Nat.zero_add]
  simp only [World.cell?, hb]
  simpa using h2
 ·simp only [List.getElem?_map] at hx ⊢
  obtain ⟨p, hp, rfl⟩ := Option.map_eq_some_iff.1 hx
  simp only [hp, Option.map_some, Option.getD_some]
  exact h2.out.kids _ (hk p (List.mem_of_getElem? hp))
end
attribute [local go_sem] Oper.semAt_some
theorem sign_tq {g cap : Nat} {ts : List Tok} {k : Nat} {w : World} {t : Tok} (h : TQ g cap ts w) (ht : ts[k]? = some t) (z : Int) (hz : z = k) (s : ByteArray) :
  Calls Tryz.prog 61 #[.slice (some ⟨g, 0, none⟩) ts.length cap, .int .i64 z, .string s] w fun e w' => e = .returned (.bool (isS t s)) /\ w = w' := by
 subst hz
 obtain ⟨t0, t1, t2, t3⟩ := h.tok ht
 have hl := lt_of_some ht
 have hl2 : (k : Int) < (ts.length : Int) := by omega
 clear ht h
 unfold isS
 by_cases hk : t.kind = 4
 ·have bk : (t.kind == 4) = true := by simpa using hk
  go_enter Tryz.func61, Tryz.ntmps61
  go_wp2
  go_ret
  exact ⟨by simp [hk, ByteArray.toList_eq], rfl⟩
 ·have bk : (t.kind == 4) = false := by simpa using hk
  go_enter Tryz.func61, Tryz.ntmps61
  go_wp2
  go_ret
  exact ⟨by simp [hk], rfl⟩
theorem begins_or (t : Tok) : beginsT t = (((decide (1 <= t.kind) && decide (t.kind <= 3)) || isS t ⟨#[40]⟩) || isS t ⟨#[45]⟩) := by
 have e : (t.kind == 1 || t.kind == 2 || t.kind == 3) = (decide (1 <= t.kind) && decide (t.kind <= 3)) := by
  rw [Bool.eq_iff_iff]; simp; omega
 unfold beginsT
 rw [<- e]
theorem rbegins_tq {g cap : Nat} {ts : List Tok} {k : Nat} {w : World} {t : Tok} (h : TQ g cap ts w) (ht : ts[k]? = some t) (z : Int) (hz : z = k) :
  Calls Tryz.prog 62 #[.slice (some ⟨g, 0, none⟩) ts.length cap, .int .i64 z] w fun e w' => e = .returned (.bool (beginsT t)) /\ w = w' := by
 subst hz
 have HI := Lib.hid (sign_tq h ht k rfl)
 obtain ⟨t0, t1, t2, t3⟩ := h.tok ht
 have hl := lt_of_some ht
 have hl2 : (k : Int) < (ts.length : Int) := by omega
 have HB := Lib.hid (begins_or t)
 clear ht h
 generalize beginsT t = bt at HB ⊢
 by_cases h1 : 1 <= t.kind
 ·by_cases h3 : t.kind <= 3
  ·have HE : Hid (bt = true) := by show _ = _; rw [HB.out]; simp [h1, h3]
   clear HB
   go_enter Tryz.func62, Tryz.ntmps62
   go_wp2_with (go_at_call 61; refine (HI.out _).mono ?_; rintro e w' ⟨rfl, rfl⟩)
   go_ret
   rw [HE.out]; exact ⟨rfl, rfl⟩
  ·have HE : Hid (bt = (isS t ⟨#[40]⟩ || isS t ⟨#[45]⟩)) := by show _ = _; rw [HB.out]; simp [h3]
   clear HB
   go_enter Tryz.func62, Tryz.ntmps62
   cases b1 : isS t ⟨#[40]⟩ with
   | true =>
    rw [b1] at HE
    go_wp2_with (go_at_call 61; refine (HI.out _).mono ?_; rintro e w' ⟨rfl, rfl⟩)
    go_ret
    rw [HE.out]; exact ⟨rfl, rfl⟩
   | false =>
    rw [b1] at HE
    go_wp2_with (go_at_call 61; refine (HI.out _).mono ?_; rintro e w' ⟨rfl, rfl⟩)
    go_ret
    rw [HE.out]; exact ⟨by first | rfl | (simp; done) | (simp; omega) | (simp; rfl) | (simp; intro hh; omega), rfl⟩
 ·have HE : Hid (bt = (isS t ⟨#[40]⟩ || isS t ⟨#[45]⟩)) := by show _ = _; rw [HB.out]; simp [h1]
  clear HB
  go_enter Tryz.func62, Tryz.ntmps62
  cases b1 : isS t ⟨#[40]⟩ with
  | true =>
   rw [b1] at HE
   go_wp2_with (go_at_call 61; refine (HI.out _).mono ?_; rintro e w' ⟨rfl, rfl⟩)
   go_ret
   rw [HE.out]; exact ⟨rfl, rfl⟩
  | false =>
   rw [b1] at HE
   go_wp2_with (go_at_call 61; refine (HI.out _).mono ?_; rintro e w' ⟨rfl, rfl⟩)
   go_ret
   rw [HE.out]; exact ⟨by first | rfl | (simp; done) | (simp; omega) | (simp; rfl) | (simp; intro hh; omega), rfl⟩
def codeP : Option Int -> Int
 | .none => 0
 | .some c => c
theorem first_tq {g cap : Nat} {ts : List Tok} {k : Nat} {w : World} {t : Tok} (h : TQ g cap ts w) (ht : ts[k]? = some t) (z : Int) (hz : z = k) (d : Int) (no : Bool) :
  Calls Tryz.prog 64 #[.slice (some ⟨g, 0, none⟩) ts.length cap, .int .i64 z, .int .i64 d, .bool no] w fun e w' => e = .returned (.int .i64 (codeP (firstP t d no))) /\ w = w' := by
 have H0 := Lib.hid (rbegins_tq h ht z hz)
 have H1 := Lib.hid (sign_tq h ht z hz ⟨#[33]⟩)
 have HB : Hid (codeP (firstP t d no) = if !beginsT t && !(no && isS t ⟨#[33]⟩) then 5 else if 30 < d then 2 else 0) := by
  show _ = _
  unfold firstP
  split
  ·rfl
  ·split <;> rfl
 clear h ht hz
 generalize codeP (firstP t d no) = r at HB ⊢
 generalize beginsT t = b0 at H0 HB
 generalize isS t ⟨#[33]⟩ = b1 at H1 HB
 by_cases hd : 30 < d
 ·cases b0 <;> cases no <;> cases b1
  all_goals
   go_enter Tryz.func64, Tryz.ntmps64
   go_wp2_with (first | (go_at_call 62; refine H0.out.mono ?_; rintro e w' ⟨rfl, rfl⟩) | (go_at_call 61; refine H1.out.mono ?_; rintro e w' ⟨rfl, rfl⟩))
   go_ret
   rw [HB.out]
   simp [hd]
 ·cases b0 <;> cases no <;> cases b1
  all_goals
   go_enter Tryz.func64, Tryz.ntmps64
   go_wp2_with (first | (go_at_call 62; refine H0.out.mono ?_; rintro e w' ⟨rfl, rfl⟩) | (go_at_call 61; refine H1.out.mono ?_; rintro e w' ⟨rfl, rfl⟩))
   go_ret
   rw [HB.out]
   simp [hd]
def lvlOf (t : Tok) : Int × Int := match opRows.findIdx? fun r => isS t r.1 with
 | .none => (0, 0)
 | .some i => (((opRows[i]?.map (·.2.2)).getD 0 : Nat), 7 + i)
theorem signs_differ : ∀ (i j : Fin 13), i ≠ j -> ((opRows[i.1]'(by simp [opRows])).1.data.toList == (opRows[j.1]'(by simp [opRows])).1.data.toList) = false := by decide
theorem rows_op : ∀ (i : Fin 13), (opRows[i.1]'(by simp [opRows])).2.1 = 7 + (i.1 : Int) := by decide
theorem only_sign {t : Tok} {i j : Nat} (hi : i < opRows.length) (hj : j < opRows.length) (h1 : isS t opRows[i].1 = true) (h2 : isS t opRows[j].1 = true) : i = j := by
 refine Classical.byContradiction fun hn => ?_
 have h3 := isS_s h1
 have h4 := isS_s h2
 have h5 := signs_differ ⟨i, by simpa [opRows] using hi⟩ ⟨j, by simpa [opRows] using hj⟩ (fun h => hn (by simpa using h))
 simp only at h5
 rw [<- h3, <- h4] at h5
 simp at h5
theorem opAt_lvl (t : Tok) (n : Nat) (hn : 1 <= n) : opAt n t = if (lvlOf t).1 = n then some (lvlOf t).2 else none := by
 cases ho : opAt n t with
 | none =>
  have hnone : ∀ r ∈ opRows, ¬ (r.2.2 == n && isS t r.1) = true := by
   unfold opAt at ho
   rw [Option.map_eq_none_iff, List.find?_eq_none] at ho
   exact ho
  unfold lvlOf
  cases hf : opRows.findIdx? (fun r => isS t r.1) with
  | none => rw [if_neg (by simp; omega)]
  | some i =>
   rw [List.findIdx?_eq_some_iff_getElem] at hf
   obtain ⟨hi, h1, -⟩ := hf
   have h2 := hnone _ (List.getElem_mem hi)
   simp only [List.getElem?_eq_getElem hi, Option.map_some, Option.getD_some]
   rw [if_neg]
   intro he
   refine h2 ?_
   simp only [Bool.and_eq_true, beq_iff_eq]
   exact ⟨by omega, h1⟩
 | some op =>
  obtain ⟨i, hid, r, hr, hop⟩ := opAt_some ho
  obtain ⟨hi, hie⟩ := List.getElem?_eq_some_iff.1 hr
  unfold opIdx at hid
  rw [List.findIdx?_eq_some_iff_getElem] at hid
  obtain ⟨hi2, h1, -⟩ := hid
  simp only [Bool.and_eq_true, beq_iff_eq] at h1
  have hf : opRows.findIdx? (fun r => isS t r.1) = some i := by
   rw [List.findIdx?_eq_some_iff_getElem]
   refine ⟨hi, h1.2, fun j hj => ?_⟩
   intro h3
   have := only_sign hi (Nat.lt_trans hj hi) h1.2 h3
   omega
  unfold lvlOf
  rw [hf]
  simp only [hr, Option.map_some, Option.getD_some]
  rw [if_pos (by rw [<- hie]; exact_mod_cast h1.1)]
  have h5 := rows_op ⟨i, by simpa [opRows] using hi⟩
  simp only at h5
  rw [hie, hop] at h5
  rw [h5]
def signCells : Array Value := (opRows.map fun r => Value.string r.1).toArray
def lvlCells : Array Value := (opRows.map fun r => Value.int .i64 (r.2.2 : Nat)).toArray
theorem signCells_at {i : Nat} {r : ByteArray × Int × Nat} (h : opRows[i]? = some r) : signCells[i]? = some (.string r.1) := by
 simp [signCells, h]
theorem lvlCells_at {i : Nat} {r : ByteArray × Int × Nat} (h : opRows[i]? = some r) : lvlCells[i]? = some (.int .i64 ((r.2.2 : Nat))) := by
 simp [lvlCells, h]
theorem lvl_size : (Tryz.prog.info? 152).map (·.size) = some 2 := by kernel_rfl
theorem results_lv {fn : Func} {i : Nat} (hf : fn.results = #[ResultVar.cell i 152]) (tmps : Array Value) (w : World) (N : Nat) (a b : Value) (hp : tmps.getD i undef = .pointer (some ⟨N, 0, none⟩)) (hg : w.heap[N]? = some (.cells #[a, b] 152 (0, 0))) :
  (results fn tmps).run Tryz.prog w = .ok (.agg #[a, b]) w := by
 have hp' : tmps[i]?.getD undef = .pointer (some ⟨N, 0, none⟩) := by simpa using hp
 simp [results, hf, hp', asAddr, run_loadVar_row w N 152 152 #[a, b] (0, 0) _ hg Tryz.underlying152 rfl lvl_size]
theorem level_tq {g cap : Nat} {ts : List Tok} {k : Nat} {w : World} {t : Tok} (h : TQ g cap ts w) (ht : ts[k]? = some t) (z : Int) (hz : z = k) :
  Calls Tryz.prog 98 #[.slice (some ⟨g, 0, none⟩) ts.length cap, .int .i64 z] w fun e w' => e = .returned (.agg #[(.int .i64 ((lvlOf t).1)), (.int .i64 ((lvlOf t).2))]) /\ Turned (fun _ => False) w w' := by
 have S0 := SQ.start h
 go_enter Tryz.func98, Tryz.ntmps98
 go_wp2_with fail
 obtain ⟨W1, rb, hW1, hb1, S1⟩ := SQ.box S0 (.cells #[.int .i64 0, .int .i64 0] 152)
 obtain ⟨W2, ab, hW2, hb2, S2⟩ := SQ.box S1 (.cells #[Value.string { data := #[42] }, Value.string { data := #[47] }, Value.string { data := #[37] }, Value.string { data := #[43] }, Value.string { data := #[45] }, Value.string { data := #[61, 61] }, Value.string { data := #[33, 61] }, Value.string { data := #[60] }, Value.string { data := #[60, 61] }, Value.string { data := #[62] }, Value.string { data := #[62, 61] }, Value.string { data := #[38, 38] }, Value.string { data := #[124, 124] }] 9)
 obtain ⟨W3, lb, hW3, hb3, S3⟩ := SQ.box S2 (.cells #[.int .i64 6, .int .i64 6, .int .i64 6, .int .i64 5, .int .i64 5, .int .i64 4, .int .i64 4, .int .i64 4, .int .i64 4, .int .i64 4, .int .i64 4, .int .i64 2, .int .i64 1] 3)
 have e2 : ab = w.heap.size + 1 := by rw [hb2, hW1]; simp
 have e3 : lb = w.heap.size + 1 + 1 := by rw [hb3, hW2]; simp; omega
 rw [<- hW1, <- hW2, <- hW3, <- e3, <- e2, <- hb1]
 clear hW1 hW2 hW3 hb1 hb2 hb3 e2 e3 S0 S1 S2
 have hA : Hid (W3.heap[ab]? = some (.cells signCells 9 (0, 0))) := Lib.hid (SQ.boxAt S3 1 rfl).1
 have hL : Hid (W3.heap[lb]? = some (.cells lvlCells 3 (0, 0))) := Lib.hid (SQ.boxAt S3 0 rfl).1
 have HI := Lib.hid (sign_tq S3.out.tq ht z hz)
 have hz0 : 0 <= z := by omega
 clear hz
 go_loopw [7] (fun u wr => ∃ i : Nat, i <= 13 /\ u = (.int .i64 i) /\ W3 = wr /\ Hid (∀ j r, j < i -> opRows[j]? = some r -> isS t r.1 = false)) (fun u _ => 13 - (intOf u).toNat)
 case atStart => exact ⟨0, by omega, rfl, rfl, Lib.hid fun j r hj => by omega⟩
 case round =>
  obtain ⟨i, hi, rfl, rfl, HN⟩ := hrel
  by_cases hlt : i < 13
  ·obtain ⟨r, hr⟩ := some_of_lt (show i < opRows.length by simpa [opRows] using hlt)
   obtain ⟨rs, ro, rl⟩ := r
   have c1 : W3.cell? ⟨ab, i, none⟩ = some (.string rs) := by
    have := signCells_at hr
    simp only [World.cell?, hA.out]; exact this
   have c2 : W3.cell? ⟨lb, i, none⟩ = some (.int .i64 ((rl : Nat))) := by
    have := lvlCells_at hr
    simp only [World.cell?, hL.out]; exact this
   have hi2 : (i : Int) < 13 := by omega
   have HS := Lib.hid (HI.out rs)
   by_cases hs : isS t rs = true
   ·have HE : Hid (lvlOf t = (((rl : Nat) : Int), 7 + (i : Int))) := by
     show _ = _
     have hf : opRows.findIdx? (fun r => isS t r.1) = some i := by
      rw [List.findIdx?_eq_some_iff_getElem]
      obtain ⟨h1, h2⟩ := List.getElem?_eq_some_iff.1 hr
      refine ⟨h1, by rw [h2]; exact hs, fun j hj => ?_⟩
      have h3 := HN.out j opRows[j] hj (List.getElem?_eq_getElem (by omega))
      rw [h3]; decide
     unfold lvlOf
     rw [hf]
     simp only [hr, Option.map_some, Option.getD_some]
    have hz2 := (SQ.boxAt S3 2 rfl).1
    obtain ⟨q0, q1, q2, q3⟩ := two_cells hz2
    have hw7 : IntKind.i64.wrap (7 + (i : Int)) = 7 + (i : Int) := IntWalk.i64_in _ (by omega)
    clear hr
    go_wp2_with (go_at_call 61; refine HS.out.mono ?_; rintro e w' ⟨rfl, rfl⟩)
    have S4 := SQ.put S3 2 rfl ((((Turned.refl (fun c => c = rb) W3).setCell (p := ⟨rb, 0, none⟩) rfl (.int .i64 ((rl : Nat)))).setCell (p := ⟨rb, 1, none⟩) rfl (.int .i64 (7 + (i : Int))))) (two_set hz2)
    refine bodyPost_ret (results_lv rfl _ _ rb (.int .i64 ((rl : Nat))) (.int .i64 (7 + (i : Int))) rfl (two_set hz2)) rfl ?_
    rw [HE.out]
    exact ⟨rfl, S4.out.tur⟩
   ·have hs : isS t rs = false := by simpa using hs
    have HN2 : Hid (∀ j r, j < i + 1 -> opRows[j]? = some r -> isS t r.1 = false) := Lib.hid fun j r hj hjr => by
     rcases Nat.lt_or_ge j i with h1 | h1
     ·exact HN.out j r h1 hjr
     ·obtain rfl : j = i := by omega
      rw [hr] at hjr; cases hjr; exact hs
    clear hr
    go_wp2_with (go_at_call 61; refine HS.out.mono ?_; rintro e w' ⟨rfl, rfl⟩)
    go_roundw
    case rel => exact ⟨i + 1, by omega, by go_num, trivial, HN2⟩
    case measure => simp [intOf]; omega
  ·obtain rfl : i = 13 := by omega
   have HE : Hid (lvlOf t = (0, 0)) := by
    show _ = _
    have hf : opRows.findIdx? (fun r => isS t r.1) = none := by
     rw [List.findIdx?_eq_none_iff]
     intro x hx
     obtain ⟨j, hj, rfl⟩ := List.mem_iff_getElem.1 hx
     exact HN.out j opRows[j] (by simpa [opRows] using hj) (List.getElem?_eq_getElem hj)
    unfold lvlOf
    rw [hf]
   have hz2 := (SQ.boxAt S3 2 rfl).1
   obtain ⟨q0, q1, q2, q3⟩ := two_cells hz2
   go_wp2_with fail
   have S4 := SQ.put S3 2 rfl ((((Turned.refl (fun c => c = rb) W3).setCell (p := ⟨rb, 0, none⟩) rfl (.int .i64 0)).setCell (p := ⟨rb, 1, none⟩) rfl (.int .i64 0))) (two_set hz2)
   refine bodyPost_ret (results_lv rfl _ _ rb (.int .i64 0) (.int .i64 0) rfl (two_set hz2)) rfl ?_
   rw [HE.out]
   exact ⟨rfl, S4.out.tur⟩
def GX (w : World) (r : PR Ex) (e : Ending) (w' : World) : Prop :=
 Turned (fun _ => False) w w' /\ match r with
 | .ok x j => ∃ p c, e = .returned (.agg #[.int .i64 x.op, .int .i64 x.n, .string x.s, .slice p x.kids.length c, .int .i64 x.at_, (.int .i64 ((j : Nat))), .int .i64 0]) /\ KidsAt w' (fun b => w.heap.size <= b) x.kids (.slice p x.kids.length c)
 | .err j c => e = .returned (.agg #[.int .i64 0, .int .i64 0, .string ⟨#[]⟩, .slice none 0 0, .int .i64 0, (.int .i64 ((j : Nat))), .int .i64 c])
structure HypG (g cap : Nat) (ts : List Tok) (f : Nat) : Prop where
 expr : ∀ (m k : Nat) (z d : Int) (r : PR Ex) (w : World), m < f -> z = k -> 0 <= d -> d <= 31 -> runF ts m .expr k d = some r -> TQ g cap ts w -> Calls Tryz.prog 34 #[.slice (some ⟨g, 0, none⟩) ts.length cap, .int .i64 z, .int .i64 d] w (GX w r)
 binary : ∀ (m n k : Nat) (z y d : Int) (r : PR Ex) (w : World), m < f -> z = k -> y = n -> 1 <= n -> n <= 7 -> 0 <= d -> d <= 30 -> runF ts m (.level n) k d = some r -> TQ g cap ts w -> Calls Tryz.prog 65 #[.slice (some ⟨g, 0, none⟩) ts.length cap, .int .i64 z, .int .i64 y, .int .i64 d] w (GX w r)
 bang : ∀ (m k : Nat) (z d : Int) (r : PR Ex) (w : World), m < f -> z = k -> 0 <= d -> d <= 30 -> runF ts m (.level 3) k d = some r -> TQ g cap ts w -> Calls Tryz.prog 97 #[.slice (some ⟨g, 0, none⟩) ts.length cap, .int .i64 z, .int .i64 d] w (GX w r)
 minus : ∀ (m k : Nat) (z d : Int) (r : PR Ex) (w : World), m < f -> z = k -> 0 <= d -> d <= 30 -> runF ts m .neg k d = some r -> TQ g cap ts w -> Calls Tryz.prog 96 #[.slice (some ⟨g, 0, none⟩) ts.length cap, .int .i64 z, .int .i64 d] w (GX w r)
 atom : ∀ (m k : Nat) (z d : Int) (r : PR Ex) (w : World), m < f -> z = k -> 0 <= d -> d <= 30 -> runF ts m .atom k d = some r -> TQ g cap ts w -> Calls Tryz.prog 117 #[.slice (some ⟨g, 0, none⟩) ts.length cap, .int .i64 z, .int .i64 d] w (GX w r)
theorem seven_cells {V : World} {N t : Nat} {a b c d e f g : Value} (h : V.heap[N]? = some (.cells #[a, b, c, d, e, f, g] t (0, 0))) : V.cell? ⟨N, 0, none⟩ = some a /\ V.cell? ⟨N, 1, none⟩ = some b /\ V.cell? ⟨N, 2, none⟩ = some c /\ V.cell? ⟨N, 3, none⟩ = some d /\ V.cell? ⟨N, 4, none⟩ = some e /\ V.cell? ⟨N, 5, none⟩ = some f /\ V.cell? ⟨N, 6, none⟩ = some g := by
 simp [World.cell?, h]
def set7 (V : World) (N : Nat) (a b c d e f g : Value) : World := (((((((V.setCell ⟨N, 0, none⟩ a).setCell ⟨N, 1, none⟩ b).setCell ⟨N, 2, none⟩ c).setCell ⟨N, 3, none⟩ d).setCell ⟨N, 4, none⟩ e).setCell ⟨N, 5, none⟩ f).setCell ⟨N, 6, none⟩ g)
theorem seven_set {V : World} {N t : Nat} {a b c d e f g a' b' c' d' e' f' g' : Value} (h : V.heap[N]? = some (.cells #[a, b, c, d, e, f, g] t (0, 0))) : (set7 V N a' b' c' d' e' f' g').heap[N]? = some (.cells #[a', b', c', d', e', f', g'] t (0, 0)) := by
 simp [set7, World.setCell, Array.getElem?_modify, h]
theorem seven_turned (V : World) (N : Nat) (a b c d e f g : Value) : Turned (fun c => c = N) V (set7 V N a b c d e f g) :=
 (((((((Turned.refl (fun c => c = N) V).setCell (p := ⟨N, 0, none⟩) rfl a).setCell (p := ⟨N, 1, none⟩) rfl b).setCell (p := ⟨N, 2, none⟩) rfl c).setCell (p := ⟨N, 3, none⟩) rfl d).setCell (p := ⟨N, 4, none⟩) rfl e).setCell (p := ⟨N, 5, none⟩) rfl f).setCell (p := ⟨N, 6, none⟩) rfl g
theorem got_size : (Tryz.prog.info? 82).map (·.size) = some 7 := by kernel_rfl
theorem results_got {fn : Func} {i : Nat} (hf : fn.results = #[ResultVar.cell i 82]) (tmps : Array Value) (w : World) (N : Nat) (a b c d e f g : Value) (hp : tmps.getD i undef = .pointer (some ⟨N, 0, none⟩)) (hg : w.heap[N]? = some (.cells #[a, b, c, d, e, f, g] 82 (0, 0))) :
  (results fn tmps).run Tryz.prog w = .ok (.agg #[a, b, c, d, e, f, g]) w := by
 have hp' : tmps[i]?.getD undef = .pointer (some ⟨N, 0, none⟩) := by simpa using hp
 simp [results, hf, hp', asAddr, run_loadVar_row w N 82 82 #[a, b, c, d, e, f, g] (0, 0) _ hg Tryz.underlying82 rfl got_size]
theorem codeP_ne {t : Tok} {d c : Int} {no : Bool} (h : firstP t d no = some c) : (c != 0) = true := by
 have := firstP_ne h
 simp; omega
end Go.Proofs.YtjijdgkccfeeaaaGreatDoor
