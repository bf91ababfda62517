/- Part 11 of the proof of lawSum.card: QryWalkJ. Conditions: those of each theorem. -/
import Derived.Maps.OwnSet
import Derived.StringKeys
import Derived.Test.YthejfklieedjmaaGreatDoorQs01
import Derived.Test.YthejfklieedjmaaGreatDoorQs10
set_option linter.unusedSimpArgs false
set_option maxRecDepth 20000
set_option maxHeartbeats 16000000
namespace Go.Proofs.YthejfklieedjmaaGreatDoor
open Go Go.Proofs Go.RowKit Go.Maps
attribute [local go_sem] Oper.semAt_some
def heldElem (v : Value) : Option (DataW Value × List MemPlace) := some (.held v, [])
def keyC (k : Nat) : List UInt8 := callNames.getD k []
def FnB (B : Nat) (W : World) (k : Nat) (f : Value) : Prop :=
 (k = 0 /\ f = .func (.func 101) #[] #[]) \/ (k = 1 /\ f = .func (.func 104) #[] #[]) \/ (k = 7 /\ f = .func (.func 107) #[] #[]) \/ (k = 8 /\ f = .func (.func 108) #[] #[]) \/
  ∃ kb, kb ≠ B /\ ((2 <= k /\ k <= 4 /\ f = .func (.func 140) #[] #[.pointer (some ⟨kb, 0, none⟩)] /\ W.heap[kb]? = some (.cells #[(.int .i64 ((k : Int) - 1))] 3 (0, 0))) \/ (5 <= k /\ k <= 6 /\ f = .func (.func 141) #[] #[.pointer (some ⟨kb, 0, none⟩)] /\ W.heap[kb]? = some (.cells #[(.int .i64 ((k : Int) - 3))] 3 (0, 0))))
def EntB (B : Nat) (W : World) (k : Nat) (v : Value) : Prop := ∃ b cs c as_ ty f, sigN k = some (as_, ty) /\ v = .agg #[.slice (some ⟨b, 0, none⟩) as_.length c, .int .i64 ty, f] /\ W.heap[b]? = some (.cells cs 3 (0, 0)) /\ cs.toList.take as_.length = as_.map (fun n : Int => ((.int .i64 n) : Value)) /\ as_.length <= c /\ c <= maxLen /\ b ≠ B /\ FnB B W k f
theorem blk {C : Nat -> Prop} {W V : World} (t : Turned C W V) {b : Nat} {o : Obj} (h : W.heap[b]? = some o) (hC : ¬ C b) : V.heap[b]? = some o := (t.block b (getElem?_lt h) hC).trans h
theorem FnB.on {B k : Nat} {W V : World} {f : Value} (h : FnB B W k f) (t : Turned (fun i => i = B) W V) : FnB B V k f := by
 rcases h with h | h | h | h | ⟨kb, hne, h⟩
 ·exact .inl h
 ·exact .inr (.inl h)
 ·exact .inr (.inr (.inl h))
 ·exact .inr (.inr (.inr (.inl h)))
 ·refine .inr (.inr (.inr (.inr ⟨kb, hne, ?_⟩)))
  rcases h with ⟨h1, h2, h3, h4⟩ | ⟨h1, h2, h3, h4⟩
  ·exact .inl ⟨h1, h2, h3, blk t h4 hne⟩
  ·exact .inr ⟨h1, h2, h3, blk t h4 hne⟩
theorem EntB.on {B k : Nat} {W V : World} {v : Value} (h : EntB B W k v) (t : Turned (fun i => i = B) W V) : EntB B V k v := by
 obtain ⟨b, cs, c, as_, ty, f, h1, h2, h3, h4, h5, h6, h7, h8⟩ := h
 exact ⟨b, cs, c, as_, ty, f, h1, h2, blk t h3 h7, h4, h5, h6, h7, h8.on t⟩
def dataOf (vs : List Value) : DataW Value := (callNames.zip vs).foldl (fun D p => D.put (.string p.1) (.held p.2)) (.map [])
theorem zip_snoc {α β : Type} (d : α) : ∀ (l : List α) (m : List β) (b : β), m.length < l.length -> l.zip (m ++ [b]) = l.zip m ++ [(l.getD m.length d, b)]
 | [], m, b, h => by simp at h
 | x :: l, [], b, _ => by simp
 | x :: l, y :: m, b, h => by
  rw [List.cons_append, List.zip_cons_cons, List.zip_cons_cons, zip_snoc d l m b (by simpa using h)]
  simp
theorem dataOf_snoc (vs : List Value) (v : Value) (h : vs.length < 9) : dataOf (vs ++ [v]) = (dataOf vs).put (.string (keyC vs.length)) (.held v) := by
 unfold dataOf keyC
 rw [zip_snoc [] callNames vs v h, List.foldl_append]
 rfl
structure CM (W w : World) (B : Nat) (vs : List Value) : Prop where
 own : w.ownsMap Tryz.prog 9 heldElem B vs.length (dataOf vs)
 ent : ∀ k v, vs[k]? = some v -> EntB B w k v
 tur : Turned (fun _ => False) W w
 new : W.heap.size <= B
theorem own_on {C : Nat -> Prop} {W V : World} {B n : Nat} {D : DataW Value} (h : W.ownsMap Tryz.prog 9 heldElem B n D) (t : Turned C W V) (hC : ¬ C B) : V.ownsMap Tryz.prog 9 heldElem B n D := by
 obtain ⟨es, clock, h1, h2⟩ := h
 exact ⟨es, clock, blk t h1 hC, h2⟩
theorem CM.step {W w V : World} {B : Nat} {vs : List Value} {C : Nat -> Prop} (h : CM W w B vs) (t : Turned C w V) (hC : ∀ i, C i -> W.heap.size <= i /\ i ≠ B /\ w.heap.size <= i) : CM W V B vs := by
 have tf : Turned (fun i => i = B) w V := by
  refine ⟨t.os, t.tape, t.output, t.size, fun b hb hc => t.block b hb fun hd => ?_⟩
  have := (hC b hd).2.2
  omega
 exact ⟨own_on h.own t fun hd => (hC B hd).2.1 rfl, fun k v hv => (h.ent k v hv).on tf, h.tur.fresh t fun i hi => (hC i hi).1, h.new⟩
theorem CM.put {W w V : World} {B : Nat} {vs : List Value} {v : Value} (h : CM W w B vs) (hl : vs.length < 9) (e : EntB B w vs.length v) (hown : V.ownsMap Tryz.prog 9 heldElem B (vs.length + 1) ((dataOf vs).put (.string (keyC vs.length)) (.held v))) (hg : w.grownBy V (some B)) : CM W V B (vs ++ [v]) := by
 have t : Turned (fun i => i = B) w V := Turned.of_grown hg fun k hk => by cases hk; rfl
 refine ⟨by rw [List.length_append, List.length_singleton, dataOf_snoc vs v hl]; exact hown, fun k u hu => ?_, h.tur.fresh t fun i hi => by rw [hi]; exact h.new, h.new⟩
 rcases Nat.lt_or_ge k vs.length with hk | hk
 ·rw [List.getElem?_append_left hk] at hu
  exact (h.ent k u hu).on t
 ·rw [List.getElem?_append_right hk] at hu
  have hk2 := (List.getElem?_eq_some_iff.1 hu).1
  simp at hk2
  obtain rfl : k = vs.length := by omega
  rw [Nat.sub_self] at hu
  cases hu
  exact e.on t
theorem put_call (W w : World) {ops : Array Oper} {rest : List Oper} {o : Oper} {a : Act} {Q : Exit -> Act -> World -> Prop} (hg : o.guard = none) (m x v : Operand) (hop : o.op = Op.insert 135 m x v) (B : Nat) (vs : List Value) (val : Value) (hm : a.eval m = .map (some B)) (h : CM W w B vs) (hl : vs.length < 9)
  (hx : a.eval x = .string ⟨(keyC vs.length).toArray⟩) (hv : a.eval v = val) (e : EntB B w vs.length val) (hK : ∀ w', CM W w' B (vs ++ [val]) -> wpList Tryz.prog ops Q rest (a.put o.dst undef) w') : wpList Tryz.prog ops Q (o :: rest) a w := by
 have hsz : (⟨(keyC vs.length).toArray⟩ : ByteArray).size <= maxLen := by
  generalize vs.length = n at hl
  match n, hl with
  | 0, _ => decide
  | 1, _ => decide
  | 2, _ => decide
  | 3, _ => decide
  | 4, _ => decide
  | 5, _ => decide
  | 6, _ => decide
  | 7, _ => decide
  | 8, _ => decide
 refine wpList_plain hg fun K' hK' => ?_
 obtain ⟨w', hrun, r1, r2⟩ := h.own.update (string_keyed Tryz.underlying9) Tryz.underlying135 (by unfold maxLen; omega) (WideMaps.keyOf_string_mk Tryz.underlying9 hsz) (show heldElem val = some (.held val, []) from rfl)
 unfold Oper.wp
 simp [execOp, hop, hm, hx, hv, hrun, Result.andThen]
 exact hK' _ _ (hK w' (h.put hl e r1 r2))
theorem CM.made (W : World) : CM W (W.alloc (.map #[] 0)) W.heap.size [] :=
 ⟨World.ownsMap_made W Tryz.prog 9 heldElem, fun k v h => by simp at h, (Turned.refl _ W).alloc _, Nat.le_refl _⟩
theorem CM.box {W w : World} {B : Nat} {vs : List Value} (h : CM W w B vs) (o : Obj) : CM W (w.alloc o) B vs := h.step ((Turned.refl (fun _ => False) w).alloc o) fun _ h => h.elim
theorem CM.ltB {W w : World} {B : Nat} {vs : List Value} (h : CM W w B vs) : B < w.heap.size := h.own.lt
theorem ent_new {W w : World} {B k : Nat} {vs : List Value} {as_ : List Int} {ty : Int} {f : Value} (h : CM W w B vs) (hs : sigN k = some (as_, ty)) (hf : (k = 0 /\ f = .func (.func 101) #[] #[]) \/ (k = 1 /\ f = .func (.func 104) #[] #[]) \/ (k = 7 /\ f = .func (.func 107) #[] #[]) \/ (k = 8 /\ f = .func (.func 108) #[] #[])) (hl : as_.length <= maxLen) (n : Nat) (hn : w.heap.size = n) :
  EntB B (w.alloc (.cells (as_.map fun n : Int => ((.int .i64 n) : Value)).toArray 3)) k (.agg #[.slice (some ⟨n, 0, none⟩) as_.length as_.length, .int .i64 ty, f]) := by
 have hB := h.ltB
 subst hn
 refine ⟨_, _, _, as_, ty, f, hs, rfl, World.alloc_heap_new _ _, by simp [List.take_of_length_le], Nat.le_refl _, hl, by omega, ?_⟩
 rcases hf with h | h | h | h
 ·exact .inl h
 ·exact .inr (.inl h)
 ·exact .inr (.inr (.inl h))
 ·exact .inr (.inr (.inr (.inl h)))
theorem ent_part {w V : World} {B k b kb c g : Nat} {cs : Array Value} {l : List Int} (hB : B < w.heap.size) (hgB : g ≠ B) (hk : 2 <= k /\ k <= 4) (hs : sigN k = some (l ++ [2, 2], 3)) (hb : V.heap[b]? = some (.cells cs 3 (0, 0)) /\ cs.toList.take (l.length + 2) = (l ++ [2, 2]).map (fun n : Int => ((.int .i64 n) : Value)) /\ l.length + 2 <= c /\ c <= maxLen /\ (b = g \/ w.heap.size <= b))
  (hkb : V.heap[kb]? = some (.cells #[(.int .i64 ((k : Int) - 1))] 3 (0, 0)) /\ w.heap.size <= kb) : EntB B V k (.agg #[.slice (some ⟨b, 0, none⟩) (l.length + 2) c, .int .i64 3, .func (.func 140) #[] #[.pointer (some ⟨kb, 0, none⟩)]]) := by
 have e : (l ++ [2, 2]).length = l.length + 2 := by simp
 refine ⟨b, cs, c, _, 3, _, hs, by rw [e], hb.1, by rw [e]; exact hb.2.1, by rw [e]; exact hb.2.2.1, hb.2.2.2.1, by omega, .inr (.inr (.inr (.inr ⟨kb, by omega, .inl ⟨hk.1, hk.2, rfl, hkb.1⟩⟩)))⟩
theorem ent_ext {w V : World} {B k g kb : Nat} (hB : B < w.heap.size) (hk : 5 <= k /\ k <= 6) (hs : sigN k = some ([1, 2, 2], 4)) (h : V.heap[g]? = some (.cells #[.int .i64 1, .int .i64 2, .int .i64 2] 3 (0, 0)) /\ V.heap[kb]? = some (.cells #[(.int .i64 ((k : Int) - 3))] 3 (0, 0)) /\ w.heap.size <= g /\ w.heap.size <= kb) :
  EntB B V k (.agg #[.slice (some ⟨g, 0, none⟩) 3 3, .int .i64 4, .func (.func 141) #[] #[.pointer (some ⟨kb, 0, none⟩)]]) :=
 ⟨g, _, 3, _, 4, _, hs, rfl, h.1, rfl, Nat.le_refl _, by decide, by omega, .inr (.inr (.inr (.inr ⟨kb, by omega, .inr ⟨hk.1, hk.2, rfl, h.2.1⟩⟩)))⟩
theorem calls_map (W : World) : Calls Tryz.prog 67 #[] W fun e w' => ∃ B vs, e = .returned (.map (some B)) /\ vs.length = 9 /\ CM W w' B vs := by
 have HM0 := Lib.hid (CM.made W)
 have hmm : (Instr.makeMap 135 none).run Tryz.prog W = .ok (.map (some W.heap.size)) (W.alloc (.map #[] 0)) := by kernel_rfl
 have HX := Lib.hid extreme_any
 have HP := Lib.hid part_any
 go_enter Tryz.func67, Tryz.ntmps67
 go_wp2_with (first
  | (refine put_call W _ rfl _ _ _ rfl W.heap.size _ _ rfl (HM0.out.box _) (by simp) rfl rfl (ent_new HM0.out (k := 0) (as_ := [1, 1, 1]) (ty := 2) rfl (.inl ⟨rfl, rfl⟩) (by decide) (W.heap.size + 1) (by simp)) ?_; intro w1 h1; have HM1 := Lib.hid h1; clear h1 HM0)
  | (refine put_call W _ rfl _ _ _ rfl W.heap.size _ _ rfl (HM1.out.box _) (by simp) rfl rfl (ent_new HM1.out (k := 1) (as_ := [1]) (ty := 2) rfl (.inr (.inl ⟨rfl, rfl⟩)) (by decide) w1.heap.size rfl) ?_; intro w2 h1; have HM2 := Lib.hid h1; clear h1 HM1)
  | (go_at_call 105; refine (HP.out 1 [1] w2.heap.size (w2.alloc (.cells #[.int .i64 1] 3)) (World.alloc_heap_new _ _) (by decide)).mono ?_; rintro e u2 ⟨⟨b, cs, c, kb, rfl, hb, hkb⟩, tu⟩; have HU2 : Hid (EntB W.heap.size u2 2 (.agg #[.slice (some ⟨b, 0, none⟩) 3 c, .int .i64 3, .func (.func 140) #[] #[.pointer (some ⟨kb, 0, none⟩)]])) := Lib.hid (ent_part (w := w2) (g := w2.heap.size) (l := [1]) HM2.out.ltB (by have := HM2.out.ltB; omega) ⟨by decide, by decide⟩ rfl ⟨hb.1, hb.2.1, hb.2.2.1, hb.2.2.2.1, by have h := hb.2.2.2.2; simp at h; omega⟩ ⟨hkb.1, by have h := hkb.2; simp at h; omega⟩); have HN2 := Lib.hid (HM2.out.step (((Turned.refl (fun i => i = w2.heap.size) w2).alloc _).trans tu) (by intro i hi; subst hi; have := HM2.out.tur.size; have := HM2.out.ltB; omega)); clear hb hkb tu)
  | (refine put_call W _ rfl _ _ _ rfl W.heap.size _ _ rfl HN2.out (by simp) rfl rfl HU2.out ?_; intro w3 h1; have HM3 := Lib.hid h1; clear h1 HM2 HN2 HU2)
  | (go_at_call 105; refine (HP.out 2 [1, 1] w3.heap.size (w3.alloc (.cells #[.int .i64 1, .int .i64 1] 3)) (World.alloc_heap_new _ _) (by decide)).mono ?_; rintro e u3 ⟨⟨b, cs, c, kb, rfl, hb, hkb⟩, tu⟩; have HU3 : Hid (EntB W.heap.size u3 3 (.agg #[.slice (some ⟨b, 0, none⟩) 4 c, .int .i64 3, .func (.func 140) #[] #[.pointer (some ⟨kb, 0, none⟩)]])) := Lib.hid (ent_part (w := w3) (g := w3.heap.size) (l := [1, 1]) HM3.out.ltB (by have := HM3.out.ltB; omega) ⟨by decide, by decide⟩ rfl ⟨hb.1, hb.2.1, hb.2.2.1, hb.2.2.2.1, by have h := hb.2.2.2.2; simp at h; omega⟩ ⟨hkb.1, by have h := hkb.2; simp at h; omega⟩); have HN3 := Lib.hid (HM3.out.step (((Turned.refl (fun i => i = w3.heap.size) w3).alloc _).trans tu) (by intro i hi; subst hi; have := HM3.out.tur.size; have := HM3.out.ltB; omega)); clear hb hkb tu)
  | (refine put_call W _ rfl _ _ _ rfl W.heap.size _ _ rfl HN3.out (by simp) rfl rfl HU3.out ?_; intro w4 h1; have HM4 := Lib.hid h1; clear h1 HM3 HN3 HU3)
  | (go_at_call 105; refine (HP.out 3 [1] w4.heap.size (w4.alloc (.cells #[.int .i64 1] 3)) (World.alloc_heap_new _ _) (by decide)).mono ?_; rintro e u4 ⟨⟨b, cs, c, kb, rfl, hb, hkb⟩, tu⟩; have HU4 : Hid (EntB W.heap.size u4 4 (.agg #[.slice (some ⟨b, 0, none⟩) 3 c, .int .i64 3, .func (.func 140) #[] #[.pointer (some ⟨kb, 0, none⟩)]])) := Lib.hid (ent_part (w := w4) (g := w4.heap.size) (l := [1]) HM4.out.ltB (by have := HM4.out.ltB; omega) ⟨by decide, by decide⟩ rfl ⟨hb.1, hb.2.1, hb.2.2.1, hb.2.2.2.1, by have h := hb.2.2.2.2; simp at h; omega⟩ ⟨hkb.1, by have h := hkb.2; simp at h; omega⟩); have HN4 := Lib.hid (HM4.out.step (((Turned.refl (fun i => i = w4.heap.size) w4).alloc _).trans tu) (by intro i hi; subst hi; have := HM4.out.tur.size; have := HM4.out.ltB; omega)); clear hb hkb tu)
  | (refine put_call W _ rfl _ _ _ rfl W.heap.size _ _ rfl HN4.out (by simp) rfl rfl HU4.out ?_; intro w5 h1; have HM5 := Lib.hid h1; clear h1 HM4 HN4 HU4)
  | (go_at_call 106; refine (HX.out 2 w5).mono ?_; rintro e u5 ⟨⟨g, kb, rfl, hg⟩, tu⟩; have HU5 : Hid (EntB W.heap.size u5 5 (.agg #[.slice (some ⟨g, 0, none⟩) 3 3, .int .i64 4, .func (.func 141) #[] #[.pointer (some ⟨kb, 0, none⟩)]])) := Lib.hid (ent_ext (w := w5) HM5.out.ltB ⟨by decide, by decide⟩ rfl hg); have HN5 := Lib.hid (HM5.out.step tu fun _ h => h.elim); clear hg tu)
  | (refine put_call W _ rfl _ _ _ rfl W.heap.size _ _ rfl HN5.out (by simp) rfl rfl HU5.out ?_; intro w6 h1; have HM6 := Lib.hid h1; clear h1 HM5 HN5 HU5)
  | (go_at_call 106; refine (HX.out 3 w6).mono ?_; rintro e u6 ⟨⟨g, kb, rfl, hg⟩, tu⟩; have HU6 : Hid (EntB W.heap.size u6 6 (.agg #[.slice (some ⟨g, 0, none⟩) 3 3, .int .i64 4, .func (.func 141) #[] #[.pointer (some ⟨kb, 0, none⟩)]])) := Lib.hid (ent_ext (w := w6) HM6.out.ltB ⟨by decide, by decide⟩ rfl hg); have HN6 := Lib.hid (HM6.out.step tu fun _ h => h.elim); clear hg tu)
  | (refine put_call W _ rfl _ _ _ rfl W.heap.size _ _ rfl HN6.out (by simp) rfl rfl HU6.out ?_; intro w7 h1; have HM7 := Lib.hid h1; clear h1 HM6 HN6 HU6)
  | (refine put_call W _ rfl _ _ _ rfl W.heap.size _ _ rfl (HM7.out.box _) (by simp) rfl rfl (ent_new HM7.out (k := 7) (as_ := [1, 1, 2, 2]) (ty := 4) rfl (.inr (.inr (.inl ⟨rfl, rfl⟩))) (by decide) w7.heap.size rfl) ?_; intro w8 h1; have HM8 := Lib.hid h1; clear h1 HM7)
  | (refine put_call W _ rfl _ _ _ rfl W.heap.size _ _ rfl (HM8.out.box _) (by simp) rfl rfl (ent_new HM8.out (k := 8) (as_ := [1, 1, 1, 1, 1, 2, 2]) (ty := 4) rfl (.inr (.inr (.inr ⟨rfl, rfl⟩))) (by decide) w8.heap.size rfl) ?_; intro w9 h1; have HM9 := Lib.hid h1; clear h1 HM8))
 go_ret
 exact ⟨_, _, rfl, by simp, HM9.out⟩
section
variable {z : DataW Value}
theorem fold_other : ∀ (l : List (List UInt8 × Value)) (D : DataW Value) (s : List UInt8), s ∉ l.map (·.1) -> (l.foldl (fun D p => D.put (.string p.1) (.held p.2)) D).atKey (.string s) z = D.atKey (.string s) z /\ Maps.has (l.foldl (fun D p => D.put (.string p.1) (.held p.2)) D) (.string s) = Maps.has D (.string s)
 | [], D, s, _ => ⟨rfl, rfl⟩
 | q :: r, D, s, h => by
  rw [List.map_cons, List.mem_cons, not_or] at h
  have hne : Lit.string s ≠ .string q.1 := fun e => h.1 (by cases e; rfl)
  obtain ⟨h1, h2⟩ := fold_other r (D.put (.string q.1) (.held q.2)) s h.2
  exact ⟨h1.trans (atKey_put_other hne _ _), h2.trans (has_put_other hne _)⟩
theorem fold_at : ∀ (l : List (List UInt8 × Value)) (D : DataW Value), IsMap D -> (l.map (·.1)).Nodup -> ∀ p ∈ l, (l.foldl (fun D p => D.put (.string p.1) (.held p.2)) D).atKey (.string p.1) z = .held p.2 /\ Maps.has (l.foldl (fun D p => D.put (.string p.1) (.held p.2)) D) (.string p.1) = true
 | [], D, _, _, p, hp => by cases hp
 | q :: r, D, hD, hn, p, hp => by
  rw [List.map_cons, List.nodup_cons] at hn
  rcases List.mem_cons.1 hp with rfl | hp
  ·obtain ⟨h1, h2⟩ := fold_other (z := z) r (D.put (.string p.1) (.held p.2)) p.1 hn.1
   exact ⟨h1.trans (atKey_put_same hD (show WideAt.IsKeyLit (.string p.1) from trivial) _ _), h2.trans (has_put_same hD (show WideAt.IsKeyLit (.string p.1) from trivial) _)⟩
  ·exact fold_at r _ (hD.put _ _) hn.2 p hp
end
abbrev zeroCall : Value := .agg #[.slice none 0 0, .int .i64 0, .nilFunc]
theorem zero_call (w : World) : (zeroValue 133).run Tryz.prog w = .ok zeroCall w := by kernel_rfl
theorem own_look {w : World} {B n : Nat} {D : DataW Value} (h : w.ownsMap Tryz.prog 9 heldElem B n D) {s : ByteArray} (hs : s.size <= maxLen) (c : Bool) :
  ∃ v, (Instr.lookup 135 (.map (some B)) (.string s) c).run Tryz.prog w = .ok (if c then .tuple #[v, .bool (Maps.has D (.string s.data.toList))] else v) w /\ .held v = D.atKey (.string s.data.toList) (.held zeroCall) := by
 obtain ⟨es, clock, hb, F, -, rfl⟩ := h
 rcases Maps.fit_look c (string_keyed Tryz.underlying9) Tryz.underlying135 (zero_call w) hb F (WideMaps.keyOf_string_mk Tryz.underlying9 hs) with ⟨hrun, -, hat⟩ | ⟨e0, y, -, -, hrun, hRv, hat, -⟩
 ·exact ⟨zeroCall, by rw [Maps.has_false_of_atKey hat]; exact hrun, (hat _).symm⟩
 ·cases hRv
  exact ⟨e0.val, by rw [Maps.has_true_of_atKey hat]; exact hrun, (hat _).symm⟩
theorem callNo_lt {s : ByteArray} (h : callNo s < 9) : s.data.toList = keyC (callNo s) := by
 have h1 := List.findIdx_getElem (xs := callNames) (p := fun n => s.data.toList == n) (w := h)
 have h2 : s.data.toList = callNames[callNo s]'h := by
  simp only [beq_iff_eq] at h1
  exact h1
 rw [h2, keyC, List.getD_eq_getElem?_getD, List.getElem?_eq_getElem h]
 rfl
theorem callNo_le (s : ByteArray) : callNo s <= 9 := List.findIdx_le_length
theorem callNo_no {s : ByteArray} (h : callNo s = 9) : s.data.toList ∉ callNames := fun hm => by
 have h1 : callNo s < callNames.length := List.findIdx_lt_length_of_exists ⟨_, hm, by simp⟩
 rw [h] at h1
 exact absurd h1 (by decide)
theorem CM.look {W w : World} {B : Nat} {vs : List Value} (h : CM W w B vs) (hl : vs.length = 9) {s : ByteArray} (hs : s.size <= maxLen) :
  (∃ v, EntB B w (callNo s) v /\ callNo s < 9 /\ (Instr.lookup 135 (.map (some B)) (.string s) true).run Tryz.prog w = .ok (.tuple #[v, .bool true]) w /\ (Instr.lookup 135 (.map (some B)) (.string s) false).run Tryz.prog w = .ok v w) \/
  (callNo s = 9 /\ (Instr.lookup 135 (.map (some B)) (.string s) true).run Tryz.prog w = .ok (.tuple #[zeroCall, .bool false]) w) := by
 have hk : (callNames.zip vs).map (·.1) = callNames := by
  rw [<- List.unzip_fst, List.unzip_zip_left]
  rw [hl]; decide
 obtain ⟨v, h1, h2⟩ := own_look h.own hs true
 obtain ⟨u, h3, h4⟩ := own_look h.own hs false
 rw [if_pos rfl] at h1
 rw [if_neg (by decide)] at h3
 rcases Nat.lt_or_ge (callNo s) 9 with hc | hc
 ·left
  obtain ⟨x, hx⟩ := some_of_lt (show callNo s < vs.length by rw [hl]; exact hc)
  have hz : (callNames.zip vs)[callNo s]? = some (s.data.toList, x) := by
   rw [callNo_lt hc, List.getElem?_zip_eq_some]
   refine ⟨?_, hx⟩
   have : callNo s < callNames.length := hc
   rw [keyC, List.getD_eq_getElem?_getD, List.getElem?_eq_getElem this]
   rfl
  obtain ⟨f1, f2⟩ := fold_at (z := .held zeroCall) (callNames.zip vs) (.map []) isMap_empty (by rw [hk]; decide) _ (List.mem_of_getElem? hz)
  have e1 : (dataOf vs).atKey (.string s.data.toList) (.held zeroCall) = .held x := f1
  have e2 : Maps.has (dataOf vs) (.string s.data.toList) = true := f2
  rw [e1] at h2 h4
  rw [e2] at h1
  cases h2
  cases h4
  exact ⟨_, h.ent _ _ hx, hc, h1, h3⟩
 ·right
  have hc9 : callNo s = 9 := by have := callNo_le s; omega
  obtain ⟨f1, f2⟩ := fold_other (z := .held zeroCall) (callNames.zip vs) (.map []) s.data.toList (by rw [hk]; exact callNo_no hc9)
  have e1 : (dataOf vs).atKey (.string s.data.toList) (.held zeroCall) = .held zeroCall := f1
  have e2 : Maps.has (dataOf vs) (.string s.data.toList) = false := f2
  rw [e1] at h2
  rw [e2] at h1
  cases h2
  exact ⟨hc9, h1⟩
end Go.Proofs.YthejfklieedjmaaGreatDoor
