/- Part 26 of the proofs about parse: ParAll, ParShiftW, ParShiftF, ParApp, LexFill. Conditions: those of each theorem. -/
import Derived.Test.YtjijdgkccfeeaaaGreatDoorNt01
import Derived.Test.YtjijdgkccfeeaaaGreatDoorNt12
import Derived.Test.YtjijdgkccfeeaaaGreatDoorNt21
import Derived.Test.YtjijdgkccfeeaaaGreatDoorNt23
namespace Go.Proofs.YtjijdgkccfeeaaaGreatDoor
open Go Go.Proofs
inductive AllAt (P : Int → Prop) : Ex → Prop
  | mk (p n : Int) (s : ByteArray) (ks : List Ex) (a : Int) (hp : p ≠ 0) (hl : ks.length ≤ 40) (ha : P a) (hk : ∀ k ∈ ks, AllAt P k) : AllAt P (.mk p n s ks a)
theorem AllAt.at_ {P : Int → Prop} {x : Ex} (h : AllAt P x) : P x.at_ := by cases h; assumption
theorem AllAt.op {P : Int → Prop} {x : Ex} (h : AllAt P x) : x.op ≠ 0 := by cases h; assumption
theorem AllAt.len {P : Int → Prop} {x : Ex} (h : AllAt P x) : x.kids.length ≤ 40 := by cases h; assumption
theorem AllAt.kids {P : Int → Prop} {x : Ex} (h : AllAt P x) : ∀ k ∈ x.kids, AllAt P k := by cases h; assumption
def QAll (P : Int → Prop) : Qn → Prop
  | .loop _ x => AllAt P x
  | .args t ks => P t.at_ ∧ (∀ k ∈ ks, AllAt P k) ∧ ks.length ≤ 40
  | _ => True
theorem all_one {P : Int → Prop} {x : Ex} (h : AllAt P x) : ∀ k ∈ [x], AllAt P k := fun k hk => by
  rw [List.mem_singleton] at hk; subst hk; exact h
theorem all_two {P : Int → Prop} {x y : Ex} (h : AllAt P x) (h2 : AllAt P y) : ∀ k ∈ [x, y], AllAt P k := fun k hk => by
  simp only [List.mem_cons, List.not_mem_nil, or_false] at hk
  rcases hk with rfl | rfl
  · exact h
  · exact h2
theorem all_app {P : Int → Prop} {l : List Ex} {x : Ex} (hl : ∀ k ∈ l, AllAt P k) (h : AllAt P x) : ∀ k ∈ l ++ [x], AllAt P k := fun k hk => by
  rcases List.mem_append.1 hk with hk | hk
  · exact hl k hk
  · exact all_one h k hk
theorem run_all {P : Int → Prop} {ts : List Tok} (hP : ∀ t ∈ ts, P t.at_) : ∀ (f : Nat) (q : Qn) (k : Nat) (d : Int) (x : Ex) (j : Nat), runF ts f q k d = some (.ok x j) → QAll P q → AllAt P x := by
  intro f
  induction f with
  | zero => intro q k d x j h; cases q <;> simp [runF] at h
  | succ f ih =>
    intro q k d x j h hq
    obtain ⟨t, ht⟩ := runF_tok h
    have hpt := hP t (List.mem_of_getElem? ht)
    cases q with
    | expr =>
      rw [runF_expr ht] at h
      split at h
      · cases h
      · rcases PR.then_some h with ⟨_, _, _, h2⟩ | ⟨x1, j1, h1, h2⟩
        · cases h2
        have hx1 := ih _ _ _ _ _ h1 trivial
        split at h2
        · cases h2
        split at h2
        · cases h2; exact hx1
        · rcases PR.then_some h2 with ⟨_, _, _, h3⟩ | ⟨x2, j2, h3, h4⟩
          · cases h3
          have hx2 := ih _ _ _ _ _ h3 trivial
          split at h4
          · cases h4
          split at h4
          · cases h4
          · rcases PR.then_some h4 with ⟨_, _, _, h5⟩ | ⟨x3, j3, h5, h6⟩
            · cases h5
            have hx3 := ih _ _ _ _ _ h5 trivial
            cases h6
            refine .mk _ _ _ _ _ (by decide) (by simp) hx1.at_ fun k hk => ?_
            simp only [List.mem_cons, List.not_mem_nil, or_false] at hk
            rcases hk with rfl | rfl | rfl
            · exact hx1
            · exact hx2
            · exact hx3
    | level n =>
      rw [runF_level ht] at h
      split at h
      · split at h
        · split at h
          · cases h
          split at h
          · cases h
          · rcases PR.then_some h with ⟨_, _, _, h2⟩ | ⟨x1, j1, h1, h2⟩
            · cases h2
            cases h2; exact .mk _ _ _ _ _ (by decide) (by simp) hpt (all_one (ih _ _ _ _ _ h1 trivial))
        · exact ih _ _ _ _ _ h trivial
      · split at h
        · exact ih _ _ _ _ _ h trivial
        · rcases PR.then_some h with ⟨_, _, _, h2⟩ | ⟨x1, j1, h1, h2⟩
          · cases h2
          exact ih _ _ _ _ _ h2 (ih _ _ _ _ _ h1 trivial)
    | loop n y =>
      have hy : AllAt P y := hq
      rw [runF_loop ht] at h
      split at h
      · cases h; exact hy
      · rename_i op ho
        rcases PR.then_some h with ⟨_, _, _, h2⟩ | ⟨x1, j1, h1, h2⟩
        · cases h2
        have hm : AllAt P (.mk op 0 noB [y, x1] y.at_) := .mk _ _ _ _ _ (opAt_ne ho) (by simp) hy.at_ (all_two hy (ih _ _ _ _ _ h1 trivial))
        split at h2
        · cases h2; exact hm
        · exact ih _ _ _ _ _ h2 hm
    | neg =>
      rw [runF_neg ht] at h
      split at h
      · split at h
        · cases h
        split at h
        · cases h
        · rcases PR.then_some h with ⟨_, _, _, h2⟩ | ⟨x1, j1, h1, h2⟩
          · cases h2
          cases h2; exact .mk _ _ _ _ _ (by decide) (by simp) hpt (all_one (ih _ _ _ _ _ h1 trivial))
      · exact ih _ _ _ _ _ h trivial
    | atom =>
      rw [runF_atom ht] at h
      split at h
      · rcases PR.then_some h with ⟨_, _, _, h2⟩ | ⟨x1, j1, h1, h2⟩
        · cases h2
        split at h2
        · cases h2
        split at h2
        · cases h2; exact ih _ _ _ _ _ h1 trivial
        · cases h2
      · split at h
        · cases h; exact .mk _ _ _ _ _ (by decide) (by simp) hpt (fun _ hk => by cases hk)
        · split at h
          · cases h; exact .mk _ _ _ _ _ (by decide) (by simp) hpt (fun _ hk => by cases hk)
          · split at h
            · split at h
              · cases h
              split at h
              · cases h; exact .mk _ _ _ _ _ (by decide) (by simp) hpt (fun _ hk => by cases hk)
              · split at h
                · cases h
                split at h
                · cases h; exact .mk _ _ _ _ _ (by decide) (by simp) hpt (fun _ hk => by cases hk)
                · exact ih _ _ _ _ _ h ⟨hpt, (fun _ hk => by cases hk), by simp⟩
            · cases h
    | args t0 ks =>
      have hq' : P t0.at_ ∧ (∀ k ∈ ks, AllAt P k) ∧ ks.length ≤ 40 := hq
      rw [runF_args ht] at h
      split at h
      · cases h
      · rcases PR.then_some h with ⟨_, _, _, h2⟩ | ⟨x1, j1, h1, h2⟩
        · cases h2
        rename_i h40
        have hx1 := ih _ _ _ _ _ h1 trivial
        have hl1 : (ks ++ [x1]).length ≤ 40 := by have := hq'.2.2; simp; omega
        split at h2
        · cases h2
        split at h2
        · cases h2; exact .mk _ _ _ _ _ (by decide) hl1 hq'.1 (all_app hq'.2.1 hx1)
        · split at h2
          · exact ih _ _ _ _ _ h2 ⟨hq'.1, all_app hq'.2.1 hx1, hl1⟩
          · cases h2
def ArOK (P : Int → Prop) (a : Ar) : Prop := P a.at_ ∧ (AllAt P a.e ∨ a.e = noEx)
inductive FmOK (P : Int → Prop) : Fm → Prop
  | mk (w : ByteArray) (zs : List Ar) (fs : List Fm) (a : Int) (hlz : zs.length ≤ 40) (hlf : fs.length ≤ 2000) (ha : P a) (hz : ∀ z ∈ zs, ArOK P z) (hf : ∀ f ∈ fs, FmOK P f) : FmOK P (.mk w zs fs a)
theorem FmOK.at_ {P : Int → Prop} {x : Fm} (h : FmOK P x) : P x.at_ := by cases h; assumption
theorem FmOK.len {P : Int → Prop} {x : Fm} (h : FmOK P x) : x.args.length ≤ 40 ∧ x.body.length ≤ 2000 := by cases h; exact ⟨by assumption, by assumption⟩
theorem FmOK.args {P : Int → Prop} {x : Fm} (h : FmOK P x) : ∀ z ∈ x.args, ArOK P z := by cases h; assumption
theorem FmOK.body {P : Int → Prop} {x : Fm} (h : FmOK P x) : ∀ f ∈ x.body, FmOK P f := by cases h; assumption
theorem arg_all {P : Int → Prop} {ts : List Tok} (hP : ∀ t ∈ ts, P t.at_) {f k j : Nat} {a : Ar} (h : argF ts f k = some (.ok a j)) : ArOK P a := by
  unfold argF at h
  cases ht : ts[k]? with
  | none => rw [ht] at h; cases h
  | some t =>
    rw [ht] at h
    have hpt := hP t (List.mem_of_getElem? ht)
    dsimp only at h
    split at h
    · cases h; exact ⟨hpt, .inr rfl⟩
    split at h
    · cases h; exact ⟨hpt, .inr rfl⟩
    split at h
    · cases h; exact ⟨hpt, .inr rfl⟩
    split at h
    · split at h
      · cases h
      split at h
      · cases h; exact ⟨hpt, .inr rfl⟩
      · cases h
    · rcases PR.then_some h with ⟨_, _, _, h2⟩ | ⟨x1, j1, h1, h2⟩
      · cases h2
      split at h2
      · cases h2
      split at h2
      · cases h2; exact ⟨hpt, .inl (run_all hP _ _ _ _ _ _ h1 trivial)⟩
      · cases h2
def QfAll (P : Int → Prop) (n : Nat) : Qf → Prop
  | .form => True
  | .args t zs => P t.at_ ∧ (∀ z ∈ zs, ArOK P z) ∧ zs.length ≤ 40
  | .body t zs fs => P t.at_ ∧ (∀ z ∈ zs, ArOK P z) ∧ zs.length ≤ 40 ∧ (∀ f ∈ fs, FmOK P f) ∧ fs.length ≤ n ∧ n ≤ 2000
theorem form_all {P : Int → Prop} {ts : List Tok} (ok : TokOK ts) (hP : ∀ t ∈ ts, P t.at_) : ∀ (f : Nat) (q : Qf) (k : Nat) (d : Int) (n : Nat) (x : Fm × Nat) (j : Nat), n ≤ 2000 → formF ts f q k d n = some (.ok x j) → QfAll P n q → FmOK P x.1 := by
  intro f
  induction f with
  | zero => intro q k d n x j _ h; cases q <;> simp [formF] at h
  | succ f ih =>
    intro q k d n x j hn h hq
    obtain ⟨t, ht⟩ := formF_tok h
    have hpt := hP t (List.mem_of_getElem? ht)
    cases q with
    | form =>
      rw [formF_form ht] at h
      split at h
      · cases h
      split at h
      · cases h
      · exact ih _ _ _ _ _ _ (by omega) h ⟨hpt, (fun _ hz => by cases hz), by simp⟩
    | args t0 zs =>
      have hq' : P t0.at_ ∧ (∀ z ∈ zs, ArOK P z) ∧ zs.length ≤ 40 := hq
      rw [formF_args ht] at h
      split at h
      · cases h; exact .mk _ _ _ _ hq'.2.2 (by simp) hq'.1 hq'.2.1 (fun _ hf => by cases hf)
      split at h
      · exact ih _ _ _ _ _ _ hn h ⟨hq'.1, hq'.2.1, hq'.2.2, (fun _ hf => by cases hf), by simp, hn⟩
      split at h
      · cases h
      split at h
      · cases h
      · rename_i h40
        rcases PR.then_some h with ⟨_, _, _, h2⟩ | ⟨x1, j1, h1, h2⟩
        · cases h2
        refine ih _ _ _ _ _ _ hn h2 ⟨hq'.1, (fun z hz => ?_), by have := hq'.2.2; simp; omega⟩
        rcases List.mem_append.1 hz with hz | hz
        · exact hq'.2.1 z hz
        · rw [List.mem_singleton] at hz; subst hz; exact arg_all hP h1
    | body t0 zs fs =>
      have hq' : P t0.at_ ∧ (∀ z ∈ zs, ArOK P z) ∧ zs.length ≤ 40 ∧ (∀ f ∈ fs, FmOK P f) ∧ fs.length ≤ n ∧ n ≤ 2000 := hq
      rw [formF_body ht] at h
      split at h
      · cases h; exact .mk _ _ _ _ hq'.2.2.1 (by have := hq'.2.2.2.2; omega) hq'.1 hq'.2.1 hq'.2.2.2.1
      · rcases PR.then_some h with ⟨_, _, _, h2⟩ | ⟨x1, j1, h1, h2⟩
        · cases h2
        have hc : n < x1.2 ∧ x1.2 ≤ 2000 := (form_fits ok _ _ _ _ _ _ h1).2 trivial
        refine ih _ _ _ _ _ _ hc.2 h2 ⟨hq'.1, hq'.2.1, hq'.2.2.1, (fun z hz => ?_), by have := hq'.2.2.2.2; simp; omega, hc.2⟩
        rcases List.mem_append.1 hz with hz | hz
        · exact hq'.2.2.2.1 z hz
        · rw [List.mem_singleton] at hz; subst hz; exact ih _ _ _ _ _ _ hn h1 trivial
theorem forms_all {P : Int → Prop} {ts : List Tok} (ok : TokOK ts) (hP : ∀ t ∈ ts, P t.at_) : ∀ (f k n : Nat) (fs out : List Fm) (j : Nat), fs.length ≤ n → n ≤ 2000 → formsF ts f k n fs = some (.ok out j) → (∀ z ∈ fs, FmOK P z) → (∀ z ∈ out, FmOK P z) ∧ out.length ≤ 2000 := by
  intro f
  induction f with
  | zero => intro k n fs out j _ _ h; simp [formsF] at h
  | succ f ih =>
    intro k n fs out j hl hn h hfs
    cases ht : ts[k]? with
    | none => rw [formsF, ht] at h; cases h
    | some t =>
      rw [formsF, ht] at h
      dsimp only at h
      split at h
      · cases h; exact ⟨hfs, by omega⟩
      · rcases PR.then_some h with ⟨_, _, _, h2⟩ | ⟨x1, j1, h1, h2⟩
        · cases h2
        have hc : n < x1.2 ∧ x1.2 ≤ 2000 := (form_fits ok _ _ _ _ _ _ h1).2 trivial
        refine ih _ _ _ _ _ (by simp; omega) hc.2 h2 fun z hz => ?_
        rcases List.mem_append.1 hz with hz | hz
        · exact hfs z hz
        · rw [List.mem_singleton] at hz; subst hz; exact form_all ok hP _ _ _ _ _ _ _ hn h1 trivial
end Go.Proofs.YtjijdgkccfeeaaaGreatDoor
namespace Go.Proofs.YtjijdgkccfeeaaaGreatDoor
open Go Go.Proofs Go.RowKit
attribute [local go_sem] Oper.semAt_some
def Up (c : Nat) (a : Int) : Prop := IntKind.i64.wrap (a + c) = a + c
theorem exA_sh {c : Nat} {x : Ex} (h : x.op ≠ 0) (k : Value) : exA (shX c x) k = .agg #[(.int .i64 (x.op)), (.int .i64 (x.n)), .string x.s, k, (.int .i64 (x.at_ + (c : Int)))] ∧ (shX c x).kids = x.kids.map (shX c) := by
  obtain ⟨p, n, s, ks, a⟩ := x
  rw [shX_mk (by exact h)]
  exact ⟨rfl, rfl⟩
structure SX (w wr : World) (c : Nat) (x : Ex) (pa : Option Addr) (ca : Nat) (k : Nat) (ps : List (Ex × Value)) : Prop where
  tur : Turned (fun b => w.heap.size + 2 ≤ b) w wr
  box : wr.heap[w.heap.size]? = some (.cells #[(.int .i64 (x.op)), (.int .i64 (x.n)), .string x.s, .slice pa x.kids.length ca, (.int .i64 (x.at_ + (c : Int)))] 31 (0, 0))
  out : wr.heap[w.heap.size + 1]? = some (.cells #[(.int .i64 0), (.int .i64 0), .string ⟨#[]⟩, .slice none 0 0, (.int .i64 0)] 31 (0, 0))
  ks : ps.map (·.1) = (x.kids.take k).map (shX c)
  len : ps.length = k
theorem SX.move {w wr w' : World} {c : Nat} {x : Ex} {pa : Option Addr} {ca k : Nat} {ps : List (Ex × Value)} (h : SX w wr c x pa ca k ps) {C : Nat → Prop} (ht : Turned C wr w') (hC : ∀ b, C b → w.heap.size + 2 ≤ b) : SX w w' c x pa ca k ps :=
  ⟨h.tur.trans (ht.mono hC), (ht.block _ (getElem?_lt h.box) (fun hc => by have := hC _ hc; omega)).trans h.box, (ht.block _ (getElem?_lt h.out) (fun hc => by have := hC _ hc; omega)).trans h.out, h.ks, h.len⟩
theorem SX.push {w wr : World} {c : Nat} {x y : Ex} {pa : Option Addr} {ca k : Nat} {ps : List (Ex × Value)} (h : SX w wr c x pa ca k ps) (hy : x.kids[k]? = some y) (v : Value) : SX w wr c x pa ca (k + 1) (ps ++ [(shX c y, v)]) :=
  ⟨h.tur, h.box, h.out, by rw [List.map_append, h.ks, List.take_add_one, hy]; simp, by simp [h.len]⟩
set_option maxRecDepth 20000 in
set_option maxHeartbeats 4000000 in
theorem shiftX_any (c : Nat) : ∀ (m : Nat) (x : Ex), SizeOf.sizeOf x ≤ m → (AllAt (Up c) x ∨ x = noEx) → ∀ (a : Value) (w : World), KidsAt w (fun _ => True) x.kids a →
    Calls Tryz.prog 36 #[exA x a, (.int .i64 ((c : Int)))] w fun e w' => ∃ k, e = .returned (exA (shX c x) k) ∧ KidsAt w' (fun b => w.heap.size ≤ b) (shX c x).kids k ∧ Turned (fun _ => False) w w'
  | 0, x, hm => by cases x; simp at hm
  | m + 1, x, hm => by
    intro hx a w hk
    obtain ⟨pa, ca, rfl⟩ := hk.shape
    rcases hx with hx | rfl
    · have hop2 : (x.op == 0) = false := by simpa using hx.op
      have hup : IntKind.i64.wrap (x.at_ + (c : Int)) = x.at_ + (c : Int) := hx.at_
      have HF : Hid (∀ y ∈ x.kids, ∀ (a : Value) (w : World), KidsAt w (fun _ => True) y.kids a → Calls Tryz.prog 36 #[exA y a, (.int .i64 ((c : Int)))] w fun e w' => ∃ k, e = .returned (exA (shX c y) k) ∧ KidsAt w' (fun b => w.heap.size ≤ b) (shX c y).kids k ∧ Turned (fun _ => False) w w') :=
        Lib.hid fun y hy a w hk => shiftX_any c m y (by
          have h1 := List.sizeOf_lt_of_mem hy
          obtain ⟨p, n, s, ks, at_⟩ := x
          simp only [Ex.mk.sizeOf_spec] at hm
          simp only [Ex.kids] at h1
          omega) (.inl (hx.kids y hy)) a w hk
      have hlen := hx.len
      have HX := Lib.hid (exA_sh (c := c) hx.op)
      have HK := Lib.hid (hk.move (Turned.refl (fun _ => False) w) (fun _ _ => id) (fun b _ hb => hb) (M := fun b => b < w.heap.size))
      obtain ⟨w2, hw2⟩ : ∃ w2, w2 = (w.alloc (.cells #[(.int .i64 (x.op)), (.int .i64 (x.n)), .string x.s, .slice pa x.kids.length ca, (.int .i64 (x.at_ + (c : Int)))] 31)).alloc (.cells #[(.int .i64 0), (.int .i64 0), .string ⟨#[]⟩, .slice none 0 0, (.int .i64 0)] 31) := ⟨_, rfl⟩
      have S0 : Hid (SX w w2 c x pa ca 0 []) := Lib.hid ⟨by rw [hw2]; exact ((Turned.refl _ _).alloc _).alloc _, by rw [hw2]; exact alloc_box (heap_alloc_new _ _) _, by
        have e : w.heap.size + 1 = (w.alloc (.cells #[(.int .i64 (x.op)), (.int .i64 (x.n)), .string x.s, .slice pa x.kids.length ca, (.int .i64 (x.at_ + (c : Int)))] 31)).heap.size := by simp
        rw [hw2, e]; exact heap_alloc_new _ _, by simp, rfl⟩
      have O0 : Hid (Own w2 (w.heap.size + 2) 31 5 exEnc exAt (.slice none 0 0) 0 []) := Own.start (by rw [hw2]; simp)
      have HW := Lib.hid hw2
      clear hk hx hm hw2
      have i0h := infoExpr
      obtain ⟨i0, hif, hz0, hz1, hz2⟩ := info_parts i0h
      clear i0h
      unfold exA
      go_enter Tryz.func36, Tryz.ntmps36
      go_upto_region 6 with fail
      rw [← HW.out]
      clear HW hop2 hup
      go_loopw [5, 6] (fun v i wr => ∃ (k : Nat) (ps : List (Ex × Value)) (va : Option Addr) (vc : Nat), k ≤ x.kids.length ∧ i = (.int .i64 k) ∧ v = .slice va k vc ∧ Hid (SX w wr c x pa ca k ps) ∧ Hid (Own wr (w.heap.size + 2) 31 5 exEnc exAt (.slice va k vc) k ps)) (fun _ i _ => x.kids.length - (intOf i).toNat)
      case atStart => exact ⟨0, [], none, 0, by omega, rfl, rfl, S0, O0⟩
      case round =>
        clear S0 O0
        obtain ⟨k, ps, va, vc, hk, rfl, rfl, SK, OV⟩ := hrel
        obtain ⟨x0, x1, x2, x3, x4⟩ := cellsFive SK.out.box
        have f2 := free_of_box SK.out.box
        have f4 := free_of_box SK.out.out
        by_cases hlt : k < x.kids.length
        · obtain ⟨y, hy⟩ := some_of_lt hlt
          have hix : (k : Int) < (x.kids.length : Int) := by omega
          have HKr : Hid (KidsAt wr (fun _ => True) x.kids (.slice pa x.kids.length ca)) := Lib.hid (HK.out.move SK.out.tur (fun b hb hc => by omega) (fun _ _ _ => trivial))
          obtain ⟨yb, ya, yk, rfl, ⟨y0, y1, y2, y3, y4⟩, HKy⟩ := kidsAt_get HKr.out hy
          obtain ⟨py, cy, rfl⟩ := HKy.shape
          have HC := Lib.hid (HF.out y (List.mem_of_getElem? hy) _ wr HKy)
          have HP := Lib.hid (fun (W : World) (v : Value) (h : SX w W c x (some ⟨yb, ya, none⟩) ca k ps) => h.push hy v)
          clear hy HKy HKr
          generalize shX c y = z at HC HP
          unfold exA at HC
          go_wp2_with (first | (go_at_call 36; refine HC.out.mono ?_; rintro e W9 ⟨kz, rfl, hkz, ht⟩; obtain ⟨pz, cz, rfl⟩ := hkz.shape; have HZ : Hid (exAt W9 (fun b => w.heap.size + 2 ≤ b ∧ ∀ g, (Value.slice va k vc).ownBlock = some g → b ≠ g) (z, .slice pz z.kids.length cz)) := Lib.hid (Own.fresh OV exMov (p := (z, .slice pz z.kids.length cz)) hkz); have OW := Own.move OV exMov ht (fun _ h => h.elim); have SW := Lib.hid (SK.out.move ht (fun _ h => h.elim)); clear hkz ht; have tA : Turned (fun _ => False) W9 (W9.alloc (.cells #[(.int .i64 (z.op)), (.int .i64 (z.n)), .string z.s, .slice pz z.kids.length cz, (.int .i64 (z.at_))] 31)) := (Turned.refl _ _).alloc _; have OX := Own.move OW exMov tA (fun _ h => h.elim); have HZX := Lib.hid (exMov _ _ _ _ _ _ HZ.out tA (fun _ _ => id) (fun _ hb _ => hb)); have SY := Lib.hid (SW.out.move tA (fun _ h => h.elim)); clear tA HZ OW SW) | (at_builtin; refine wpList_append_exact _ rfl _ _ 29 rfl (w.heap.size + 2) 31 i0 (.agg #[(.int .i64 0), (.int .i64 0), .string ⟨#[]⟩, .slice none 0 0, (.int .i64 0)]) 5 64 Tryz.underlying29 hif hz0 hz1 hz2 rfl (by decide) (.slice va k vc) k (ps.flatMap exEnc) rfl OX.out.own ⟨W9.heap.size, 0, none⟩ 1 1 [(.int .i64 (z.op)), (.int .i64 (z.n)), .string z.s, .slice pz z.kids.length cz, (.int .i64 (z.at_))] rfl rfl (cells_list W9 [(.int .i64 (z.op)), (.int .i64 (z.n)), .string z.s, .slice pz z.kids.length cz, (.int .i64 (z.at_))] 31) (by simp [Value.oneCell']) (by unfold maxLen; omega) (by omega) OX.out.top ?_; intro v' w4 hown' hgrow hex; obtain ⟨ga, cap', rfl⟩ := ownsRow_succ hown'; have htG := Own.turned_grown (B := 0) OX hgrow; have SZ := HP.out _ (.slice pz z.kids.length cz) (SY.out.move htG.1 htG.2.1); have OG := Own.grown OX exMov HZX.out hgrow hown' hex; clear hown' hgrow hex htG HZX OX SY))
          have SZ2 := Lib.hid SZ
          clear SZ
          go_roundw
          case rel => exact ⟨k + 1, ps ++ [(z, .slice pz z.kids.length cz)], some ⟨ga, 0, none⟩, cap', by omega, by go_num, rfl, SZ2, OG⟩
          case measure => simp [intOf]; omega
        · obtain rfl : k = x.kids.length := by omega
          clear HF HK
          go_upto_region 10 with fail
          obtain ⟨w5, hw5⟩ : ∃ w5, w5 = wr.setCell ⟨w.heap.size, 3, none⟩ (.slice va x.kids.length vc) := ⟨_, rfl⟩
          have t5 : Turned (fun b => b = w.heap.size) wr w5 := by rw [hw5]; exact one_turned _ _ _ _
          have hb5 := five_set3 (x := .slice va x.kids.length vc) SK.out.box
          rw [← hw5] at hb5
          have ho5 := (t5.block _ (getElem?_lt SK.out.out) (by omega)).trans SK.out.out
          rw [← hw5]
          have HT5 := Lib.hid t5
          have HB5 := Lib.hid hb5
          have HO5 := Lib.hid ho5
          clear x0 x1 x2 x3 x4 f2 f4 hw5 t5
          obtain ⟨x0, x1, x2, x3, x4⟩ := cellsFive hb5
          obtain ⟨z0, z1, z2, z3, z4⟩ := cellsFive ho5
          have f4 := free_of_box ho5
          clear hb5 ho5
          go_wp2_with fail
          refine bodyPost_ret (results_ex rfl _ _ (w.heap.size + 1) _ _ _ _ _ rfl (five_set HO5.out)) rfl ?_
          have t6 := five_turned w5 (w.heap.size + 1) (.int .i64 (x.op)) (.int .i64 (x.n)) (.string x.s) (.slice va x.kids.length vc) (.int .i64 (x.at_ + (c : Int)))
          refine ⟨.slice va x.kids.length vc, congrArg Ending.returned (HX.out _).1.symm, ?_, ?_⟩
          · rw [(HX.out (.slice none 0 0)).2, show x.kids.map (shX c) = ps.map (·.1) by rw [SK.out.ks, List.take_length]]
            exact ((Own.kidsAt OV SK.out.len.symm).move HT5.out (fun b hb hc => by omega) (fun _ hb _ => hb)).move t6 (fun b hb hc => by omega) (fun b hb _ => by omega)
          · exact ((SK.out.tur.mono fun b hb => by omega).trans ((HT5.out.mono fun b hb => by omega).trans (t6.mono fun b hb => by omega))).strip
    · clear hm hk
      unfold exA
      go_enter Tryz.func36, Tryz.ntmps36
      go_wp2_with fail
      have e : w.heap.size + 1 = (w.alloc (.cells #[(.int .i64 (noEx.op)), (.int .i64 (noEx.n)), .string noEx.s, .slice pa noEx.kids.length ca, (.int .i64 (noEx.at_))] 31)).heap.size := by simp
      refine bodyPost_ret (results_ex rfl _ _ (w.heap.size + 1) _ _ _ _ _ rfl (by rw [e]; exact heap_alloc_new _ _)) rfl ?_
      refine ⟨.slice pa noEx.kids.length ca, by rw [shX_noEx], by rw [shX_noEx]; exact .nil _ _, ((Turned.refl _ _).alloc _).alloc _⟩
end Go.Proofs.YtjijdgkccfeeaaaGreatDoor
namespace Go.Proofs.YtjijdgkccfeeaaaGreatDoor
open Go Go.Proofs Go.RowKit
attribute [local go_sem] Oper.semAt_some
structure IA (wo W : World) (c : Nat) (y : Fm) (bs : Value) (i : Nat) (va : Option Addr) (vc : Nat) (qs : List (Ar × Value)) : Prop where
  tur : Turned (fun _ => False) wo W
  box : W.heap[wo.heap.size]? = some (.cells #[.string y.word, .slice va i vc, bs, (.int .i64 (y.at_ + (c : Int)))] 45 (0, 0))
  ks : qs.map (·.1) = (y.args.take i).map (shA c)
  len : qs.length = i
theorem IA.move {wo W W' : World} {c : Nat} {y : Fm} {bs : Value} {i : Nat} {va : Option Addr} {vc : Nat} {qs : List (Ar × Value)} (h : IA wo W c y bs i va vc qs) {C : Nat → Prop} (ht : Turned C W W') (hC : ∀ b, C b → wo.heap.size < b) : IA wo W' c y bs i va vc qs :=
  ⟨((h.tur.mono fun _ h => h.elim).trans (ht.mono fun b hb => Nat.le_of_lt (hC b hb))).strip, (ht.block _ (getElem?_lt h.box) (fun hc => by have := hC _ hc; omega)).trans h.box, h.ks, h.len⟩
theorem cellsNine {V : World} {N t : Nat} {a b c d e f g h i : Value} (hh : V.heap[N]? = some (.cells #[a, b, c, d, e, f, g, h, i] t (0, 0))) : V.cell? ⟨N, 0, none⟩ = some a ∧ V.cell? ⟨N, 1, none⟩ = some b ∧ V.cell? ⟨N, 2, none⟩ = some c ∧ V.cell? ⟨N, 3, none⟩ = some d ∧ V.cell? ⟨N, 4, none⟩ = some e ∧ V.cell? ⟨N, 5, none⟩ = some f ∧ V.cell? ⟨N, 6, none⟩ = some g ∧ V.cell? ⟨N, 7, none⟩ = some h ∧ V.cell? ⟨N, 8, none⟩ = some i := by
  simp [World.cell?, hh]
def nineE (V : World) (N : Nat) (x y z u v : Value) : World := ((((V.setCell ⟨N, 3, none⟩ x).setCell ⟨N, 4, none⟩ y).setCell ⟨N, 5, none⟩ z).setCell ⟨N, 6, none⟩ u).setCell ⟨N, 7, none⟩ v
theorem nineE_set {V : World} {N t : Nat} {a b c d e f g h i x y z u v : Value} (hh : V.heap[N]? = some (.cells #[a, b, c, d, e, f, g, h, i] t (0, 0))) : (nineE V N x y z u v).heap[N]? = some (.cells #[a, b, c, x, y, z, u, v, i] t (0, 0)) := by
  simp [nineE, World.setCell, Array.getElem?_modify, hh]
theorem nineE_turned (V : World) (N : Nat) (x y z u v : Value) : Turned (fun c => c = N) V (nineE V N x y z u v) :=
  (((((Turned.refl (fun c => c = N) V).setCell (p := ⟨N, 3, none⟩) rfl x).setCell (p := ⟨N, 4, none⟩) rfl y).setCell (p := ⟨N, 5, none⟩) rfl z).setCell (p := ⟨N, 6, none⟩) rfl u).setCell (p := ⟨N, 7, none⟩) rfl v
structure SF (w wr : World) (c : Nat) (l : List Fm) (k : Nat) (ps : List (Fm × Value × Value)) : Prop where
  tur : Turned (fun _ => False) w wr
  ks : ps.map (·.1) = (l.take k).map (shF c)
  len : ps.length = k
theorem SF.push {w wr : World} {c : Nat} {l : List Fm} {y : Fm} {k : Nat} {ps : List (Fm × Value × Value)} (h : SF w wr c l k ps) (hy : l[k]? = some y) {wr' : World} (ht : Turned (fun _ => False) w wr') (a b : Value) : SF w wr' c l (k + 1) (ps ++ [(shF c y, a, b)]) :=
  ⟨ht, by rw [List.map_append, h.ks, List.take_add_one, hy]; simp, by simp [h.len]⟩
theorem IA.store {wo W : World} {c : Nat} {y : Fm} {bs : Value} {i : Nat} {va va' : Option Addr} {vc vc' : Nat} {qs : List (Ar × Value)} {q : Ar × Value} (h : IA wo W c y bs i va vc qs) (hq : (qs ++ [q]).map (·.1) = (y.args.take (i + 1)).map (shA c)) :
    IA wo (W.setCell ⟨wo.heap.size, 1, none⟩ (.slice va' (i + 1) vc')) c y bs (i + 1) va' vc' (qs ++ [q]) :=
  ⟨((h.tur.mono fun _ h => h.elim).trans ((one_turned W wo.heap.size 1 (.slice va' (i + 1) vc')).mono fun b hb => by omega)).strip, four_set1 h.box, hq, by simp [h.len]⟩
theorem fmEnc_sh (c : Nat) (y : Fm) (a b : Value) : fmEnc (shF c y, a, b) = [.string y.word, a, b, (.int .i64 (y.at_ + (c : Int)))] ∧ (shF c y).args = y.args.map (shA c) ∧ (shF c y).body = y.body.map (shF c) := by
  obtain ⟨w, zs, fs, at_⟩ := y
  rw [shF_mk]
  exact ⟨rfl, rfl, rfl⟩
set_option maxRecDepth 20000 in
set_option maxHeartbeats 8000000 in
theorem shiftF_any (c : Nat) : ∀ (m : Nat) (l : List Fm), SizeOf.sizeOf l ≤ m → (∀ f ∈ l, FmOK (Up c) f) → l.length ≤ 2000 → ∀ (v : Value) (w : World), FormsAt w (fun _ => True) l v →
    Calls Tryz.prog 15 #[v, (.int .i64 ((c : Int)))] w fun e w' => ∃ p n, e = .returned (.slice p l.length n) ∧ FormsAt w' (fun b => w.heap.size ≤ b) (l.map (shF c)) (.slice p l.length n) ∧ Turned (fun _ => False) w w'
  | 0, l, hm => by cases l <;> simp at hm
  | m + 1, l, hm => by
    intro hx hll v w hf
    obtain ⟨pv, cv, rfl⟩ := hf.shape
    have HFM : Hid (∀ f ∈ l, ∀ (v : Value) (w : World), FormsAt w (fun _ => True) f.body v → Calls Tryz.prog 15 #[v, (.int .i64 ((c : Int)))] w fun e w' => ∃ p n, e = .returned (.slice p f.body.length n) ∧ FormsAt w' (fun b => w.heap.size ≤ b) (f.body.map (shF c)) (.slice p f.body.length n) ∧ Turned (fun _ => False) w w') :=
      Lib.hid fun f hf v w hk => shiftF_any c m f.body (by
        have h1 := List.sizeOf_lt_of_mem hf
        obtain ⟨s, zs, fs, at_⟩ := f
        simp only [Fm.mk.sizeOf_spec] at h1
        simp only [Fm.body]
        omega) (hx f hf).body (hx f hf).len.2 v w hk
    have HL := Lib.hid hf
    have HX := Lib.hid hx
    have O0 : Hid (Own w w.heap.size 45 4 fmEnc fmAt (.slice none 0 0) 0 []) := Own.start (Nat.le_refl _)
    have S0 : Hid (SF w w c l 0 []) := Lib.hid ⟨Turned.refl _ _, by simp, rfl⟩
    clear hf hx hm
    obtain ⟨i0, hif, hz0, hz1, hz2⟩ := info_parts infoForm
    obtain ⟨i1, hif1, hy0, hy1, hy2⟩ := info_parts infoArg
    go_enter Tryz.func15, Tryz.ntmps15
    go_upto_region 3 with fail
    go_loopw [5, 6] (fun v i wr => ∃ (k : Nat) (ps : List (Fm × Value × Value)) (va : Option Addr) (vc : Nat), k ≤ l.length ∧ i = (.int .i64 k) ∧ v = .slice va k vc ∧ Hid (SF w wr c l k ps) ∧ Hid (Own wr w.heap.size 45 4 fmEnc fmAt (.slice va k vc) k ps)) (fun _ i _ => l.length - (intOf i).toNat)
    case atStart => exact ⟨0, [], none, 0, by omega, rfl, rfl, S0, O0⟩
    case round =>
      clear S0 O0
      obtain ⟨k, ps, va, vc, hk, rfl, rfl, SK, OV⟩ := hrel
      obtain ⟨wo, rfl⟩ : ∃ wo, wo = wr := ⟨_, rfl⟩
      by_cases hlt : k < l.length
      · obtain ⟨y, hy⟩ := some_of_lt hlt
        have hix : (k : Int) < (l.length : Int) := by omega
        have hyx := HX.out y (List.mem_of_getElem? hy)
        obtain ⟨fb, fa, fk, fm, rfl, ⟨x0, x1, x2, x3⟩, HA, HB⟩ := formsAt_get (HL.out.all SK.out.tur) hy
        obtain ⟨pa, ca, rfl⟩ := HA.shape
        obtain ⟨pb, cb, rfl⟩ := HB.shape
        have hup : IntKind.i64.wrap (y.at_ + (c : Int)) = y.at_ + (c : Int) := hyx.at_
        have hal := hyx.len.1
        have HYA := Lib.hid hyx.args
        have HC := Lib.hid (fun (W : World) (h : Turned (fun _ => False) wo W) => HFM.out y (List.mem_of_getElem? hy) _ W (HB.all h))
        have HP := Lib.hid (fun (W : World) (h : Turned (fun _ => False) w W) a b => SK.out.push hy h a b)
        have HAr := Lib.hid HA
        obtain ⟨wi, hwi⟩ : ∃ wi, wi = wo.alloc (.cells #[.string y.word, .slice none 0 0, .slice pb y.body.length cb, (.int .i64 (y.at_ + (c : Int)))] 45) := ⟨_, rfl⟩
        have I0 : Hid (IA wo wi c y (.slice pb y.body.length cb) 0 none 0 []) := Lib.hid ⟨by rw [hwi]; exact (Turned.refl _ _).alloc _, by rw [hwi]; exact heap_alloc_new _ _, by simp, rfl⟩
        have A0 : Hid (Own wi (wo.heap.size + 1) 48 9 arEnc arAt (.slice none 0 0) 0 []) := Own.start (by rw [hwi]; simp)
        have HW := Lib.hid hwi
        have HX1 := Lib.hid x1
        clear hy hyx HA HB hwi
        go_upto_region 9 with fail
        rw [← HW.out]
        clear HW hup x0 x1 x2 x3
        go_loopw [8] (fun v wr => ∃ (i : Nat) (qs : List (Ar × Value)) (ua : Option Addr) (uc : Nat), i ≤ y.args.length ∧ v = (.int .i64 i) ∧ Hid (IA wo wr c y (.slice pb y.body.length cb) i ua uc qs) ∧ Hid (Own wr (wo.heap.size + 1) 48 9 arEnc arAt (.slice ua i uc) i qs)) (fun v _ => y.args.length - (intOf v).toNat)
        case atStart => exact ⟨0, [], none, 0, by omega, rfl, I0, A0⟩
        case round =>
          clear I0 A0
          obtain ⟨i, qs, ua, uc, hi, rfl, SI, OI⟩ := hrel
          have hx1 := cell_turned SI.out.tur id HX1.out
          by_cases hli : i < y.args.length
          · clear HC HP HFM HL HX
            obtain ⟨z, hz⟩ := some_of_lt hli
            have hiy : (i : Int) < (y.args.length : Int) := by omega
            obtain ⟨ab, aa, ak, rfl, ⟨a0, a1, a2, a3, a4, a5, a6, a7, a8⟩, HK⟩ := argsAt_get (HAr.out.all SI.out.tur) hz
            obtain ⟨pk, ck, rfl⟩ := HK.shape
            have hzo := HYA.out z (List.mem_of_getElem? hz)
            have hupz : IntKind.i64.wrap (z.at_ + (c : Int)) = z.at_ + (c : Int) := hzo.1
            obtain ⟨Wa, hWa⟩ : ∃ Wa, Wa = wr.alloc (.cells #[(.int .i64 (z.kind)), (.int .i64 (z.n)), .string z.s, (.int .i64 (z.e.op)), (.int .i64 (z.e.n)), .string z.e.s, .slice pk z.e.kids.length ck, (.int .i64 (z.e.at_)), (.int .i64 (z.at_ + (c : Int)))] 48) := ⟨_, rfl⟩
            have tA : Turned (fun _ => False) wr Wa := by rw [hWa]; exact (Turned.refl _ _).alloc _
            have hn := heap_alloc_new wr (.cells #[(.int .i64 (z.kind)), (.int .i64 (z.n)), .string z.s, (.int .i64 (z.e.op)), (.int .i64 (z.e.n)), .string z.e.s, .slice pk z.e.kids.length ck, (.int .i64 (z.e.at_)), (.int .i64 (z.at_ + (c : Int)))] 48)
            rw [← hWa] at hn
            have sza : Wa.heap.size = wr.heap.size + 1 := by rw [hWa]; simp
            have HCX := Lib.hid (shiftX_any c _ z.e (Nat.le_refl _) hzo.2 (.slice pk z.e.kids.length ck) Wa (HK.all tA))
            have HQ : Hid (∀ v : Value, (qs ++ [((⟨z.kind, z.n, z.s, shX c z.e, z.at_ + (c : Int)⟩ : Ar), v)]).map (·.1) = (y.args.take (i + 1)).map (shA c)) := Lib.hid fun v => by
              rw [List.map_append, SI.out.ks, List.take_add_one, hz]; simp [shA]
            generalize shX c z.e = e' at HCX HQ
            unfold exA at HCX
            have HWa := Lib.hid hWa
            have HN := Lib.hid hn
            have HTA := Lib.hid tA
            have HSZ := Lib.hid sza
            clear hz hzo HK hWa hn tA sza
            go_upto_region 13 with fail
            rw [← HWa.out]
            clear hx1 a0 a1 a2 a3 a4 a5 a6 a7 a8 hupz HWa
            obtain ⟨n0, n1, n2, n3, n4, n5, n6, n7, n8⟩ := cellsNine HN.out
            go_upto_region 14 with (go_at_call 36; refine HCX.out.mono ?_; rintro e W9 ⟨kz, rfl, hkz, ht⟩; obtain ⟨pz, cz, rfl⟩ := hkz.shape; have HKZ := Lib.hid hkz; have HT9 := Lib.hid ht; have hn9 := (ht.block _ (getElem?_lt HN.out) id).trans HN.out; clear n0 n1 n2 n3 n4 n5 n6 n7 n8 hkz ht; obtain ⟨n0, n1, n2, n3, n4, n5, n6, n7, n8⟩ := cellsNine hn9; have fq := free_of_box hn9; have HN9 := Lib.hid hn9; clear hn9)
            clear HCX n0 n1 n2 n3 n4 n5 n6 n7 n8 fq
            obtain ⟨W10, hW10⟩ : ∃ W10, W10 = nineE W9 wr.heap.size (.int .i64 (e'.op)) (.int .i64 (e'.n)) (.string e'.s) (.slice pz e'.kids.length cz) (.int .i64 (e'.at_)) := ⟨_, rfl⟩
            have hn10 := nineE_set (x := (.int .i64 (e'.op))) (y := (.int .i64 (e'.n))) (z := .string e'.s) (u := .slice pz e'.kids.length cz) (v := (.int .i64 (e'.at_))) HN9.out
            have t910 := nineE_turned W9 wr.heap.size (.int .i64 (e'.op)) (.int .i64 (e'.n)) (.string e'.s) (.slice pz e'.kids.length cz) (.int .i64 (e'.at_))
            rw [← hW10] at hn10 t910
            unfold nineE at hW10
            rw [← hW10]
            have t10 : Turned (fun _ => False) wr W10 := (((HTA.out.trans HT9.out).mono fun _ h => h.elim).trans (t910.mono fun b hb => by omega)).strip
            have HZ : Hid (arAt W10 (fun b => wo.heap.size + 1 ≤ b ∧ ∀ g, (Value.slice ua i uc).ownBlock = some g → b ≠ g) ((⟨z.kind, z.n, z.s, e', z.at_ + (c : Int)⟩ : Ar), .slice pz e'.kids.length cz)) :=
              Lib.hid (Own.fresh OI arMov (p := ((⟨z.kind, z.n, z.s, e', z.at_ + (c : Int)⟩ : Ar), .slice pz e'.kids.length cz)) (HKZ.out.move t910 (fun b hb hc => by have := HSZ.out; omega) (fun b hb _ => by have := HSZ.out; omega)))
            have O10 := Own.move OI arMov t10 (fun _ h => h.elim)
            have S10 := Lib.hid (SI.out.move t10 (fun _ h => h.elim))
            have tB : Turned (fun _ => False) W10 (W10.alloc (.cells #[(.int .i64 (z.kind)), (.int .i64 (z.n)), .string z.s, (.int .i64 (e'.op)), (.int .i64 (e'.n)), .string e'.s, .slice pz e'.kids.length cz, (.int .i64 (e'.at_)), (.int .i64 (z.at_ + (c : Int)))] 48)) := (Turned.refl _ _).alloc _
            have O11 := Own.move O10 arMov tB (fun _ h => h.elim)
            have S11 := Lib.hid (S10.out.move tB (fun _ h => h.elim))
            have HZ2 := Lib.hid (arMov _ _ _ _ _ _ HZ.out tB (fun _ _ => id) (fun _ hb _ => hb))
            obtain ⟨n0, n1, n2, n3, n4, n5, n6, n7, n8⟩ := cellsNine hn10
            obtain ⟨m0, m1, m2, m3⟩ := cellsFour S10.out.box
            clear hW10 hn10 t910 t10 tB O10 HZ SI OI HKZ HT9 HN9 HN HTA HSZ
            go_wp2_with (first | (at_builtin; refine wpList_append_exact _ rfl _ _ 43 rfl (wo.heap.size + 1) 48 i1 (.agg #[(.int .i64 0), (.int .i64 0), .string ⟨#[]⟩, (.int .i64 0), (.int .i64 0), .string ⟨#[]⟩, .slice none 0 0, (.int .i64 0), (.int .i64 0)]) 9 104 Tryz.underlying43 hif1 hy0 hy1 hy2 rfl (by decide) (.slice ua i uc) i (qs.flatMap arEnc) rfl O11.out.own ⟨W10.heap.size, 0, none⟩ 1 1 [(.int .i64 (z.kind)), (.int .i64 (z.n)), .string z.s, (.int .i64 (e'.op)), (.int .i64 (e'.n)), .string e'.s, .slice pz e'.kids.length cz, (.int .i64 (e'.at_)), (.int .i64 (z.at_ + (c : Int)))] rfl rfl (cells_list W10 [(.int .i64 (z.kind)), (.int .i64 (z.n)), .string z.s, (.int .i64 (e'.op)), (.int .i64 (e'.n)), .string e'.s, .slice pz e'.kids.length cz, (.int .i64 (e'.at_)), (.int .i64 (z.at_ + (c : Int)))] 48) (by simp [Value.oneCell']) (by unfold maxLen; omega) (by omega) O11.out.top ?_; intro v' w4 hown' hgrow hex; obtain ⟨ga, cap', rfl⟩ := ownsRow_succ hown'; have htG := Own.turned_grown (B := 0) O11 hgrow; have S12 := Lib.hid (S11.out.move htG.1 (fun b hb => by have := htG.2.1 b hb; omega)); have OG := Own.grown O11 arMov HZ2.out hgrow hown' hex; clear hown' hgrow hex htG HZ2 O11 S11 S10 n0 n1 n2 n3 n4 n5 n6 n7 n8 m0 m1 m2 m3; obtain ⟨m0, m1, m2, m3⟩ := cellsFour S12.out.box; have fq := free_of_box S12.out.box))
            have S13 := Lib.hid (S12.out.store (va' := some ⟨ga, 0, none⟩) (vc' := cap') (HQ.out (.slice pz e'.kids.length cz)))
            have O13 := Own.move OG arMov (one_turned w4 wo.heap.size 1 (.slice (some ⟨ga, 0, none⟩) (i + 1) cap')) (fun b hb => by omega)
            clear S12 OG m0 m1 m2 m3 fq HQ
            go_roundw
            case rel => exact ⟨i + 1, _, some ⟨ga, 0, none⟩, cap', by omega, by go_num, S13, O13⟩
            case measure => simp [intOf]; omega
          · obtain rfl : i = y.args.length := by omega
            have HC2 := Lib.hid (HC.out wr SI.out.tur)
            obtain ⟨m0, m1, m2, m3⟩ := cellsFour SI.out.box
            clear HC HFM HL HX HAr HYA HX1
            go_upto_region 16 with (go_at_call 15; refine HC2.out.mono ?_; rintro e W9 ⟨pn, nn, rfl, hkz, ht⟩; have HKZ := Lib.hid hkz; have HT9 := Lib.hid ht; have S9 := Lib.hid (SI.out.move ht (fun _ h => h.elim)); clear m0 m1 m2 m3 hkz ht; obtain ⟨m0, m1, m2, m3⟩ := cellsFour S9.out.box; have fq := free_of_box S9.out.box)
            clear HC2 m0 m1 m2 m3 fq hx1
            obtain ⟨W10, hW10⟩ : ∃ W10, W10 = W9.setCell ⟨wo.heap.size, 2, none⟩ (.slice pn y.body.length nn) := ⟨_, rfl⟩
            have hb10 := four_set2 (x := .slice pn y.body.length nn) S9.out.box
            have t910 := one_turned W9 wo.heap.size 2 (.slice pn y.body.length nn)
            rw [← hW10] at hb10 t910
            rw [← hW10]
            have hwo : wo.heap.size < wr.heap.size := getElem?_lt SI.out.box
            have t10 : Turned (fun _ => False) wo W10 := (((SI.out.tur.trans HT9.out).mono fun _ h => h.elim).trans (t910.mono fun b hb => by omega)).strip
            have hse := fmEnc_sh c y (.slice ua y.args.length uc) (.slice pn y.body.length nn)
            have HZ : Hid (fmAt W10 (fun b => w.heap.size ≤ b ∧ ∀ g, (Value.slice va k vc).ownBlock = some g → b ≠ g) (shF c y, .slice ua y.args.length uc, .slice pn y.body.length nn)) :=
              Lib.hid (Own.fresh OV fmMov (p := (shF c y, .slice ua y.args.length uc, .slice pn y.body.length nn)) ⟨by
                  show ArgsAt W10 _ (shF c y).args _
                  rw [hse.2.1, show y.args.map (shA c) = qs.map (·.1) by rw [SI.out.ks, List.take_length]]
                  exact (((Own.argsAt OI SI.out.len.symm).move HT9.out (fun _ _ => id) (fun _ hb _ => hb)).move t910 (fun b hb hc => by omega) (fun b hb _ => by omega)), by
                  show FormsAt W10 _ (shF c y).body _
                  rw [hse.2.2]
                  exact HKZ.out.move t910 (fun b hb hc => by omega) (fun b hb _ => by omega)⟩)
            have O10 := Own.move OV fmMov t10 (fun _ h => h.elim)
            have tB : Turned (fun _ => False) W10 (W10.alloc (.cells #[.string y.word, .slice ua y.args.length uc, .slice pn y.body.length nn, (.int .i64 (y.at_ + (c : Int)))] 45)) := (Turned.refl _ _).alloc _
            have O11 := Own.move O10 fmMov tB (fun _ h => h.elim)
            have HT11 := Lib.hid ((SK.out.tur.trans t10).trans tB)
            have HZ2 := Lib.hid (fmMov _ _ _ _ _ _ HZ.out tB (fun _ _ => id) (fun _ hb _ => hb))
            have HSE := Lib.hid hse.1
            obtain ⟨m0, m1, m2, m3⟩ := cellsFour hb10
            clear hW10 hb10 t910 t10 tB O10 HZ SI OI HKZ HT9 S9 hse hwo OV SK
            go_wp2_with (first | (at_builtin; refine wpList_append_exact _ rfl _ _ 23 rfl w.heap.size 45 i0 (.agg #[.string ⟨#[]⟩, .slice none 0 0, .slice none 0 0, (.int .i64 0)]) 4 72 Tryz.underlying23 hif hz0 hz1 hz2 rfl (by decide) (.slice va k vc) k (ps.flatMap fmEnc) rfl O11.out.own ⟨W10.heap.size, 0, none⟩ 1 1 [.string y.word, .slice ua y.args.length uc, .slice pn y.body.length nn, (.int .i64 (y.at_ + (c : Int)))] rfl rfl (cells_list W10 [.string y.word, .slice ua y.args.length uc, .slice pn y.body.length nn, (.int .i64 (y.at_ + (c : Int)))] 45) (by simp [Value.oneCell']) (by unfold maxLen; omega) (by omega) O11.out.top ?_; intro v' w4 hown' hgrow hex; obtain ⟨ga, cap', rfl⟩ := ownsRow_succ hown'; rw [← HSE.out] at hown'; have htG := Own.turned_grown (B := 0) O11 hgrow; have S12 := Lib.hid (HP.out w4 (((HT11.out.mono fun _ h => h.elim).trans (htG.1.mono fun b hb => htG.2.1 b hb)).strip) (.slice ua y.args.length uc) (.slice pn y.body.length nn)); have OG := Own.grown O11 fmMov HZ2.out hgrow hown' hex; clear hown' hgrow hex htG HZ2 O11 HT11))
            go_roundw
            case rel => exact ⟨k + 1, _, some ⟨ga, 0, none⟩, cap', by omega, by go_num, rfl, S12, OG⟩
            case measure => simp [intOf]; omega
      · obtain rfl : k = l.length := by omega
        go_wp2_with fail
        go_ret
        refine ⟨va, vc, rfl, ?_, SK.out.tur⟩
        rw [show l.map (shF c) = ps.map (·.1) by rw [SK.out.ks, List.take_length]]
        exact Own.formsAt OV SK.out.len.symm
end Go.Proofs.YtjijdgkccfeeaaaGreatDoor
namespace Go.Proofs.YtjijdgkccfeeaaaGreatDoor
open Go Go.Proofs Go.RowKit
theorem run_append_zero {P : Program} (w : World) (t ty e : TypeId) (i : TypeInfo) (ht : P.underlying t = some (.slice e)) (hi : P.info? e = some i) (b : Option Addr) (n cap : Nat) (h : n ≤ cap) (p : Option Addr) (c : Nat) :
    (Builtin.append_ #[t, t] ty #[.slice b n cap, .slice p 0 c]).run P w = .ok (.slice b n cap) w := by
  have hf : (Builtin.firstCells i.size 0 (.slice p 0 c)).run P w = .ok #[] w := by
    cases p with
    | none => rfl
    | some a => exact run_firstCells_some (P := P) w i.size 0 a 0 c [] (by simp) (by simp)
  cases b with
  | none => simp [Builtin.append_, run_underlying ht, sizeOf, typeInfo, hi, Builtin.lenOf, h, hf]
  | some a => simp [Builtin.append_, run_underlying ht, sizeOf, typeInfo, hi, Builtin.lenOf, h, hf, storeCells]
theorem forms_list {W : World} {N : Nat → Prop} {l : List Fm} {p : Option Addr} {c : Nat} (h : FormsAt W N l (.slice p l.length c)) (hne : l ≠ []) :
    ∃ b a, ∃ qs : List (Fm × Value × Value), p = some ⟨b, a, none⟩ ∧ qs.map (·.1) = l ∧ (∀ j u, (qs.flatMap fmEnc)[j]? = some u → W.cell? ⟨b, a + j, none⟩ = some u) ∧ ∀ q ∈ qs, fmAt W N q := by
  cases h with
  | nil => exact absurd rfl hne
  | some _ b a c k m hN hl hcell ha hb =>
    have hq : ∀ i, (l.mapIdx fun i x => (x, k i, m i))[i]? = (l[i]?).map fun x => (x, k i, m i) := fun i => by simp [List.getElem?_mapIdx]
    refine ⟨b, a, l.mapIdx fun i x => (x, k i, m i), rfl, ?_, fun j u hj => ?_, fun q hm => ?_⟩
    · apply List.ext_getElem?
      intro i
      rw [List.getElem?_map, hq]
      cases l[i]? <;> rfl
    · have hlen : ∀ qs : List (Fm × Value × Value), (qs.flatMap fmEnc).length = qs.length * 4 := fun qs => by
        induction qs with
        | nil => rfl
        | cons q qs ih => rw [List.flatMap_cons, List.length_append, ih, List.length_cons]; show 4 + _ = _; omega
      have hlt := lt_of_some hj
      rw [hlen, List.length_mapIdx] at hlt
      have hi : j / 4 < l.length := by omega
      have h2 := flatMap_at fmEnc 4 (fun _ => rfl) (l.mapIdx fun i x => (x, k i, m i)) (j / 4) (j % 4) (by rw [List.length_mapIdx]; exact hi) (by omega)
      rw [show j / 4 * 4 + j % 4 = j by omega, hj] at h2
      have h3 := hcell (j / 4) hi (j % 4) u (by
        dsimp only
        rw [List.getElem?_eq_getElem hi]
        have h4 := h2.symm
        simp only [List.getElem_mapIdx] at h4
        exact h4)
      rw [show a + j / 4 * 4 + j % 4 = a + j by omega] at h3
      exact h3
    · obtain ⟨i, hi⟩ := List.getElem?_of_mem hm
      rw [hq] at hi
      obtain ⟨x, hx, rfl⟩ := Option.map_eq_some_iff.1 hi
      exact ⟨ha i x hx, hb i x hx⟩
section
variable {α : Type} {W W' : World} {lo e size n : Nat} {enc : α → List Value} {at_ : World → (Nat → Prop) → α → Prop} {v : Value} {ps : List α}
theorem Own.grownL (h : Hid (Own W lo e size enc at_ v n ps)) (hm : Mov at_) {v' : Value} {qs : List α} (hp : ∀ p ∈ qs, at_ W (fun b => lo ≤ b ∧ ∀ g, v.ownBlock = some g → b ≠ g) p) (hg : W.grownBy W' v.ownBlock) {k : Nat} (hown : W'.ownsRow lo e size v' (n + k) (ps.flatMap enc ++ qs.flatMap enc)) (hex : ∀ g, v'.ownBlock = some g → v.ownBlock = some g ∨ W.heap.size ≤ g) : Hid (Own W' lo e size enc at_ v' (n + k) (ps ++ qs)) := by
  have ht : Turned (fun k => v.ownBlock = some k) W W' := Turned.of_grown hg fun _ h => h
  refine Lib.hid ⟨by simpa using hown, fun q hq => ?_, Nat.le_trans h.out.top ht.size⟩
  have hq2 : at_ W (fun b => lo ≤ b ∧ ∀ g, v.ownBlock = some g → b ≠ g) q := by
    rcases List.mem_append.1 hq with hq | hq
    · exact h.out.kids q hq
    · exact hp q hq
  refine hm _ _ _ _ _ q hq2 ht (fun b hb hc => hb.2 b hc rfl) (fun b hb hlt => ⟨hb.1, fun g hg2 he => ?_⟩)
  rcases hex g hg2 with h1 | h1
  · exact hb.2 g h1 he
  · omega
end
theorem wpList_append_forms (w : World) {ops : Array Oper} {rest : List Oper} {o : Oper} {a : Act} {Q : Exit → Act → World → Prop}
    (hg : o.guard = none) (s x : Operand) (hop : o.op = Op.call { callee := Callee.builtin Builtin.append, args := #[s, x], argTypes := #[23, 23] })
    (pv : Option Addr) (k cv : Nat) (ps : List (Fm × Value × Value)) (hs : a.eval s = .slice pv k cv) (hkc : k ≤ cv) (O : Hid (Own w 0 45 4 fmEnc fmAt (.slice pv k cv) k ps)) (l : List Fm) (p : Option Addr) (c : Nat) (hx : a.eval x = .slice p l.length c)
    (hl : FormsAt w (fun b => ∀ g, (Value.slice pv k cv).ownBlock = some g → b ≠ g) l (.slice p l.length c)) (kl : Nat) (hkl : kl = k + l.length) (hb : kl ≤ 100000)
    (hK : ∀ p' c' qs w', kl ≤ c' → qs.map (·.1) = l → Hid (Own w' 0 45 4 fmEnc fmAt (.slice p' kl c') kl (ps ++ qs)) → Turned (fun j => (Value.slice pv k cv).ownBlock = some j) w w' → (∀ g, (Value.slice p' kl c').ownBlock = some g → (Value.slice pv k cv).ownBlock = some g ∨ w.heap.size ≤ g) → wpList Tryz.prog ops Q rest (a.put o.dst (.slice p' kl c')) w') :
    wpList Tryz.prog ops Q (o :: rest) a w := by
  obtain ⟨i0, hif, hz0, hz1, hz2⟩ := info_parts infoForm
  subst hkl
  refine wpList_plain hg fun K hK' => ?_
  by_cases hne : l = []
  · subst hne
    have hrun := run_append_zero (P := Tryz.prog) w 23 o.type 45 i0 Tryz.underlying23 hif pv k cv hkc p c
    unfold Oper.wp
    simp [execOp, hop, resolve, invoke, builtin, hs, hx, hrun, Result.andThen]
    have h := hK pv cv [] w (by simpa using hkc) rfl (by simpa using O) (Turned.refl _ _) (fun g hg => .inl hg)
    simp only [List.length_nil, Nat.add_zero] at h
    exact hK' _ _ h
  · obtain ⟨b, ad, qs, rfl, h1, h2, h3⟩ := forms_list hl hne
    have hlen : qs.length = l.length := by rw [← h1, List.length_map]
    have hfl : ∀ qs : List (Fm × Value × Value), (qs.flatMap fmEnc).length = qs.length * 4 := fun qs => by
      induction qs with
      | nil => rfl
      | cons q qs ih => rw [List.flatMap_cons, List.length_append, ih, List.length_cons]; show 4 + _ = _; omega
    obtain ⟨v', w', hrun, r1, r2, r3⟩ := run_append_exact (P := Tryz.prog) w 0 23 o.type 45 i0 (.agg #[.string ⟨#[]⟩, .slice none 0 0, .slice none 0 0, (.int .i64 0)]) 4 72 Tryz.underlying23 hif hz0 hz1 hz2 rfl (by decide) (.slice pv k cv) k (ps.flatMap fmEnc) O.out.own ⟨b, ad, none⟩ l.length c (qs.flatMap fmEnc)
      (by rw [hfl, hlen]) (fun j u hj => by rw [Addr.add_lit]; exact h2 j u hj) (fun u hu => by
        obtain ⟨q, hq0, hq⟩ := List.mem_flatMap.1 hu
        obtain ⟨pa, ca, ea⟩ := (h3 q hq0).1.shape
        obtain ⟨pb, cb, eb⟩ := (h3 q hq0).2.shape
        simp only [fmEnc, fmV, ea, eb, List.mem_cons, List.not_mem_nil, or_false] at hq
        rcases hq with rfl | rfl | rfl | rfl <;> rfl) (by unfold maxLen; omega) (by omega) (Nat.zero_le _)
    have hO : Hid (Own w' 0 45 4 fmEnc fmAt v' (k + l.length) (ps ++ qs)) := Own.grownL O fmMov (fun q hq => fmMov _ _ _ _ (fun _ => False) _ (h3 q hq) (Turned.refl _ _) (fun _ _ => id) (fun b hb _ => ⟨Nat.zero_le _, hb⟩)) r2 r1 r3
    have hpos : 0 < l.length := List.length_pos_iff.2 hne
    obtain ⟨m, hm⟩ : ∃ m, k + l.length = m + 1 := ⟨k + l.length - 1, by omega⟩
    obtain ⟨g', cap', rfl⟩ := ownsRow_succ (by rw [← hm]; exact hO.out.own)
    have hcap : k + l.length ≤ cap' := by
      rcases hO.out.own.2 with ⟨h, -⟩ | ⟨g2, cap2, cur, h, -, -, h5, -⟩
      · cases h
      · simp only [Value.slice.injEq] at h; omega
    rw [← hm] at hO hrun
    unfold Oper.wp
    simp [execOp, hop, resolve, invoke, builtin, hs, hx, hrun, Result.andThen]
    exact hK' _ _ (hK _ _ qs w' hcap h1 hO (Turned.of_grown r2 fun _ h => h) r3)
end Go.Proofs.YtjijdgkccfeeaaaGreatDoor
namespace Go.Proofs.YtjijdgkccfeeaaaGreatDoor
open Go Go.Proofs
def Tok.strip (t : Tok) : Int × ByteArray × Int := (t.kind, t.s, t.n)
theorem strip_shift (d : Nat) (ts : List Tok) : (ts.map (Tok.shift d)).map Tok.strip = ts.map Tok.strip := by
  rw [List.map_map]; rfl
def Zok (z y : List UInt8) : Prop := Breaks z ∧ ∀ c, (c = true → y = []) → blankL c z = z.length ∧ modeA c z = false
theorem blank_true {l : List UInt8} (h : blankL true l = 0) : l = [] := by
  cases l with
  | nil => rfl
  | cons b l => simp only [blankL] at h; split at h <;> omega
theorem Breaks.app {z : List UInt8} (h : Breaks z) (y : List UInt8) : Breaks (z ++ y) := by
  obtain ⟨c, z', rfl, hc⟩ := h
  exact ⟨c, z' ++ y, rfl, hc⟩
theorem skip_at0 {l z : List UInt8} {d : Nat} (h : blankL false l = d) (hz : Zok z (l.drop d)) (k : Nat) : srcT (l.take d ++ z ++ l.drop d) k = lexA (l.drop d) (k + d + z.length) := by
  have hd2 : d ≤ l.length := by have := blankL_le false l; omega
  have hl : (l.take d).length = d := by simp; omega
  have hx : blankL false (l.take d) = (l.take d).length := by rw [blankL_take _ _ _ (by omega), hl, h]
  have h1 := blank_all false (l.take d) (z ++ l.drop d) hx
  have h0 := blank_all false (l.take d) (l.drop d) hx
  rw [List.take_append_drop, h, hl] at h0
  rw [hl] at h1
  generalize modeA false (l.take d) = m at h0 h1
  have hm : m = true → l.drop d = [] := fun hm => by subst hm; exact blank_true (by omega)
  obtain ⟨z1, z2⟩ := hz.2 m hm
  have h2 := blank_all m z (l.drop d) z1
  rw [z2] at h2
  have h3 : blankL false (l.drop d) = 0 := by
    cases m with
    | false => omega
    | true => rw [hm rfl]; rfl
  unfold srcT
  rw [List.append_assoc, h1, h2, h3, Nat.add_zero]
  congr 1
  · rw [← List.drop_drop, List.drop_left' hl, List.drop_left]
  · omega
theorem skip_in {l z : List UInt8} {d : Nat} (h : blankL false l < d) (hd2 : d ≤ l.length) (k : Nat) :
    srcT (l.take d ++ z ++ l.drop d) k = lexA ((l.drop (blankL false l)).take (d - blankL false l) ++ z ++ (l.drop (blankL false l)).drop (d - blankL false l)) (k + blankL false l) := by
  have hl : (l.take d).length = d := by simp; omega
  have hx : blankL false (l.take d) = blankL false l := blankL_take _ _ _ (by omega)
  have h1 := blank_stop false (l.take d) (z ++ l.drop d) (by omega)
  unfold srcT
  rw [List.append_assoc, h1, hx]
  congr 1
  rw [List.drop_append_of_le_length (by omega), List.drop_take, List.append_assoc, List.drop_drop, show blankL false l + (d - blankL false l) = d by omega]
theorem textL_at (k0 : Nat) (t : Tok) (tt : Nat) (l : List UInt8) (j : Nat) (b : List UInt8) (h : textL k0 l j b = .tok t tt) : t.at_ = k0 := by
  fun_induction textL k0 l j b <;> simp_all
  all_goals (obtain ⟨rfl, -⟩ := h; rfl)
theorem sgn_at {l : List UInt8} {t : Tok} {tt : Nat} : ∀ ps, sgnL l ps = .tok t tt → t.at_ = 0
  | [], h => by
    unfold sgnL at h
    split at h
    · cases h; rfl
    · cases h
  | p :: ps, h => by
    unfold sgnL at h
    split at h
    · cases h; rfl
    · exact sgn_at ps h
theorem head_at {l : List UInt8} {t : Tok} {tt : Nat} (h : headT l = .tok t tt) : t.at_ = 0 := by
  cases l with
  | nil => rw [head_nil] at h; cases h
  | cons b l =>
    rcases heads b with hb | hb | hb | ⟨hb, hb2⟩
    · rw [head_name hb] at h
      split at h
      · cases h
      · cases h; rfl
    · rw [head_num hb] at h
      unfold numOf at h
      split at h
      · split at h
        · cases h
        · cases h; rfl
      · cases h
    · subst hb
      rw [head_text] at h
      exact textL_at _ _ _ _ _ _ h
    · rw [head_sign hb hb2] at h
      exact sgn_at _ (orChar_tok h)
theorem lexA_fill (l : List UInt8) : ∀ (k : Nat) (ts : List Tok) (j : Nat) (t : Tok), lexA l k = .ok ts → ts[j]? = some t → ∃ d : Nat, t.at_ = k + d ∧ d ≤ l.length ∧ (j = 0 → d = 0) ∧ (0 < j → 0 < d ∧ ∀ z, Zok z (l.drop d) → ∃ us, lexA (l.take d ++ z ++ l.drop d) k = .ok us ∧ us.map Tok.strip = ts.map Tok.strip) := by
  induction l using lex_ind with
  | nil =>
    intro k ts j t h ht
    rw [lexA_nil] at h
    cases h
    cases j with
    | zero => simp at ht; subst ht; exact ⟨0, by simp, by simp, fun _ => rfl, fun h => by omega⟩
    | succ j => simp at ht
  | err l c hl h => intro k ts j t h2; rw [lexA_err hl h] at h2; cases h2
  | none l hl h => intro k ts j t h2; rw [lexA_none hl h] at h2; cases h2
  | tok l t0 tt h h0 h1 ih =>
    intro k ts j t h2 ht
    rw [lexA_tok h] at h2
    obtain ⟨us, hus, rfl⟩ := cons_ok h2
    have hb := blankL_le false (l.drop tt)
    simp only [List.length_drop] at hb
    cases j with
    | zero =>
      simp at ht; subst ht
      exact ⟨0, by simp [Tok.shift, head_at h], by omega, fun _ => rfl, fun h => by omega⟩
    | succ j =>
      simp at ht
      obtain ⟨d2, a1, a2, a3, a4⟩ := ih _ us j t hus ht
      simp only [List.length_drop] at a2
      refine ⟨tt + blankL false (l.drop tt) + d2, by rw [a1]; omega, by omega, fun h => by omega, fun _ => ⟨by omega, fun z hz => ?_⟩⟩
      have e1 : l.drop (tt + blankL false (l.drop tt) + d2) = (l.drop tt).drop (blankL false (l.drop tt) + d2) := by rw [List.drop_drop]; congr 1; omega
      have e2 : (l.take (tt + blankL false (l.drop tt) + d2)).drop tt = (l.drop tt).take (blankL false (l.drop tt) + d2) := by rw [List.drop_take]; congr 1; omega
      have hl3 : (l.take (tt + blankL false (l.drop tt) + d2)).length = tt + blankL false (l.drop tt) + d2 := by simp; omega
      have hh : headT (l.take (tt + blankL false (l.drop tt) + d2) ++ z ++ l.drop (tt + blankL false (l.drop tt) + d2)) = .tok t0 tt := by
        have e3 := head_take h (m := tt + blankL false (l.drop tt) + d2) (by omega)
        rw [List.append_assoc, head_append ?_ (hz.1.app _) (.inl ⟨_, _, e3⟩), e3]
        intro h9
        rw [h9] at hl3
        simp at hl3; omega
      rw [lexA_tok hh, List.append_assoc, List.drop_append_of_le_length (by omega), e2, e1, ← List.append_assoc]
      rw [e1] at hz
      rcases Nat.eq_zero_or_pos j with hj | hj
      · obtain rfl := a3 hj
        rw [Nat.add_zero] at hz ⊢
        rw [skip_at0 rfl hz, lexA_shift]
        have : lexA ((l.drop tt).drop (blankL false (l.drop tt))) (k + tt + blankL false (l.drop tt)) = .ok us := hus
        rw [this]
        exact ⟨_, rfl, by simp only [List.map_cons]; rw [strip_shift]⟩
      · obtain ⟨b1, b2⟩ := a4 hj
        rw [skip_in (by omega) (by simp; omega), show blankL false (l.drop tt) + d2 - blankL false (l.drop tt) = d2 by omega]
        obtain ⟨vs, c1, c2⟩ := b2 z (by rw [List.drop_drop]; exact hz)
        rw [c1]
        exact ⟨_, rfl, by simp only [List.map_cons]; rw [c2]⟩
theorem srcT_fill {l : List UInt8} {ts : List Tok} {j : Nat} {t : Tok} (h : srcT l 0 = .ok ts) (ht : ts[j]? = some t) : ∃ d : Nat, t.at_ = d ∧ d ≤ l.length ∧ ∀ z, Zok z (l.drop d) → ∃ us, srcT (l.take d ++ z ++ l.drop d) 0 = .ok us ∧ us.map Tok.strip = ts.map Tok.strip := by
  have hb := blankL_le false l
  obtain ⟨d2, a1, a2, a3, a4⟩ := lexA_fill _ _ ts j t h ht
  simp only [List.length_drop] at a2
  refine ⟨blankL false l + d2, by rw [a1]; simp, by omega, fun z hz => ?_⟩
  rcases Nat.eq_zero_or_pos j with hj | hj
  · obtain rfl := a3 hj
    rw [Nat.add_zero] at hz ⊢
    rw [skip_at0 rfl hz, lexA_shift]
    have : lexA (l.drop (blankL false l)) (0 + blankL false l) = .ok ts := h
    rw [this]
    exact ⟨_, rfl, strip_shift _ _⟩
  · obtain ⟨b1, b2⟩ := a4 hj
    rw [skip_in (by omega) (by omega), show blankL false l + d2 - blankL false l = d2 by omega]
    exact b2 z (by rw [List.drop_drop]; exact hz)
theorem comment_ok : ∀ (put : List UInt8), (∀ b ∈ put, b ≠ 10) → blankL true (put ++ [10]) = put.length + 1 ∧ modeA true (put ++ [10]) = false
  | [], _ => by constructor <;> rfl
  | b :: put, h => by
    obtain ⟨h1, h2⟩ := comment_ok put fun x hx => h x (List.mem_cons_of_mem _ hx)
    have hb := h b (List.mem_cons_self ..)
    simp only [blankL, List.cons_append, modeA, List.length_cons]
    rw [if_neg hb, if_neg hb, h1, h2]
    exact ⟨rfl, rfl⟩
theorem zok_put (put : List UInt8) (h : ∀ b ∈ put, b ≠ 10) {y : List UInt8} (hy : y ≠ []) : Zok (35 :: (put ++ [10])) y := by
  refine ⟨⟨35, _, rfl, by simp⟩, fun c hc => ?_⟩
  cases c with
  | true => exact absurd (hc rfl) hy
  | false =>
    obtain ⟨h1, h2⟩ := comment_ok put h
    simp only [blankL, modeA]
    rw [if_neg (by decide), if_pos trivial, if_neg (by decide), h1, h2]
    simp
theorem zok_one {z y : List UInt8} (hz : z = [32] ∨ z = [9, 13] ∨ z = [10]) (hy : y ≠ []) : Zok z y := by
  refine ⟨?_, fun c hc => ?_⟩
  · rcases hz with rfl | rfl | rfl
    · exact ⟨_, _, rfl, by simp⟩
    · exact ⟨_, _, rfl, by simp⟩
    · exact ⟨_, _, rfl, by simp⟩
  · cases c with
    | true => exact absurd (hc rfl) hy
    | false => rcases hz with rfl | rfl | rfl <;> exact ⟨by decide, by decide⟩
theorem zok_line {z : List UInt8} (h : blankL false z = z.length ∧ modeA false z = false) : Zok (10 :: z) [] := by
  refine ⟨⟨10, z, rfl, by simp⟩, fun c _ => ?_⟩
  cases c with
  | true => simp only [blankL, modeA]; rw [if_pos trivial, if_pos trivial, h.1]; exact ⟨rfl, h.2⟩
  | false => simp only [blankL, modeA]; rw [if_pos (by decide), if_pos (by decide), h.1]; exact ⟨rfl, h.2⟩
theorem Zok.flat {z y : List UInt8} (h : Zok z y) : blankL false z = z.length ∧ modeA false z = false := h.2 false fun h => by cases h
end Go.Proofs.YtjijdgkccfeeaaaGreatDoor
