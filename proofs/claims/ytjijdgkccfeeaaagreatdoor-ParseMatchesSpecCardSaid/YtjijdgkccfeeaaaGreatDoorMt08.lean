/- Part 8 of the proof of lawMatches.card: ParSameV, ParPrE, ParWalkC. Conditions: those of each theorem. -/
import Derived.Test.YtjijdgkccfeeaaaGreatDoorMt01
import Derived.Test.YtjijdgkccfeeaaaGreatDoorMt04
import Derived.Test.YtjijdgkccfeeaaaGreatDoorMt05
import Derived.Test.YtjijdgkccfeeaaaGreatDoorMt07
namespace Go.Proofs.YtjijdgkccfeeaaaGreatDoor
open Go Go.Proofs Go.RowKit
attribute [local go_sem] Oper.semAt_some
def arA (x : Ar) (k : Value) : Value := .agg #[(.int .i64 (x.kind)), (.int .i64 (x.n)), .string x.s, (.int .i64 (x.e.op)), (.int .i64 (x.e.n)), .string x.e.s, k, (.int .i64 (x.e.at_)), (.int .i64 (x.at_))]
def fmA (x : Fm) (a b : Value) : Value := .agg #[.string x.word, a, b, (.int .i64 (x.at_))]
theorem ArgsAt.len {W : World} {N : Nat → Prop} {l : List Ar} {v : Value} (h : ArgsAt W N l v) : l.length ≤ maxLen := by
  cases h with
  | nil => simp
  | some _ _ _ _ _ _ hl => exact hl
theorem FormsAt.len {W : World} {N : Nat → Prop} {l : List Fm} {v : Value} (h : FormsAt W N l v) : l.length ≤ maxLen := by
  cases h with
  | nil => simp
  | some _ _ _ _ _ _ _ hl => exact hl
theorem argsAt_get {W : World} {N : Nat → Prop} {l : List Ar} {p : Option Addr} {n c i : Nat} {x : Ar} (h : ArgsAt W N l (.slice p n c)) (hi : l[i]? = some x) :
    ∃ b a k, p = some ⟨b, a, none⟩ ∧ (W.cell? ⟨b, a + i * 9, none⟩ = some (.int .i64 (x.kind)) ∧ W.cell? ⟨b, a + i * 9 + 1, none⟩ = some (.int .i64 (x.n)) ∧ W.cell? ⟨b, a + i * 9 + 2, none⟩ = some (.string x.s) ∧ W.cell? ⟨b, a + i * 9 + 3, none⟩ = some (.int .i64 (x.e.op)) ∧ W.cell? ⟨b, a + i * 9 + 4, none⟩ = some (.int .i64 (x.e.n)) ∧ W.cell? ⟨b, a + i * 9 + 5, none⟩ = some (.string x.e.s) ∧ W.cell? ⟨b, a + i * 9 + 6, none⟩ = some k ∧ W.cell? ⟨b, a + i * 9 + 7, none⟩ = some (.int .i64 (x.e.at_)) ∧ W.cell? ⟨b, a + i * 9 + 8, none⟩ = some (.int .i64 (x.at_))) ∧ KidsAt W N x.e.kids k := by
  cases h with
  | nil => simp at hi
  | some _ b a c k hN hl hcell hk =>
    have hlt := lt_of_some hi
    have hc := hcell i hlt
    simp only [hi, arV] at hc
    exact ⟨b, a, k i, rfl, ⟨hc 0 _ rfl, hc 1 _ rfl, hc 2 _ rfl, hc 3 _ rfl, hc 4 _ rfl, hc 5 _ rfl, hc 6 _ rfl, hc 7 _ rfl, hc 8 _ rfl⟩, hk i x hi⟩
theorem formsAt_get {W : World} {N : Nat → Prop} {l : List Fm} {p : Option Addr} {n c i : Nat} {x : Fm} (h : FormsAt W N l (.slice p n c)) (hi : l[i]? = some x) :
    ∃ b a k m, p = some ⟨b, a, none⟩ ∧ (W.cell? ⟨b, a + i * 4, none⟩ = some (.string x.word) ∧ W.cell? ⟨b, a + i * 4 + 1, none⟩ = some k ∧ W.cell? ⟨b, a + i * 4 + 2, none⟩ = some m ∧ W.cell? ⟨b, a + i * 4 + 3, none⟩ = some (.int .i64 (x.at_))) ∧ ArgsAt W N x.args k ∧ FormsAt W N x.body m := by
  cases h with
  | nil => simp at hi
  | some _ b a c k m hN hl hcell ha hb =>
    have hlt := lt_of_some hi
    have hc := hcell i hlt
    simp only [hi, fmV] at hc
    exact ⟨b, a, k i, m i, rfl, ⟨hc 0 _ rfl, hc 1 _ rfl, hc 2 _ rfl, hc 3 _ rfl⟩, ha i x hi, hb i x hi⟩
theorem ArgsAt.all {W W' : World} {N : Nat → Prop} {l : List Ar} {v : Value} (h : ArgsAt W N l v) (ht : Turned (fun _ => False) W W') : ArgsAt W' (fun _ => True) l v := h.move ht (fun _ _ => id) (fun _ _ _ => trivial)
theorem FormsAt.all {W W' : World} {N : Nat → Prop} {l : List Fm} {v : Value} (h : FormsAt W N l v) (ht : Turned (fun _ => False) W W') : FormsAt W' (fun _ => True) l v := h.move ht (fun _ _ => id) (fun _ _ _ => trivial)
theorem sameAs_no {o : Bool} {xs ys : List Ar} {i : Nat} {x y : Ar} (hx : xs[i]? = some x) (hy : ys[i]? = some y) (h : sameA o x y = false) : sameAs o xs ys = false := by
  cases hh : sameAs o xs ys with
  | false => rfl
  | true => rw [((sameAs_iff o xs ys).1 hh).2 i x y hx hy] at h; cases h
theorem sameAs_len {o : Bool} {xs ys : List Ar} (h : xs.length ≠ ys.length) : sameAs o xs ys = false := by
  cases hh : sameAs o xs ys with
  | false => rfl
  | true => exact absurd ((sameAs_iff o xs ys).1 hh).1 h
def SameToA (o : Bool) (xs ys : List Ar) (i : Nat) : Prop := ∀ (j : Nat) (x y : Ar), j < i → xs[j]? = some x → ys[j]? = some y → sameA o x y = true
theorem SameToA.succ {o : Bool} {xs ys : List Ar} {i : Nat} {x y : Ar} (h : SameToA o xs ys i) (hx : xs[i]? = some x) (hy : ys[i]? = some y) (hs : sameA o x y = true) : SameToA o xs ys (i + 1) := fun j u v hj hu hv => by
  rcases Nat.lt_or_ge j i with h1 | h1
  · exact h j u v h1 hu hv
  · obtain rfl : j = i := by omega
    rw [hx] at hu; rw [hy] at hv; cases hu; cases hv; exact hs
theorem SameToA.done {o : Bool} {xs ys : List Ar} (h : SameToA o xs ys xs.length) (hl : xs.length = ys.length) : sameAs o xs ys = true := (sameAs_iff o xs ys).2 ⟨hl, fun i x y hx hy => h i x y (lt_of_some hx) hx hy⟩
theorem sameFs_no {o : Bool} {xs ys : List Fm} {i : Nat} {x y : Fm} (hx : xs[i]? = some x) (hy : ys[i]? = some y) (h : sameF o x y = false) : sameFs o xs ys = false := by
  cases hh : sameFs o xs ys with
  | false => rfl
  | true => rw [((sameFs_iff o xs ys).1 hh).2 i x y hx hy] at h; cases h
theorem sameFs_len {o : Bool} {xs ys : List Fm} (h : xs.length ≠ ys.length) : sameFs o xs ys = false := by
  cases hh : sameFs o xs ys with
  | false => rfl
  | true => exact absurd ((sameFs_iff o xs ys).1 hh).1 h
def SameToF (o : Bool) (xs ys : List Fm) (i : Nat) : Prop := ∀ (j : Nat) (x y : Fm), j < i → xs[j]? = some x → ys[j]? = some y → sameF o x y = true
theorem SameToF.succ {o : Bool} {xs ys : List Fm} {i : Nat} {x y : Fm} (h : SameToF o xs ys i) (hx : xs[i]? = some x) (hy : ys[i]? = some y) (hs : sameF o x y = true) : SameToF o xs ys (i + 1) := fun j u v hj hu hv => by
  rcases Nat.lt_or_ge j i with h1 | h1
  · exact h j u v h1 hu hv
  · obtain rfl : j = i := by omega
    rw [hx] at hu; rw [hy] at hv; cases hu; cases hv; exact hs
theorem SameToF.done {o : Bool} {xs ys : List Fm} (h : SameToF o xs ys xs.length) (hl : xs.length = ys.length) : sameFs o xs ys = true := (sameFs_iff o xs ys).2 ⟨hl, fun i x y hx hy => h i x y (lt_of_some hx) hx hy⟩
set_option maxRecDepth 20000 in
set_option maxHeartbeats 4000000 in
theorem sameArg_any (x y : Ar) (a b : Value) (w : World) (hx : KidsAt w (fun _ => True) x.e.kids a) (hy : KidsAt w (fun _ => True) y.e.kids b) : Calls Tryz.prog 48 #[arA x a, arA y b] w fun e w' => e = .returned (.bool (sameA false x y)) ∧ Turned (fun _ => False) w w' := by
  have HE := Lib.hid (fun (W : World) (hW : Turned (fun _ => False) w W) => sameExpr_any _ x.e (Nat.le_refl _) y.e a b W (hx.all hW) (hy.all hW))
  obtain ⟨pa, ca, rfl⟩ := hx.shape
  obtain ⟨pb, cb, rfl⟩ := hy.shape
  clear hx hy
  have HX := Lib.hid (show sameA false x y = (x.kind == y.kind && (!false || x.at_ == y.at_) && (!(x.kind == 1 || x.kind == 3) || x.s.data.toList == y.s.data.toList) && (x.kind != 2 || x.n == y.n) && (x.kind != 5 || sameX false x.e y.e)) from rfl)
  generalize sameA false x y = r at HX ⊢
  obtain ⟨k, n, s, e, at_⟩ := x
  obtain ⟨k', n', s', e', at'⟩ := y
  obtain ⟨op, en, es, ks, ea⟩ := e
  obtain ⟨op', en', es', ls, ea'⟩ := e'
  simp only [arA, Ex.op, Ex.n, Ex.s, Ex.at_, Ex.kids, exA] at HE HX ⊢
  generalize sameX false (.mk op en es ks ea) (.mk op' en' es' ls ea') = q at HX HE
  by_cases h0 : k = k'
  · subst h0
    by_cases h1 : k = 1
    · subst h1
      have HR : Hid (r = (s.data.toList == s'.data.toList)) := by show _ = _; rw [HX.out]; simp
      clear HX HE
      go_enter Tryz.func48, Tryz.ntmps48
      go_wp2_with fail
      go_ret
      rw [HR.out]
      exact ⟨by simp [ByteArray.toList_eq], ((Turned.refl _ _).alloc _).alloc _⟩
    · by_cases h3 : k = 3
      · subst h3
        have HR : Hid (r = (s.data.toList == s'.data.toList)) := by show _ = _; rw [HX.out]; simp
        clear HX HE
        go_enter Tryz.func48, Tryz.ntmps48
        go_wp2_with fail
        go_ret
        rw [HR.out]
        exact ⟨by simp [ByteArray.toList_eq], ((Turned.refl _ _).alloc _).alloc _⟩
      · by_cases h2 : k = 2
        · subst h2
          have HR : Hid (r = (n == n')) := by show _ = _; rw [HX.out]; simp
          clear HX HE
          go_enter Tryz.func48, Tryz.ntmps48
          go_wp2_with fail
          go_ret
          rw [HR.out]
          exact ⟨rfl, ((Turned.refl _ _).alloc _).alloc _⟩
        · by_cases h5 : k = 5
          · subst h5
            have HR : Hid (r = q) := by show _ = _; rw [HX.out]; simp
            clear HX
            go_enter Tryz.func48, Tryz.ntmps48
            go_wp2_with (go_at_call 16; refine (HE.out _ (((Turned.refl _ _).alloc _).alloc _)).mono ?_; rintro e w' ⟨rfl, hT⟩)
            go_ret
            rw [HR.out]
            exact ⟨rfl, (((Turned.refl _ _).alloc _).alloc _).trans hT⟩
          · have b1 : (k == 1) = false := by simpa using h1
            have b2 : (k == 2) = false := by simpa using h2
            have b3 : (k == 3) = false := by simpa using h3
            have b5 : (k == 5) = false := by simpa using h5
            have HR : Hid (r = true) := by show _ = _; rw [HX.out]; simp [h1, h2, h3, h5]
            clear HX HE h1 h2 h3 h5
            go_enter Tryz.func48, Tryz.ntmps48
            go_wp2_with fail
            go_ret
            rw [HR.out]
            exact ⟨rfl, ((Turned.refl _ _).alloc _).alloc _⟩
  · have hb : (k != k') = true := by simpa using h0
    have HR : Hid (r = false) := by show _ = _; rw [HX.out]; simp [h0]
    clear HX HE h0
    go_enter Tryz.func48, Tryz.ntmps48
    go_wp2_with fail
    go_ret
    rw [HR.out]
    exact ⟨rfl, ((Turned.refl _ _).alloc _).alloc _⟩
set_option maxHeartbeats 2000000 in
theorem eqArg_any (xs ys : List Ar) (u v : Value) (N : Nat → Prop) (w : World) (hx : ArgsAt w N xs u) (hy : ArgsAt w N ys v) :
    Calls Tryz.prog 47 #[u, v, .func (Fn.func 48) #[] #[]] w fun e w' => e = .returned (.bool (sameAs false xs ys)) ∧ Turned (fun _ => False) w w' := by
  have hlx := hx.len
  have hly := hy.len
  obtain ⟨pu, cu, rfl⟩ := hx.shape
  obtain ⟨pv, cv, rfl⟩ := hy.shape
  have HX := Lib.hid hx
  have HY := Lib.hid hy
  unfold maxLen at hlx hly
  clear hx hy
  by_cases hl : xs.length = ys.length
  · have HL := Lib.hid hl
    obtain ⟨n, hn⟩ : ∃ n, n = xs.length := ⟨_, rfl⟩
    have HN := Lib.hid hn
    have HN2 : Hid (n = ys.length) := Lib.hid (hn.trans hl)
    rw [← hl, ← hn]
    rw [← hn] at hlx
    clear hl hly hn
    go_enter Tryz.func47, Tryz.ntmps47
    go_wp2_with fail
    go_loopw [17] (fun c wr => ∃ i : Nat, i ≤ n ∧ c = (.int .i64 i) ∧ Hid (Turned (fun _ => False) w wr ∧ SameToA false xs ys i)) (fun c _ => n - (intOf c).toNat)
    case atStart => exact ⟨0, by omega, rfl, Lib.hid ⟨Turned.refl _ _, fun j x y hj => by omega⟩⟩
    case round =>
      obtain ⟨i, hi, rfl, HO⟩ := hrel
      by_cases hlt : i < n
      · obtain ⟨x, hx⟩ := some_of_lt (show i < xs.length by rw [← HN.out]; exact hlt)
        obtain ⟨y, hy⟩ := some_of_lt (show i < ys.length by rw [← HN2.out]; exact hlt)
        obtain ⟨bx, ax, kx, rfl, ⟨x0, x1, x2, x3, x4, x5, x6, x7, x8⟩, HKx⟩ := argsAt_get (HX.out.all HO.out.1) hx
        obtain ⟨by_, ay, ky, rfl, ⟨y0, y1, y2, y3, y4, y5, y6, y7, y8⟩, HKy⟩ := argsAt_get (HY.out.all HO.out.1) hy
        obtain ⟨px, cpx, rfl⟩ := HKx.shape
        obtain ⟨py, cpy, rfl⟩ := HKy.shape
        have lx := cell_lt x0
        have ly := cell_lt y0
        have HC : Hid (∀ W, Turned (fun _ => False) wr W → Calls Tryz.prog 48 #[.agg #[(.int .i64 (x.kind)), (.int .i64 (x.n)), .string x.s, (.int .i64 (x.e.op)), (.int .i64 (x.e.n)), .string x.e.s, .slice px x.e.kids.length cpx, (.int .i64 (x.e.at_)), (.int .i64 (x.at_))], .agg #[(.int .i64 (y.kind)), (.int .i64 (y.n)), .string y.s, (.int .i64 (y.e.op)), (.int .i64 (y.e.n)), .string y.e.s, .slice py y.e.kids.length cpy, (.int .i64 (y.e.at_)), (.int .i64 (y.at_))]] W fun e w' => e = .returned (.bool (sameA false x y)) ∧ Turned (fun _ => False) W w') :=
          Lib.hid fun W hW => sameArg_any x y _ _ W (HKx.all hW) (HKy.all hW)
        have HT : Hid (sameA false x y = true → SameToA false xs ys (i + 1)) := Lib.hid fun h => HO.out.2.succ hx hy h
        have HU : Hid (sameA false x y = false → sameAs false xs ys = false) := Lib.hid fun h => sameAs_no hx hy h
        clear hx hy HKx HKy
        generalize sameA false x y = r at HC HT HU
        cases r with
        | true =>
          have HT2 := Lib.hid (HT.out rfl)
          clear HT HU
          go_wp2_with (go_at_call 48; refine (HC.out _ (((Turned.refl _ _).alloc _).alloc _)).mono ?_; rintro e w' ⟨rfl, hT⟩)
          go_roundw
          case rel => exact ⟨i + 1, by omega, by go_num, Lib.hid ⟨HO.out.1.trans ((((Turned.refl _ _).alloc _).alloc _).trans hT), HT2.out⟩⟩
          case measure => simp [intOf]; omega
        | false =>
          have HU2 := Lib.hid (HU.out rfl)
          clear HT HU
          go_wp2_with (go_at_call 48; refine (HC.out _ (((Turned.refl _ _).alloc _).alloc _)).mono ?_; rintro e w' ⟨rfl, hT⟩)
          go_ret
          rw [HU2.out]
          exact ⟨rfl, HO.out.1.trans ((((Turned.refl _ _).alloc _).alloc _).trans hT)⟩
      · obtain rfl : i = n := by omega
        have HS : Hid (sameAs false xs ys = true) := Lib.hid (SameToA.done (by rw [← HN.out]; exact HO.out.2) HL.out)
        go_wp2_with fail
        go_ret
        rw [HS.out]
        exact ⟨rfl, HO.out.1⟩
  · have hl2 : (xs.length : Int) ≠ (ys.length : Int) := by omega
    have HS := Lib.hid (sameAs_len (o := false) hl)
    clear hl
    have hb : ((xs.length : Int) != (ys.length : Int)) = true := by simpa using hl2
    clear hl2
    go_enter Tryz.func47, Tryz.ntmps47
    go_wp2_with fail
    go_ret
    rw [HS.out]
    exact ⟨rfl, Turned.refl _ _⟩
set_option maxHeartbeats 2000000 in
theorem eqForm_of (xs ys : List Fm) (u v : Value) (N : Nat → Prop) (w : World) (hx : FormsAt w N xs u) (hy : FormsAt w N ys v)
    (HE : ∀ x ∈ xs, ∀ y a b c d W, ArgsAt W (fun _ => True) x.args a → FormsAt W (fun _ => True) x.body b → ArgsAt W (fun _ => True) y.args c → FormsAt W (fun _ => True) y.body d → Calls Tryz.prog 46 #[fmA x a b, fmA y c d] W fun e w' => e = .returned (.bool (sameF false x y)) ∧ Turned (fun _ => False) W w') :
    Calls Tryz.prog 45 #[u, v, .func (Fn.func 46) #[] #[]] w fun e w' => e = .returned (.bool (sameFs false xs ys)) ∧ Turned (fun _ => False) w w' := by
  have hlx := hx.len
  have hly := hy.len
  obtain ⟨pu, cu, rfl⟩ := hx.shape
  obtain ⟨pv, cv, rfl⟩ := hy.shape
  have HX := Lib.hid hx
  have HY := Lib.hid hy
  have HF := Lib.hid HE
  unfold maxLen at hlx hly
  clear hx hy HE
  by_cases hl : xs.length = ys.length
  · have HL := Lib.hid hl
    obtain ⟨n, hn⟩ : ∃ n, n = xs.length := ⟨_, rfl⟩
    have HN := Lib.hid hn
    have HN2 : Hid (n = ys.length) := Lib.hid (hn.trans hl)
    rw [← hl, ← hn]
    rw [← hn] at hlx
    clear hl hly hn
    go_enter Tryz.func45, Tryz.ntmps45
    go_wp2_with fail
    go_loopw [17] (fun c wr => ∃ i : Nat, i ≤ n ∧ c = (.int .i64 i) ∧ Hid (Turned (fun _ => False) w wr ∧ SameToF false xs ys i)) (fun c _ => n - (intOf c).toNat)
    case atStart => exact ⟨0, by omega, rfl, Lib.hid ⟨Turned.refl _ _, fun j x y hj => by omega⟩⟩
    case round =>
      obtain ⟨i, hi, rfl, HO⟩ := hrel
      by_cases hlt : i < n
      · obtain ⟨x, hx⟩ := some_of_lt (show i < xs.length by rw [← HN.out]; exact hlt)
        obtain ⟨y, hy⟩ := some_of_lt (show i < ys.length by rw [← HN2.out]; exact hlt)
        obtain ⟨bx, ax, kx, mx, rfl, ⟨x0, x1, x2, x3⟩, HKx, HMx⟩ := formsAt_get (HX.out.all HO.out.1) hx
        obtain ⟨by_, ay, ky, my, rfl, ⟨y0, y1, y2, y3⟩, HKy, HMy⟩ := formsAt_get (HY.out.all HO.out.1) hy
        obtain ⟨px, cx, rfl⟩ := HKx.shape
        obtain ⟨qx, dx, rfl⟩ := HMx.shape
        obtain ⟨py, cy, rfl⟩ := HKy.shape
        obtain ⟨qy, dy, rfl⟩ := HMy.shape
        have lx := cell_lt x0
        have ly := cell_lt y0
        have HC : Hid (∀ W, Turned (fun _ => False) wr W → Calls Tryz.prog 46 #[.agg #[.string x.word, .slice px x.args.length cx, .slice qx x.body.length dx, (.int .i64 (x.at_))], .agg #[.string y.word, .slice py y.args.length cy, .slice qy y.body.length dy, (.int .i64 (y.at_))]] W fun e w' => e = .returned (.bool (sameF false x y)) ∧ Turned (fun _ => False) W w') :=
          Lib.hid fun W hW => HF.out x (List.mem_of_getElem? hx) y _ _ _ _ W (HKx.all hW) (HMx.all hW) (HKy.all hW) (HMy.all hW)
        have HT : Hid (sameF false x y = true → SameToF false xs ys (i + 1)) := Lib.hid fun h => HO.out.2.succ hx hy h
        have HU : Hid (sameF false x y = false → sameFs false xs ys = false) := Lib.hid fun h => sameFs_no hx hy h
        clear hx hy HKx HMx HKy HMy
        generalize sameF false x y = r at HC HT HU
        cases r with
        | true =>
          have HT2 := Lib.hid (HT.out rfl)
          clear HT HU
          go_wp2_with (go_at_call 46; refine (HC.out _ (((Turned.refl _ _).alloc _).alloc _)).mono ?_; rintro e w' ⟨rfl, hT⟩)
          go_roundw
          case rel => exact ⟨i + 1, by omega, by go_num, Lib.hid ⟨HO.out.1.trans ((((Turned.refl _ _).alloc _).alloc _).trans hT), HT2.out⟩⟩
          case measure => simp [intOf]; omega
        | false =>
          have HU2 := Lib.hid (HU.out rfl)
          clear HT HU
          go_wp2_with (go_at_call 46; refine (HC.out _ (((Turned.refl _ _).alloc _).alloc _)).mono ?_; rintro e w' ⟨rfl, hT⟩)
          go_ret
          rw [HU2.out]
          exact ⟨rfl, HO.out.1.trans ((((Turned.refl _ _).alloc _).alloc _).trans hT)⟩
      · obtain rfl : i = n := by omega
        have HS : Hid (sameFs false xs ys = true) := Lib.hid (SameToF.done (by rw [← HN.out]; exact HO.out.2) HL.out)
        go_wp2_with fail
        go_ret
        rw [HS.out]
        exact ⟨rfl, HO.out.1⟩
  · have hl2 : (xs.length : Int) ≠ (ys.length : Int) := by omega
    have HS := Lib.hid (sameFs_len (o := false) hl)
    clear hl
    have hb : ((xs.length : Int) != (ys.length : Int)) = true := by simpa using hl2
    clear hl2
    go_enter Tryz.func45, Tryz.ntmps45
    go_wp2_with fail
    go_ret
    rw [HS.out]
    exact ⟨rfl, Turned.refl _ _⟩
theorem two_old {w w' : World} {a b c d a' b' c' d' : Value} {t u : TypeId} (h : Turned (fun _ => False) ((w.alloc (.cells #[a, b, c, d] t)).alloc (.cells #[a', b', c', d'] u)) w') : w'.cell? ⟨w.heap.size, 2, none⟩ = some c ∧ w'.cell? ⟨w.heap.size + 1, 2, none⟩ = some c' := by
  refine ⟨cell_turned h id ?_, cell_turned h id ?_⟩
  · show (match ((w.alloc _).alloc _).heap[w.heap.size]? with | some (.cells c _ _) => c[2]? | _ => none) = some c
    rw [hao _ _ (by simp), heap_alloc_new]
    rfl
  · have : w.heap.size + 1 = (w.alloc (.cells #[a, b, c, d] t)).heap.size := by simp
    rw [this]
    show (match ((w.alloc _).alloc _).heap[(w.alloc _).heap.size]? with | some (.cells c _ _) => c[2]? | _ => none) = some c'
    rw [heap_alloc_new]
    rfl
theorem fm_kid_lt {x : Fm} {l : List Fm} (h : x ∈ l) (s : ByteArray) (zs : List Ar) (a : Int) : SizeOf.sizeOf x < SizeOf.sizeOf (Fm.mk s zs l a) := by
  have := List.sizeOf_lt_of_mem h
  simp only [Fm.mk.sizeOf_spec]
  omega
set_option maxRecDepth 20000 in
set_option maxHeartbeats 4000000 in
theorem sameF_any : ∀ (m : Nat) (x : Fm), SizeOf.sizeOf x ≤ m → ∀ (y : Fm) (a b c d : Value) (w : World), ArgsAt w (fun _ => True) x.args a → FormsAt w (fun _ => True) x.body b → ArgsAt w (fun _ => True) y.args c → FormsAt w (fun _ => True) y.body d → Calls Tryz.prog 46 #[fmA x a b, fmA y c d] w fun e w' => e = .returned (.bool (sameF false x y)) ∧ Turned (fun _ => False) w w'
  | 0, .mk s zs fs at_, hm => by simp only [Fm.mk.sizeOf_spec] at hm; omega
  | m + 1, .mk s zs fs at_, hm => by
    intro y a b c d w h1 h2 h3 h4
    obtain ⟨t, bs, gs, bt⟩ := y
    simp only [Fm.args, Fm.body] at h1 h2 h3 h4
    have HA := Lib.hid (fun (W : World) (hW : Turned (fun _ => False) w W) => eqArg_any zs bs a c _ W (h1.all hW) (h3.all hW))
    have HB : Hid (∀ (W : World) (hW : Turned (fun _ => False) w W), Calls Tryz.prog 24 #[b, d] W fun e w' => e = .returned (.bool (sameFs false fs gs)) ∧ Turned (fun _ => False) W w') := Lib.hid fun W hW => by
      have HE := Lib.hid (eqForm_of fs gs b d _ W (h2.all hW) (h4.all hW) (fun x hx => sameF_any m x (by have := fm_kid_lt hx s zs at_; omega)))
      obtain ⟨pb, cb, rfl⟩ := h2.shape
      obtain ⟨pd, cd, rfl⟩ := h4.shape
      go_enter Tryz.func24, Tryz.ntmps24
      go_wp2_with (go_at_call 45; refine HE.out.mono ?_; rintro e w' ⟨rfl, hT⟩)
      go_ret
      exact ⟨rfl, hT⟩
    have HX := Lib.hid (show sameF false (.mk s zs fs at_) (.mk t bs gs bt) = (s.data.toList == t.data.toList && (!false || at_ == bt) && sameAs false zs bs && sameFs false fs gs) from by rw [sameF])
    obtain ⟨pa, ca, rfl⟩ := h1.shape
    obtain ⟨pb, cb, rfl⟩ := h2.shape
    obtain ⟨pc, cc, rfl⟩ := h3.shape
    obtain ⟨pd, cd, rfl⟩ := h4.shape
    clear h1 h2 h3 h4
    simp only [fmA, Fm.word, Fm.at_]
    generalize sameF false (.mk s zs fs at_) (.mk t bs gs bt) = r at HX ⊢
    generalize sameAs false zs bs = q at HX HA
    generalize sameFs false fs gs = z at HX HB
    by_cases hs : s = t
    · subst hs
      cases q with
      | true =>
        have HR : Hid (r = z) := by show _ = _; rw [HX.out]; simp
        have HZ := Lib.hid (fun w' (hT : Turned (fun _ => False) ((w.alloc (.cells #[.string s, .slice pa zs.length ca, .slice pb fs.length cb, (.int .i64 at_)] 45)).alloc (.cells #[.string s, .slice pc bs.length cc, .slice pd gs.length cd, (.int .i64 bt)] 45)) w') => two_old hT)
        clear HX
        go_enter Tryz.func46, Tryz.ntmps46
        go_wp2_with (first | (go_at_call 47; refine (HA.out _ (((Turned.refl _ _).alloc _).alloc _)).mono ?_; rintro e w' ⟨rfl, hT⟩; obtain ⟨z1, z2⟩ := HZ.out _ hT) | (go_at_call 24; refine (HB.out _ ((((Turned.refl _ _).alloc _).alloc _).trans hT)).mono ?_; rintro e w7 ⟨rfl, hT2⟩))
        go_ret
        rw [HR.out]
        exact ⟨rfl, ((((Turned.refl _ _).alloc _).alloc _).trans hT).trans hT2⟩
      | false =>
        have HR : Hid (r = false) := by show _ = _; rw [HX.out]; simp
        clear HX HB
        go_enter Tryz.func46, Tryz.ntmps46
        go_wp2_with (go_at_call 47; refine (HA.out _ (((Turned.refl _ _).alloc _).alloc _)).mono ?_; rintro e w' ⟨rfl, hT⟩)
        go_ret
        rw [HR.out]
        exact ⟨rfl, (((Turned.refl _ _).alloc _).alloc _).trans hT⟩
    · have HR : Hid (r = false) := by show _ = _; rw [HX.out, bytes_ne hs]; simp
      have hb : (s.toList == t.toList) = false := by rw [ByteArray.toList_eq, ByteArray.toList_eq]; exact bytes_ne hs
      clear HX HA HB
      go_enter Tryz.func46, Tryz.ntmps46
      go_wp2_with fail
      go_ret
      rw [HR.out]
      exact ⟨rfl, ((Turned.refl _ _).alloc _).alloc _⟩
theorem same_any (xs ys : List Fm) (u v : Value) (N : Nat → Prop) (w : World) (hx : FormsAt w N xs u) (hy : FormsAt w N ys v) : Calls Tryz.prog 24 #[u, v] w fun e w' => e = .returned (.bool (sameFs false xs ys)) ∧ Turned (fun _ => False) w w' := by
  have HE := Lib.hid (eqForm_of xs ys u v _ w hx hy (fun x _ => sameF_any _ x (Nat.le_refl _)))
  obtain ⟨pb, cb, rfl⟩ := hx.shape
  obtain ⟨pd, cd, rfl⟩ := hy.shape
  go_enter Tryz.func24, Tryz.ntmps24
  go_wp2_with (go_at_call 45; refine HE.out.mono ?_; rintro e w' ⟨rfl, hT⟩)
  go_ret
  exact ⟨rfl, hT⟩
end Go.Proofs.YtjijdgkccfeeaaaGreatDoor
namespace Go.Proofs.YtjijdgkccfeeaaaGreatDoor
open Go Go.Proofs Go.RowKit
attribute [local go_sem] Oper.semAt_some
structure XF (B eb : Nat) (x : Fm) (a b : Value) (w : World) (ts : List Tok) (bad : Bool) (W : World) : Prop where
  ps : PrS B ts bad W
  tr : PrT B w W
  box : W.heap[eb]? = some (.cells #[.string x.word, a, b, (.int .i64 (x.at_))] 45 (0, 0))
  fr : Free B W eb
  args : ArgsAt W (fun b => b < B) x.args a
  body : FormsAt W (fun b => b < B) x.body b
structure XG (B eb : Nat) (x : Ar) (k : Value) (w : World) (ts : List Tok) (bad : Bool) (W : World) : Prop where
  ps : PrS B ts bad W
  tr : PrT B w W
  box : W.heap[eb]? = some (.cells #[(.int .i64 (x.kind)), (.int .i64 (x.n)), .string x.s, (.int .i64 (x.e.op)), (.int .i64 (x.e.n)), .string x.e.s, k, (.int .i64 (x.e.at_)), (.int .i64 (x.at_))] 48 (0, 0))
  fr : Free B W eb
  kids : KidsAt W (fun b => b < B) x.e.kids k
section
variable {B eb : Nat} {x : Fm} {y : Ar} {a b k : Value} {w W W' : World} {ts us : List Tok} {bad bad' : Bool}
theorem XF.start (h : PrS B ts bad w) (ha : ArgsAt w (fun b => b < B) x.args a) (hb : FormsAt w (fun b => b < B) x.body b) : XF B w.heap.size x a b w ts bad (w.alloc (.cells #[.string x.word, a, b, (.int .i64 (x.at_))] 45)) := by
  have ht : Turned (fun _ => False) w (w.alloc (.cells #[.string x.word, a, b, (.int .i64 (x.at_))] 45)) := (Turned.refl _ _).alloc _
  obtain ⟨h1, h2⟩ := h.same ht
  exact ⟨h1, h2, heap_alloc_new _ _, h.fresh ht (Nat.le_refl _), ha.move ht (fun _ _ => id) (fun _ hb _ => hb), hb.move ht (fun _ _ => id) (fun _ hb _ => hb)⟩
theorem XF.call (h : Hid (XF B eb x a b w ts bad W)) (hp : PrS B us bad' W') (ht : PrT B W W') : Hid (XF B eb x a b w us bad' W') := by
  obtain ⟨h1, h2⟩ := keepBox ⟨h.out.box, h.out.fr⟩ ht
  exact Lib.hid ⟨hp, h.out.tr.trans ht, h1, h2, h.out.args.move ht.turned (fun b hb hn => hn (h.out.ps.data hb)) (fun _ hb _ => hb), h.out.body.move ht.turned (fun b hb hn => hn (h.out.ps.data hb)) (fun _ hb _ => hb)⟩
theorem XF.same (h : Hid (XF B eb x a b w ts bad W)) (ht : Turned (fun _ => False) W W') : Hid (XF B eb x a b w ts bad W') := by
  obtain ⟨h1, h2⟩ := h.out.ps.same ht
  exact XF.call h h1 h2
theorem XF.cells (h : Hid (XF B eb x a b w ts bad W)) : W.cell? ⟨eb, 0, none⟩ = some (.string x.word) ∧ W.cell? ⟨eb, 1, none⟩ = some a ∧ W.cell? ⟨eb, 2, none⟩ = some b ∧ W.cell? ⟨eb, 3, none⟩ = some (.int .i64 (x.at_)) := by
  have hb := h.out.box
  simp [World.cell?, hb]
theorem XG.start (h : PrS B ts bad w) (ha : KidsAt w (fun b => b < B) y.e.kids k) : XG B w.heap.size y k w ts bad (w.alloc (.cells #[(.int .i64 (y.kind)), (.int .i64 (y.n)), .string y.s, (.int .i64 (y.e.op)), (.int .i64 (y.e.n)), .string y.e.s, k, (.int .i64 (y.e.at_)), (.int .i64 (y.at_))] 48)) := by
  have ht : Turned (fun _ => False) w (w.alloc (.cells #[(.int .i64 (y.kind)), (.int .i64 (y.n)), .string y.s, (.int .i64 (y.e.op)), (.int .i64 (y.e.n)), .string y.e.s, k, (.int .i64 (y.e.at_)), (.int .i64 (y.at_))] 48)) := (Turned.refl _ _).alloc _
  obtain ⟨h1, h2⟩ := h.same ht
  exact ⟨h1, h2, heap_alloc_new _ _, h.fresh ht (Nat.le_refl _), ha.move ht (fun _ _ => id) (fun _ hb _ => hb)⟩
theorem XG.call (h : Hid (XG B eb y k w ts bad W)) (hp : PrS B us bad' W') (ht : PrT B W W') : Hid (XG B eb y k w us bad' W') := by
  obtain ⟨h1, h2⟩ := keepBox ⟨h.out.box, h.out.fr⟩ ht
  exact Lib.hid ⟨hp, h.out.tr.trans ht, h1, h2, h.out.kids.move ht.turned (fun b hb hn => hn (h.out.ps.data hb)) (fun _ hb _ => hb)⟩
theorem XG.cells (h : Hid (XG B eb y k w ts bad W)) : W.cell? ⟨eb, 0, none⟩ = some (.int .i64 (y.kind)) ∧ W.cell? ⟨eb, 1, none⟩ = some (.int .i64 (y.n)) ∧ W.cell? ⟨eb, 2, none⟩ = some (.string y.s) ∧ W.cell? ⟨eb, 3, none⟩ = some (.int .i64 (y.e.op)) ∧ W.cell? ⟨eb, 4, none⟩ = some (.int .i64 (y.e.n)) ∧ W.cell? ⟨eb, 5, none⟩ = some (.string y.e.s) ∧ W.cell? ⟨eb, 6, none⟩ = some k ∧ W.cell? ⟨eb, 7, none⟩ = some (.int .i64 (y.e.at_)) := by
  have hb := h.out.box
  simp [World.cell?, hb]
end
theorem PrS.setBad {B : Nat} {W : World} {ts : List Tok} {bad : Bool} (h : PrS B ts bad W) (c : Bool) : W.frozen? ⟨B, 1, none⟩ = false ∧ W.cell? ⟨B, 1, none⟩ = some (.bool bad) ∧ PrS B ts c (W.setCell ⟨B, 1, none⟩ (.bool c)) ∧ PrT B W (W.setCell ⟨B, 1, none⟩ (.bool c)) := by
  obtain ⟨v, h0, h1⟩ := h
  have ht : Turned (fun j => j = B) W (W.setCell ⟨B, 1, none⟩ (.bool c)) := (Turned.refl (fun j => j = B) W).setCell (p := ⟨B, 1, none⟩) rfl _
  have hb := (set_bad h0 (.bool c)).2
  refine ⟨free_of_box h0 1, (pr_cells h0).2, ⟨v, hb, ownsRow_turned ht (fun k hk => by omega) h1⟩, ht.os, ht.tape, ht.output, ht.size, fun b hlt hf => ⟨ht.block b hlt hf.1, hf.1, fun u y hu => ?_⟩⟩
  rw [hb] at hu
  cases hu
  exact hf.2 v _ h0
end Go.Proofs.YtjijdgkccfeeaaaGreatDoor
namespace Go.Proofs.YtjijdgkccfeeaaaGreatDoor
open Go Go.Proofs Go.RowKit
attribute [local go_sem] Oper.semAt_some
def XR (B g cap : Nat) (ts : List Tok) (nf : Int) (w : World) (r : PR Ex) (e : Ending) (w' : World) : Prop :=
  match r with
  | .ok x j => ∃ p c, e = .returned (.agg #[(.int .i64 (x.op)), (.int .i64 (x.n)), .string x.s, .slice p x.kids.length c, (.int .i64 (x.at_))]) ∧ KidsAt w' (fun b => w.heap.size ≤ b) x.kids (.slice p x.kids.length c) ∧ PS B g cap ts w' j nf ∧ Turned (fun b => b = B) w w'
  | .err j c => e = .panicked [stopE ts j c] ∧ Turned (fun b => b = B) w w'
structure Hyp (B g cap : Nat) (ts : List Tok) (f : Nat) : Prop where
  expr : ∀ (m : Nat) (k : Nat) (d : Int) (r : PR Ex) (w : World) (nf : Int), m < f → 0 ≤ d → d ≤ 31 → runF ts m .expr k d = some r → PS B g cap ts w k nf → Calls Tryz.prog 31 #[.pointer (some ⟨B, 0, none⟩), (.int .i64 d)] w (XR B g cap ts nf w r)
  level : ∀ (m n : Nat) (z : Int) (k : Nat) (d : Int) (r : PR Ex) (w : World) (nf : Int), m < f → z = n → 1 ≤ n → n ≤ 7 → 0 ≤ d → d ≤ 30 → runF ts m (.level n) k d = some r → PS B g cap ts w k nf → Calls Tryz.prog 57 #[.pointer (some ⟨B, 0, none⟩), (.int .i64 z), (.int .i64 d)] w (XR B g cap ts nf w r)
  neg : ∀ (m : Nat) (k : Nat) (d : Int) (r : PR Ex) (w : World) (nf : Int), m < f → 0 ≤ d → d ≤ 30 → runF ts m .neg k d = some r → PS B g cap ts w k nf → Calls Tryz.prog 88 #[.pointer (some ⟨B, 0, none⟩), (.int .i64 d)] w (XR B g cap ts nf w r)
  atom : ∀ (m : Nat) (k : Nat) (d : Int) (r : PR Ex) (w : World) (nf : Int), m < f → 0 ≤ d → d ≤ 30 → (∀ t, ts[k]? = some t → isS t ⟨#[45]⟩ = false) → runF ts m .atom k d = some r → PS B g cap ts w k nf → Calls Tryz.prog 114 #[.pointer (some ⟨B, 0, none⟩), (.int .i64 d)] w (XR B g cap ts nf w r)
theorem expr_size : (Tryz.prog.info? 31).map (·.size) = some 5 := by kernel_rfl
theorem results_ex {fn : Func} {i : Nat} (hf : fn.results = #[ResultVar.cell i 31]) (tmps : Array Value) (w : World) (b : Nat) (x y z u v : Value) (hp : tmps.getD i undef = .pointer (some ⟨b, 0, none⟩)) (hg : w.heap[b]? = some (.cells #[x, y, z, u, v] 31 (0, 0))) :
    (results fn tmps).run Tryz.prog w = .ok (.agg #[x, y, z, u, v]) w := by
  have hp' : tmps[i]?.getD undef = .pointer (some ⟨b, 0, none⟩) := by simpa using hp
  simp [results, hf, hp', asAddr, run_loadVar_row w b 31 31 #[x, y, z, u, v] (0, 0) _ hg Tryz.underlying31 rfl expr_size]
set_option maxRecDepth 20000 in
set_option maxHeartbeats 2000000 in
theorem neg_step {B g cap : Nat} {ts : List Tok} {f : Nat} (IH : Hyp B g cap ts f) (m : Nat) (k : Nat) (d : Int) (r : PR Ex) (w : World) (nf : Int) (hm : m ≤ f) (hd0 : 0 ≤ d) (hd : d ≤ 30) (hr : runF ts m .neg k d = some r) (h : PS B g cap ts w k nf) :
    Calls Tryz.prog 88 #[.pointer (some ⟨B, 0, none⟩), (.int .i64 d)] w (XR B g cap ts nf w r) := by
  obtain ⟨t, ht⟩ := some_of_lt h.lt
  obtain ⟨m, rfl⟩ : ∃ m', m = m' + 1 := by
    cases m with
    | zero => simp [runF] at hr
    | succ m' => exact ⟨m', rfl⟩
  unfold runF at hr
  simp only [ht] at hr
  have S0 := SP.start h
  by_cases hs : isS t ⟨#[45]⟩ = true
  · have hk1 := h.ok.sign ht hs
    obtain ⟨u, hu⟩ := some_of_lt hk1
    rw [if_pos hs] at hr
    simp only [hu] at hr
    have hf := field_tok1
    go_enter Tryz.func88, Tryz.ntmps88
    go_wp2_with fail
    obtain ⟨W1, b1, hW, hb, S1⟩ := SP.box S0 (.cells #[(.int .i64 0), (.int .i64 0), .string ⟨#[]⟩, .slice none 0 0, (.int .i64 0)] 31)
    rw [← hW, ← hb]
    clear hW hb S0
    refine (is_ps S1.out.ps ht _).mono ?_
    rintro e W2 ⟨rfl, rfl⟩
    go_wp2_with fail
    refine (next_ps S1.out.ps ht hk1).mono ?_
    rintro e W2 ⟨rfl, hp, ht2⟩
    have S2 := SP.call S1 ht2 hp
    clear S1 hp ht2
    go_wp2_with fail
    refine (deep_ps S2.out.ps hu _ _).mono ?_
    rintro e W3 ⟨hD, rfl⟩
    cases hfp : firstP u (d + 1) false with
    | some c =>
      rw [hfp] at hr hD
      cases hr
      obtain rfl : e = .panicked [stopE ts (k + 1) c] := hD
      exact ⟨rfl, rfl, S2.out.tur⟩
    | none =>
      rw [hfp] at hr hD
      obtain rfl : e = .returned (.tuple #[]) := hD
      have hd2 : d + 1 ≤ 30 := by
        unfold firstP at hfp
        split at hfp
        · cases hfp
        · split at hfp
          · cases hfp
          · omega
      clear hfp
      go_wp2_with fail
      rcases PR.then_some hr with ⟨j, c, h1, rfl⟩ | ⟨x, j, h1, h2⟩
      · refine (IH.neg m (k + 1) (d + 1) _ _ nf (by omega) (by omega) hd2 h1 S2.out.ps).mono ?_
        intro e W4 hx
        obtain ⟨rfl, ht2⟩ := hx
        exact ⟨rfl, rfl, S2.out.tur.trans ht2⟩
      · cases h2
        refine (IH.neg m (k + 1) (d + 1) _ _ nf (by omega) (by omega) hd2 h1 S2.out.ps).mono ?_
        intro e W4 hx
        obtain ⟨p, c, rfl, hk, hp, ht2⟩ := hx
        have S3 := SP.callK S2 ht2 hp hk
        clear S2 hk hp ht2
        obtain ⟨p1, p2, p3⟩ := SP.boxAt S3 0 rfl
        have q := free_of_box p1
        obtain ⟨c0, c1, c2, c3, c4⟩ := cellsFive p1
        go_wp2_with fail
        have S4 := SP.put S3 0 rfl (five_turned W4 b1 (.int .i64 6) (.int .i64 0) (.string ⟨#[]⟩) (.slice (some ⟨W4.heap.size, 0, none⟩) 1 1) (.int .i64 (t.at_))) (five_set p1)
        obtain ⟨W6, bk, hW, hb, S5⟩ := SP.box S4 (.cells #[(.int .i64 (x.op)), (.int .i64 (x.n)), .string x.s, .slice p x.kids.length c, (.int .i64 (x.at_))] 31)
        have hb2 : bk = W4.heap.size := by rw [hb]; simp
        rw [← hb2] at hW S5 ⊢
        rw [← hW]
        refine bodyPost_ret (results_ex rfl _ _ b1 (.int .i64 6) (.int .i64 0) (.string ⟨#[]⟩) (.slice (some ⟨bk, 0, none⟩) 1 1) (.int .i64 (t.at_)) rfl (SP.boxAt S5 1 rfl).1) rfl ?_
        have S6 := SP.adopt S5 [(x, .slice p x.kids.length c)] rfl (by simp) 1
        exact ⟨some ⟨bk, 0, none⟩, 1, rfl, SP.kidAt S6 0 rfl, S6.out.ps, S6.out.tur⟩
  · have hs : isS t ⟨#[45]⟩ = false := by simpa using hs
    rw [if_neg (by rw [hs]; decide)] at hr
    go_enter Tryz.func88, Tryz.ntmps88
    go_wp2_with fail
    obtain ⟨W1, b1, hW, hb, S1⟩ := SP.box S0 (.cells #[(.int .i64 0), (.int .i64 0), .string ⟨#[]⟩, .slice none 0 0, (.int .i64 0)] 31)
    rw [← hW, ← hb]
    clear hW hb S0
    refine (is_ps S1.out.ps ht _).mono ?_
    rintro e W2 ⟨rfl, rfl⟩
    go_wp2_with fail
    refine (IH.atom m k d r _ nf (by omega) hd0 hd (fun t' ht' => by rw [ht] at ht'; cases ht'; exact hs) hr S1.out.ps).mono ?_
    intro e W3 hx
    cases r with
    | err j c =>
      obtain ⟨rfl, ht2⟩ := hx
      exact ⟨rfl, rfl, S1.out.tur.trans ht2⟩
    | ok x j =>
      obtain ⟨p, c, rfl, hk, hp, ht2⟩ := hx
      have S2 := SP.callK S1 ht2 hp hk
      clear S1 hk hp ht2
      obtain ⟨p1, p2, p3⟩ := SP.boxAt S2 0 rfl
      have q := free_of_box p1
      obtain ⟨c0, c1, c2, c3, c4⟩ := cellsFive p1
      go_wp2_with fail
      have S3 := SP.put S2 0 rfl (five_turned _ _ (.int .i64 (x.op)) (.int .i64 (x.n)) (.string x.s) (.slice p x.kids.length c) (.int .i64 (x.at_))) (five_set p1)
      refine bodyPost_ret (results_ex rfl _ _ b1 (.int .i64 (x.op)) (.int .i64 (x.n)) (.string x.s) (.slice p x.kids.length c) (.int .i64 (x.at_)) rfl (five_set p1)) rfl ?_
      exact ⟨p, c, rfl, SP.kidAt S3 0 rfl, S3.out.ps, S3.out.tur⟩
end Go.Proofs.YtjijdgkccfeeaaaGreatDoor
