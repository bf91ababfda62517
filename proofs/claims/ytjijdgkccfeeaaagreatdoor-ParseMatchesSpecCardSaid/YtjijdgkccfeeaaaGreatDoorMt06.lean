/- Part 6 of the proof of lawMatches.card: ParPrB, ParPrC, LexWalkD. Conditions: those of each theorem. -/
import Derived.Maps.OwnOps
import Derived.StillTailTactics
import Derived.Lib.SmallJoins
import Derived.Shelf.Strconv.AtoiAll
import Derived.Test.YtjijdgkccfeeaaaGreatDoorMt01
import Derived.Test.YtjijdgkccfeeaaaGreatDoorMt03
import Derived.Test.YtjijdgkccfeeaaaGreatDoorMt05
namespace Go.Proofs.YtjijdgkccfeeaaaGreatDoor
open Go Go.Proofs Go.RowKit Go.Maps
attribute [local go_sem] Oper.semAt_some
theorem wpList_insert_own {H : Type} {P : Program} (w : World) {ops : Array Oper} {rest : List Oper} {o : Oper} {a : Act} {Q : Exit → Act → World → Prop}
    (hg : o.guard = none) (m x v : Operand) (t : TypeId) (hop : o.op = Op.insert t m x v)
    (k e : TypeId) (K : Keyed P k) (ht : P.underlying t = some (.map k e)) (R : Value → Option (DataW H × List MemPlace)) (b n : Nat) (D : DataW H)
    (hm : a.eval m = .map (some b)) (hown : w.ownsMap P k R b n D) (hn : n < maxLen) (key val : Value) (kl : Lit) (hx : a.eval x = key) (hv : a.eval v = val) (hkey : keyOf P k key = some kl)
    (d : DataW H) (ps : List MemPlace) (hval : R val = some (d, ps))
    (hK : ∀ w', w'.ownsMap P k R b (n + 1) (D.put kl d) → w.grownBy w' (some b) → wpList P ops Q rest (a.put o.dst undef) w') :
    wpList P ops Q (o :: rest) a w := by
  refine wpList_plain hg fun K' hK' => ?_
  obtain ⟨w', hrun, r1, r2⟩ := hown.update K ht hn hkey hval
  unfold Oper.wp
  simp [execOp, hop, hm, hx, hv, hrun, Result.andThen]
  exact hK' _ _ (hK w' r1 r2)
def opOf (op : Int) : Option Nat := opRows.findIdx? fun r => r.2.1 == op
set_option maxRecDepth 20000 in
set_option maxHeartbeats 1000000 in
theorem exprE_pr (op : Int) (eb : Nat) (w : World) (he : w.cell? ⟨eb, 0, none⟩ = some (.int .i64 op)) (s : ByteArray) (o : Int) (lv : Nat) :
    Calls Tryz.prog 77 #[.agg #[.string s, (.int .i64 o), (.int .i64 ((lv : Nat)))], .pointer (some ⟨eb, 0, none⟩)] w fun e w' => e = .returned (.bool (o == op)) ∧ Turned (fun _ => False) w w' := by
  have hlt := cell_lt he
  go_enter Tryz.func77, Tryz.ntmps77
  go_wp2_with fail
  go_ret
  exact ⟨rfl, (Turned.refl _ _).alloc _⟩
structure OJ (op : Int) (w : World) (i : Nat) (wr : World) : Prop where
  tur : Turned (fun _ => False) w wr
  no : ∀ j r, j < i → opRows[j]? = some r → (r.2.1 == op) = false
theorem OJ.found {op : Int} {w wr : World} {i : Nat} {r : ByteArray × Int × Nat} (h : OJ op w i wr) (hr : opRows[i]? = some r) (hy : (r.2.1 == op) = true) : opOf op = some i := by
  unfold opOf
  rw [List.findIdx?_eq_some_iff_getElem]
  obtain ⟨h1, h2⟩ := List.getElem?_eq_some_iff.1 hr
  refine ⟨h1, by rw [h2]; exact hy, fun j hj => ?_⟩
  have h3 := h.no j opRows[j] hj (List.getElem?_eq_getElem (by omega))
  rw [h3]; decide
theorem OJ.next {op : Int} {w wr wr' : World} {i : Nat} {r : ByteArray × Int × Nat} (h : OJ op w i wr) (hr : opRows[i]? = some r) (hy : (r.2.1 == op) = false) (hT : Turned (fun _ => False) wr wr') : OJ op w (i + 1) wr' :=
  ⟨h.tur.trans hT, fun j r hj hjr => by
    rcases Nat.lt_or_ge j i with h1 | h1
    · exact h.no j r h1 hjr
    · obtain rfl : j = i := by omega
      rw [hr] at hjr; cases hjr; exact hy⟩
theorem OJ.none {op : Int} {w wr : World} (h : OJ op w 13 wr) : opOf op = .none := by
  unfold opOf
  rw [List.findIdx?_eq_none_iff]
  intro x hx
  obtain ⟨j, hj, rfl⟩ := List.mem_iff_getElem.1 hx
  have h3 := h.no j opRows[j] (by simpa [opRows] using hj) (List.getElem?_eq_getElem hj)
  rw [h3]
set_option maxRecDepth 20000 in
set_option maxHeartbeats 2000000 in
theorem indexE_pr (op : Int) (eb gb : Nat) (w : World) (he : w.cell? ⟨eb, 0, none⟩ = some (.int .i64 op)) (hr : RowAt w gb 0 3 13 opRow) :
    Calls Tryz.prog 75 #[.slice (some ⟨gb, 0, none⟩) 13 13, .func (Fn.func 77) #[] #[.pointer (some ⟨eb, 0, none⟩)]] w fun e w' => e = .returned (.int .i64 (idxI (opOf op))) ∧ Turned (fun _ => False) w w' := by
  have HR := Lib.hid hr
  have HC := Lib.hid (fun (W : World) (hT : Turned (fun _ => False) w W) (s : ByteArray) (o : Int) (lv : Nat) => exprE_pr op eb W (cell_turned hT id he) s o lv)
  clear hr he
  go_enter Tryz.func75, Tryz.ntmps75
  go_wp2_with fail
  go_loopw [8] (fun u wr => ∃ i : Nat, i ≤ 13 ∧ u = (.int .i64 i) ∧ Hid (OJ op w i wr)) (fun u _ => 13 - (intOf u).toNat)
  case atStart => exact ⟨0, by omega, rfl, Lib.hid ⟨Turned.refl _ _, fun j r hj => by omega⟩⟩
  case round =>
    obtain ⟨i, hi, rfl, HO⟩ := hrel
    by_cases hlt : i < 13
    · obtain ⟨r, hr⟩ := some_of_lt (show i < opRows.length by simpa [opRows] using hlt)
      obtain ⟨rs, ro, rl⟩ := r
      have hrow := HR.out.turned HO.out.tur id i hlt
      simp only [opRow, hr, binV, Nat.zero_add] at hrow
      have q0 : wr.cell? ⟨gb, i * 3, none⟩ = some (.string rs) := hrow 0 _ rfl
      have q1 : wr.cell? ⟨gb, i * 3 + 1, none⟩ = some (.int .i64 ro) := hrow 1 _ rfl
      have q2 : wr.cell? ⟨gb, i * 3 + 2, none⟩ = some (.int .i64 ((rl : Nat))) := hrow 2 _ rfl
      have HCr := Lib.hid (HC.out wr HO.out.tur rs ro rl)
      have HY : Hid ((ro == op) = true → opOf op = some i) := Lib.hid fun hy => HO.out.found hr hy
      have HN : Hid ((ro == op) = false → ∀ wr', Turned (fun _ => False) wr wr' → OJ op w (i + 1) wr') := Lib.hid fun hy wr' hT => HO.out.next hr hy hT
      clear hr hrow
      generalize (ro == op) = m at HCr HY HN
      cases m with
      | true =>
        have HYX : Hid (idxI (opOf op) = i) := by show _ = _; rw [HY.out rfl]; rfl
        clear HY HN
        go_wp2_with (go_at_call 77; refine HCr.out.mono ?_; rintro e w' ⟨rfl, hT⟩)
        go_ret
        rw [HYX.out]
        exact ⟨rfl, HO.out.tur.trans hT⟩
      | false =>
        have HNX := Lib.hid (HN.out rfl)
        clear HY HN
        go_wp2_with (go_at_call 77; refine HCr.out.mono ?_; rintro e w' ⟨rfl, hT⟩)
        go_roundw
        case rel => exact ⟨i + 1, by omega, by go_num, Lib.hid (HNX.out _ hT)⟩
        case measure => simp [intOf]; omega
    · obtain rfl : i = 13 := by omega
      have HE : Hid (idxI (opOf op) = -1) := by show _ = _; rw [HO.out.none]; rfl
      go_wp2_with fail
      go_ret
      rw [HE.out]
      exact ⟨rfl, HO.out.tur⟩
theorem lvlOp_found {op : Int} {i : Nat} {r : ByteArray × Int × Nat} (h : opOf op = some i) (hr : opRows[i]? = some r) : (opRows.find? fun r => r.2.1 == op) = some r := by
  unfold opOf at h
  rw [List.findIdx?_eq_some_iff_getElem] at h
  obtain ⟨h1, h2, h3⟩ := h
  rw [List.find?_eq_some_iff_getElem]
  obtain ⟨h4, h5⟩ := List.getElem?_eq_some_iff.1 hr
  rw [h5] at h2
  refine ⟨h2, i, h1, h5, fun j hj => ?_⟩
  have := h3 j hj
  simpa using this
theorem lvlOp_none {op : Int} (h : opOf op = none) : (opRows.find? fun r => r.2.1 == op) = none := by
  unfold opOf at h
  rw [List.findIdx?_eq_none_iff] at h
  rw [List.find?_eq_none]
  intro x hx
  rw [h x hx]; decide
set_option maxRecDepth 20000 in
set_option maxHeartbeats 2000000 in
theorem level_pr (x : Ex) (a : Value) (N : Nat → Prop) (w : World) (hk : KidsAt w N x.kids a) : Calls Tryz.prog 106 #[exA x a] w fun e w' => e = .returned (.int .i64 ((lvlX x.op : Nat))) ∧ Turned (fun _ => False) w w' := by
  obtain ⟨pa, ca, rfl⟩ := hk.shape
  clear hk
  obtain ⟨op, n, s, ks, at_⟩ := x
  simp only [exA, Ex.op, Ex.n, Ex.s, Ex.at_, Ex.kids]
  by_cases h20 : op = 20
  · subst h20
    go_enter Tryz.func106, Tryz.ntmps106
    go_wp2_with fail
    go_ret
    exact ⟨rfl, (Turned.refl _ _).alloc _⟩
  · by_cases h5 : op = 5
    · subst h5
      go_enter Tryz.func106, Tryz.ntmps106
      go_wp2_with fail
      go_ret
      exact ⟨rfl, (Turned.refl _ _).alloc _⟩
    · by_cases h6 : op = 6
      · subst h6
        go_enter Tryz.func106, Tryz.ntmps106
        go_wp2_with fail
        go_ret
        exact ⟨rfl, (Turned.refl _ _).alloc _⟩
      · have HL : Hid (lvlX op = match opRows.find? fun r => r.2.1 == op with | some r => r.2.2 | none => 8) := Lib.hid (by rw [lvlX, if_neg h20, if_neg h5, if_neg h6]; rfl)
        have b20 : (op == 20) = false := by simpa using h20
        have b5 : (op == 5) = false := by simpa using h5
        have b6 : (op == 6) = false := by simpa using h6
        obtain ⟨W1, hW1⟩ : ∃ W1, W1 = w.alloc (.cells #[(.int .i64 op), (.int .i64 n), .string s, .slice pa ks.length ca, (.int .i64 at_)] 31) := ⟨_, rfl⟩
        have HT : Hid (Turned (fun _ => False) w W1) := Lib.hid (by rw [hW1]; exact (Turned.refl _ _).alloc _)
        have HB : Hid (∀ V, Turned (fun _ => False) W1 V → V.cell? ⟨w.heap.size, 0, none⟩ = some (.int .i64 op)) := Lib.hid fun V hV => cell_turned hV id (by rw [hW1]; exact cells_list w [(.int .i64 op), (.int .i64 n), .string s, .slice pa ks.length ca, (.int .i64 at_)] 31 0 _ rfl)
        have HOP := Lib.hid (operators_any W1)
        rw [hW1] at HOP
        clear h20 h5 h6
        go_enter Tryz.func106, Tryz.ntmps106
        go_wp2_with (go_at_call 76; refine HOP.out.mono ?_; rintro e w' ⟨g, rfl, hg, hrow, hT⟩; rw [← hW1] at hT; have HR := Lib.hid hrow; have HT1 := Lib.hid hT; clear hrow hT hg)
        go_loopw [15] (fun u wr => ∃ i : Nat, i ≤ 13 ∧ u = (.int .i64 i) ∧ Hid (OJ op w' i wr)) (fun u _ => 13 - (intOf u).toNat)
        case atStart => exact ⟨0, by omega, rfl, Lib.hid ⟨Turned.refl _ _, fun j r hj => by omega⟩⟩
        case round =>
          obtain ⟨i, hi, rfl, HO⟩ := hrel
          have p0 := HB.out wr (HT1.out.trans HO.out.tur)
          have pl := cell_lt p0
          by_cases hlt : i < 13
          · obtain ⟨r, hr⟩ := some_of_lt (show i < opRows.length by simpa [opRows] using hlt)
            have HRR := Lib.hid hr
            obtain ⟨rs, ro, rl⟩ := r
            have hrow := HR.out.turned HO.out.tur id i hlt
            simp only [opRow, hr, binV, Nat.zero_add] at hrow
            have q0 : wr.cell? ⟨g, i * 3, none⟩ = some (.string rs) := hrow 0 _ rfl
            have q1 : wr.cell? ⟨g, i * 3 + 1, none⟩ = some (.int .i64 ro) := hrow 1 _ rfl
            have q2 : wr.cell? ⟨g, i * 3 + 2, none⟩ = some (.int .i64 ((rl : Nat))) := hrow 2 _ rfl
            clear hr hrow
            cases hm : (ro == op) with
            | true =>
              have HYX : Hid (lvlX op = rl) := by show _ = _; rw [HL.out, lvlOp_found (HO.out.found HRR.out hm) HRR.out]
              go_wp2_with fail
              go_ret
              rw [HYX.out]
              exact ⟨rfl, HT.out.trans (HT1.out.trans (HO.out.tur.trans ((Turned.refl _ _).alloc _)))⟩
            | false =>
              have HNX := Lib.hid (fun wr' hT => HO.out.next (wr' := wr') HRR.out hm hT)
              go_wp2_with fail
              go_roundw
              case rel => exact ⟨i + 1, by omega, by go_num, Lib.hid (HNX.out _ ((Turned.refl _ _).alloc _))⟩
              case measure => simp [intOf]; omega
          · obtain rfl : i = 13 := by omega
            have HE : Hid (lvlX op = 8) := by show _ = _; rw [HL.out, lvlOp_none HO.out.none]
            go_wp2_with fail
            go_ret
            rw [HE.out]
            exact ⟨rfl, HT.out.trans (HT1.out.trans HO.out.tur)⟩
end Go.Proofs.YtjijdgkccfeeaaaGreatDoor
namespace Go.Proofs.YtjijdgkccfeeaaaGreatDoor
open Go Go.Proofs Go.RowKit
attribute [local go_sem] Oper.semAt_some
mutual
def smallX : Ex → Bool
  | .mk _ _ s ks _ => decide (s.size ≤ 100000) && smallXs ks
def smallXs : List Ex → Bool
  | [] => true
  | x :: xs => smallX x && smallXs xs
end
theorem smallXs_mem : ∀ {l : List Ex} {x : Ex}, smallXs l = true → x ∈ l → smallX x = true
  | y :: l, x, h, hm => by
    rw [smallXs, Bool.and_eq_true] at h
    rcases List.mem_cons.1 hm with rfl | hm
    · exact h.1
    · exact smallXs_mem h.2 hm
theorem smallX_s {x : Ex} (h : smallX x = true) : x.s.size ≤ 100000 := by
  obtain ⟨op, n, s, ks, at_⟩ := x
  rw [smallX, Bool.and_eq_true] at h
  exact of_decide_eq_true h.1
theorem smallX_kids {x : Ex} (h : smallX x = true) : smallXs x.kids = true := by
  obtain ⟨op, n, s, ks, at_⟩ := x
  rw [smallX, Bool.and_eq_true] at h
  exact h.2
structure XE (B eb : Nat) (x : Ex) (a : Value) (w : World) (ts : List Tok) (bad : Bool) (W : World) : Prop where
  ps : PrS B ts bad W
  tr : PrT B w W
  box : W.heap[eb]? = some (.cells #[(.int .i64 (x.op)), (.int .i64 (x.n)), .string x.s, a, (.int .i64 (x.at_))] 31 (0, 0))
  fr : Free B W eb
  kids : KidsAt W (fun b => b < B) x.kids a
section
variable {B eb : Nat} {x : Ex} {a : Value} {w W W' : World} {ts us : List Tok} {bad bad' : Bool}
theorem XE.start (h : PrS B ts bad w) (hk : KidsAt w (fun b => b < B) x.kids a) : XE B w.heap.size x a w ts bad (w.alloc (.cells #[(.int .i64 (x.op)), (.int .i64 (x.n)), .string x.s, a, (.int .i64 (x.at_))] 31)) := by
  have ht : Turned (fun _ => False) w (w.alloc (.cells #[(.int .i64 (x.op)), (.int .i64 (x.n)), .string x.s, a, (.int .i64 (x.at_))] 31)) := (Turned.refl _ _).alloc _
  obtain ⟨h1, h2⟩ := h.same ht
  exact ⟨h1, h2, heap_alloc_new _ _, h.fresh ht (Nat.le_refl _), hk.move ht (fun _ _ => id) (fun _ hb _ => hb)⟩
theorem XE.call (h : Hid (XE B eb x a w ts bad W)) (hp : PrS B us bad' W') (ht : PrT B W W') : Hid (XE B eb x a w us bad' W') := by
  have hlt := getElem?_lt h.out.box
  obtain ⟨h1, h2⟩ := ht.keep eb hlt h.out.fr
  exact Lib.hid ⟨hp, h.out.tr.trans ht, h1.trans h.out.box, h2, h.out.kids.move ht.turned (fun b hb hn => hn (h.out.ps.data hb)) (fun _ hb _ => hb)⟩
theorem XE.same (h : Hid (XE B eb x a w ts bad W)) (ht : Turned (fun _ => False) W W') : Hid (XE B eb x a w ts bad W') := by
  obtain ⟨h1, h2⟩ := h.out.ps.same ht
  exact XE.call h h1 h2
theorem XE.cells (h : Hid (XE B eb x a w ts bad W)) : W.cell? ⟨eb, 0, none⟩ = some (.int .i64 (x.op)) ∧ W.cell? ⟨eb, 1, none⟩ = some (.int .i64 (x.n)) ∧ W.cell? ⟨eb, 2, none⟩ = some (.string x.s) ∧ W.cell? ⟨eb, 3, none⟩ = some a ∧ W.cell? ⟨eb, 4, none⟩ = some (.int .i64 (x.at_)) := by
  have hb := h.out.box
  simp [World.cell?, hb]
end
theorem str_cell (w : World) (s : ByteArray) : (w.alloc (.cells #[.string s] 9)).cell? ⟨w.heap.size, 0, none⟩ = some (.string s) := by
  show (match (w.alloc _).heap[w.heap.size]? with | some (.cells c _ _) => c[0]? | _ => none) = _
  rw [heap_alloc_new]; rfl
theorem sign_pr {B : Nat} {ts : List Tok} {bad : Bool} {W : World} (h : PrS B ts bad W) (hl : ts.length ≤ 100000) (s : ByteArray) (c : Nat) :
    Calls Tryz.prog 67 #[.pointer (some ⟨B, 0, none⟩), .slice (some ⟨W.heap.size, 0, none⟩) 1 c] (W.alloc (.cells #[.string s] 9)) fun e w' => e = .returned (.tuple #[]) ∧ PrS B (ts ++ [sgT s]) bad w' ∧ PrT B W w' := by
  obtain ⟨h1, h2⟩ := h.same ((Turned.refl (fun _ => False) W).alloc (.cells #[.string s] 9))
  exact (signs_pr B ts bad s _ h1 hl W.heap.size c (str_cell W s)).mono fun e w' ⟨he, hp, ht⟩ => ⟨he, hp, h2.trans ht⟩
def ExprC (x : Ex) : Prop := ∀ (B : Nat) (ts : List Tok) (bad : Bool) (a : Value) (W : World), PrS B ts bad W → KidsAt W (fun b => b < B) x.kids a → ts.length + (showX x).2.1.length ≤ 100000 → smallX x = true →
  Calls Tryz.prog 41 #[.pointer (some ⟨B, 0, none⟩), exA x a] W (PrR B (ts ++ (showX x).2.1) (bad || (showX x).2.2) W)
def OpndC (x : Ex) : Prop := ∀ (B : Nat) (ts : List Tok) (bad : Bool) (a : Value) (need : Nat) (W : World), PrS B ts bad W → KidsAt W (fun b => b < B) x.kids a → ts.length + (opndX need x.op (showX x).2).1.length ≤ 100000 → smallX x = true →
  Calls Tryz.prog 74 #[.pointer (some ⟨B, 0, none⟩), exA x a, (.int .i64 ((need : Nat)))] W (PrR B (ts ++ (opndX need x.op (showX x).2).1) (bad || (opndX need x.op (showX x).2).2) W)
set_option maxRecDepth 20000 in
set_option maxHeartbeats 2000000 in
theorem operand_of {x : Ex} (hx : ExprC x) : OpndC x := by
  intro B ts bad a need w h hk hl hs
  have HL := Lib.hid (fun (W : World) (hW : KidsAt W (fun b => b < B) x.kids a) => level_pr x a _ W hW)
  have HE := Lib.hid hx
  have HS := Lib.hid (XE.start h hk)
  obtain ⟨pa, ca, rfl⟩ := hk.shape
  clear h hk hx
  unfold exA
  obtain ⟨W1, hW1⟩ : ∃ W1, W1 = w.alloc (.cells #[(.int .i64 (x.op)), (.int .i64 (x.n)), .string x.s, .slice pa x.kids.length ca, (.int .i64 (x.at_))] 31) := ⟨_, rfl⟩
  obtain ⟨eb, heb⟩ : ∃ eb, eb = w.heap.size := ⟨_, rfl⟩
  rw [← hW1, ← heb] at HS
  have HW := Lib.hid hW1
  have HB := Lib.hid heb
  clear hW1 heb
  go_enter Tryz.func74, Tryz.ntmps74
  go_upto_region 1 with fail
  rw [← HW.out, ← HB.out]
  obtain ⟨c0, c1, c2, c3, c4⟩ := XE.cells HS
  by_cases hn : need ≤ lvlX x.op
  · have hn2 : (need : Int) ≤ (lvlX x.op : Int) := by omega
    have HO : Hid (opndX need x.op (showX x).2 = (showX x).2) := Lib.hid (by rw [opndX, if_pos hn])
    rw [HO.out] at hl
    clear hn
    have HCL := Lib.hid (HL.out W1 HS.out.kids)
    unfold exA at HCL
    go_wp2_with (first | (go_at_call 106; refine HCL.out.mono ?_; rintro e w2 ⟨rfl, hT⟩; have HS2 := XE.same HS hT; obtain ⟨d0, d1, d2, d3, d4⟩ := XE.cells HS2; clear hT) | (go_at_call 41; refine (HE.out B ts bad _ _ HS2.out.ps HS2.out.kids hl hs).mono ?_; rintro e w3 ⟨rfl, hp, ht⟩))
    go_end0
    rw [HO.out]
    exact ⟨rfl, hp, HS2.out.tr.trans ht⟩
  · have hn2 : ¬ (need : Int) ≤ (lvlX x.op : Int) := by omega
    have HO : Hid (opndX need x.op (showX x).2 = (sgT ⟨#[40]⟩ :: ((showX x).2.1 ++ [sgT ⟨#[41]⟩]), (showX x).2.2)) := Lib.hid (by rw [opndX, if_neg hn])
    rw [HO.out] at hl
    clear hn
    simp only [List.length_cons, List.length_append, List.length_nil] at hl
    have HCL := Lib.hid (HL.out W1 HS.out.kids)
    unfold exA at HCL
    go_upto_region 3 with (go_at_call 106; refine HCL.out.mono ?_; rintro e w2 ⟨rfl, hT⟩; have HS2 := XE.same HS hT; clear hT)
    clear c0 c1 c2 c3 c4 HCL
    have HC1 := Lib.hid (sign_pr HS2.out.ps (by omega) ⟨#[40]⟩ 1)
    go_upto_region 4 with (go_at_call 67; refine HC1.out.mono ?_; rintro e w3 ⟨rfl, hp, ht⟩; have HS3 := XE.call HS2 hp ht; obtain ⟨d0, d1, d2, d3, d4⟩ := XE.cells HS3; clear hp ht)
    have HC2 := Lib.hid (HE.out B _ bad _ _ HS3.out.ps HS3.out.kids (by simp; omega) hs)
    unfold exA at HC2
    go_upto_region 5 with (go_at_call 41; refine HC2.out.mono ?_; rintro e w4 ⟨rfl, hp, ht⟩; have HS4 := XE.call HS3 hp ht; clear hp ht)
    have HC3 := Lib.hid (sign_pr HS4.out.ps (by simp; omega) ⟨#[41]⟩ 1)
    go_wp2_with (go_at_call 67; refine HC3.out.mono ?_; rintro e w5 ⟨rfl, hp, ht⟩; have HS5 := XE.call HS4 hp ht; clear hp ht)
    go_end0
    rw [HO.out]
    refine ⟨rfl, ?_, HS5.out.tr⟩
    have := HS5.out.ps
    simpa using this
end Go.Proofs.YtjijdgkccfeeaaaGreatDoor
namespace Go.Proofs.YtjijdgkccfeeaaaGreatDoor
open Go Go.Proofs Go.RowKit
attribute [local go_sem] Oper.semAt_some
inductive TR where
  | none
  | err (c : Int)
  | tok (t : Tok) (tt : Nat)
def VarAt (n : Nat) (w : World) (name : String) (cs : Array Value) : Prop := w.var? Tryz.prog name = some cs ∧ ∀ g, Tryz.prog.globalNamed name = some g → g < n
theorem VarAt.turned {n : Nat} {C : Nat → Prop} {w w' : World} {name : String} {cs : Array Value} (h : VarAt n w name cs) (ht : Turned C w w') (hC : ∀ g, g < n → ¬ C g) : VarAt n w' name cs := by
  obtain ⟨h1, h2⟩ := h
  refine ⟨?_, h2⟩
  unfold World.var? at h1 ⊢
  cases hg : Tryz.prog.globalNamed name with
  | none => simp [hg] at h1
  | some g =>
    simp only [hg, Option.bind_some] at h1 ⊢
    have hlt : g < w.heap.size := by
      rcases Nat.lt_or_ge g w.heap.size with h' | h'
      · exact h'
      · simp [Array.getElem?_eq_none h'] at h1
    rw [ht.block g hlt (hC g (h2 g hg))]
    exact h1
structure Vars (n : Nat) (w : World) : Prop where
  syn : ∃ tp p, VarAt n w "strconv.ErrSyntax" #[.iface tp p]
  ran : ∃ tp p, VarAt n w "strconv.ErrRange" #[.iface tp p]
  tab : VarAt n w "strings.asciiSpace" (Lib.asciiSpaceTab.map fun z => Value.int .u8 z).toArray
theorem Vars.turned {n : Nat} {C : Nat → Prop} {w w' : World} (h : Vars n w) (ht : Turned C w w') (hC : ∀ g, g < n → ¬ C g) : Vars n w' := by
  obtain ⟨⟨a, b, h1⟩, ⟨c, d, h2⟩, h3⟩ := h
  exact ⟨⟨a, b, h1.turned ht hC⟩, ⟨c, d, h2.turned ht hC⟩, h3.turned ht hC⟩
structure At (w : World) (B base : Nat) (s : ByteArray) (k : Nat) (v : Value) (ts : List Tok) : Prop where
  rd : Rd w B s k v
  own : w.ownsRow base 68 4 v ts.length (ts.flatMap tokV)
  lt : B < base
  le : base ≤ w.heap.size
  len : ts.length ≤ k
  vars : Vars B w
theorem At.same {w w' : World} {B base : Nat} {s : ByteArray} {k : Nat} {v : Value} {ts : List Tok} (h : At w B base s k v ts) (ht : Turned (fun _ => False) w w') : At w' B base s k v ts :=
  ⟨h.rd.turned ht id, ownsRow_turned' ht (fun _ _ => id) h.own, h.lt, Nat.le_trans h.le ht.size, h.len, h.vars.turned ht fun _ _ => id⟩
def Moved (B base : Nat) (w w' : World) : Prop := Turned (fun j => j = B ∨ base ≤ j) w w'
theorem Moved.of {B base : Nat} {w w' : World} (h : Turned (fun _ => False) w w') : Moved B base w w' := h.mono fun _ h => h.elim
theorem Moved.trans {B base : Nat} {a b c : World} (h : Moved B base a b) (k : Moved B base b c) : Moved B base a c := Turned.trans h k
def Took (w : World) (B base : Nat) (s : ByteArray) (v : Value) (k : Nat) (ts : List Tok) (r : TR) (e : Ending) (w' : World) : Prop :=
  match r with
  | .none => e = .returned (.tuple #[.bool false, (.int .i64 0)]) ∧ At w' B base s k v ts ∧ Moved B base w w'
  | .err c => e = .returned (.tuple #[.bool true, (.int .i64 c)]) ∧ At w' B base s k v ts ∧ Moved B base w w'
  | .tok t tt => e = .returned (.tuple #[.bool true, (.int .i64 0)]) ∧ ∃ v', At w' B base s tt v' (ts ++ [t]) ∧ Moved B base w w'
def PutR (w : World) (B base : Nat) (s : ByteArray) (tt : Nat) (ts : List Tok) (e : Ending) (w' : World) : Prop := e = .returned (.int .i64 0) ∧ ∃ v', At w' B base s tt v' ts ∧ Moved B base w w'
theorem put_at {w : World} {B base : Nat} {s : ByteArray} {k : Nat} {v : Value} {ts : List Tok} (h : At w B base s k v ts) (kind n : Int) (str : ByteArray) (tt : Nat) (hk : k < tt) (hto : tt ≤ 65536) (x : Int) (hx : x = tt) :
    Calls Tryz.prog 86 #[.pointer (some ⟨B, 0, none⟩), (.int .i64 kind), (.int .i64 x), .string str, (.int .i64 n)] w (PutR w B base s tt (ts ++ [Tok.mk kind k str n])) := by
  subst hx
  have hl := h.len
  refine (put_any B base s k kind tt n str v ts w h.rd h.own h.lt h.le (by omega)).mono ?_
  rintro e w' ⟨rfl, v', h1, h2, h3⟩
  exact ⟨rfl, v', ⟨h1, h2, h.lt, Nat.le_trans h.le h3.size, by simp; omega, h.vars.turned h3 (by intro g hg hc; have := h.lt; omega)⟩, h3⟩
theorem At.drew {w : World} {B base : Nat} {s : ByteArray} {k : Nat} {v : Value} {ts : List Tok} (h : At w B base s k v ts) (n : Nat) : At (w.drewN n) B base s k v ts := h.same (drewN_turned _ _ _)
theorem moved_drew (B base : Nat) (w : World) (n : Nat) : Moved B base w (w.drewN n) := drewN_turned _ _ _
theorem class_same (c : Int) (w : World) (h0 : 0 ≤ c) (h1 : c ≤ 255) : Calls Tryz.prog 109 #[.int .u8 c] w fun e w' => e = .returned (.int .i64 (clsI c)) ∧ w' = w := (class_any c w h0 h1).mono fun _ _ ⟨h, h2⟩ => ⟨h, h2.symm⟩
theorem region_tail {P : Program} {id : Nat} {Q : Exit → Act → World → Prop} {a : Act} {w W : World} {l : List Oper} (hW : Turned (fun _ => False) w W) (n : Nat) (hm : P.follows .mixedOrders = true) (hB : Region.lexTailB .any l.toArray n = true)
    (h : ∀ V, Turned (fun _ => False) w V → wpStill P l.toArray V (fun a' => wpList P l.toArray Q (l.drop n) a' V) (l.take n) a) : (Code.region id l.toArray true).wp P Q a W :=
  wp_region_still_tail n hm hB (h _ hW.drew)
def nameT (s : ByteArray) (k : Nat) : TR :=
  if clsI (rest s k)[0]!.toNat ≠ 3 then .none else if 32 < spanTo s k 2 - k then .err 2 else .tok ⟨1, k, s.extract k (spanTo s k 2), 0⟩ (spanTo s k 2)
theorem rest_head (s : ByteArray) (k : Nat) (h : k < s.size) : (rest s k)[0]! = s[k] := by rw [rest_cons s k h]; rfl
theorem spanTo_gt (s : ByteArray) (k : Nat) (h : k < s.size) (least : Int) (hc : least ≤ clsI s[k].toNat) : k < spanTo s k least := by
  unfold spanTo
  rw [rest_cons s k h, spanL_cons_yes (by exact hc)]
  omega
theorem span_calls (B : Nat) (s : ByteArray) (k : Nat) (v : Value) (least : Int) (w : World) (hR : Rd w B s k v) (hs : s.size ≤ 65536) (hk : k ≤ s.size) : ∀ n, 
    Calls Tryz.prog 127 #[.pointer (some ⟨B, 0, none⟩), (.int .i64 least)] (w.drewN n) fun e w' => e = .returned (.int .i64 ((spanTo s k least : Nat))) ∧ w.drewN n = w' := fun n => span_any B s k v least (w.drewN n) hR (by omega) hk
set_option maxRecDepth 20000 in
set_option maxHeartbeats 2000000 in
theorem name_any (B base : Nat) (s : ByteArray) (k : Nat) (v : Value) (ts : List Tok) (w : World) (h : At w B base s k v ts) (hs : s.size ≤ 65536) (hk : k < s.size) :
    Calls Tryz.prog 110 #[.pointer (some ⟨B, 0, none⟩)] w (Took w B base s v k ts (nameT s k)) := by
  obtain ⟨c0, c1, c2⟩ := h.rd.cells
  have hb : (s[k].toNat : Int) ≤ 255 := by have := s[k].toNat_lt; omega
  have HC := Lib.hid (fun (W : World) => class_same (s[k].toNat : Int) W (by omega) hb)
  have HS := Lib.hid (span_calls B s k v 2 w h.rd hs (by omega))
  have HN : Hid (nameT s k = if clsI s[k].toNat ≠ 3 then .none else if 32 < spanTo s k 2 - k then .err 2 else .tok ⟨1, k, s.extract k (spanTo s k 2), 0⟩ (spanTo s k 2)) := by
    show _ = _
    unfold nameT; rw [rest_head s k hk]
  have HG := Lib.hid (spanTo_gt s k hk 2)
  have hto := spanTo_le s k 2 (by omega)
  have hge := spanTo_ge s k 2
  have H := Lib.hid h
  have hw : IntKind.i64.wrap (((spanTo s k 2 : Nat) : Int) - k) = ((spanTo s k 2 : Nat) : Int) - k := IntWalk.i64_in _ (by omega)
  clear h
  go_enter Tryz.func110, Tryz.ntmps110
  go_wp2_with fail
  by_cases hc : clsI s[k].toNat = 3
  · have kc : (clsI s[k].toNat == 3) = true := by simpa using hc
    have hgt := HG.out (by omega)
    go_quiet ((go_at_call 109; (first | exact quiet_add_same (HC.out _) | exact Calls.quiet_of_same (HC.out _))))
    by_cases hl : 32 < spanTo s k 2 - k
    · have HF : Hid (nameT s k = .err 2) := by show _ = _; rw [HN.out, if_neg (by simpa using hc), if_pos hl]
      go_wp2_with (go_at_call 127; refine (HS.out _).mono ?_; rintro e w' ⟨rfl, rfl⟩)
      go_ret2
      rw [HF.out]
      exact ⟨rfl, H.out.drew _, moved_drew _ _ _ _⟩
    · have HF : Hid (nameT s k = .tok ⟨1, k, s.extract k (spanTo s k 2), 0⟩ (spanTo s k 2)) := by show _ = _; rw [HN.out, if_neg (by simpa using hc), if_neg hl]
      have HP := Lib.hid (fun (W : World) (ht : Turned (fun _ => False) w W) => put_at (H.out.same ht) 1 0 (s.extract k (spanTo s k 2)) (spanTo s k 2) hgt (by omega) _ rfl)
      go_wp2_with (go_at_call 127; refine (HS.out _).mono ?_; rintro e w' ⟨rfl, rfl⟩)
      refine region_tail (w := w) (drewN_turned _ w _) 12 (by kernel_rfl) (by kernel_rfl) (fun V hT => ?_)
      obtain ⟨d0, d1, d2⟩ := (H.out.same hT).rd.cells
      have HV := Lib.hid (HP.out V hT)
      have HT := Lib.hid hT
      clear hT
      simp only [List.take_succ_cons, List.take_zero, List.drop_succ_cons, List.drop_zero]
      repeat still_step
      refine wpStill_nil ?_
      go_wp2_with (go_at_call 86; refine (HV.out.mono ?_); rintro e w6 ⟨rfl, HQ⟩; have HQ := Lib.hid HQ)
      go_wp2_with fail
      go_ret2
      rw [HF.out]
      obtain ⟨v', q1, q2⟩ := HQ.out
      exact ⟨rfl, v', q1, (Moved.of HT.out).trans q2⟩
  · have kc : (clsI s[k].toNat == 3) = false := by simpa using hc
    have HF : Hid (nameT s k = .none) := by show _ = _; rw [HN.out, if_pos hc]
    go_quiet ((go_at_call 109; (first | exact quiet_add_same (HC.out _) | exact Calls.quiet_of_same (HC.out _))))
    go_wp2_with fail
    go_ret2
    rw [HF.out]
    exact ⟨rfl, H.out.drew _, moved_drew _ _ _ _⟩
def AtoiR (w : World) (l : List UInt8) (e : Ending) (w' : World) : Prop :=
  Turned (fun _ => False) w w' ∧ match Lib.atoiAll l with
    | .ok n => e = .returned (.tuple #[(.int .i64 n), .nilIface])
    | _ => ∃ n te pe, e = .returned (.tuple #[(.int .i64 n), .iface te pe])
theorem atoi_any (str : ByteArray) (hs : str.size ≤ 65536) (n : Nat) (w : World) (hv : Vars n w) : Calls Tryz.prog 128 #[.string str] w (AtoiR w str.data.toList) := by
  obtain ⟨⟨a, b, h1, _⟩, ⟨c, d, h2, _⟩, _⟩ := hv
  have hok := fun m h => Tryz.strconv_Atoi_ok str (by omega) m h w
  have hsy := fun h => Any.strconv_Atoi_syntax_var Tryz.laysC172 str (by omega) h a b w h1
  have hra := fun h => Tryz.strconv_Atoi_range_var str (by omega) h c d w h2
  unfold AtoiR
  revert hok hsy hra
  generalize Lib.atoiAll str.data.toList = r
  intro hok hsy hra
  cases r
  case ok m =>
    refine (hok m rfl).mono ?_
    rintro e w' ⟨rfl, h3⟩
    refine ⟨?_, rfl⟩
    rcases h3 with rfl | ⟨t, rfl⟩
    · exact Turned.refl _ _
    · exact Turned.of_new (Go.Joins.below_bytesWorld _ _ _ _ (Nat.le_refl _))
  case range =>
    refine (hra rfl).mono ?_
    rintro e w' ⟨N, rfl, h3, h4, h5⟩
    exact ⟨Turned.of_new h5, _, _, _, rfl⟩
  all_goals
    refine (hsy rfl).mono ?_
    rintro e w' ⟨N, rfl, h3, h4, h5⟩
    exact ⟨Turned.of_new h5, _, _, _, rfl⟩
def numOf (k tt : Nat) (str : ByteArray) : TR :=
  match Lib.atoiAll str.data.toList with
  | .ok n => if 15 < str.size ∨ (1 < str.size ∧ str[0]! = 48) then .err 27 else .tok ⟨2, k, ⟨#[]⟩, n⟩ tt
  | _ => .err 27
def numT (s : ByteArray) (k : Nat) : TR :=
  if clsI (rest s k)[0]!.toNat ≠ 2 then .none else numOf k (spanTo s k 2) (s.extract k (spanTo s k 2))
set_option maxRecDepth 20000 in
set_option maxHeartbeats 2000000 in
theorem number_any (B base : Nat) (s : ByteArray) (k : Nat) (v : Value) (ts : List Tok) (w : World) (h : At w B base s k v ts) (hs : s.size ≤ 65536) (hk : k < s.size) :
    Calls Tryz.prog 111 #[.pointer (some ⟨B, 0, none⟩)] w (Took w B base s v k ts (numT s k)) := by
  obtain ⟨c0, c1, c2⟩ := h.rd.cells
  have hb : (s[k].toNat : Int) ≤ 255 := by have := s[k].toNat_lt; omega
  have HC := Lib.hid (fun (W : World) => class_same (s[k].toNat : Int) W (by omega) hb)
  have HS := Lib.hid (span_calls B s k v 2 w h.rd hs (by omega))
  have HN : Hid (numT s k = if clsI s[k].toNat ≠ 2 then .none else numOf k (spanTo s k 2) (s.extract k (spanTo s k 2))) := by
    show _ = _
    unfold numT; rw [rest_head s k hk]
  have HG := Lib.hid (spanTo_gt s k hk 2)
  have hto := spanTo_le s k 2 (by omega)
  have hge := spanTo_ge s k 2
  have H := Lib.hid h
  clear h
  go_enter Tryz.func111, Tryz.ntmps111
  go_wp2_with fail
  by_cases hc : clsI s[k].toNat = 2
  · have kc : (clsI s[k].toNat == 2) = true := by simpa using hc
    have hgt := HG.out (by omega)
    go_quiet ((go_at_call 109; (first | exact quiet_add_same (HC.out _) | exact Calls.quiet_of_same (HC.out _))))
    have HF : Hid (numT s k = numOf k (spanTo s k 2) (s.extract k (spanTo s k 2))) := by show _ = _; rw [HN.out, if_neg (by simpa using hc)]
    go_wp2_with (go_at_call 127; refine (HS.out _).mono ?_; rintro e w' ⟨rfl, rfl⟩)
    go_quiet (fail)
    have hsz : (s.extract k (spanTo s k 2)).size = spanTo s k 2 - k := by simp; omega
    generalize s.extract k (spanTo s k 2) = str at HF hsz ⊢
    have h0 : 0 < str.size := by omega
    have h0v : str[0]! = str[0] := by simp [getElem!_pos, h0]
    have HA := Lib.hid (fun (W : World) (ht : Turned (fun _ => False) w W) => atoi_any str (by omega) B W (H.out.same ht).vars)
    have HK := Lib.hid (fun (W W' : World) (e : Ending) (ht : Turned (fun _ => False) w W) (hr : AtoiR W str.data.toList e W') => (show Turned (fun _ => False) w W' from ht.trans hr.1))
    cases ha : Lib.atoiAll str.data.toList
    case ok n =>
      have HP := Lib.hid (fun (W : World) (ht : Turned (fun _ => False) w W) => put_at (H.out.same ht) 2 n ⟨#[]⟩ (spanTo s k 2) hgt (by omega) _ rfl)
      have HR := Lib.hid (fun (W W' : World) (e : Ending) (hr : AtoiR W str.data.toList e W') => (show e = .returned (.tuple #[(.int .i64 n), .nilIface]) by have := hr.2; rw [ha] at this; exact this))
      have HX : Hid (numOf k (spanTo s k 2) str = if 15 < str.size ∨ (1 < str.size ∧ str[0]! = 48) then .err 27 else .tok ⟨2, k, ⟨#[]⟩, n⟩ (spanTo s k 2)) := by show _ = _; unfold numOf; rw [ha]
      clear ha
      by_cases h15 : 15 < str.size
      · have HY : Hid (numT s k = .err 27) := by show _ = _; rw [HF.out, HX.out, if_pos (.inl h15)]
        go_wp2_with (go_at_call 128; refine ((HA.out _ (drewN_turned _ w _)).mono ?_); intro e w7 hr; obtain rfl := HR.out _ _ _ hr; have HT := Lib.hid (HK.out _ _ _ (drewN_turned _ w _) hr); clear hr)
        go_ret2
        rw [HY.out]
        exact ⟨rfl, H.out.same HT.out, Moved.of HT.out⟩
      · by_cases h1 : 1 < str.size
        · have hi : (1 : Int) < str.size := by omega
          by_cases h48 : str[0] = 48
          · have k48 : ((str[0].toNat : Int) == 48) = true := by rw [h48]; rfl
            have HY : Hid (numT s k = .err 27) := by show _ = _; rw [HF.out, HX.out, if_pos (.inr ⟨h1, by rw [h0v]; exact h48⟩)]
            clear h48 h0v
            go_wp2_with (go_at_call 128; refine ((HA.out _ (drewN_turned _ w _)).mono ?_); intro e w7 hr; obtain rfl := HR.out _ _ _ hr; have HT := Lib.hid (HK.out _ _ _ (drewN_turned _ w _) hr); clear hr)
            go_ret2
            rw [HY.out]
            exact ⟨rfl, H.out.same HT.out, Moved.of HT.out⟩
          · have k48 : ((str[0].toNat : Int) == 48) = false := by
              have : str[0].toNat ≠ 48 := fun h => h48 (UInt8.toNat_inj.1 h)
              simp; omega
            have HY : Hid (numT s k = .tok ⟨2, k, ⟨#[]⟩, n⟩ (spanTo s k 2)) := by show _ = _; rw [HF.out, HX.out, if_neg (by rw [h0v]; exact fun h => h.elim h15 fun h => h48 h.2)]
            clear h48 h0v
            go_wp2_with (first | (go_at_call 128; refine ((HA.out _ (drewN_turned _ w _)).mono ?_); intro e w7 hr; obtain rfl := HR.out _ _ _ hr; have HT := Lib.hid (HK.out _ _ _ (drewN_turned _ w _) hr); clear hr) | (go_at_call 86; refine ((HP.out _ HT.out).mono ?_); rintro e w6 ⟨rfl, HQ⟩; have HQ := Lib.hid HQ))
            go_ret2
            rw [HY.out]
            obtain ⟨v', q1, q2⟩ := HQ.out
            exact ⟨rfl, v', q1, (Moved.of HT.out).trans q2⟩
        · have HY : Hid (numT s k = .tok ⟨2, k, ⟨#[]⟩, n⟩ (spanTo s k 2)) := by show _ = _; rw [HF.out, HX.out, if_neg (fun h => h.elim h15 fun h => h1 h.1)]
          go_wp2_with (first | (go_at_call 128; refine ((HA.out _ (drewN_turned _ w _)).mono ?_); intro e w7 hr; obtain rfl := HR.out _ _ _ hr; have HT := Lib.hid (HK.out _ _ _ (drewN_turned _ w _) hr); clear hr) | (go_at_call 86; refine ((HP.out _ HT.out).mono ?_); rintro e w6 ⟨rfl, HQ⟩; have HQ := Lib.hid HQ))
          go_ret2
          rw [HY.out]
          obtain ⟨v', q1, q2⟩ := HQ.out
          exact ⟨rfl, v', q1, (Moved.of HT.out).trans q2⟩
    all_goals
      have HR := Lib.hid (fun (W W' : World) (e : Ending) (hr : AtoiR W str.data.toList e W') => (show ∃ n te pe, e = .returned (.tuple #[(.int .i64 n), .iface te pe]) by have := hr.2; rw [ha] at this; exact this))
      have HY : Hid (numT s k = .err 27) := by show _ = _; rw [HF.out]; unfold numOf; rw [ha]
      clear ha
      go_wp2_with (go_at_call 128; refine ((HA.out _ (drewN_turned _ w _)).mono ?_); intro e w7 hr; obtain ⟨n7, te, pe, rfl⟩ := HR.out _ _ _ hr; have HT := Lib.hid (HK.out _ _ _ (drewN_turned _ w _) hr); clear hr)
      go_ret2
      rw [HY.out]
      exact ⟨rfl, H.out.same HT.out, Moved.of HT.out⟩
  · have kc : (clsI s[k].toNat == 2) = false := by simpa using hc
    have HF : Hid (numT s k = .none) := by show _ = _; rw [HN.out, if_pos hc]
    go_quiet ((go_at_call 109; (first | exact quiet_add_same (HC.out _) | exact Calls.quiet_of_same (HC.out _))))
    go_wp2_with fail
    go_ret2
    rw [HF.out]
    exact ⟨rfl, H.out.drew _, moved_drew _ _ _ _⟩
end Go.Proofs.YtjijdgkccfeeaaaGreatDoor
