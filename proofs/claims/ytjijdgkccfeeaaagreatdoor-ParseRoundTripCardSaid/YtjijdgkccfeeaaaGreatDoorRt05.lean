/- Part 5 of the proof of card: ParPrC, LexWalkD, ParPrD. Conditions: those of each theorem. -/
import Derived.StillTailTactics
import Derived.Lib.SmallJoins
import Derived.Shelf.Strconv.AtoiAll
import Derived.Test.YtjijdgkccfeeaaaGreatDoorRt01
import Derived.Test.YtjijdgkccfeeaaaGreatDoorRt03
import Derived.Test.YtjijdgkccfeeaaaGreatDoorRt04
namespace Go.Proofs.YtjijdgkccfeeaaaGreatDoor
open Go Go.Proofs Go.RowKit
attribute [local go_sem] Oper.semAt_some
mutual
def smallX : Ex → Bool
  | .mk _ _ s ks _ => decide (s.size ≤ 100000) && smallXs ks
def smallXs : List Ex → Bool
  | [] => true
  | x :: xs => smallX x && smallXs xs
end
theorem smallXs_mem : ∀ {l : List Ex} {x : Ex}, smallXs l = true → x ∈ l → smallX x = true
  | y :: l, x, h, hm => by
    rw [smallXs, Bool.and_eq_true] at h
    rcases List.mem_cons.1 hm with rfl | hm
    · exact h.1
    · exact smallXs_mem h.2 hm
theorem smallX_s {x : Ex} (h : smallX x = true) : x.s.size ≤ 100000 := by
  obtain ⟨op, n, s, ks, at_⟩ := x
  rw [smallX, Bool.and_eq_true] at h
  exact of_decide_eq_true h.1
theorem smallX_kids {x : Ex} (h : smallX x = true) : smallXs x.kids = true := by
  obtain ⟨op, n, s, ks, at_⟩ := x
  rw [smallX, Bool.and_eq_true] at h
  exact h.2
structure XE (B eb : Nat) (x : Ex) (a : Value) (w : World) (ts : List Tok) (bad : Bool) (W : World) : Prop where
  ps : PrS B ts bad W
  tr : PrT B w W
  box : W.heap[eb]? = some (.cells #[(.int .i64 (x.op)), (.int .i64 (x.n)), .string x.s, a, (.int .i64 (x.at_))] 31 (0, 0))
  fr : Free B W eb
  kids : KidsAt W (fun b => b < B) x.kids a
section
variable {B eb : Nat} {x : Ex} {a : Value} {w W W' : World} {ts us : List Tok} {bad bad' : Bool}
theorem XE.start (h : PrS B ts bad w) (hk : KidsAt w (fun b => b < B) x.kids a) : XE B w.heap.size x a w ts bad (w.alloc (.cells #[(.int .i64 (x.op)), (.int .i64 (x.n)), .string x.s, a, (.int .i64 (x.at_))] 31)) := by
  have ht : Turned (fun _ => False) w (w.alloc (.cells #[(.int .i64 (x.op)), (.int .i64 (x.n)), .string x.s, a, (.int .i64 (x.at_))] 31)) := (Turned.refl _ _).alloc _
  obtain ⟨h1, h2⟩ := h.same ht
  exact ⟨h1, h2, heap_alloc_new _ _, h.fresh ht (Nat.le_refl _), hk.move ht (fun _ _ => id) (fun _ hb _ => hb)⟩
theorem XE.call (h : Hid (XE B eb x a w ts bad W)) (hp : PrS B us bad' W') (ht : PrT B W W') : Hid (XE B eb x a w us bad' W') := by
  have hlt := getElem?_lt h.out.box
  obtain ⟨h1, h2⟩ := ht.keep eb hlt h.out.fr
  exact Lib.hid ⟨hp, h.out.tr.trans ht, h1.trans h.out.box, h2, h.out.kids.move ht.turned (fun b hb hn => hn (h.out.ps.data hb)) (fun _ hb _ => hb)⟩
theorem XE.same (h : Hid (XE B eb x a w ts bad W)) (ht : Turned (fun _ => False) W W') : Hid (XE B eb x a w ts bad W') := by
  obtain ⟨h1, h2⟩ := h.out.ps.same ht
  exact XE.call h h1 h2
theorem XE.cells (h : Hid (XE B eb x a w ts bad W)) : W.cell? ⟨eb, 0, none⟩ = some (.int .i64 (x.op)) ∧ W.cell? ⟨eb, 1, none⟩ = some (.int .i64 (x.n)) ∧ W.cell? ⟨eb, 2, none⟩ = some (.string x.s) ∧ W.cell? ⟨eb, 3, none⟩ = some a ∧ W.cell? ⟨eb, 4, none⟩ = some (.int .i64 (x.at_)) := by
  have hb := h.out.box
  simp [World.cell?, hb]
end
theorem str_cell (w : World) (s : ByteArray) : (w.alloc (.cells #[.string s] 9)).cell? ⟨w.heap.size, 0, none⟩ = some (.string s) := by
  show (match (w.alloc _).heap[w.heap.size]? with | some (.cells c _ _) => c[0]? | _ => none) = _
  rw [heap_alloc_new]; rfl
theorem sign_pr {B : Nat} {ts : List Tok} {bad : Bool} {W : World} (h : PrS B ts bad W) (hl : ts.length ≤ 100000) (s : ByteArray) (c : Nat) :
    Calls Tryz.prog 67 #[.pointer (some ⟨B, 0, none⟩), .slice (some ⟨W.heap.size, 0, none⟩) 1 c] (W.alloc (.cells #[.string s] 9)) fun e w' => e = .returned (.tuple #[]) ∧ PrS B (ts ++ [sgT s]) bad w' ∧ PrT B W w' := by
  obtain ⟨h1, h2⟩ := h.same ((Turned.refl (fun _ => False) W).alloc (.cells #[.string s] 9))
  exact (signs_pr B ts bad s _ h1 hl W.heap.size c (str_cell W s)).mono fun e w' ⟨he, hp, ht⟩ => ⟨he, hp, h2.trans ht⟩
def ExprC (x : Ex) : Prop := ∀ (B : Nat) (ts : List Tok) (bad : Bool) (a : Value) (W : World), PrS B ts bad W → KidsAt W (fun b => b < B) x.kids a → ts.length + (showX x).2.1.length ≤ 100000 → smallX x = true →
  Calls Tryz.prog 41 #[.pointer (some ⟨B, 0, none⟩), exA x a] W (PrR B (ts ++ (showX x).2.1) (bad || (showX x).2.2) W)
def OpndC (x : Ex) : Prop := ∀ (B : Nat) (ts : List Tok) (bad : Bool) (a : Value) (need : Nat) (W : World), PrS B ts bad W → KidsAt W (fun b => b < B) x.kids a → ts.length + (opndX need x.op (showX x).2).1.length ≤ 100000 → smallX x = true →
  Calls Tryz.prog 74 #[.pointer (some ⟨B, 0, none⟩), exA x a, (.int .i64 ((need : Nat)))] W (PrR B (ts ++ (opndX need x.op (showX x).2).1) (bad || (opndX need x.op (showX x).2).2) W)
set_option maxRecDepth 20000 in
set_option maxHeartbeats 2000000 in
theorem operand_of {x : Ex} (hx : ExprC x) : OpndC x := by
  intro B ts bad a need w h hk hl hs
  have HL := Lib.hid (fun (W : World) (hW : KidsAt W (fun b => b < B) x.kids a) => level_pr x a _ W hW)
  have HE := Lib.hid hx
  have HS := Lib.hid (XE.start h hk)
  obtain ⟨pa, ca, rfl⟩ := hk.shape
  clear h hk hx
  unfold exA
  obtain ⟨W1, hW1⟩ : ∃ W1, W1 = w.alloc (.cells #[(.int .i64 (x.op)), (.int .i64 (x.n)), .string x.s, .slice pa x.kids.length ca, (.int .i64 (x.at_))] 31) := ⟨_, rfl⟩
  obtain ⟨eb, heb⟩ : ∃ eb, eb = w.heap.size := ⟨_, rfl⟩
  rw [← hW1, ← heb] at HS
  have HW := Lib.hid hW1
  have HB := Lib.hid heb
  clear hW1 heb
  go_enter Tryz.func74, Tryz.ntmps74
  go_upto_region 1 with fail
  rw [← HW.out, ← HB.out]
  obtain ⟨c0, c1, c2, c3, c4⟩ := XE.cells HS
  by_cases hn : need ≤ lvlX x.op
  · have hn2 : (need : Int) ≤ (lvlX x.op : Int) := by omega
    have HO : Hid (opndX need x.op (showX x).2 = (showX x).2) := Lib.hid (by rw [opndX, if_pos hn])
    rw [HO.out] at hl
    clear hn
    have HCL := Lib.hid (HL.out W1 HS.out.kids)
    unfold exA at HCL
    go_wp2_with (first | (go_at_call 106; refine HCL.out.mono ?_; rintro e w2 ⟨rfl, hT⟩; have HS2 := XE.same HS hT; obtain ⟨d0, d1, d2, d3, d4⟩ := XE.cells HS2; clear hT) | (go_at_call 41; refine (HE.out B ts bad _ _ HS2.out.ps HS2.out.kids hl hs).mono ?_; rintro e w3 ⟨rfl, hp, ht⟩))
    go_end0
    rw [HO.out]
    exact ⟨rfl, hp, HS2.out.tr.trans ht⟩
  · have hn2 : ¬ (need : Int) ≤ (lvlX x.op : Int) := by omega
    have HO : Hid (opndX need x.op (showX x).2 = (sgT ⟨#[40]⟩ :: ((showX x).2.1 ++ [sgT ⟨#[41]⟩]), (showX x).2.2)) := Lib.hid (by rw [opndX, if_neg hn])
    rw [HO.out] at hl
    clear hn
    simp only [List.length_cons, List.length_append, List.length_nil] at hl
    have HCL := Lib.hid (HL.out W1 HS.out.kids)
    unfold exA at HCL
    go_upto_region 3 with (go_at_call 106; refine HCL.out.mono ?_; rintro e w2 ⟨rfl, hT⟩; have HS2 := XE.same HS hT; clear hT)
    clear c0 c1 c2 c3 c4 HCL
    have HC1 := Lib.hid (sign_pr HS2.out.ps (by omega) ⟨#[40]⟩ 1)
    go_upto_region 4 with (go_at_call 67; refine HC1.out.mono ?_; rintro e w3 ⟨rfl, hp, ht⟩; have HS3 := XE.call HS2 hp ht; obtain ⟨d0, d1, d2, d3, d4⟩ := XE.cells HS3; clear hp ht)
    have HC2 := Lib.hid (HE.out B _ bad _ _ HS3.out.ps HS3.out.kids (by simp; omega) hs)
    unfold exA at HC2
    go_upto_region 5 with (go_at_call 41; refine HC2.out.mono ?_; rintro e w4 ⟨rfl, hp, ht⟩; have HS4 := XE.call HS3 hp ht; clear hp ht)
    have HC3 := Lib.hid (sign_pr HS4.out.ps (by simp; omega) ⟨#[41]⟩ 1)
    go_wp2_with (go_at_call 67; refine HC3.out.mono ?_; rintro e w5 ⟨rfl, hp, ht⟩; have HS5 := XE.call HS4 hp ht; clear hp ht)
    go_end0
    rw [HO.out]
    refine ⟨rfl, ?_, HS5.out.tr⟩
    have := HS5.out.ps
    simpa using this
end Go.Proofs.YtjijdgkccfeeaaaGreatDoor
namespace Go.Proofs.YtjijdgkccfeeaaaGreatDoor
open Go Go.Proofs Go.RowKit
attribute [local go_sem] Oper.semAt_some
inductive TR where
  | none
  | err (c : Int)
  | tok (t : Tok) (tt : Nat)
def VarAt (n : Nat) (w : World) (name : String) (cs : Array Value) : Prop := w.var? Tryz.prog name = some cs ∧ ∀ g, Tryz.prog.globalNamed name = some g → g < n
theorem VarAt.turned {n : Nat} {C : Nat → Prop} {w w' : World} {name : String} {cs : Array Value} (h : VarAt n w name cs) (ht : Turned C w w') (hC : ∀ g, g < n → ¬ C g) : VarAt n w' name cs := by
  obtain ⟨h1, h2⟩ := h
  refine ⟨?_, h2⟩
  unfold World.var? at h1 ⊢
  cases hg : Tryz.prog.globalNamed name with
  | none => simp [hg] at h1
  | some g =>
    simp only [hg, Option.bind_some] at h1 ⊢
    have hlt : g < w.heap.size := by
      rcases Nat.lt_or_ge g w.heap.size with h' | h'
      · exact h'
      · simp [Array.getElem?_eq_none h'] at h1
    rw [ht.block g hlt (hC g (h2 g hg))]
    exact h1
structure Vars (n : Nat) (w : World) : Prop where
  syn : ∃ tp p, VarAt n w "strconv.ErrSyntax" #[.iface tp p]
  ran : ∃ tp p, VarAt n w "strconv.ErrRange" #[.iface tp p]
  tab : VarAt n w "strings.asciiSpace" (Lib.asciiSpaceTab.map fun z => Value.int .u8 z).toArray
theorem Vars.turned {n : Nat} {C : Nat → Prop} {w w' : World} (h : Vars n w) (ht : Turned C w w') (hC : ∀ g, g < n → ¬ C g) : Vars n w' := by
  obtain ⟨⟨a, b, h1⟩, ⟨c, d, h2⟩, h3⟩ := h
  exact ⟨⟨a, b, h1.turned ht hC⟩, ⟨c, d, h2.turned ht hC⟩, h3.turned ht hC⟩
structure At (w : World) (B base : Nat) (s : ByteArray) (k : Nat) (v : Value) (ts : List Tok) : Prop where
  rd : Rd w B s k v
  own : w.ownsRow base 68 4 v ts.length (ts.flatMap tokV)
  lt : B < base
  le : base ≤ w.heap.size
  len : ts.length ≤ k
  vars : Vars B w
theorem At.same {w w' : World} {B base : Nat} {s : ByteArray} {k : Nat} {v : Value} {ts : List Tok} (h : At w B base s k v ts) (ht : Turned (fun _ => False) w w') : At w' B base s k v ts :=
  ⟨h.rd.turned ht id, ownsRow_turned' ht (fun _ _ => id) h.own, h.lt, Nat.le_trans h.le ht.size, h.len, h.vars.turned ht fun _ _ => id⟩
def Moved (B base : Nat) (w w' : World) : Prop := Turned (fun j => j = B ∨ base ≤ j) w w'
theorem Moved.of {B base : Nat} {w w' : World} (h : Turned (fun _ => False) w w') : Moved B base w w' := h.mono fun _ h => h.elim
theorem Moved.trans {B base : Nat} {a b c : World} (h : Moved B base a b) (k : Moved B base b c) : Moved B base a c := Turned.trans h k
def Took (w : World) (B base : Nat) (s : ByteArray) (v : Value) (k : Nat) (ts : List Tok) (r : TR) (e : Ending) (w' : World) : Prop :=
  match r with
  | .none => e = .returned (.tuple #[.bool false, (.int .i64 0)]) ∧ At w' B base s k v ts ∧ Moved B base w w'
  | .err c => e = .returned (.tuple #[.bool true, (.int .i64 c)]) ∧ At w' B base s k v ts ∧ Moved B base w w'
  | .tok t tt => e = .returned (.tuple #[.bool true, (.int .i64 0)]) ∧ ∃ v', At w' B base s tt v' (ts ++ [t]) ∧ Moved B base w w'
def PutR (w : World) (B base : Nat) (s : ByteArray) (tt : Nat) (ts : List Tok) (e : Ending) (w' : World) : Prop := e = .returned (.int .i64 0) ∧ ∃ v', At w' B base s tt v' ts ∧ Moved B base w w'
theorem put_at {w : World} {B base : Nat} {s : ByteArray} {k : Nat} {v : Value} {ts : List Tok} (h : At w B base s k v ts) (kind n : Int) (str : ByteArray) (tt : Nat) (hk : k < tt) (hto : tt ≤ 65536) (x : Int) (hx : x = tt) :
    Calls Tryz.prog 86 #[.pointer (some ⟨B, 0, none⟩), (.int .i64 kind), (.int .i64 x), .string str, (.int .i64 n)] w (PutR w B base s tt (ts ++ [Tok.mk kind k str n])) := by
  subst hx
  have hl := h.len
  refine (put_any B base s k kind tt n str v ts w h.rd h.own h.lt h.le (by omega)).mono ?_
  rintro e w' ⟨rfl, v', h1, h2, h3⟩
  exact ⟨rfl, v', ⟨h1, h2, h.lt, Nat.le_trans h.le h3.size, by simp; omega, h.vars.turned h3 (by intro g hg hc; have := h.lt; omega)⟩, h3⟩
theorem At.drew {w : World} {B base : Nat} {s : ByteArray} {k : Nat} {v : Value} {ts : List Tok} (h : At w B base s k v ts) (n : Nat) : At (w.drewN n) B base s k v ts := h.same (drewN_turned _ _ _)
theorem moved_drew (B base : Nat) (w : World) (n : Nat) : Moved B base w (w.drewN n) := drewN_turned _ _ _
theorem class_same (c : Int) (w : World) (h0 : 0 ≤ c) (h1 : c ≤ 255) : Calls Tryz.prog 109 #[.int .u8 c] w fun e w' => e = .returned (.int .i64 (clsI c)) ∧ w' = w := (class_any c w h0 h1).mono fun _ _ ⟨h, h2⟩ => ⟨h, h2.symm⟩
theorem region_tail {P : Program} {id : Nat} {Q : Exit → Act → World → Prop} {a : Act} {w W : World} {l : List Oper} (hW : Turned (fun _ => False) w W) (n : Nat) (hm : P.follows .mixedOrders = true) (hB : Region.lexTailB .any l.toArray n = true)
    (h : ∀ V, Turned (fun _ => False) w V → wpStill P l.toArray V (fun a' => wpList P l.toArray Q (l.drop n) a' V) (l.take n) a) : (Code.region id l.toArray true).wp P Q a W :=
  wp_region_still_tail n hm hB (h _ hW.drew)
def nameT (s : ByteArray) (k : Nat) : TR :=
  if clsI (rest s k)[0]!.toNat ≠ 3 then .none else if 32 < spanTo s k 2 - k then .err 2 else .tok ⟨1, k, s.extract k (spanTo s k 2), 0⟩ (spanTo s k 2)
theorem rest_head (s : ByteArray) (k : Nat) (h : k < s.size) : (rest s k)[0]! = s[k] := by rw [rest_cons s k h]; rfl
theorem spanTo_gt (s : ByteArray) (k : Nat) (h : k < s.size) (least : Int) (hc : least ≤ clsI s[k].toNat) : k < spanTo s k least := by
  unfold spanTo
  rw [rest_cons s k h, spanL_cons_yes (by exact hc)]
  omega
theorem span_calls (B : Nat) (s : ByteArray) (k : Nat) (v : Value) (least : Int) (w : World) (hR : Rd w B s k v) (hs : s.size ≤ 65536) (hk : k ≤ s.size) : ∀ n, 
    Calls Tryz.prog 127 #[.pointer (some ⟨B, 0, none⟩), (.int .i64 least)] (w.drewN n) fun e w' => e = .returned (.int .i64 ((spanTo s k least : Nat))) ∧ w.drewN n = w' := fun n => span_any B s k v least (w.drewN n) hR (by omega) hk
set_option maxRecDepth 20000 in
set_option maxHeartbeats 2000000 in
theorem name_any (B base : Nat) (s : ByteArray) (k : Nat) (v : Value) (ts : List Tok) (w : World) (h : At w B base s k v ts) (hs : s.size ≤ 65536) (hk : k < s.size) :
    Calls Tryz.prog 110 #[.pointer (some ⟨B, 0, none⟩)] w (Took w B base s v k ts (nameT s k)) := by
  obtain ⟨c0, c1, c2⟩ := h.rd.cells
  have hb : (s[k].toNat : Int) ≤ 255 := by have := s[k].toNat_lt; omega
  have HC := Lib.hid (fun (W : World) => class_same (s[k].toNat : Int) W (by omega) hb)
  have HS := Lib.hid (span_calls B s k v 2 w h.rd hs (by omega))
  have HN : Hid (nameT s k = if clsI s[k].toNat ≠ 3 then .none else if 32 < spanTo s k 2 - k then .err 2 else .tok ⟨1, k, s.extract k (spanTo s k 2), 0⟩ (spanTo s k 2)) := by
    show _ = _
    unfold nameT; rw [rest_head s k hk]
  have HG := Lib.hid (spanTo_gt s k hk 2)
  have hto := spanTo_le s k 2 (by omega)
  have hge := spanTo_ge s k 2
  have H := Lib.hid h
  have hw : IntKind.i64.wrap (((spanTo s k 2 : Nat) : Int) - k) = ((spanTo s k 2 : Nat) : Int) - k := IntWalk.i64_in _ (by omega)
  clear h
  go_enter Tryz.func110, Tryz.ntmps110
  go_wp2_with fail
  by_cases hc : clsI s[k].toNat = 3
  · have kc : (clsI s[k].toNat == 3) = true := by simpa using hc
    have hgt := HG.out (by omega)
    go_quiet ((go_at_call 109; (first | exact quiet_add_same (HC.out _) | exact Calls.quiet_of_same (HC.out _))))
    by_cases hl : 32 < spanTo s k 2 - k
    · have HF : Hid (nameT s k = .err 2) := by show _ = _; rw [HN.out, if_neg (by simpa using hc), if_pos hl]
      go_wp2_with (go_at_call 127; refine (HS.out _).mono ?_; rintro e w' ⟨rfl, rfl⟩)
      go_ret2
      rw [HF.out]
      exact ⟨rfl, H.out.drew _, moved_drew _ _ _ _⟩
    · have HF : Hid (nameT s k = .tok ⟨1, k, s.extract k (spanTo s k 2), 0⟩ (spanTo s k 2)) := by show _ = _; rw [HN.out, if_neg (by simpa using hc), if_neg hl]
      have HP := Lib.hid (fun (W : World) (ht : Turned (fun _ => False) w W) => put_at (H.out.same ht) 1 0 (s.extract k (spanTo s k 2)) (spanTo s k 2) hgt (by omega) _ rfl)
      go_wp2_with (go_at_call 127; refine (HS.out _).mono ?_; rintro e w' ⟨rfl, rfl⟩)
      refine region_tail (w := w) (drewN_turned _ w _) 12 (by kernel_rfl) (by kernel_rfl) (fun V hT => ?_)
      obtain ⟨d0, d1, d2⟩ := (H.out.same hT).rd.cells
      have HV := Lib.hid (HP.out V hT)
      have HT := Lib.hid hT
      clear hT
      simp only [List.take_succ_cons, List.take_zero, List.drop_succ_cons, List.drop_zero]
      repeat still_step
      refine wpStill_nil ?_
      go_wp2_with (go_at_call 86; refine (HV.out.mono ?_); rintro e w6 ⟨rfl, HQ⟩; have HQ := Lib.hid HQ)
      go_wp2_with fail
      go_ret2
      rw [HF.out]
      obtain ⟨v', q1, q2⟩ := HQ.out
      exact ⟨rfl, v', q1, (Moved.of HT.out).trans q2⟩
  · have kc : (clsI s[k].toNat == 3) = false := by simpa using hc
    have HF : Hid (nameT s k = .none) := by show _ = _; rw [HN.out, if_pos hc]
    go_quiet ((go_at_call 109; (first | exact quiet_add_same (HC.out _) | exact Calls.quiet_of_same (HC.out _))))
    go_wp2_with fail
    go_ret2
    rw [HF.out]
    exact ⟨rfl, H.out.drew _, moved_drew _ _ _ _⟩
def AtoiR (w : World) (l : List UInt8) (e : Ending) (w' : World) : Prop :=
  Turned (fun _ => False) w w' ∧ match Lib.atoiAll l with
    | .ok n => e = .returned (.tuple #[(.int .i64 n), .nilIface])
    | _ => ∃ n te pe, e = .returned (.tuple #[(.int .i64 n), .iface te pe])
theorem atoi_any (str : ByteArray) (hs : str.size ≤ 65536) (n : Nat) (w : World) (hv : Vars n w) : Calls Tryz.prog 128 #[.string str] w (AtoiR w str.data.toList) := by
  obtain ⟨⟨a, b, h1, _⟩, ⟨c, d, h2, _⟩, _⟩ := hv
  have hok := fun m h => Tryz.strconv_Atoi_ok str (by omega) m h w
  have hsy := fun h => Any.strconv_Atoi_syntax_var Tryz.laysC172 str (by omega) h a b w h1
  have hra := fun h => Tryz.strconv_Atoi_range_var str (by omega) h c d w h2
  unfold AtoiR
  revert hok hsy hra
  generalize Lib.atoiAll str.data.toList = r
  intro hok hsy hra
  cases r
  case ok m =>
    refine (hok m rfl).mono ?_
    rintro e w' ⟨rfl, h3⟩
    refine ⟨?_, rfl⟩
    rcases h3 with rfl | ⟨t, rfl⟩
    · exact Turned.refl _ _
    · exact Turned.of_new (Go.Joins.below_bytesWorld _ _ _ _ (Nat.le_refl _))
  case range =>
    refine (hra rfl).mono ?_
    rintro e w' ⟨N, rfl, h3, h4, h5⟩
    exact ⟨Turned.of_new h5, _, _, _, rfl⟩
  all_goals
    refine (hsy rfl).mono ?_
    rintro e w' ⟨N, rfl, h3, h4, h5⟩
    exact ⟨Turned.of_new h5, _, _, _, rfl⟩
def numOf (k tt : Nat) (str : ByteArray) : TR :=
  match Lib.atoiAll str.data.toList with
  | .ok n => if 15 < str.size ∨ (1 < str.size ∧ str[0]! = 48) then .err 27 else .tok ⟨2, k, ⟨#[]⟩, n⟩ tt
  | _ => .err 27
def numT (s : ByteArray) (k : Nat) : TR :=
  if clsI (rest s k)[0]!.toNat ≠ 2 then .none else numOf k (spanTo s k 2) (s.extract k (spanTo s k 2))
set_option maxRecDepth 20000 in
set_option maxHeartbeats 2000000 in
theorem number_any (B base : Nat) (s : ByteArray) (k : Nat) (v : Value) (ts : List Tok) (w : World) (h : At w B base s k v ts) (hs : s.size ≤ 65536) (hk : k < s.size) :
    Calls Tryz.prog 111 #[.pointer (some ⟨B, 0, none⟩)] w (Took w B base s v k ts (numT s k)) := by
  obtain ⟨c0, c1, c2⟩ := h.rd.cells
  have hb : (s[k].toNat : Int) ≤ 255 := by have := s[k].toNat_lt; omega
  have HC := Lib.hid (fun (W : World) => class_same (s[k].toNat : Int) W (by omega) hb)
  have HS := Lib.hid (span_calls B s k v 2 w h.rd hs (by omega))
  have HN : Hid (numT s k = if clsI s[k].toNat ≠ 2 then .none else numOf k (spanTo s k 2) (s.extract k (spanTo s k 2))) := by
    show _ = _
    unfold numT; rw [rest_head s k hk]
  have HG := Lib.hid (spanTo_gt s k hk 2)
  have hto := spanTo_le s k 2 (by omega)
  have hge := spanTo_ge s k 2
  have H := Lib.hid h
  clear h
  go_enter Tryz.func111, Tryz.ntmps111
  go_wp2_with fail
  by_cases hc : clsI s[k].toNat = 2
  · have kc : (clsI s[k].toNat == 2) = true := by simpa using hc
    have hgt := HG.out (by omega)
    go_quiet ((go_at_call 109; (first | exact quiet_add_same (HC.out _) | exact Calls.quiet_of_same (HC.out _))))
    have HF : Hid (numT s k = numOf k (spanTo s k 2) (s.extract k (spanTo s k 2))) := by show _ = _; rw [HN.out, if_neg (by simpa using hc)]
    go_wp2_with (go_at_call 127; refine (HS.out _).mono ?_; rintro e w' ⟨rfl, rfl⟩)
    go_quiet (fail)
    have hsz : (s.extract k (spanTo s k 2)).size = spanTo s k 2 - k := by simp; omega
    generalize s.extract k (spanTo s k 2) = str at HF hsz ⊢
    have h0 : 0 < str.size := by omega
    have h0v : str[0]! = str[0] := by simp [getElem!_pos, h0]
    have HA := Lib.hid (fun (W : World) (ht : Turned (fun _ => False) w W) => atoi_any str (by omega) B W (H.out.same ht).vars)
    have HK := Lib.hid (fun (W W' : World) (e : Ending) (ht : Turned (fun _ => False) w W) (hr : AtoiR W str.data.toList e W') => (show Turned (fun _ => False) w W' from ht.trans hr.1))
    cases ha : Lib.atoiAll str.data.toList
    case ok n =>
      have HP := Lib.hid (fun (W : World) (ht : Turned (fun _ => False) w W) => put_at (H.out.same ht) 2 n ⟨#[]⟩ (spanTo s k 2) hgt (by omega) _ rfl)
      have HR := Lib.hid (fun (W W' : World) (e : Ending) (hr : AtoiR W str.data.toList e W') => (show e = .returned (.tuple #[(.int .i64 n), .nilIface]) by have := hr.2; rw [ha] at this; exact this))
      have HX : Hid (numOf k (spanTo s k 2) str = if 15 < str.size ∨ (1 < str.size ∧ str[0]! = 48) then .err 27 else .tok ⟨2, k, ⟨#[]⟩, n⟩ (spanTo s k 2)) := by show _ = _; unfold numOf; rw [ha]
      clear ha
      by_cases h15 : 15 < str.size
      · have HY : Hid (numT s k = .err 27) := by show _ = _; rw [HF.out, HX.out, if_pos (.inl h15)]
        go_wp2_with (go_at_call 128; refine ((HA.out _ (drewN_turned _ w _)).mono ?_); intro e w7 hr; obtain rfl := HR.out _ _ _ hr; have HT := Lib.hid (HK.out _ _ _ (drewN_turned _ w _) hr); clear hr)
        go_ret2
        rw [HY.out]
        exact ⟨rfl, H.out.same HT.out, Moved.of HT.out⟩
      · by_cases h1 : 1 < str.size
        · have hi : (1 : Int) < str.size := by omega
          by_cases h48 : str[0] = 48
          · have k48 : ((str[0].toNat : Int) == 48) = true := by rw [h48]; rfl
            have HY : Hid (numT s k = .err 27) := by show _ = _; rw [HF.out, HX.out, if_pos (.inr ⟨h1, by rw [h0v]; exact h48⟩)]
            clear h48 h0v
            go_wp2_with (go_at_call 128; refine ((HA.out _ (drewN_turned _ w _)).mono ?_); intro e w7 hr; obtain rfl := HR.out _ _ _ hr; have HT := Lib.hid (HK.out _ _ _ (drewN_turned _ w _) hr); clear hr)
            go_ret2
            rw [HY.out]
            exact ⟨rfl, H.out.same HT.out, Moved.of HT.out⟩
          · have k48 : ((str[0].toNat : Int) == 48) = false := by
              have : str[0].toNat ≠ 48 := fun h => h48 (UInt8.toNat_inj.1 h)
              simp; omega
            have HY : Hid (numT s k = .tok ⟨2, k, ⟨#[]⟩, n⟩ (spanTo s k 2)) := by show _ = _; rw [HF.out, HX.out, if_neg (by rw [h0v]; exact fun h => h.elim h15 fun h => h48 h.2)]
            clear h48 h0v
            go_wp2_with (first | (go_at_call 128; refine ((HA.out _ (drewN_turned _ w _)).mono ?_); intro e w7 hr; obtain rfl := HR.out _ _ _ hr; have HT := Lib.hid (HK.out _ _ _ (drewN_turned _ w _) hr); clear hr) | (go_at_call 86; refine ((HP.out _ HT.out).mono ?_); rintro e w6 ⟨rfl, HQ⟩; have HQ := Lib.hid HQ))
            go_ret2
            rw [HY.out]
            obtain ⟨v', q1, q2⟩ := HQ.out
            exact ⟨rfl, v', q1, (Moved.of HT.out).trans q2⟩
        · have HY : Hid (numT s k = .tok ⟨2, k, ⟨#[]⟩, n⟩ (spanTo s k 2)) := by show _ = _; rw [HF.out, HX.out, if_neg (fun h => h.elim h15 fun h => h1 h.1)]
          go_wp2_with (first | (go_at_call 128; refine ((HA.out _ (drewN_turned _ w _)).mono ?_); intro e w7 hr; obtain rfl := HR.out _ _ _ hr; have HT := Lib.hid (HK.out _ _ _ (drewN_turned _ w _) hr); clear hr) | (go_at_call 86; refine ((HP.out _ HT.out).mono ?_); rintro e w6 ⟨rfl, HQ⟩; have HQ := Lib.hid HQ))
          go_ret2
          rw [HY.out]
          obtain ⟨v', q1, q2⟩ := HQ.out
          exact ⟨rfl, v', q1, (Moved.of HT.out).trans q2⟩
    all_goals
      have HR := Lib.hid (fun (W W' : World) (e : Ending) (hr : AtoiR W str.data.toList e W') => (show ∃ n te pe, e = .returned (.tuple #[(.int .i64 n), .iface te pe]) by have := hr.2; rw [ha] at this; exact this))
      have HY : Hid (numT s k = .err 27) := by show _ = _; rw [HF.out]; unfold numOf; rw [ha]
      clear ha
      go_wp2_with (go_at_call 128; refine ((HA.out _ (drewN_turned _ w _)).mono ?_); intro e w7 hr; obtain ⟨n7, te, pe, rfl⟩ := HR.out _ _ _ hr; have HT := Lib.hid (HK.out _ _ _ (drewN_turned _ w _) hr); clear hr)
      go_ret2
      rw [HY.out]
      exact ⟨rfl, H.out.same HT.out, Moved.of HT.out⟩
  · have kc : (clsI s[k].toNat == 2) = false := by simpa using hc
    have HF : Hid (numT s k = .none) := by show _ = _; rw [HN.out, if_pos hc]
    go_quiet ((go_at_call 109; (first | exact quiet_add_same (HC.out _) | exact Calls.quiet_of_same (HC.out _))))
    go_wp2_with fail
    go_ret2
    rw [HF.out]
    exact ⟨rfl, H.out.drew _, moved_drew _ _ _ _⟩
end Go.Proofs.YtjijdgkccfeeaaaGreatDoor
namespace Go.Proofs.YtjijdgkccfeeaaaGreatDoor
open Go Go.Proofs Go.RowKit Go.Maps
attribute [local go_sem] Oper.semAt_some
theorem keyII : Keyed Tryz.prog 3 := int_keyed Tryz.underlying3
theorem zeroI (w : World) : (zeroValue 3).run Tryz.prog w = .ok (.int .i64 0) w := by kernel_rfl
def mapD0 : DataW Unit := .map []
def mapD : DataW Unit := ((mapD0.put (.int .i64 5) (.lit (.int .i64 1))).put (.int .i64 6) (.lit (.int .i64 1))).put (.int .i64 20) (.lit (.int .i64 3))
def MapS (b : Nat) (W : World) : Prop := W.ownsMap Tryz.prog 3 (plainElem Tryz.prog 3) b 3 mapD
theorem map_at {b : Nat} {W : World} (h : MapS b W) (k c : Int) (hk : (Lit.int .i64 k).wf = true) (hc : mapD.atKey (.int .i64 k) (.lit (.int .i64 0)) = .lit (.int .i64 c)) : (Instr.lookup 132 (.map (some b)) (.int .i64 k) false).run Tryz.prog W = .ok (.int .i64 c) W := by
  obtain ⟨c', h1, h2, -⟩ := World.ownsMap.lookup_int h keyII Tryz.underlying132 Tryz.underlying3 (zeroI W) (keyOf_int_mk Tryz.underlying3 hk)
  rw [hc] at h2
  cases h2
  exact h1
theorem map5 : mapD.atKey (.int .i64 5) (.lit (.int .i64 0)) = .lit (.int .i64 1) := by kernel_rfl
theorem map6 : mapD.atKey (.int .i64 6) (.lit (.int .i64 0)) = .lit (.int .i64 1) := by kernel_rfl
theorem map20 : mapD.atKey (.int .i64 20) (.lit (.int .i64 0)) = .lit (.int .i64 3) := by kernel_rfl
theorem XE.setBad {B eb : Nat} {x : Ex} {a : Value} {w W : World} {ts : List Tok} {bad : Bool} (h : Hid (XE B eb x a w ts bad W)) : W.frozen? ⟨B, 1, none⟩ = false ∧ (∃ v, W.cell? ⟨B, 1, none⟩ = some v) ∧ PrS B ts true (W.setCell ⟨B, 1, none⟩ (.bool true)) ∧ PrT B W (W.setCell ⟨B, 1, none⟩ (.bool true)) := by
  obtain ⟨v, h0, h1⟩ := h.out.ps
  have ht : Turned (fun j => j = B) W (W.setCell ⟨B, 1, none⟩ (.bool true)) := (Turned.refl (fun j => j = B) W).setCell (p := ⟨B, 1, none⟩) rfl _
  have hb := (set_bad h0 (.bool true)).2
  refine ⟨free_of_box h0 1, ⟨_, (pr_cells h0).2⟩, ⟨v, hb, ownsRow_turned ht (fun k hk => by omega) h1⟩, ht.os, ht.tape, ht.output, ht.size, fun b hlt hf => ⟨ht.block b hlt hf.1, hf.1, fun u y hu => ?_⟩⟩
  rw [hb] at hu
  cases hu
  exact hf.2 v _ h0
theorem showX_head (x : Ex) : (showX x).2 = headX x.op x.n x.s (showXs x.kids) := by cases x; rfl
theorem turned_made {w w1 w2 w3 : World} {o : Obj} (h1 : (w.alloc o).grownBy w1 (some w.heap.size)) (h2 : w1.grownBy w2 (some w.heap.size)) (h3 : w2.grownBy w3 (some w.heap.size)) : Turned (fun _ => False) w w3 := by
  have ht : Turned (fun j => j = w.heap.size) w w3 := (((Turned.refl _ _).alloc o).trans (Turned.of_grown h1 fun k hk => by cases hk; rfl)).trans ((Turned.of_grown h2 fun k hk => by cases hk; rfl).trans (Turned.of_grown h3 fun k hk => by cases hk; rfl))
  exact ⟨ht.os, ht.tape, ht.output, ht.size, fun k hk _ => ht.block k hk (by omega)⟩
theorem showXs_len (l : List Ex) : (showXs l).length = l.length := by rw [showXs_map, List.length_map]
theorem showX_pair (x : Ex) : showX x = (x.op, (showX x).2) := by cases x; rfl
theorem showXs_at {l : List Ex} {i : Nat} {y : Ex} (h : l[i]? = some y) : (showXs l)[i]? = some (y.op, (showX y).2) := by
  rw [showXs_map, List.getElem?_map, h, ← showX_pair]; rfl
theorem showXs_one (y : Ex) : showXs [y] = [(y.op, (showX y).2)] := by rw [← showX_pair]; rfl
theorem showXs_two (y z : Ex) : showXs [y, z] = [(y.op, (showX y).2), (z.op, (showX z).2)] := by rw [← showX_pair, ← showX_pair]; rfl
theorem showXs_three (y z u : Ex) : showXs [y, z, u] = [(y.op, (showX y).2), (z.op, (showX z).2), (u.op, (showX u).2)] := by rw [← showX_pair, ← showX_pair, ← showX_pair]; rfl
theorem callX_snoc : ∀ (l : List (Int × Pr)) (k : Nat) (op : Int) (p : Pr), callX k (l ++ [(op, p)]) = Pr.app (callX k l) (Pr.app (if 0 < k + l.length then [sgT ⟨#[44]⟩] else [], false) (opndX 0 op p))
  | [], k, op, p => by simp [callX, Pr.app_nil, Pr.nil_app]
  | (o, q) :: l, k, op, p => by
    rw [List.cons_append, callX, callX, callX_snoc l (k + 1) op p, Pr.app_assoc, Pr.app_assoc, List.length_cons, show k + 1 + l.length = k + (l.length + 1) by omega]
theorem callX_succ {K : List (Int × Pr)} {i : Nat} {op : Int} {p : Pr} (h : K[i]? = some (op, p)) : callX 0 (K.take (i + 1)) = Pr.app (callX 0 (K.take i)) (Pr.app (if 0 < i then [sgT ⟨#[44]⟩] else [], false) (opndX 0 op p)) := by
  have hlt := lt_of_some h
  have e : K.take (i + 1) = K.take i ++ [(op, p)] := by rw [List.take_add_one, h]; rfl
  rw [e, callX_snoc, List.length_take, Nat.min_eq_left (by omega), Nat.zero_add]
theorem callX_app : ∀ (l r : List (Int × Pr)) (k : Nat), callX k (l ++ r) = Pr.app (callX k l) (callX (k + l.length) r)
  | [], r, k => by simp [callX, Pr.nil_app]
  | (o, q) :: l, r, k => by
    rw [List.cons_append, callX, callX, callX_app l r (k + 1), Pr.app_assoc, Pr.app_assoc, List.length_cons, show k + 1 + l.length = k + (l.length + 1) by omega]
theorem callX_le (K : List (Int × Pr)) (i : Nat) : (callX 0 (K.take i)).1.length ≤ (callX 0 K).1.length := by
  have h := callX_app (K.take i) (K.drop i) 0
  rw [List.take_append_drop] at h
  rw [h]
  simp [Pr.app]
theorem list_three {α : Type} {l : List α} (h : l.length = 3) : ∃ a b c, l = [a, b, c] := by
  rcases l with _ | ⟨a, _ | ⟨b, _ | ⟨c, _ | ⟨d, l⟩⟩⟩⟩
  · cases h
  · cases h
  · cases h
  · exact ⟨a, b, c, rfl⟩
  · simp at h
theorem list_two {α : Type} {l : List α} (h : l.length = 2) : ∃ a b, l = [a, b] := by
  rcases l with _ | ⟨a, _ | ⟨b, _ | ⟨c, l⟩⟩⟩
  · cases h
  · cases h
  · exact ⟨a, b, rfl⟩
  · simp at h
theorem opOf_lt {op : Int} {i : Nat} (h : opOf op = some i) : i < 13 := by
  unfold opOf at h
  rw [List.findIdx?_eq_some_iff_getElem] at h
  obtain ⟨h1, -⟩ := h
  simpa [opRows] using h1
theorem opRow_le {i : Nat} {r : ByteArray × Int × Nat} (h : opRows[i]? = some r) : r.2.2 ≤ 6 :=
  (show ∀ r ∈ opRows, r.2.2 ≤ 6 by decide) r (List.mem_of_getElem? h)
theorem index_none {op : Int} {eb gb : Nat} {w : World} (h : opOf op = none) (he : w.cell? ⟨eb, 0, none⟩ = some (.int .i64 op)) (hr : RowAt w gb 0 3 13 opRow) :
    Calls Tryz.prog 75 #[.slice (some ⟨gb, 0, none⟩) 13 13, .func (Fn.func 77) #[] #[.pointer (some ⟨eb, 0, none⟩)]] w fun e w' => e = .returned (.int .i64 (-1)) ∧ Turned (fun _ => False) w w' := by
  have := indexE_pr op eb gb w he hr
  rw [h] at this
  exact this
theorem index_some {op : Int} {i eb gb : Nat} {w : World} (h : opOf op = some i) (he : w.cell? ⟨eb, 0, none⟩ = some (.int .i64 op)) (hr : RowAt w gb 0 3 13 opRow) :
    Calls Tryz.prog 75 #[.slice (some ⟨gb, 0, none⟩) 13 13, .func (Fn.func 77) #[] #[.pointer (some ⟨eb, 0, none⟩)]] w fun e w' => e = .returned (.int .i64 ((i : Nat))) ∧ Turned (fun _ => False) w w' := by
  have := indexE_pr op eb gb w he hr
  rw [h] at this
  exact this
theorem keepBox {B b : Nat} {W W' : World} {o : Obj} (h : W.heap[b]? = some o ∧ Free B W b) (ht : PrT B W W') : W'.heap[b]? = some o ∧ Free B W' b := by
  obtain ⟨h1, h2⟩ := ht.keep b (getElem?_lt h.1) h.2
  exact ⟨h1.trans h.1, h2⟩
theorem three_of {V : World} {N t : Nat} {a b c : Value} (hh : V.heap[N]? = some (.cells #[a, b, c] t (0, 0))) : V.cell? ⟨N, 0, none⟩ = some a ∧ V.cell? ⟨N, 1, none⟩ = some b ∧ V.cell? ⟨N, 2, none⟩ = some c := by
  simp [World.cell?, hh]
theorem headX_bad5 (n : Int) (s : ByteArray) (ks : List Ex) (h : ks.length ≠ 1) : headX 5 n s (showXs ks) = ([], true) := by
  rcases ks with _ | ⟨a, _ | ⟨b, _ | ⟨c, _ | ⟨d, l⟩⟩⟩⟩
  · rfl
  · exact absurd rfl h
  · rfl
  · rfl
  · rfl
theorem headX_bad6 (n : Int) (s : ByteArray) (ks : List Ex) (h : ks.length ≠ 1) : headX 6 n s (showXs ks) = ([], true) := by
  rcases ks with _ | ⟨a, _ | ⟨b, _ | ⟨c, _ | ⟨d, l⟩⟩⟩⟩
  · rfl
  · exact absurd rfl h
  · rfl
  · rfl
  · rfl
theorem headX_bad20 (n : Int) (s : ByteArray) (ks : List Ex) (h : ks.length ≠ 3) : headX 20 n s (showXs ks) = ([], true) := by
  rcases ks with _ | ⟨a, _ | ⟨b, _ | ⟨c, _ | ⟨d, l⟩⟩⟩⟩
  · rfl
  · rfl
  · rfl
  · exact absurd rfl h
  · rfl
theorem headX_bad {op : Int} (n : Int) (s : ByteArray) (ks : List Ex) (h1 : ¬ op = 1) (h2 : ¬ op = 2) (h3 : ¬ op = 3) (h4 : ¬ op = 4) (h5 : ¬ op = 5) (h6 : ¬ op = 6) (h20 : ¬ op = 20) (h : opOf op = none ∨ ks.length ≠ 2) : headX op n s (showXs ks) = ([], true) := by
  unfold headX
  rw [if_neg h1, if_neg h2, if_neg h3, if_neg h4]
  rcases ks with _ | ⟨a, _ | ⟨b, _ | ⟨c, _ | ⟨d, l⟩⟩⟩⟩
  · rfl
  · rw [showXs_one]; simp only; rw [if_neg h5, if_neg h6]
  · rcases h with h | h
    · rw [showXs_two]; simp only; rw [lvlOp_none h]
    · exact absurd rfl h
  · rw [showXs_three]; simp only; rw [if_neg h20]
  · rfl
theorem headX_bin {op : Int} (n : Int) (s : ByteArray) (y z : Ex) (h1 : ¬ op = 1) (h2 : ¬ op = 2) (h3 : ¬ op = 3) (h4 : ¬ op = 4) {i : Nat} {r : ByteArray × Int × Nat} (h : opOf op = some i) (hr : opRows[i]? = some r) :
    headX op n s (showXs [y, z]) = Pr.app (opndX (if r.2.2 = 4 then 5 else r.2.2) y.op (showX y).2) (Pr.app ([sgT r.1], false) (opndX (r.2.2 + 1) z.op (showX z).2)) := by
  unfold headX
  rw [if_neg h1, if_neg h2, if_neg h3, if_neg h4, showXs_two]
  simp only
  rw [lvlOp_found h hr]
set_option maxRecDepth 20000 in
set_option maxHeartbeats 8000000 in
theorem expr_of (x : Ex) (hx : ∀ y ∈ x.kids, OpndC y) : ExprC x := by
  intro B ts bad a w h hk hl hs
  have hmm := @run_makeMap Tryz.prog
  have HK := Lib.hid hx
  have hss := smallX_s hs
  have HSM := Lib.hid (smallX_kids hs)
  have HS := Lib.hid (XE.start h hk)
  obtain ⟨pa, ca, rfl⟩ := hk.shape
  have hlen := hk.len
  unfold maxLen at hlen
  clear h hk hx hs
  unfold exA
  rw [showX_head] at hl ⊢
  obtain ⟨op, n, s, ks, at_⟩ := x
  simp only [Ex.op, Ex.n, Ex.s, Ex.at_, Ex.kids] at hl hlen HK HS hss HSM ⊢
  obtain ⟨W1, hW1⟩ : ∃ W1, W1 = w.alloc (.cells #[(.int .i64 op), (.int .i64 n), .string s, .slice pa ks.length ca, (.int .i64 at_)] 31) := ⟨_, rfl⟩
  obtain ⟨eb, heb⟩ : ∃ eb, eb = w.heap.size := ⟨_, rfl⟩
  rw [← hW1, ← heb] at HS
  have HW := Lib.hid hW1
  have HB := Lib.hid heb
  clear hW1 heb
  have HM0 := Lib.hid (World.ownsMap_made W1 Tryz.prog 3 (plainElem (H := Unit) Tryz.prog 3))
  go_enter Tryz.func41, Tryz.ntmps41
  go_upto_region 1 with fail
  rw [← HW.out, ← HB.out]
  go_cut [4] from 10 to 11 (fun m wx => ∃ b, m = .map (some b) ∧ Hid (MapS b wx ∧ Turned (fun _ => False) W1 wx))
  case first =>
    clear HK HSM HS HW HB
    go_wp2_with (first
      | (refine wpList_insert_own _ rfl _ _ _ 132 rfl 3 3 keyII Tryz.underlying132 _ W1.heap.size 0 _ rfl HM0.out (by decide) _ _ _ rfl rfl (keyOf_int_mk Tryz.underlying3 (by decide)) _ [] (plainElem_int Tryz.underlying3 (by decide)) ?_; intro w1 hown1 hg1; have HM1 := Lib.hid hown1; have HG1 := Lib.hid hg1; clear hown1 hg1)
      | (refine wpList_insert_own _ rfl _ _ _ 132 rfl 3 3 keyII Tryz.underlying132 _ W1.heap.size 1 _ rfl HM1.out (by decide) _ _ _ rfl rfl (keyOf_int_mk Tryz.underlying3 (by decide)) _ [] (plainElem_int Tryz.underlying3 (by decide)) ?_; intro w2 hown2 hg2; have HM2 := Lib.hid hown2; have HG2 := Lib.hid hg2; clear hown2 hg2)
      | (refine wpList_insert_own _ rfl _ _ _ 132 rfl 3 3 keyII Tryz.underlying132 _ W1.heap.size 2 _ rfl HM2.out (by decide) _ _ _ rfl rfl (keyOf_int_mk Tryz.underlying3 (by decide)) _ [] (plainElem_int Tryz.underlying3 (by decide)) ?_; intro w3 hown3 hg3; have HM3 := Lib.hid hown3; have HG3 := Lib.hid hg3; clear hown3 hg3))
    go_meet
    case rel => exact ⟨_, rfl, Lib.hid ⟨HM3.out, turned_made (HG1.out) (HG2.out) (HG3.out)⟩⟩
  case rest =>
    obtain ⟨mb, rfl, HMP⟩ := hcut
    have HS1 := XE.same HS HMP.out.2
    clear HS hmm HM0
    obtain ⟨c0, c1, c2, c3, c4⟩ := XE.cells HS1
    simp only [Ex.op, Ex.n, Ex.s, Ex.at_] at c0 c1 c2 c3 c4
    by_cases h1 : op = 1
    · subst h1
      have HH : Hid (headX 1 n s (showXs ks) = ([nuT n], badNum n)) := Lib.hid rfl
      have HC := Lib.hid (number_pr B ts bad n wc HS1.out.ps (by omega))
      clear HK
      go_wp2_with (go_at_call 68; refine HC.out.mono ?_; rintro e w2 ⟨rfl, hp, ht⟩)
      go_end0
      rw [HH.out]
      exact ⟨rfl, hp, HS1.out.tr.trans ht⟩
    by_cases h2 : op = 2
    · subst h2
      have HH : Hid (headX 2 n s (showXs ks) = ([txT s], badText s)) := Lib.hid rfl
      have HC := Lib.hid (text_pr B ts bad s wc HS1.out.ps (by omega) hss)
      clear HK
      go_wp2_with (go_at_call 69; refine HC.out.mono ?_; rintro e w2 ⟨rfl, hp, ht⟩)
      go_end0
      rw [HH.out]
      exact ⟨rfl, hp, HS1.out.tr.trans ht⟩
    by_cases h3 : op = 3
    · subst h3
      have HH : Hid (headX 3 n s (showXs ks) = ([nmT s], badName s)) := Lib.hid rfl
      have HC := Lib.hid (name_pr B ts bad s wc HS1.out.ps (by omega) hss)
      clear HK
      go_wp2_with (go_at_call 66; refine HC.out.mono ?_; rintro e w2 ⟨rfl, hp, ht⟩)
      go_end0
      rw [HH.out]
      exact ⟨rfl, hp, HS1.out.tr.trans ht⟩
    by_cases h4 : op = 4
    · subst h4
      have HH : Hid (headX 4 n s (showXs ks) = Pr.app ([nmT s, sgT ⟨#[40]⟩], badName s) (Pr.app (callX 0 (showXs ks)) ([sgT ⟨#[41]⟩], false))) := Lib.hid rfl
      have hl2 : ts.length + (2 + ((callX 0 (showXs ks)).1.length + 1)) ≤ 100000 := by have h := hl; rw [HH.out] at h; simp [Pr.app] at h; omega
      have HC := Lib.hid (name_pr B ts bad s wc HS1.out.ps (by omega) hss)
      go_upto_region 21 with (go_at_call 66; refine HC.out.mono ?_; rintro e w2 ⟨rfl, hp, ht⟩; have HS2 := XE.call HS1 hp ht; clear hp ht)
      have HC2 := Lib.hid (sign_pr HS2.out.ps (by simp; omega) ⟨#[40]⟩ 1)
      go_upto_region 22 with (go_at_call 67; refine HC2.out.mono ?_; rintro e w3 ⟨rfl, hp, ht⟩; have HS3 := XE.call HS2 hp ht; clear hp ht)
      clear c0 c1 c2 c3 c4
      obtain ⟨c0, c1, c2, c3, c4⟩ := XE.cells HS3
      simp only [Ex.op, Ex.n, Ex.s, Ex.at_] at c0 c1 c2 c3 c4
      go_wp2_with fail
      go_loopw [89] (fun u wr => ∃ i : Nat, i ≤ ks.length ∧ u = (.int .i64 i) ∧ Hid (XE B eb (.mk 4 n s ks at_) (.slice pa ks.length ca) w (ts ++ [nmT s] ++ [sgT ⟨#[40]⟩] ++ (callX 0 ((showXs ks).take i)).1) (bad || badName s || (callX 0 ((showXs ks).take i)).2) wr)) (fun u _ => ks.length - (intOf u).toNat)
      case atStart => exact ⟨0, by omega, rfl, by simpa [callX] using HS3⟩
      case round =>
        clear c0 c1 c2 c3 c4
        obtain ⟨i, hi, rfl, HR⟩ := hrel
        by_cases hlt : i < ks.length
        · obtain ⟨y, hy⟩ := some_of_lt hlt
          have hym := List.mem_of_getElem? hy
          obtain ⟨bx, ax, ky, rfl, ⟨x0, x1, x2, x3, x4⟩, HKY⟩ := kidsAt_get HR.out.kids hy
          have HY := Lib.hid (XE.start HR.out.ps HKY)
          obtain ⟨pk, ck, rfl⟩ := HKY.shape
          have lx := cell_lt x0
          have HCO := Lib.hid (HK.out y hym)
          have hsy := smallXs_mem HSM.out hym
          have HP := Lib.hid (callX_succ (i := i) (showXs_at hy))
          have hle := callX_le (showXs ks) (i + 1)
          rw [HP.out] at hle
          simp only [Pr.app, List.length_append] at hle
          have HS4 := XE.same HR ((Turned.refl (fun _ => False) wr).alloc (.cells #[(.int .i64 (y.op)), (.int .i64 (y.n)), .string y.s, .slice pk y.kids.length ck, (.int .i64 (y.at_))] 31))
          clear hy hym HKY
          by_cases hi0 : 0 < i
          · have hi1 : (0 : Int) < (i : Int) := by omega
            rw [if_pos hi0] at hle
            have HP2 := Lib.hid (HP.out.trans (by rw [if_pos hi0]))
            go_upto_region 26 with fail
            obtain ⟨W4, hW4⟩ : ∃ W4, W4 = wr.alloc (.cells #[(.int .i64 (y.op)), (.int .i64 (y.n)), .string y.s, .slice pk y.kids.length ck, (.int .i64 (y.at_))] 31) := ⟨_, rfl⟩
            rw [← hW4] at HS4 HY ⊢
            clear hW4 x0 x1 x2 x3 x4
            have HC3 := Lib.hid (sign_pr HS4.out.ps (by simp at hle ⊢; omega) ⟨#[44]⟩ 1)
            clear HP
            have HLE := Lib.hid hle
            clear hle
            go_wp2_with (first | (go_at_call 67; refine HC3.out.mono ?_; rintro e w4 ⟨rfl, hp, ht⟩; have HS5 := XE.call HS4 hp ht; have HY2 := XE.call HY hp ht; clear hp ht; obtain ⟨d0, d1, d2, d3, d4⟩ := XE.cells HY2; have HC4 := Lib.hid (HCO.out B _ _ _ 0 w4 HS5.out.ps HY2.out.kids (by have h := HLE.out; simp at h ⊢; omega) hsy); unfold exA at HC4) | (go_at_call 74; refine HC4.out.mono ?_; rintro e w5 ⟨rfl, hp, ht⟩; have HS6 := XE.call HS5 hp ht; clear hp ht))
            go_roundw
            case rel => exact ⟨i + 1, by omega, by go_num, by rw [HP2.out]; simpa [Pr.app, Bool.or_assoc] using HS6⟩
            case measure => simp [intOf]; omega
          · have hi1 : ¬ (0 : Int) < (i : Int) := by omega
            rw [if_neg hi0] at hle
            have HP2 := Lib.hid (HP.out.trans (by rw [if_neg hi0]))
            have HC4 := Lib.hid (HCO.out B _ _ _ 0 _ HS4.out.ps HY.out.kids (by simp at hle ⊢; omega) hsy)
            unfold exA at HC4
            clear HP hle hi0
            go_wp2_with (go_at_call 74; refine HC4.out.mono ?_; rintro e w5 ⟨rfl, hp, ht⟩; have HS6 := XE.call HS4 hp ht; clear hp ht)
            go_roundw
            case rel => exact ⟨i + 1, by omega, by go_num, by rw [HP2.out]; simpa [Pr.app, Bool.or_assoc] using HS6⟩
            case measure => simp [intOf]; omega
        · obtain rfl : i = ks.length := by omega
          have HE : Hid ((showXs ks).take ks.length = showXs ks) := Lib.hid (by rw [← showXs_len ks]; exact List.take_length)
          rw [HE.out] at HR
          have HC3 := Lib.hid (sign_pr HR.out.ps (by simp; omega) ⟨#[41]⟩ 1)
          go_wp2_with (go_at_call 67; refine HC3.out.mono ?_; rintro e w4 ⟨rfl, hp, ht⟩; have HS5 := XE.call HR hp ht; clear hp ht)
          go_end0
          rw [HH.out]
          refine ⟨rfl, ?_, HS5.out.tr⟩
          have := HS5.out.ps
          simpa [Pr.app, Bool.or_assoc] using this
    by_cases h5 : op = 5
    · subst h5
      have hlk := map_at HMP.out.1 5 1 (by decide) map5
      by_cases hk : ks.length = 1
      · obtain ⟨y, rfl⟩ := List.length_eq_one_iff.1 hk
        have HH : Hid (headX 5 n s (showXs [y]) = Pr.app ([sgT ⟨#[33]⟩], false) (opndX 3 y.op (showX y).2)) := Lib.hid (by rw [showXs_one]; rfl)
        have hl2 : ts.length + (1 + (opndX 3 y.op (showX y).2).1.length) ≤ 100000 := by have h := hl; rw [HH.out] at h; simp [Pr.app] at h; omega
        have hsy := smallXs_mem HSM.out (List.mem_singleton.2 rfl)
        have HCO := Lib.hid (HK.out y (List.mem_singleton.2 rfl))
        simp only [List.length_cons, List.length_nil] at c3 HS1 ⊢
        have HC := Lib.hid (sign_pr HS1.out.ps (by omega) ⟨#[33]⟩ 1)
        clear hl hk hlen
        go_upto_region 43 with (go_at_call 67; refine HC.out.mono ?_; rintro e w2 ⟨rfl, hp, ht⟩; have HS2 := XE.call HS1 hp ht; clear hp ht)
        clear c0 c1 c2 c3 c4
        obtain ⟨c0, c1, c2, c3, c4⟩ := XE.cells HS2
        simp only [Ex.op, Ex.n, Ex.s, Ex.at_] at c0 c1 c2 c3 c4
        obtain ⟨bx, ax, ky, rfl, ⟨x0, x1, x2, x3, x4⟩, HKY⟩ := kidsAt_get (i := 0) HS2.out.kids rfl
        simp only [Nat.zero_mul, Nat.add_zero] at x0 x1 x2 x3 x4
        obtain ⟨pk, ck, rfl⟩ := HKY.shape
        have HC4 := Lib.hid (HCO.out B _ _ _ 3 w2 HS2.out.ps HKY (by simp; omega) hsy)
        unfold exA at HC4
        clear HKY
        go_wp2_with (go_at_call 74; refine HC4.out.mono ?_; rintro e w5 ⟨rfl, hp, ht⟩; have HS6 := XE.call HS2 hp ht; clear hp ht)
        go_end0
        rw [HH.out]
        refine ⟨rfl, ?_, HS6.out.tr⟩
        have := HS6.out.ps
        simpa [Pr.app, Bool.or_assoc] using this
      · have HH : Hid (headX 5 n s (showXs ks) = ([], true)) := Lib.hid (headX_bad5 n s ks hk)
        have hkb : ((ks.length : Int) != 1) = true := by simp; omega
        obtain ⟨fz, ⟨fv, fc⟩, fp, ft⟩ := XE.setBad HS1
        have HF := Lib.hid (And.intro fp ft)
        clear fp ft
        clear HK hk
        go_wp2_with fail
        go_end0
        rw [HH.out]
        refine ⟨rfl, ?_, HS1.out.tr.trans HF.out.2⟩
        simpa using HF.out.1
    by_cases h6 : op = 6
    · subst h6
      have hlk := map_at HMP.out.1 6 1 (by decide) map6
      by_cases hk : ks.length = 1
      · obtain ⟨y, rfl⟩ := List.length_eq_one_iff.1 hk
        have HH : Hid (headX 6 n s (showXs [y]) = Pr.app ([sgT ⟨#[45]⟩], false) (opndX 7 y.op (showX y).2)) := Lib.hid (by rw [showXs_one]; rfl)
        have hl2 : ts.length + (1 + (opndX 7 y.op (showX y).2).1.length) ≤ 100000 := by have h := hl; rw [HH.out] at h; simp [Pr.app] at h; omega
        have hsy := smallXs_mem HSM.out (List.mem_singleton.2 rfl)
        have HCO := Lib.hid (HK.out y (List.mem_singleton.2 rfl))
        simp only [List.length_cons, List.length_nil] at c3 HS1 ⊢
        have HC := Lib.hid (sign_pr HS1.out.ps (by omega) ⟨#[45]⟩ 1)
        clear hl hk hlen
        go_upto_region 46 with (go_at_call 67; refine HC.out.mono ?_; rintro e w2 ⟨rfl, hp, ht⟩; have HS2 := XE.call HS1 hp ht; clear hp ht)
        clear c0 c1 c2 c3 c4
        obtain ⟨c0, c1, c2, c3, c4⟩ := XE.cells HS2
        simp only [Ex.op, Ex.n, Ex.s, Ex.at_] at c0 c1 c2 c3 c4
        obtain ⟨bx, ax, ky, rfl, ⟨x0, x1, x2, x3, x4⟩, HKY⟩ := kidsAt_get (i := 0) HS2.out.kids rfl
        simp only [Nat.zero_mul, Nat.add_zero] at x0 x1 x2 x3 x4
        obtain ⟨pk, ck, rfl⟩ := HKY.shape
        have HC4 := Lib.hid (HCO.out B _ _ _ 7 w2 HS2.out.ps HKY (by simp; omega) hsy)
        unfold exA at HC4
        clear HKY
        go_wp2_with (go_at_call 74; refine HC4.out.mono ?_; rintro e w5 ⟨rfl, hp, ht⟩; have HS6 := XE.call HS2 hp ht; clear hp ht)
        go_end0
        rw [HH.out]
        refine ⟨rfl, ?_, HS6.out.tr⟩
        have := HS6.out.ps
        simpa [Pr.app, Bool.or_assoc] using this
      · have HH : Hid (headX 6 n s (showXs ks) = ([], true)) := Lib.hid (headX_bad6 n s ks hk)
        have hkb : ((ks.length : Int) != 1) = true := by simp; omega
        obtain ⟨fz, ⟨fv, fc⟩, fp, ft⟩ := XE.setBad HS1
        have HF := Lib.hid (And.intro fp ft)
        clear fp ft
        clear HK hk
        go_wp2_with fail
        go_end0
        rw [HH.out]
        refine ⟨rfl, ?_, HS1.out.tr.trans HF.out.2⟩
        simpa using HF.out.1
    by_cases h20 : op = 20
    · subst h20
      have hlk := map_at HMP.out.1 20 3 (by decide) map20
      by_cases hk : ks.length = 3
      · obtain ⟨y, y2, y3, rfl⟩ := list_three hk
        have HH : Hid (headX 20 n s (showXs [y, y2, y3]) = Pr.app (opndX 1 y.op (showX y).2) (Pr.app ([sgT ⟨#[63]⟩], false) (Pr.app (opndX 0 y2.op (showX y2).2) (Pr.app ([sgT ⟨#[58]⟩], false) (opndX 0 y3.op (showX y3).2))))) := Lib.hid (by rw [showXs_three]; rfl)
        have hl2 : ts.length + ((opndX 1 y.op (showX y).2).1.length + (1 + ((opndX 0 y2.op (showX y2).2).1.length + (1 + (opndX 0 y3.op (showX y3).2).1.length)))) ≤ 100000 := by have h := hl; rw [HH.out] at h; simp [Pr.app] at h; omega
        simp only [List.length_cons, List.length_nil] at c3 HS1 ⊢
        have HSY := Lib.hid (And.intro (smallXs_mem HSM.out (show y ∈ [y, y2, y3] by simp)) (And.intro (smallXs_mem HSM.out (show y2 ∈ [y, y2, y3] by simp)) (smallXs_mem HSM.out (show y3 ∈ [y, y2, y3] by simp))))
        have HCO := Lib.hid (And.intro (HK.out y (by simp)) (And.intro (HK.out y2 (by simp)) (HK.out y3 (by simp))))
        clear hl hk hlen
        obtain ⟨bx, ax, ky, rfl, ⟨x0, x1, x2, x3, x4⟩, HKY⟩ := kidsAt_get (i := 0) HS1.out.kids rfl
        simp only [Nat.zero_mul, Nat.add_zero] at x0 x1 x2 x3 x4
        obtain ⟨pk, ck, rfl⟩ := HKY.shape
        have HC1 := Lib.hid (HCO.out.1 B _ _ _ 1 wc HS1.out.ps HKY (by omega) HSY.out.1)
        unfold exA at HC1
        clear HKY
        go_upto_region 37 with (go_at_call 74; refine HC1.out.mono ?_; rintro e w2 ⟨rfl, hp, ht⟩; have HS2 := XE.call HS1 hp ht; clear hp ht)
        clear c0 c1 c2 c3 c4 x0 x1 x2 x3 x4
        have HC2 := Lib.hid (sign_pr HS2.out.ps (by simp; omega) ⟨#[63]⟩ 1)
        go_upto_region 38 with (go_at_call 67; refine HC2.out.mono ?_; rintro e w3 ⟨rfl, hp, ht⟩; have HS3 := XE.call HS2 hp ht; clear hp ht)
        obtain ⟨c0, c1, c2, c3, c4⟩ := XE.cells HS3
        simp only [Ex.op, Ex.n, Ex.s, Ex.at_] at c0 c1 c2 c3 c4
        obtain ⟨bx2, ax2, ky2, he2, ⟨x0, x1, x2, x3, x4⟩, HKY2⟩ := kidsAt_get (i := 1) HS3.out.kids rfl
        cases he2
        simp only [Nat.one_mul] at x0 x1 x2 x3 x4
        obtain ⟨pk2, ck2, rfl⟩ := HKY2.shape
        have HC3 := Lib.hid (HCO.out.2.1 B _ _ _ 0 w3 HS3.out.ps HKY2 (by simp; omega) HSY.out.2.1)
        unfold exA at HC3
        clear HKY2
        go_upto_region 39 with (go_at_call 74; refine HC3.out.mono ?_; rintro e w4 ⟨rfl, hp, ht⟩; have HS4 := XE.call HS3 hp ht; clear hp ht)
        clear c0 c1 c2 c3 c4 x0 x1 x2 x3 x4
        have HC4 := Lib.hid (sign_pr HS4.out.ps (by simp; omega) ⟨#[58]⟩ 1)
        go_upto_region 40 with (go_at_call 67; refine HC4.out.mono ?_; rintro e w5 ⟨rfl, hp, ht⟩; have HS5 := XE.call HS4 hp ht; clear hp ht)
        obtain ⟨c0, c1, c2, c3, c4⟩ := XE.cells HS5
        simp only [Ex.op, Ex.n, Ex.s, Ex.at_] at c0 c1 c2 c3 c4
        obtain ⟨bx3, ax3, ky3, he3, ⟨x0, x1, x2, x3, x4⟩, HKY3⟩ := kidsAt_get (i := 2) HS5.out.kids rfl
        cases he3
        obtain ⟨pk3, ck3, rfl⟩ := HKY3.shape
        have HC5 := Lib.hid (HCO.out.2.2 B _ _ _ 0 w5 HS5.out.ps HKY3 (by simp; omega) HSY.out.2.2)
        unfold exA at HC5
        clear HKY3
        go_wp2_with (go_at_call 74; refine HC5.out.mono ?_; rintro e w6 ⟨rfl, hp, ht⟩; have HS6 := XE.call HS5 hp ht; clear hp ht)
        go_end0
        rw [HH.out]
        refine ⟨rfl, ?_, HS6.out.tr⟩
        have := HS6.out.ps
        simpa [Pr.app, Bool.or_assoc] using this
      · have HH : Hid (headX 20 n s (showXs ks) = ([], true)) := Lib.hid (headX_bad20 n s ks hk)
        have hkb : ((ks.length : Int) != 3) = true := by simp; omega
        obtain ⟨fz, ⟨fv, fc⟩, fp, ft⟩ := XE.setBad HS1
        have HF := Lib.hid (And.intro fp ft)
        clear fp ft
        clear HK hk
        go_wp2_with fail
        go_end0
        rw [HH.out]
        refine ⟨rfl, ?_, HS1.out.tr.trans HF.out.2⟩
        simpa using HF.out.1
    have HNB : Hid (opOf op = none ∨ ks.length ≠ 2 → headX op n s (showXs ks) = ([], true)) := Lib.hid (headX_bad n s ks h1 h2 h3 h4 h5 h6 h20)
    have b1 : (op == 1) = false := by simpa using h1
    have b2 : (op == 2) = false := by simpa using h2
    have b3 : (op == 3) = false := by simpa using h3
    have b4 : (op == 4) = false := by simpa using h4
    have b5 : (op == 5) = false := by simpa using h5
    have b6 : (op == 6) = false := by simpa using h6
    have b20 : (op == 20) = false := by simpa using h20
    have HNG := Lib.hid (And.intro h1 (And.intro h2 (And.intro h3 h4)))
    clear h1 h2 h3 h4 h5 h6 h20
    have hmf : ∀ (fn : Fn) (first cap : Array Value) (w : World), (Instr.makeFunc fn first cap).run Tryz.prog w = .ok (.func fn first cap) w := fun _ _ _ _ => rfl
    have HOP := Lib.hid (operators_any wc)
    clear hss HMP
    cases hop : opOf op with
    | none =>
      have HH := Lib.hid (HNB.out (.inl hop))
      go_upto_region 4 with (first | (go_at_call 76; refine HOP.out.mono ?_; rintro e w2 ⟨g, rfl, hg, hrow, hT⟩; have HS2 := XE.same HS1 hT; have HIX := Lib.hid (index_none hop (XE.cells HS2).1 hrow); clear hg hrow hT) | (go_at_call 75; refine HIX.out.mono ?_; rintro e w3 ⟨rfl, hT⟩; have HS3 := XE.same HS2 hT; clear hT))
      obtain ⟨fz, ⟨fv, fc⟩, fp, ft⟩ := XE.setBad HS3
      have HF := Lib.hid (And.intro fp ft)
      clear fp ft HK c0 c1 c2 c3 c4 hop
      go_wp2_with fail
      go_end0
      rw [HH.out]
      refine ⟨rfl, ?_, HS3.out.tr.trans HF.out.2⟩
      simpa using HF.out.1
    | some i =>
      have hi13 := opOf_lt hop
      obtain ⟨r, hr⟩ := some_of_lt (show i < opRows.length by simpa [opRows] using hi13)
      go_upto_region 4 with (first | (go_at_call 76; refine HOP.out.mono ?_; rintro e w2 ⟨g, rfl, hg, hrow, hT⟩; have HS2 := XE.same HS1 hT; have HIX := Lib.hid (index_some hop (XE.cells HS2).1 hrow); clear hg hrow hT) | (go_at_call 75; refine HIX.out.mono ?_; rintro e w3 ⟨rfl, hT⟩; have HS3 := XE.same HS2 hT; clear hT))
      clear c0 c1 c2 c3 c4
      obtain ⟨c0, c1, c2, c3, c4⟩ := XE.cells HS3
      simp only [Ex.op, Ex.n, Ex.s, Ex.at_] at c0 c1 c2 c3 c4
      have hi0 : ¬ (i : Int) < 0 := by omega
      by_cases hk : ks.length = 2
      · obtain ⟨y, z, rfl⟩ := list_two hk
        obtain ⟨rs, ro, rl⟩ := r
        have HH := Lib.hid (headX_bin n s y z HNG.out.1 HNG.out.2.1 HNG.out.2.2.1 HNG.out.2.2.2 hop hr)
        have hrl := opRow_le hr
        simp only at HH hrl
        obtain ⟨left, hleft⟩ : ∃ left : Nat, left = if rl = 4 then 5 else rl := ⟨_, rfl⟩
        rw [← hleft] at HH
        have hl2 : ts.length + ((opndX left y.op (showX y).2).1.length + (1 + (opndX (rl + 1) z.op (showX z).2).1.length)) ≤ 100000 := by have h := hl; rw [HH.out] at h; simp [Pr.app] at h; omega
        simp only [List.length_cons, List.length_nil] at c3 HS3 ⊢
        have HSY := Lib.hid (And.intro (smallXs_mem HSM.out (show y ∈ [y, z] by simp)) (smallXs_mem HSM.out (show z ∈ [y, z] by simp)))
        have HCO := Lib.hid (And.intro (HK.out y (by simp)) (HK.out z (by simp)))
        have HOP2 := Lib.hid (operators_any w3)
        have HRW := Lib.hid hr
        have HLE := Lib.hid hleft
        clear hl hk hlen hop hr hleft HNB HNG HK HSM
        go_upto_region 7 with (go_at_call 76; refine HOP2.out.mono ?_; rintro e w4 ⟨g2, rfl, hg, hrow, hT⟩; have HS4 := XE.same HS3 hT; have h3 := hrow i hi13; simp only [opRow, HRW.out, binV, Nat.zero_add] at h3; have q0 : w4.cell? ⟨g2, i * 3, none⟩ = some (.string rs) := h3 0 _ rfl; have q1 : w4.cell? ⟨g2, i * 3 + 1, none⟩ = some (.int .i64 ro) := h3 1 _ rfl; have q2 : w4.cell? ⟨g2, i * 3 + 2, none⟩ = some (.int .i64 ((rl : Nat))) := h3 2 _ rfl; clear hg hrow hT h3)
        obtain ⟨W5, hW5⟩ : ∃ W5, W5 = w4.alloc (.cells #[.string rs, (.int .i64 ro), (.int .i64 ((rl : Nat)))] 137) := ⟨_, rfl⟩
        obtain ⟨b8, hb8⟩ : ∃ b8, b8 = w4.heap.size := ⟨_, rfl⟩
        have HT5 : Hid (Turned (fun _ => False) w4 W5) := Lib.hid (by rw [hW5]; exact (Turned.refl _ _).alloc _)
        have HS5 := XE.same HS4 HT5.out
        have HB5 : Hid (W5.heap[b8]? = some (.cells #[.string rs, (.int .i64 ro), (.int .i64 ((rl : Nat)))] 137 (0, 0)) ∧ Free B W5 b8) := Lib.hid ⟨by rw [hW5, hb8]; exact heap_alloc_new _ _, HS4.out.ps.fresh HT5.out (by omega)⟩
        rw [← hW5, ← hb8]
        clear hW5 hb8 q0 q1 q2 c0 c1 c2 c3 c4
        obtain ⟨e0, e1, e2⟩ := three_of HB5.out.1
        go_upto_if 35 with fail
        go_cut [9] from 34 to 35 (fun u wx => u = (.int .i64 ((left : Nat))) ∧ wx = W5)
        case first =>
          by_cases h4 : rl = 4
          · subst h4
            have HL4 : Hid (left = 5) := Lib.hid (by rw [HLE.out]; rfl)
            go_wp2_with fail
            go_meet
            case rel => exact ⟨by rw [HL4.out]; rfl, rfl⟩
          · have HL4 : Hid (left = rl) := Lib.hid (by rw [HLE.out, if_neg h4])
            have hb4 : ((rl : Int) == 4) = false := by simp; omega
            clear h4
            go_wp2_with fail
            go_meet
            case rel => exact ⟨by rw [HL4.out], rfl⟩
        case rest =>
          obtain ⟨rfl, hwc⟩ := hcut
          rw [hwc]
          clear hwc e0 e1 e2
          obtain ⟨c0, c1, c2, c3, c4⟩ := XE.cells HS5
          simp only [Ex.op, Ex.n, Ex.s, Ex.at_] at c0 c1 c2 c3 c4
          obtain ⟨bx, ax, ky, he1, ⟨x0, x1, x2, x3, x4⟩, HKY⟩ := kidsAt_get (i := 0) HS5.out.kids rfl
          subst he1
          simp only [Nat.zero_mul, Nat.add_zero] at x0 x1 x2 x3 x4
          obtain ⟨pk, ck, rfl⟩ := HKY.shape
          have HC1 := Lib.hid (HCO.out.1 B _ _ _ left W5 HS5.out.ps HKY (by omega) HSY.out.1)
          unfold exA at HC1
          clear HKY
          go_upto_region 11 with (go_at_call 74; refine HC1.out.mono ?_; rintro e w6 ⟨rfl, hp, ht⟩; have HS6 := XE.call HS5 hp ht; have HB6 := Lib.hid (keepBox HB5.out ht); clear hp ht)
          clear c0 c1 c2 c3 c4 x0 x1 x2 x3 x4
          obtain ⟨e0, e1, e2⟩ := three_of HB6.out.1
          have HC2 := Lib.hid (sign_pr HS6.out.ps (by simp; omega) rs 1)
          go_upto_region 12 with (go_at_call 67; refine HC2.out.mono ?_; rintro e w7 ⟨rfl, hp, ht⟩; have HS7 := XE.call HS6 hp ht; have HB7 := Lib.hid (keepBox HB6.out ht); clear hp ht)
          clear e0 e1 e2
          refine region_tail (w := w7) (Turned.refl _ _) 10 (by kernel_rfl) (by kernel_rfl) (fun V hT => ?_)
          have HS8 := XE.same HS7 hT
          have HB8 := Lib.hid ((hT.block b8 (getElem?_lt HB7.out.1) id).trans HB7.out.1)
          clear hT
          obtain ⟨e0, e1, e2⟩ := three_of HB8.out
          obtain ⟨c0, c1, c2, c3, c4⟩ := XE.cells HS8
          simp only [Ex.op, Ex.n, Ex.s, Ex.at_] at c0 c1 c2 c3 c4
          obtain ⟨bx2, ax2, ky2, he2, ⟨x0, x1, x2, x3, x4⟩, HKY2⟩ := kidsAt_get (i := 1) HS8.out.kids rfl
          cases he2
          simp only [Nat.one_mul] at x0 x1 x2 x3 x4
          obtain ⟨pk2, ck2, rfl⟩ := HKY2.shape
          have HC3 := Lib.hid (HCO.out.2 B _ _ _ (rl + 1) V HS8.out.ps HKY2 (by simp; omega) HSY.out.2)
          unfold exA at HC3
          clear HKY2
          have hle : (left : Int) ≤ (rl : Int) + 1 := by have := HLE.out; split at this <;> omega
          simp only [List.take_succ_cons, List.take_zero, List.drop_succ_cons, List.drop_zero]
          repeat still_step
          refine wpStill_nil ?_
          have hmx : (((rl + 1 : Nat) : Int)) = max (left : Int) ((rl : Int) + 1) := by omega
          rw [hmx] at HC3
          clear hmx hle
          go_wp2_with (go_at_call 74; refine HC3.out.mono ?_; rintro e w8 ⟨rfl, hp, ht⟩; have HS9 := XE.call HS8 hp ht; clear hp ht)
          go_end0
          rw [HH.out]
          refine ⟨rfl, ?_, HS9.out.tr⟩
          have := HS9.out.ps
          simpa [Pr.app, Bool.or_assoc] using this
      · have HH := Lib.hid (HNB.out (.inr hk))
        have hkb : ((ks.length : Int) != 2) = true := by simp; omega
        obtain ⟨fz, ⟨fv, fc⟩, fp, ft⟩ := XE.setBad HS3
        have HF := Lib.hid (And.intro fp ft)
        clear fp ft HK hk hop hr
        go_wp2_with fail
        go_end0
        rw [HH.out]
        refine ⟨rfl, ?_, HS3.out.tr.trans HF.out.2⟩
        simpa using HF.out.1
theorem expr_pr : ∀ (m : Nat) (x : Ex), SizeOf.sizeOf x ≤ m → ExprC x
  | 0, .mk op n s ks at_, hm => by simp only [Ex.mk.sizeOf_spec] at hm; omega
  | m + 1, .mk op n s ks at_, hm => expr_of _ fun y hy => operand_of (expr_pr m y (by have := ex_kid_lt (show y ∈ ks from hy) op n s at_; omega))
end Go.Proofs.YtjijdgkccfeeaaaGreatDoor
