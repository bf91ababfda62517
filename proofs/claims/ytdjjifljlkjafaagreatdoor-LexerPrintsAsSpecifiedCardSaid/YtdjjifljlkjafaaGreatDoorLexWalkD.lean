/- Walks of the lexer: name, number. Conditions: those of each theorem. -/
import Derived.Test.YtdjjifljlkjafaaGreatDoorLexWalkC
import Derived.StillTailTactics
import Derived.Lib.SmallJoins
import Derived.Shelf.Strconv.AtoiAll
namespace Go.Proofs.YtdjjifljlkjafaaGreatDoor
open Go Go.Proofs Go.RowKit
attribute [local go_sem] Oper.semAt_some

/-- what one of the four readers finds at an offset -/
inductive TR where
  | none
  | err (c : Int)
  | tok (t : Tok) (tt : Nat)

/-- a package variable holds these cells; its block lies below n -/
def VarAt (n : Nat) (w : World) (name : String) (cs : Array Value) : Prop := w.var? Tryz.prog name = some cs ∧ ∀ g, Tryz.prog.globalNamed name = some g → g < n
theorem VarAt.turned {n : Nat} {C : Nat → Prop} {w w' : World} {name : String} {cs : Array Value} (h : VarAt n w name cs) (ht : Turned C w w') (hC : ∀ g, g < n → ¬ C g) : VarAt n w' name cs := by
  obtain ⟨h1, h2⟩ := h
  refine ⟨?_, h2⟩
  unfold World.var? at h1 ⊢
  cases hg : Tryz.prog.globalNamed name with
  | none => simp [hg] at h1
  | some g =>
    simp only [hg, Option.bind_some] at h1 ⊢
    have hlt : g < w.heap.size := by
      rcases Nat.lt_or_ge g w.heap.size with h' | h'
      · exact h'
      · simp [Array.getElem?_eq_none h'] at h1
    rw [ht.block g hlt (hC g (h2 g hg))]
    exact h1
/-- the variables that the lexer reads -/
structure Vars (n : Nat) (w : World) : Prop where
  syn : ∃ tp p, VarAt n w "strconv.ErrSyntax" #[.iface tp p]
  ran : ∃ tp p, VarAt n w "strconv.ErrRange" #[.iface tp p]
  tab : VarAt n w "strings.asciiSpace" (Lib.asciiSpaceTab.map fun z => Value.int .u8 z).toArray
theorem Vars.turned {n : Nat} {C : Nat → Prop} {w w' : World} (h : Vars n w) (ht : Turned C w w') (hC : ∀ g, g < n → ¬ C g) : Vars n w' := by
  obtain ⟨⟨a, b, h1⟩, ⟨c, d, h2⟩, h3⟩ := h
  exact ⟨⟨a, b, h1.turned ht hC⟩, ⟨c, d, h2.turned ht hC⟩, h3.turned ht hC⟩

/-- the reader stands at an offset, with what it has read -/
structure At (w : World) (B base : Nat) (s : ByteArray) (k : Nat) (v : Value) (ts : List Tok) : Prop where
  rd : Rd w B s k v
  own : w.ownsRow base 33 4 v ts.length (ts.flatMap tokV)
  lt : B < base
  le : base ≤ w.heap.size
  len : ts.length ≤ k
  vars : Vars B w
theorem At.same {w w' : World} {B base : Nat} {s : ByteArray} {k : Nat} {v : Value} {ts : List Tok} (h : At w B base s k v ts) (ht : Turned (fun _ => False) w w') : At w' B base s k v ts :=
  ⟨h.rd.turned ht id, ownsRow_turned' ht (fun _ _ => id) h.own, h.lt, Nat.le_trans h.le ht.size, h.len, h.vars.turned ht fun _ _ => id⟩
def Moved (B base : Nat) (w w' : World) : Prop := Turned (fun j => j = B ∨ base ≤ j) w w'
theorem Moved.of {B base : Nat} {w w' : World} (h : Turned (fun _ => False) w w') : Moved B base w w' := h.mono fun _ h => h.elim
theorem Moved.trans {B base : Nat} {a b c : World} (h : Moved B base a b) (k : Moved B base b c) : Moved B base a c := Turned.trans h k

/-- a call of a reader has ended so -/
def Took (w : World) (B base : Nat) (s : ByteArray) (v : Value) (k : Nat) (ts : List Tok) (r : TR) (e : Ending) (w' : World) : Prop :=
  match r with
  | .none => e = .returned (.tuple #[.bool false, (.int .i64 0)]) ∧ At w' B base s k v ts ∧ Moved B base w w'
  | .err c => e = .returned (.tuple #[.bool true, (.int .i64 c)]) ∧ At w' B base s k v ts ∧ Moved B base w w'
  | .tok t tt => e = .returned (.tuple #[.bool true, (.int .i64 0)]) ∧ ∃ v', At w' B base s tt v' (ts ++ [t]) ∧ Moved B base w w'
/-- 'put' has ended so -/
def PutR (w : World) (B base : Nat) (s : ByteArray) (tt : Nat) (ts : List Tok) (e : Ending) (w' : World) : Prop := e = .returned (.int .i64 0) ∧ ∃ v', At w' B base s tt v' ts ∧ Moved B base w w'
theorem put_at {w : World} {B base : Nat} {s : ByteArray} {k : Nat} {v : Value} {ts : List Tok} (h : At w B base s k v ts) (kind n : Int) (str : ByteArray) (tt : Nat) (hk : k < tt) (hto : tt ≤ 65536) (x : Int) (hx : x = tt) :
    Calls Tryz.prog 22 #[.pointer (some ⟨B, 0, none⟩), (.int .i64 kind), (.int .i64 x), .string str, (.int .i64 n)] w (PutR w B base s tt (ts ++ [Tok.mk kind k str n])) := by
  subst hx
  have hl := h.len
  refine (put_any B base s k kind tt n str v ts w h.rd h.own h.lt h.le (by omega)).mono ?_
  rintro e w' ⟨rfl, v', h1, h2, h3⟩
  exact ⟨rfl, v', ⟨h1, h2, h.lt, Nat.le_trans h.le h3.size, by simp; omega, h.vars.turned h3 (by intro g hg hc; have := h.lt; omega)⟩, h3⟩
theorem At.drew {w : World} {B base : Nat} {s : ByteArray} {k : Nat} {v : Value} {ts : List Tok} (h : At w B base s k v ts) (n : Nat) : At (w.drewN n) B base s k v ts := h.same (drewN_turned _ _ _)
theorem moved_drew (B base : Nat) (w : World) (n : Nat) : Moved B base w (w.drewN n) := drewN_turned _ _ _

theorem class_same (c : Int) (w : World) (h0 : 0 ≤ c) (h1 : c ≤ 255) : Calls Tryz.prog 31 #[.int .u8 c] w fun e w' => e = .returned (.int .i64 (clsI c)) ∧ w' = w := (class_any c w h0 h1).mono fun _ _ ⟨h, h2⟩ => ⟨h, h2.symm⟩

/-- a region that draws: reads, then operations in one forced order -/
theorem region_tail {P : Program} {id : Nat} {Q : Exit → Act → World → Prop} {a : Act} {w W : World} {l : List Oper} (hW : Turned (fun _ => False) w W) (n : Nat) (hm : P.follows .mixedOrders = true) (hB : Region.lexTailB .any l.toArray n = true)
    (h : ∀ V, Turned (fun _ => False) w V → wpStill P l.toArray V (fun a' => wpList P l.toArray Q (l.drop n) a' V) (l.take n) a) : (Code.region id l.toArray true).wp P Q a W :=
  wp_region_still_tail n hm hB (h _ hW.drew)

/-- what 'name' finds -/
def nameT (s : ByteArray) (k : Nat) : TR :=
  if clsI (rest s k)[0]!.toNat ≠ 3 then .none else if 32 < spanTo s k 2 - k then .err 2 else .tok ⟨1, k, s.extract k (spanTo s k 2), 0⟩ (spanTo s k 2)
theorem rest_head (s : ByteArray) (k : Nat) (h : k < s.size) : (rest s k)[0]! = s[k] := by rw [rest_cons s k h]; rfl
theorem spanTo_gt (s : ByteArray) (k : Nat) (h : k < s.size) (least : Int) (hc : least ≤ clsI s[k].toNat) : k < spanTo s k least := by
  unfold spanTo
  rw [rest_cons s k h, spanL_cons_yes (by exact hc)]
  omega
theorem span_calls (B : Nat) (s : ByteArray) (k : Nat) (v : Value) (least : Int) (w : World) (hR : Rd w B s k v) (hs : s.size ≤ 65536) (hk : k ≤ s.size) : ∀ n, 
    Calls Tryz.prog 49 #[.pointer (some ⟨B, 0, none⟩), (.int .i64 least)] (w.drewN n) fun e w' => e = .returned (.int .i64 ((spanTo s k least : Nat))) ∧ w.drewN n = w' := fun n => span_any B s k v least (w.drewN n) hR (by omega) hk
set_option maxRecDepth 20000 in
set_option maxHeartbeats 2000000 in
theorem name_any (B base : Nat) (s : ByteArray) (k : Nat) (v : Value) (ts : List Tok) (w : World) (h : At w B base s k v ts) (hs : s.size ≤ 65536) (hk : k < s.size) :
    Calls Tryz.prog 32 #[.pointer (some ⟨B, 0, none⟩)] w (Took w B base s v k ts (nameT s k)) := by
  obtain ⟨c0, c1, c2⟩ := h.rd.cells
  have hb : (s[k].toNat : Int) ≤ 255 := by have := s[k].toNat_lt; omega
  have HC := Lib.hid (fun (W : World) => class_same (s[k].toNat : Int) W (by omega) hb)
  have HS := Lib.hid (span_calls B s k v 2 w h.rd hs (by omega))
  have HN : Hid (nameT s k = if clsI s[k].toNat ≠ 3 then .none else if 32 < spanTo s k 2 - k then .err 2 else .tok ⟨1, k, s.extract k (spanTo s k 2), 0⟩ (spanTo s k 2)) := by
    show _ = _
    unfold nameT; rw [rest_head s k hk]
  have HG := Lib.hid (spanTo_gt s k hk 2)
  have hto := spanTo_le s k 2 (by omega)
  have hge := spanTo_ge s k 2
  have H := Lib.hid h
  have hw : IntKind.i64.wrap (((spanTo s k 2 : Nat) : Int) - k) = ((spanTo s k 2 : Nat) : Int) - k := IntWalk.i64_in _ (by omega)
  clear h
  go_enter Tryz.func32, Tryz.ntmps32
  go_wp2_with fail
  by_cases hc : clsI s[k].toNat = 3
  · have kc : (clsI s[k].toNat == 3) = true := by simpa using hc
    have hgt := HG.out (by omega)
    go_quiet ((go_at_call 31; (first | exact quiet_add_same (HC.out _) | exact Calls.quiet_of_same (HC.out _))))
    by_cases hl : 32 < spanTo s k 2 - k
    · have HF : Hid (nameT s k = .err 2) := by show _ = _; rw [HN.out, if_neg (by simpa using hc), if_pos hl]
      go_wp2_with (go_at_call 49; refine (HS.out _).mono ?_; rintro e w' ⟨rfl, rfl⟩)
      go_ret2
      rw [HF.out]
      exact ⟨rfl, H.out.drew _, moved_drew _ _ _ _⟩
    · have HF : Hid (nameT s k = .tok ⟨1, k, s.extract k (spanTo s k 2), 0⟩ (spanTo s k 2)) := by show _ = _; rw [HN.out, if_neg (by simpa using hc), if_neg hl]
      have HP := Lib.hid (fun (W : World) (ht : Turned (fun _ => False) w W) => put_at (H.out.same ht) 1 0 (s.extract k (spanTo s k 2)) (spanTo s k 2) hgt (by omega) _ rfl)
      go_wp2_with (go_at_call 49; refine (HS.out _).mono ?_; rintro e w' ⟨rfl, rfl⟩)
      refine region_tail (w := w) (drewN_turned _ w _) 12 (by kernel_rfl) (by kernel_rfl) (fun V hT => ?_)
      obtain ⟨d0, d1, d2⟩ := (H.out.same hT).rd.cells
      have HV := Lib.hid (HP.out V hT)
      have HT := Lib.hid hT
      clear hT
      simp only [List.take_succ_cons, List.take_zero, List.drop_succ_cons, List.drop_zero]
      repeat still_step
      refine wpStill_nil ?_
      go_wp2_with (go_at_call 22; refine (HV.out.mono ?_); rintro e w6 ⟨rfl, HQ⟩; have HQ := Lib.hid HQ)
      go_wp2_with fail
      go_ret2
      rw [HF.out]
      obtain ⟨v', q1, q2⟩ := HQ.out
      exact ⟨rfl, v', q1, (Moved.of HT.out).trans q2⟩
  · have kc : (clsI s[k].toNat == 3) = false := by simpa using hc
    have HF : Hid (nameT s k = .none) := by show _ = _; rw [HN.out, if_pos hc]
    go_quiet ((go_at_call 31; (first | exact quiet_add_same (HC.out _) | exact Calls.quiet_of_same (HC.out _))))
    go_wp2_with fail
    go_ret2
    rw [HF.out]
    exact ⟨rfl, H.out.drew _, moved_drew _ _ _ _⟩
/-- what strconv.Atoi answers -/
def AtoiR (w : World) (l : List UInt8) (e : Ending) (w' : World) : Prop :=
  Turned (fun _ => False) w w' ∧ match Lib.atoiAll l with
    | .ok n => e = .returned (.tuple #[(.int .i64 n), .nilIface])
    | _ => ∃ n te pe, e = .returned (.tuple #[(.int .i64 n), .iface te pe])
theorem atoi_any (str : ByteArray) (hs : str.size ≤ 65536) (n : Nat) (w : World) (hv : Vars n w) : Calls Tryz.prog 50 #[.string str] w (AtoiR w str.data.toList) := by
  obtain ⟨⟨a, b, h1, _⟩, ⟨c, d, h2, _⟩, _⟩ := hv
  have hok := fun m h => Tryz.strconv_Atoi_ok str (by omega) m h w
  have hsy := fun h => Any.strconv_Atoi_syntax_var Tryz.laysC172 str (by omega) h a b w h1
  have hra := fun h => Tryz.strconv_Atoi_range_var str (by omega) h c d w h2
  unfold AtoiR
  revert hok hsy hra
  generalize Lib.atoiAll str.data.toList = r
  intro hok hsy hra
  cases r
  case ok m =>
    refine (hok m rfl).mono ?_
    rintro e w' ⟨rfl, h3⟩
    refine ⟨?_, rfl⟩
    rcases h3 with rfl | ⟨t, rfl⟩
    · exact Turned.refl _ _
    · exact Turned.of_new (Go.Joins.below_bytesWorld _ _ _ _ (Nat.le_refl _))
  case range =>
    refine (hra rfl).mono ?_
    rintro e w' ⟨N, rfl, h3, h4, h5⟩
    exact ⟨Turned.of_new h5, _, _, _, rfl⟩
  all_goals
    refine (hsy rfl).mono ?_
    rintro e w' ⟨N, rfl, h3, h4, h5⟩
    exact ⟨Turned.of_new h5, _, _, _, rfl⟩
/-- what 'number' makes of the digits -/
def numOf (k tt : Nat) (str : ByteArray) : TR :=
  match Lib.atoiAll str.data.toList with
  | .ok n => if 15 < str.size ∨ (1 < str.size ∧ str[0]! = 48) then .err 27 else .tok ⟨2, k, ⟨#[]⟩, n⟩ tt
  | _ => .err 27
/-- what 'number' finds -/
def numT (s : ByteArray) (k : Nat) : TR :=
  if clsI (rest s k)[0]!.toNat ≠ 2 then .none else numOf k (spanTo s k 2) (s.extract k (spanTo s k 2))
set_option maxRecDepth 20000 in
set_option maxHeartbeats 2000000 in
theorem number_any (B base : Nat) (s : ByteArray) (k : Nat) (v : Value) (ts : List Tok) (w : World) (h : At w B base s k v ts) (hs : s.size ≤ 65536) (hk : k < s.size) :
    Calls Tryz.prog 33 #[.pointer (some ⟨B, 0, none⟩)] w (Took w B base s v k ts (numT s k)) := by
  obtain ⟨c0, c1, c2⟩ := h.rd.cells
  have hb : (s[k].toNat : Int) ≤ 255 := by have := s[k].toNat_lt; omega
  have HC := Lib.hid (fun (W : World) => class_same (s[k].toNat : Int) W (by omega) hb)
  have HS := Lib.hid (span_calls B s k v 2 w h.rd hs (by omega))
  have HN : Hid (numT s k = if clsI s[k].toNat ≠ 2 then .none else numOf k (spanTo s k 2) (s.extract k (spanTo s k 2))) := by
    show _ = _
    unfold numT; rw [rest_head s k hk]
  have HG := Lib.hid (spanTo_gt s k hk 2)
  have hto := spanTo_le s k 2 (by omega)
  have hge := spanTo_ge s k 2
  have H := Lib.hid h
  clear h
  go_enter Tryz.func33, Tryz.ntmps33
  go_wp2_with fail
  by_cases hc : clsI s[k].toNat = 2
  · have kc : (clsI s[k].toNat == 2) = true := by simpa using hc
    have hgt := HG.out (by omega)
    go_quiet ((go_at_call 31; (first | exact quiet_add_same (HC.out _) | exact Calls.quiet_of_same (HC.out _))))
    have HF : Hid (numT s k = numOf k (spanTo s k 2) (s.extract k (spanTo s k 2))) := by show _ = _; rw [HN.out, if_neg (by simpa using hc)]
    go_wp2_with (go_at_call 49; refine (HS.out _).mono ?_; rintro e w' ⟨rfl, rfl⟩)
    go_quiet (fail)
    have hsz : (s.extract k (spanTo s k 2)).size = spanTo s k 2 - k := by simp; omega
    generalize s.extract k (spanTo s k 2) = str at HF hsz ⊢
    have h0 : 0 < str.size := by omega
    have h0v : str[0]! = str[0] := by simp [getElem!_pos, h0]
    have HA := Lib.hid (fun (W : World) (ht : Turned (fun _ => False) w W) => atoi_any str (by omega) B W (H.out.same ht).vars)
    have HK := Lib.hid (fun (W W' : World) (e : Ending) (ht : Turned (fun _ => False) w W) (hr : AtoiR W str.data.toList e W') => (show Turned (fun _ => False) w W' from ht.trans hr.1))
    cases ha : Lib.atoiAll str.data.toList
    case ok n =>
      have HP := Lib.hid (fun (W : World) (ht : Turned (fun _ => False) w W) => put_at (H.out.same ht) 2 n ⟨#[]⟩ (spanTo s k 2) hgt (by omega) _ rfl)
      have HR := Lib.hid (fun (W W' : World) (e : Ending) (hr : AtoiR W str.data.toList e W') => (show e = .returned (.tuple #[(.int .i64 n), .nilIface]) by have := hr.2; rw [ha] at this; exact this))
      have HX : Hid (numOf k (spanTo s k 2) str = if 15 < str.size ∨ (1 < str.size ∧ str[0]! = 48) then .err 27 else .tok ⟨2, k, ⟨#[]⟩, n⟩ (spanTo s k 2)) := by show _ = _; unfold numOf; rw [ha]
      clear ha
      by_cases h15 : 15 < str.size
      · have HY : Hid (numT s k = .err 27) := by show _ = _; rw [HF.out, HX.out, if_pos (.inl h15)]
        go_wp2_with (go_at_call 50; refine ((HA.out _ (drewN_turned _ w _)).mono ?_); intro e w7 hr; obtain rfl := HR.out _ _ _ hr; have HT := Lib.hid (HK.out _ _ _ (drewN_turned _ w _) hr); clear hr)
        go_ret2
        rw [HY.out]
        exact ⟨rfl, H.out.same HT.out, Moved.of HT.out⟩
      · by_cases h1 : 1 < str.size
        · have hi : (1 : Int) < str.size := by omega
          by_cases h48 : str[0] = 48
          · have k48 : ((str[0].toNat : Int) == 48) = true := by rw [h48]; rfl
            have HY : Hid (numT s k = .err 27) := by show _ = _; rw [HF.out, HX.out, if_pos (.inr ⟨h1, by rw [h0v]; exact h48⟩)]
            clear h48 h0v
            go_wp2_with (go_at_call 50; refine ((HA.out _ (drewN_turned _ w _)).mono ?_); intro e w7 hr; obtain rfl := HR.out _ _ _ hr; have HT := Lib.hid (HK.out _ _ _ (drewN_turned _ w _) hr); clear hr)
            go_ret2
            rw [HY.out]
            exact ⟨rfl, H.out.same HT.out, Moved.of HT.out⟩
          · have k48 : ((str[0].toNat : Int) == 48) = false := by
              have : str[0].toNat ≠ 48 := fun h => h48 (UInt8.toNat_inj.1 h)
              simp; omega
            have HY : Hid (numT s k = .tok ⟨2, k, ⟨#[]⟩, n⟩ (spanTo s k 2)) := by show _ = _; rw [HF.out, HX.out, if_neg (by rw [h0v]; exact fun h => h.elim h15 fun h => h48 h.2)]
            clear h48 h0v
            go_wp2_with (first | (go_at_call 50; refine ((HA.out _ (drewN_turned _ w _)).mono ?_); intro e w7 hr; obtain rfl := HR.out _ _ _ hr; have HT := Lib.hid (HK.out _ _ _ (drewN_turned _ w _) hr); clear hr) | (go_at_call 22; refine ((HP.out _ HT.out).mono ?_); rintro e w6 ⟨rfl, HQ⟩; have HQ := Lib.hid HQ))
            go_ret2
            rw [HY.out]
            obtain ⟨v', q1, q2⟩ := HQ.out
            exact ⟨rfl, v', q1, (Moved.of HT.out).trans q2⟩
        · have HY : Hid (numT s k = .tok ⟨2, k, ⟨#[]⟩, n⟩ (spanTo s k 2)) := by show _ = _; rw [HF.out, HX.out, if_neg (fun h => h.elim h15 fun h => h1 h.1)]
          go_wp2_with (first | (go_at_call 50; refine ((HA.out _ (drewN_turned _ w _)).mono ?_); intro e w7 hr; obtain rfl := HR.out _ _ _ hr; have HT := Lib.hid (HK.out _ _ _ (drewN_turned _ w _) hr); clear hr) | (go_at_call 22; refine ((HP.out _ HT.out).mono ?_); rintro e w6 ⟨rfl, HQ⟩; have HQ := Lib.hid HQ))
          go_ret2
          rw [HY.out]
          obtain ⟨v', q1, q2⟩ := HQ.out
          exact ⟨rfl, v', q1, (Moved.of HT.out).trans q2⟩
    all_goals
      have HR := Lib.hid (fun (W W' : World) (e : Ending) (hr : AtoiR W str.data.toList e W') => (show ∃ n te pe, e = .returned (.tuple #[(.int .i64 n), .iface te pe]) by have := hr.2; rw [ha] at this; exact this))
      have HY : Hid (numT s k = .err 27) := by show _ = _; rw [HF.out]; unfold numOf; rw [ha]
      clear ha
      go_wp2_with (go_at_call 50; refine ((HA.out _ (drewN_turned _ w _)).mono ?_); intro e w7 hr; obtain ⟨n7, te, pe, rfl⟩ := HR.out _ _ _ hr; have HT := Lib.hid (HK.out _ _ _ (drewN_turned _ w _) hr); clear hr)
      go_ret2
      rw [HY.out]
      exact ⟨rfl, H.out.same HT.out, Moved.of HT.out⟩
  · have kc : (clsI s[k].toNat == 2) = false := by simpa using hc
    have HF : Hid (numT s k = .none) := by show _ = _; rw [HN.out, if_pos hc]
    go_quiet ((go_at_call 31; (first | exact quiet_add_same (HC.out _) | exact Calls.quiet_of_same (HC.out _))))
    go_wp2_with fail
    go_ret2
    rw [HF.out]
    exact ⟨rfl, H.out.drew _, moved_drew _ _ _ _⟩
end Go.Proofs.YtdjjifljlkjafaaGreatDoor
