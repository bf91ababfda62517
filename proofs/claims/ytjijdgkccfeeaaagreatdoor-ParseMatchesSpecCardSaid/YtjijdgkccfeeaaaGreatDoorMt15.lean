/- Part 15 of the proof of lawMatches.card: ParWalkJ, LexRefA, LexWalkE, LexWalkF. Conditions: those of each theorem. -/
import Derived.Defers
import Derived.Recover
import Derived.Laws.Pointers
import Derived.Laws.IdiomStrings
import Derived.Lib.BufferRead
import Derived.Maps.AppendAt
import Derived.Test.YtjijdgkccfeeaaaGreatDoorMt01
import Derived.Test.YtjijdgkccfeeaaaGreatDoorMt02
import Derived.Test.YtjijdgkccfeeaaaGreatDoorMt06
import Derived.Test.YtjijdgkccfeeaaaGreatDoorMt08
namespace Go.Proofs.YtjijdgkccfeeaaaGreatDoor
open Go Go.Proofs Go.RowKit
attribute [local go_sem] Oper.semAt_some
theorem run_assert (v : Value) (w : World) : (Instr.typeAssert (.iface 106 v) 20 106 true).run Tryz.prog w = .ok (.tuple #[v, .bool true]) w := by kernel_rfl
theorem two_turned' (V : World) (N : Nat) (x y : Value) : Turned (fun c => c = N) V ((V.setCell ⟨N, 0, none⟩ x).setCell ⟨N, 1, none⟩ y) :=
  ((Turned.refl (fun c => c = N) V).setCell (p := ⟨N, 0, none⟩) rfl x).setCell (p := ⟨N, 1, none⟩) rfl y
theorem two_set' {V : World} {N : Nat} {a b x y : Value} {t : TypeId} (h : V.heap[N]? = some (.cells #[a, b] t (0, 0))) : ((V.setCell ⟨N, 0, none⟩ x).setCell ⟨N, 1, none⟩ y).heap[N]? = some (.cells #[x, y] t (0, 0)) := by
  simp [World.setCell, Array.getElem?_modify, h]
set_option maxRecDepth 20000 in
set_option maxHeartbeats 2000000 in
theorem catch_idle (N : Nat) (w : World) :
    CallsD Tryz.prog 50 #[.pointer (some ⟨N, 0, none⟩)] .returning w fun e u' w' => e = .returned (.tuple #[]) ∧ u' = .returning ∧ w' = w := by
  refine callsD_of_wpS Tryz.func50 rfl fun c₀ cs hu => ?_
  apply wpS_seq
  apply wpS_region
  simp [wpOpsS, go_sem, recoverD, hu, Tryz.ntmps50, Exit.thenS]
  refine wpS_of_wp ?_
  rw [show (#[Value.pointer (some ⟨N, 0, none⟩)] ++ ((Array.replicate 15 undef).setIfInBounds 3 Value.nilIface).setIfInBounds 0 Value.nilIface) = #[Value.pointer (some ⟨N, 0, none⟩), Value.nilIface, undef, undef, Value.nilIface, undef, undef, undef, undef, undef, undef, undef, undef, undef, undef, undef] from rfl]
  go_wp2_with fail
  exact ⟨rfl, .returning, by cases c₀; simp_all, _, results_none rfl _ _ _, rfl, rfl, rfl⟩
set_option maxRecDepth 20000 in
set_option maxHeartbeats 2000000 in
theorem catch_stop (N : Nat) (a c x y : Int) (older : List PanicEntry) (w : World) (h : w.heap[N]? = some (.cells #[(.int .i64 x), (.int .i64 y)] 26 (0, 0))) :
    CallsD Tryz.prog 50 #[.pointer (some ⟨N, 0, none⟩)] (.panicking ({ v := .iface 106 (.agg #[(.int .i64 a), (.int .i64 c)]), recovered := false } :: older)) w fun e u' w' =>
      e = .returned (.tuple #[]) ∧ u' = .panicking ({ v := .iface 106 (.agg #[(.int .i64 a), (.int .i64 c)]), recovered := true } :: older) ∧ w'.heap[N]? = some (.cells #[(.int .i64 a), (.int .i64 c)] 26 (0, 0)) ∧ Turned (fun b => b = N) w w' := by
  have hN : N < w.heap.size := getElem?_lt h
  have c0 : w.cell? ⟨N, 0, none⟩ = some (.int .i64 x) := by simp [World.cell?, h]
  have c1 : w.cell? ⟨N, 1, none⟩ = some (.int .i64 y) := by simp [World.cell?, h]
  have f0 := free_of_box h
  have hta := run_assert
  refine callsD_of_wpS Tryz.func50 rfl fun c₀ cs hu => ?_
  apply wpS_seq
  apply wpS_region
  simp [wpOpsS, go_sem, recoverD, hu, Tryz.ntmps50, Exit.thenS]
  refine wpS_of_wp ?_
  rw [show (#[Value.pointer (some ⟨N, 0, none⟩)] ++ ((Array.replicate 15 undef).setIfInBounds 3 (Value.iface 106 (Value.agg #[(.int .i64 a), (.int .i64 c)]))).setIfInBounds 0 (Value.iface 106 (Value.agg #[(.int .i64 a), (.int .i64 c)]))) = #[Value.pointer (some ⟨N, 0, none⟩), Value.iface 106 (Value.agg #[(.int .i64 a), (.int .i64 c)]), undef, undef, Value.iface 106 (Value.agg #[(.int .i64 a), (.int .i64 c)]), undef, undef, undef, undef, undef, undef, undef, undef, undef, undef, undef] from rfl]
  go_wp2_with fail
  refine ⟨rfl, _, rfl, _, results_none rfl _ _ _, rfl, rfl, ?_, (two_turned' w N (.int .i64 a) (.int .i64 c)).alloc _⟩
  rw [hao _ _ (by simpa using hN)]
  exact two_set' h
end Go.Proofs.YtjijdgkccfeeaaaGreatDoor
namespace Go.Proofs.YtjijdgkccfeeaaaGreatDoor
open Go Go.Proofs Go.RowKit
attribute [local go_sem] Oper.semAt_some
theorem ret_bool {a b : Bool} (h : a = b) : Ending.returned (.bool a) = .returned (.bool b) := by rw [h]
theorem cls3_iff (c : Int) : clsI c = 3 ↔ c = 95 ∨ (97 ≤ c ∧ c ≤ 122) ∨ (65 ≤ c ∧ c ≤ 90) := by
  unfold clsI
  split
  · simp_all
  · split
    · simp_all
    · split <;> simp_all
theorem cls2_iff (c : Int) : clsI c = 2 ↔ 48 ≤ c ∧ c ≤ 57 := by
  unfold clsI
  split
  · constructor <;> intro h <;> omega
  · split
    · simp_all
    · split <;> simp_all <;> omega
theorem cls1_iff (c : Int) : clsI c = 1 ↔ c = 32 ∨ c = 9 ∨ c = 10 ∨ c = 13 := by
  unfold clsI
  split
  · constructor <;> intro h <;> omega
  · split
    · constructor <;> intro h <;> omega
    · split <;> simp_all
set_option maxHeartbeats 1000000 in
theorem rletter_any (c : Int) (w : World) (h0 : 0 ≤ c) (h1 : c ≤ 255) : Calls Tryz.prog 90 #[.int .u8 c] w fun e w' => e = .returned (.bool (decide (clsI c = 3))) ∧ w = w' := by
  have HC := Lib.hid (cls3_iff c)
  go_enter Tryz.func90, Tryz.ntmps90
  by_cases a1 : 97 ≤ c
  · by_cases a2 : c ≤ 122
    · go_wp2
      go_ret
      exact ⟨ret_bool (by rw [Bool.eq_iff_iff]; simp [HC.out]; omega), rfl⟩
    · have a3 : 65 ≤ c := by omega
      have a4 : ¬ c ≤ 90 := by omega
      go_wp2
      go_ret
      exact ⟨ret_bool (by rw [Bool.eq_iff_iff]; simp [HC.out]; omega), rfl⟩
  · by_cases a3 : 65 ≤ c
    · by_cases a4 : c ≤ 90
      · go_wp2
        go_ret
        exact ⟨ret_bool (by rw [Bool.eq_iff_iff]; simp [HC.out]; omega), rfl⟩
      · go_wp2
        go_ret
        exact ⟨ret_bool (by rw [Bool.eq_iff_iff]; simp [HC.out]; omega), rfl⟩
    · go_wp2
      go_ret
      exact ⟨ret_bool (by rw [Bool.eq_iff_iff]; simp [HC.out]; omega), rfl⟩
theorem rdigit_any (c : Int) (w : World) (h0 : 0 ≤ c) (h1 : c ≤ 255) : Calls Tryz.prog 92 #[.int .u8 c] w fun e w' => e = .returned (.bool (decide (clsI c = 2))) ∧ w = w' := by
  have HC := Lib.hid (cls2_iff c)
  go_enter Tryz.func92, Tryz.ntmps92
  by_cases a1 : 48 ≤ c
  · go_wp2
    go_ret
    exact ⟨ret_bool (by rw [Bool.eq_iff_iff]; simp [HC.out]; omega), rfl⟩
  · go_wp2
    go_ret
    exact ⟨ret_bool (by rw [Bool.eq_iff_iff]; simp [HC.out]; omega), rfl⟩
def pairI (c : Int) : Int := if c = 34 then 34 else if c = 92 then 92 else if c = 110 then 10 else 0
theorem ret_u8 {a b : Int} (h : a = b) : Ending.returned (.int .u8 a) = .returned (.int .u8 b) := by rw [h]
theorem rpair_any (c : Int) (w : World) : Calls Tryz.prog 115 #[.int .u8 c] w fun e w' => e = .returned (.int .u8 (pairI c)) ∧ w = w' := by
  go_enter Tryz.func115, Tryz.ntmps115
  go_wp2
  all_goals go_ret
  all_goals refine ⟨ret_u8 ?_, rfl⟩
  all_goals (unfold pairI; simp_all)
set_option maxHeartbeats 2000000 in
theorem rblank_any (s : ByteArray) (k : Nat) (w : World) (hs : s.size ≤ 70000) (hk : k ≤ s.size) : Calls Tryz.prog 59 #[.string s, (.int .i64 k)] w fun e w' => e = .returned (.int .i64 ((blankTo s k : Nat))) ∧ w = w' := by
  go_enter Tryz.func59, Tryz.ntmps59
  go_wp2
  go_loop [1] (fun u => ∃ j : Nat, j ≤ s.size ∧ u = (.int .i64 j) ∧ Hid (blankTo s j = blankTo s k)) (fun u => s.size - (intOf u).toNat)
  case atStart => exact ⟨k, hk, rfl, rfl⟩
  case round =>
    obtain ⟨j, hj, rfl, HJ⟩ := hrel
    by_cases hlt : j < s.size
    · have hb : (s[j].toNat : Int) ≤ 255 := by have := s[j].toNat_lt; omega
      have h35 : s[j] = 35 ↔ (s[j].toNat : Int) = 35 := ⟨fun h => by rw [h]; rfl, fun h => UInt8.toNat_inj.1 (by simpa using Int.ofNat_inj.1 h)⟩
      have h10 : ∀ i (h : i < s.size), s[i] = 10 ↔ (s[i].toNat : Int) = 10 := fun i h => ⟨fun h => by rw [h]; rfl, fun h => UInt8.toNat_inj.1 (by simpa using Int.ofNat_inj.1 h)⟩
      have H1 := Lib.hid (fun h : cls s[j] = 1 => (blankTo_blank s j hlt h).symm.trans HJ.out)
      have H2 := Lib.hid (fun h : s[j] = 35 => ((inComment_step s j hlt (by rw [h]; decide)).trans (blankTo_comment s j hlt h).symm).trans HJ.out)
      have H3 := Lib.hid (fun (h : cls s[j] ≠ 1) (h2 : s[j] ≠ 35) => (blankTo_stop s j hlt h h2).symm.trans HJ.out)
      have HC := Lib.hid (cls1_iff (s[j].toNat : Int))
      have H35 := Lib.hid h35
      have H10 := Lib.hid h10
      clear h35 h10
      generalize hx : (s[j].toNat : Int) = x at hb HC
      have H6 : Hid (cls s[j] = clsI x) := by show _ = _; rw [← hx]; rfl
      by_cases b1 : x = 32
      · go_wp2
        go_round
        case rel => exact ⟨j + 1, by omega, by go_num, H1.out (by rw [H6.out, HC.out]; omega)⟩
        case measure => simp [intOf]; omega
      by_cases b2 : x = 9
      · go_wp2
        go_round
        case rel => exact ⟨j + 1, by omega, by go_num, H1.out (by rw [H6.out, HC.out]; omega)⟩
        case measure => simp [intOf]; omega
      by_cases b3 : x = 10
      · go_wp2
        go_round
        case rel => exact ⟨j + 1, by omega, by go_num, H1.out (by rw [H6.out, HC.out]; omega)⟩
        case measure => simp [intOf]; omega
      by_cases b4 : x = 13
      · go_wp2
        go_round
        case rel => exact ⟨j + 1, by omega, by go_num, H1.out (by rw [H6.out, HC.out]; omega)⟩
        case measure => simp [intOf]; omega
      by_cases b5 : x = 35
      · have H7 := Lib.hid (H2.out (H35.out.2 (by rw [hx, b5])))
        go_wp2
        go_loop [1] (fun u => ∃ i : Nat, j ≤ i ∧ i ≤ s.size ∧ u = (.int .i64 i) ∧ Hid (inComment s i = blankTo s k)) (fun u => s.size - (intOf u).toNat)
        case atStart => exact ⟨j, Nat.le_refl _, by omega, rfl, H7⟩
        case round =>
          obtain ⟨i, hi1, hi2, rfl, HI⟩ := hrel
          by_cases hi : i < s.size
          · by_cases b6 : (s[i].toNat : Int) = 10
            · have H8 : Hid (blankTo s i = blankTo s k) := (inComment_line s i hi ((H10.out i hi).2 b6)).symm.trans HI.out
              have hne : i ≠ j := fun h => by subst h; omega
              go_wp2
              go_round
              case rel => exact ⟨i, by omega, rfl, H8⟩
              case measure => simp [intOf]; omega
            · have H8 : Hid (inComment s (i + 1) = blankTo s k) := (inComment_step s i hi (fun h => b6 ((H10.out i hi).1 h))).symm.trans HI.out
              go_wp2
              go_round
              case rel => exact ⟨i + 1, by omega, by omega, by go_num, H8⟩
              case measure => simp [intOf]; omega
          · obtain rfl : i = s.size := by omega
            have H8 : Hid (blankTo s s.size = blankTo s k) := (blankTo_end s _ (Nat.le_refl _)).trans ((inComment_end s _ (Nat.le_refl _)).symm.trans HI.out)
            go_wp2
            go_round
            case rel => exact ⟨s.size, by omega, rfl, H8⟩
            case measure => simp [intOf]; omega
      · have H7 := Lib.hid (H3.out (by rw [H6.out]; intro h; rw [HC.out] at h; omega) (fun h => b5 (by rw [← hx]; exact H35.out.1 h)))
        have k32 : (x == 32) = false := by simpa using b1
        have k9 : (x == 9) = false := by simpa using b2
        have k10 : (x == 10) = false := by simpa using b3
        have k13 : (x == 13) = false := by simpa using b4
        have k35 : (x == 35) = false := by simpa using b5
        go_wp2
        go_ret
        exact ⟨ret_int (by have := H7.out; omega), rfl⟩
    · have HE : Hid (blankTo s k = j) := by show _ = _; rw [← HJ.out, blankTo_end s j (by omega)]
      go_wp2
      go_ret
      exact ⟨ret_int (by have := HE.out; omega), rfl⟩
end Go.Proofs.YtjijdgkccfeeaaaGreatDoor
namespace Go.Proofs.YtjijdgkccfeeaaaGreatDoor
open Go Go.Proofs Go.RowKit
attribute [local go_sem] Oper.semAt_some
def textL (k0 : Nat) : List UInt8 → Nat → List UInt8 → TR
  | [], _, b => if 200 < b.length then .err 2 else .err 28
  | c :: l, j, b =>
    if 200 < b.length then .err 2
    else if c = 34 then .tok ⟨3, k0, ⟨b.toArray⟩, 0⟩ (j + 1)
    else if c = 92 then
      match l with
      | [] => .err 28
      | d :: l' => if d = 34 then textL k0 l' (j + 2) (b ++ [34]) else if d = 92 then textL k0 l' (j + 2) (b ++ [92]) else if d = 110 then textL k0 l' (j + 2) (b ++ [10]) else .err 28
    else if c.toNat < 32 ∨ 126 < c.toNat then .err 28
    else textL k0 l (j + 1) (b ++ [c])
def textT (s : ByteArray) (k : Nat) : TR := if (rest s k)[0]! ≠ 34 then .none else textL k (rest s (k + 1)) (k + 1) []
theorem textL_lim (k0 : Nat) (l : List UInt8) (j : Nat) (b : List UInt8) (h : 200 < b.length) : textL k0 l j b = .err 2 := by
  cases l <;> (unfold textL; rw [if_pos h])
theorem textL_nil (k0 j : Nat) (b : List UInt8) (h : ¬ 200 < b.length) : textL k0 [] j b = .err 28 := by
  unfold textL; rw [if_neg h]
theorem textL_quote (k0 j : Nat) (l b : List UInt8) (h : ¬ 200 < b.length) : textL k0 (34 :: l) j b = .tok ⟨3, k0, ⟨b.toArray⟩, 0⟩ (j + 1) := by
  unfold textL; rw [if_neg h, if_pos rfl]
theorem textL_esc0 (k0 j : Nat) (b : List UInt8) (h : ¬ 200 < b.length) : textL k0 [92] j b = .err 28 := by
  unfold textL; rw [if_neg h, if_neg (by decide), if_pos rfl]
theorem textL_esc (k0 j : Nat) (d : UInt8) (l b : List UInt8) (h : ¬ 200 < b.length) : textL k0 (92 :: d :: l) j b = if d = 34 then textL k0 l (j + 2) (b ++ [34]) else if d = 92 then textL k0 l (j + 2) (b ++ [92]) else if d = 110 then textL k0 l (j + 2) (b ++ [10]) else .err 28 := by
  conv => lhs; unfold textL
  rw [if_neg h, if_neg (by decide), if_pos rfl]
theorem textL_bad (k0 j : Nat) (c : UInt8) (l b : List UInt8) (h : ¬ 200 < b.length) (h1 : c ≠ 34) (h2 : c ≠ 92) (h3 : c.toNat < 32 ∨ 126 < c.toNat) : textL k0 (c :: l) j b = .err 28 := by
  unfold textL; rw [if_neg h, if_neg h1, if_neg h2, if_pos h3]
theorem textL_step (k0 j : Nat) (c : UInt8) (l b : List UInt8) (h : ¬ 200 < b.length) (h1 : c ≠ 34) (h2 : c ≠ 92) (h3 : ¬ (c.toNat < 32 ∨ 126 < c.toNat)) : textL k0 (c :: l) j b = textL k0 l (j + 1) (b ++ [c]) := by
  conv => lhs; unfold textL
  rw [if_neg h, if_neg h1, if_neg h2, if_neg h3]
def encB (c : UInt8) : Value := .int .u8 (c.toNat : Int)
theorem infoU8 : (Tryz.prog.info? 5).map (fun i => (i.zero, i.size, i.bytes)) = some (some (.int .u8 0), 1, 1) := by kernel_rfl
theorem Turned.strip {w wr : World} (h : Turned (fun i => w.heap.size ≤ i) w wr) : Turned (fun _ => False) w wr := ⟨h.os, h.tape, h.output, h.size, fun k hk _ => h.block k hk (by omega)⟩
structure TS (w : World) (s : ByteArray) (k : Nat) (v : Value) (bs : List UInt8) (j : Nat) (wr : World) : Prop where
  gt : k < j
  le : j ≤ s.size
  own : wr.ownsRow w.heap.size 5 1 v bs.length (bs.map encB)
  tur : Turned (fun i => w.heap.size ≤ i) w wr
  eq : textL k (rest s j) j bs = textL k (rest s (k + 1)) (k + 1) []
theorem TS.push {w wr w4 : World} {s : ByteArray} {k j : Nat} {v v' : Value} {bs : List UInt8} (h : TS w s k v bs j wr) (x : UInt8) (j' : Nat) (hj : j ≤ j') (hj' : j' ≤ s.size) (he : textL k (rest s j) j bs = textL k (rest s j') j' (bs ++ [x]))
    (hown' : w4.ownsRow w.heap.size 5 1 v' (bs.length + 1) (bs.map encB ++ [encB x])) (hgrow : (wr.alloc (.cells #[encB x] 5)).grownBy w4 v.ownBlock) : TS w s k v' (bs ++ [x]) j' w4 := by
  have hg := h.gt
  refine ⟨by omega, hj', by simpa using hown', ?_, by rw [← he, h.eq]⟩
  have hb := ownsRow_block h.own
  exact (h.tur.alloc _).trans (Turned.of_grown hgrow fun g hgr => (hb g hgr).1)
theorem TS.ownA {w wr : World} {s : ByteArray} {k j : Nat} {v : Value} {bs : List UInt8} (h : TS w s k v bs j wr) (o : Obj) : (wr.alloc o).ownsRow w.heap.size 5 1 v bs.length (bs.map encB) :=
  ownsRow_turned' ((Turned.refl (fun _ => False) wr).alloc o) (fun _ _ => id) h.own
theorem TS.conv {w wr : World} {s : ByteArray} {k j : Nat} {v : Value} {bs : List UInt8} (h : TS w s k v bs j wr) : (convert 172 9 v).run Tryz.prog wr = .ok (.string ⟨bs.toArray⟩) wr := by
  obtain ⟨hl, h2⟩ := h.own
  rcases h2 with ⟨rfl, h0⟩ | ⟨g, cap, cur, rfl, hg, hh, hc, hm, hs, ht⟩
  · have : bs = [] := List.length_eq_zero_iff.1 h0
    subst this
    exact Lib.run_convert_nil_bytes wr 172 9 5 0 Tryz.underlying172 Tryz.underlying5 Tryz.underlying9
  · refine run_convert_bytes_back wr 172 9 5 ⟨g, 0, none⟩ cap bs Tryz.underlying172 Tryz.underlying5 Tryz.underlying9 (fun i hi => ?_)
    have h1 : (bs.map encB)[i]? = some (encB bs[i]) := by simp [hi]
    rw [← ht, List.getElem?_take_of_lt (by omega)] at h1
    rw [show (⟨g, 0, none⟩ : Addr).add i = ⟨g, i, none⟩ by cases i <;> simp [Addr.add]]
    simpa [World.cell?, hh, encB] using h1
set_option maxRecDepth 20000 in
set_option maxHeartbeats 4000000 in
theorem text_any (B base : Nat) (s : ByteArray) (k : Nat) (v : Value) (ts : List Tok) (w : World) (h : At w B base s k v ts) (hs : s.size ≤ 65536) (hk : k < s.size) :
    Calls Tryz.prog 112 #[.pointer (some ⟨B, 0, none⟩)] w (Took w B base s v k ts (textT s k)) := by
  obtain ⟨i0, hif, hz0, hz1, hz2⟩ := info_parts infoU8
  obtain ⟨c0, c1, c2⟩ := h.rd.cells
  have HN : Hid (textT s k = if s[k] ≠ 34 then .none else textL k (rest s (k + 1)) (k + 1) []) := by
    show _ = _
    unfold textT; rw [rest_head s k hk]
  have H := Lib.hid h
  clear h
  go_enter Tryz.func112, Tryz.ntmps112
  go_wp2_with fail
  by_cases hc : s[k] = 34
  · have kc : ((s[k].toNat : Int) == 34) = true := by rw [hc]; rfl
    have kn : ((s[k].toNat : Int) != 34) = false := by simp [bne, kc]
    have HF0 : Hid (textT s k = textL k (rest s (k + 1)) (k + 1) []) := by show _ = _; rw [HN.out, if_neg (by simpa using hc)]
    clear hc
    go_quiet (fail)
    clear kn kc
    go_wp2_with fail
    have H0 : Hid (TS w s k (.slice none 0 0) [] (k + 1) (w.drewN nq)) := ⟨by omega, by omega, ⟨by simp, .inl ⟨rfl, rfl⟩⟩, drewN_turned _ _ _, rfl⟩
    go_loopw [4, 5] (fun b u wr => ∃ (bs : List UInt8) (j : Nat), u = (.int .i64 j) ∧ Hid (TS w s k b bs j wr)) (fun _ u _ => s.size + 1 - (intOf u).toNat)
    case atStart => exact ⟨[], k + 1, by simp, H0⟩
    case round =>
      clear H0 c0 c1 c2
      obtain ⟨bs, j, rfl, HS⟩ := hrel
      obtain ⟨c0, c1, c2⟩ := (H.out.same HS.out.tur.strip).rd.cells
      have hgt := HS.out.gt
      have hle := HS.out.le
      obtain ⟨va, vc, rfl⟩ := owns_shape HS.out.own
      by_cases hl : 200 < bs.length
      · have HF : Hid (textT s k = .err 2) := by show _ = _; rw [HF0.out, ← HS.out.eq, textL_lim _ _ _ _ hl]
        go_wp2_with fail
        refine bodyPost_ret (results_tmp2 rfl _ _ _) rfl ?_
        rw [HF.out]
        exact ⟨rfl, H.out.same HS.out.tur.strip, Moved.of HS.out.tur.strip⟩
      · by_cases hj : j < s.size
        · have HR := Lib.hid (rest_cons s j hj)
          by_cases q34 : s[j] = 34
          · have k34 : ((s[j].toNat : Int) == 34) = true := by rw [q34]; rfl
            have HF : Hid (textT s k = .tok ⟨3, k, ⟨bs.toArray⟩, 0⟩ (j + 1)) := by show _ = _; rw [HF0.out, ← HS.out.eq, HR.out, q34, textL_quote _ _ _ _ hl]
            have hcv := HS.out.conv
            have HP := Lib.hid (put_at (H.out.same HS.out.tur.strip) 3 0 ⟨bs.toArray⟩ (j + 1) (by omega) (by omega) ((j : Int) + 1) (by omega))
            clear q34
            go_wp2_with (go_at_call 86; refine (HP.out.mono ?_); rintro e w6 ⟨rfl, HQ⟩; have HQ := Lib.hid HQ)
            refine bodyPost_ret (results_tmp2 rfl _ _ _) rfl ?_
            rw [HF.out]
            obtain ⟨v', q1, q2⟩ := HQ.out
            exact ⟨rfl, v', q1, (Moved.of HS.out.tur.strip).trans q2⟩
          · have k34 : ((s[j].toNat : Int) == 34) = false := by
              have : s[j].toNat ≠ 34 := fun h => q34 (UInt8.toNat_inj.1 h)
              simp; omega
            by_cases q92 : s[j] = 92
            · have k92 : ((s[j].toNat : Int) == 92) = true := by rw [q92]; rfl
              by_cases hj1 : j + 1 < s.size
              · have HR1 := Lib.hid (rest_cons s (j + 1) hj1)
                have HD : Hid (textL k (rest s j) j bs = if s[j + 1] = 34 then textL k (rest s (j + 2)) (j + 2) (bs ++ [34]) else if s[j + 1] = 92 then textL k (rest s (j + 2)) (j + 2) (bs ++ [92]) else if s[j + 1] = 110 then textL k (rest s (j + 2)) (j + 2) (bs ++ [10]) else .err 28) := by
                  show _ = _
                  rw [HR.out, q92, HR1.out, textL_esc _ _ _ _ _ hl]
                clear q34 q92
                by_cases d34 : s[j + 1] = 34
                · have HI : Hid (∀ W : World, Calls Tryz.prog 108 #[.string ⟨#[34, 92, 110]⟩, .int .u8 s[j + 1].toNat] W fun e w' => e = .returned (.int .i64 0) ∧ W = w') := fun W => by
                    have := (Tryz.strings_IndexByte ⟨#[34, 92, 110]⟩ (s[j + 1].toNat : Int) W).mono fun e w' h => (⟨h.1, h.2.symm⟩ : _ ∧ W = w')
                    rw [show Lib.indexByte (ByteArray.mk #[34, 92, 110]).data.toList ((s[j + 1].toNat : Int)).toNat.toUInt8 = 0 by rw [d34]; rfl] at this
                    exact this
                  have HPU := Lib.hid (fun v' w4 => HS.out.push (v' := v') (w4 := w4) 34 (j + 2) (by omega) (by omega) (by rw [HD.out, if_pos d34]))
                  clear d34
                  go_wp2_with (first | (go_at_call 108; refine (HI.out _).mono ?_; rintro e w' ⟨rfl, rfl⟩) | (at_builtin; refine wpList_append_own _ rfl _ _ 172 rfl w.heap.size 5 i0 (.int .u8 0) 1 1 Tryz.underlying172 hif hz0 hz1 hz2 rfl (by decide) _ _ _ rfl (HS.out.ownA _) ⟨wr.heap.size, 0, none⟩ 1 1 [encB 34] rfl rfl (cell_one_new _ _ _) (by intro u hu; simp at hu; subst hu; rfl) (by unfold maxLen; omega) (by omega) (by have := HS.out.tur.size; simp; omega) ?_; intro v' w4 hown' hgrow hnil; have HE := Lib.hid (HPU.out v' w4 hown' hgrow); clear hown' hgrow hnil))
                  go_roundw
                  case rel => exact ⟨bs ++ [34], j + 2, by go_num, HE⟩
                  case measure => simp [intOf]; omega
                by_cases d92 : s[j + 1] = 92
                · have HI : Hid (∀ W : World, Calls Tryz.prog 108 #[.string ⟨#[34, 92, 110]⟩, .int .u8 s[j + 1].toNat] W fun e w' => e = .returned (.int .i64 1) ∧ W = w') := fun W => by
                    have := (Tryz.strings_IndexByte ⟨#[34, 92, 110]⟩ (s[j + 1].toNat : Int) W).mono fun e w' h => (⟨h.1, h.2.symm⟩ : _ ∧ W = w')
                    rw [show Lib.indexByte (ByteArray.mk #[34, 92, 110]).data.toList ((s[j + 1].toNat : Int)).toNat.toUInt8 = 1 by rw [d92]; rfl] at this
                    exact this
                  have HPU := Lib.hid (fun v' w4 => HS.out.push (v' := v') (w4 := w4) 92 (j + 2) (by omega) (by omega) (by rw [HD.out, if_neg d34, if_pos d92]))
                  clear d92
                  go_wp2_with (first | (go_at_call 108; refine (HI.out _).mono ?_; rintro e w' ⟨rfl, rfl⟩) | (at_builtin; refine wpList_append_own _ rfl _ _ 172 rfl w.heap.size 5 i0 (.int .u8 0) 1 1 Tryz.underlying172 hif hz0 hz1 hz2 rfl (by decide) _ _ _ rfl (HS.out.ownA _) ⟨wr.heap.size, 0, none⟩ 1 1 [encB 92] rfl rfl (cell_one_new _ _ _) (by intro u hu; simp at hu; subst hu; rfl) (by unfold maxLen; omega) (by omega) (by have := HS.out.tur.size; simp; omega) ?_; intro v' w4 hown' hgrow hnil; have HE := Lib.hid (HPU.out v' w4 hown' hgrow); clear hown' hgrow hnil))
                  go_roundw
                  case rel => exact ⟨bs ++ [92], j + 2, by go_num, HE⟩
                  case measure => simp [intOf]; omega
                by_cases d110 : s[j + 1] = 110
                · have HI : Hid (∀ W : World, Calls Tryz.prog 108 #[.string ⟨#[34, 92, 110]⟩, .int .u8 s[j + 1].toNat] W fun e w' => e = .returned (.int .i64 2) ∧ W = w') := fun W => by
                    have := (Tryz.strings_IndexByte ⟨#[34, 92, 110]⟩ (s[j + 1].toNat : Int) W).mono fun e w' h => (⟨h.1, h.2.symm⟩ : _ ∧ W = w')
                    rw [show Lib.indexByte (ByteArray.mk #[34, 92, 110]).data.toList ((s[j + 1].toNat : Int)).toNat.toUInt8 = 2 by rw [d110]; rfl] at this
                    exact this
                  have HPU := Lib.hid (fun v' w4 => HS.out.push (v' := v') (w4 := w4) 10 (j + 2) (by omega) (by omega) (by rw [HD.out, if_neg d34, if_neg d92, if_pos d110]))
                  clear d110
                  go_wp2_with (first | (go_at_call 108; refine (HI.out _).mono ?_; rintro e w' ⟨rfl, rfl⟩) | (at_builtin; refine wpList_append_own _ rfl _ _ 172 rfl w.heap.size 5 i0 (.int .u8 0) 1 1 Tryz.underlying172 hif hz0 hz1 hz2 rfl (by decide) _ _ _ rfl (HS.out.ownA _) ⟨wr.heap.size, 0, none⟩ 1 1 [encB 10] rfl rfl (cell_one_new _ _ _) (by intro u hu; simp at hu; subst hu; rfl) (by unfold maxLen; omega) (by omega) (by have := HS.out.tur.size; simp; omega) ?_; intro v' w4 hown' hgrow hnil; have HE := Lib.hid (HPU.out v' w4 hown' hgrow); clear hown' hgrow hnil))
                  go_roundw
                  case rel => exact ⟨bs ++ [10], j + 2, by go_num, HE⟩
                  case measure => simp [intOf]; omega
                have HI : Hid (∀ W : World, Calls Tryz.prog 108 #[.string ⟨#[34, 92, 110]⟩, .int .u8 s[j + 1].toNat] W fun e w' => e = .returned (.int .i64 (-1)) ∧ W = w') := fun W => by
                  have := (Tryz.strings_IndexByte ⟨#[34, 92, 110]⟩ (s[j + 1].toNat : Int) W).mono fun e w' h => (⟨h.1, h.2.symm⟩ : _ ∧ W = w')
                  rw [show Lib.indexByte (ByteArray.mk #[34, 92, 110]).data.toList ((s[j + 1].toNat : Int)).toNat.toUInt8 = -1 by simp [Lib.indexByte, Ne.symm d34, Ne.symm d92, Ne.symm d110]] at this
                  exact this
                have HF : Hid (textT s k = .err 28) := by show _ = _; rw [HF0.out, ← HS.out.eq, HD.out, if_neg d34, if_neg d92, if_neg d110]
                clear d34 d92 d110
                go_wp2_with (go_at_call 108; refine (HI.out _).mono ?_; rintro e w' ⟨rfl, rfl⟩)
                refine bodyPost_ret (results_tmp2 rfl _ _ _) rfl ?_
                rw [HF.out]
                exact ⟨rfl, H.out.same HS.out.tur.strip, Moved.of HS.out.tur.strip⟩
              · have HF : Hid (textT s k = .err 28) := by show _ = _; rw [HF0.out, ← HS.out.eq, HR.out, q92, rest_nil s (j + 1) (by omega), textL_esc0 _ _ _ hl]
                clear q34 q92
                go_wp2_with fail
                refine bodyPost_ret (results_tmp2 rfl _ _ _) rfl ?_
                rw [HF.out]
                exact ⟨rfl, H.out.same HS.out.tur.strip, Moved.of HS.out.tur.strip⟩
            · have k92 : ((s[j].toNat : Int) == 92) = false := by
                have : s[j].toNat ≠ 92 := fun h => q92 (UInt8.toNat_inj.1 h)
                simp; omega
              by_cases hb : s[j].toNat < 32 ∨ 126 < s[j].toNat
              · have HF : Hid (textT s k = .err 28) := by show _ = _; rw [HF0.out, ← HS.out.eq, HR.out, textL_bad _ _ _ _ _ hl q34 q92 hb]
                clear q34 q92
                rcases hb with hb | hb
                · go_wp2_with fail
                  refine bodyPost_ret (results_tmp2 rfl _ _ _) rfl ?_
                  rw [HF.out]
                  exact ⟨rfl, H.out.same HS.out.tur.strip, Moved.of HS.out.tur.strip⟩
                · go_wp2_with fail
                  refine bodyPost_ret (results_tmp2 rfl _ _ _) rfl ?_
                  rw [HF.out]
                  exact ⟨rfl, H.out.same HS.out.tur.strip, Moved.of HS.out.tur.strip⟩
              · have HPU := Lib.hid (fun v' w4 => HS.out.push (v' := v') (w4 := w4) s[j] (j + 1) (by omega) (by omega) (by rw [HR.out, textL_step _ _ _ _ _ hl q34 q92 hb]))
                have hb1 : ¬ s[j].toNat < 32 := fun h => hb (.inl h)
                have hb2 : ¬ 126 < s[j].toNat := fun h => hb (.inr h)
                clear q34 q92 hb
                go_wp2_with (at_builtin; refine wpList_append_own _ rfl _ _ 172 rfl w.heap.size 5 i0 (.int .u8 0) 1 1 Tryz.underlying172 hif hz0 hz1 hz2 rfl (by decide) _ _ _ rfl (HS.out.ownA _) ⟨wr.heap.size, 0, none⟩ 1 1 [encB s[j]] rfl rfl (cell_one_new _ _ _) (by intro u hu; simp at hu; subst hu; rfl) (by unfold maxLen; omega) (by omega) (by have := HS.out.tur.size; simp; omega) ?_; intro v' w4 hown' hgrow hnil; have HE := Lib.hid (HPU.out v' w4 hown' hgrow); clear hown' hgrow hnil)
                go_roundw
                case rel => exact ⟨bs ++ [s[j]], j + 1, by go_num, HE⟩
                case measure => simp [intOf]; omega
        · have HF : Hid (textT s k = .err 28) := by show _ = _; rw [HF0.out, ← HS.out.eq, rest_nil s j (by omega), textL_nil _ _ _ hl]
          go_wp2_with fail
          refine bodyPost_ret (results_tmp2 rfl _ _ _) rfl ?_
          rw [HF.out]
          exact ⟨rfl, H.out.same HS.out.tur.strip, Moved.of HS.out.tur.strip⟩
  · have kc : ((s[k].toNat : Int) == 34) = false := by
      have : s[k].toNat ≠ 34 := fun h => hc (UInt8.toNat_inj.1 h)
      simp; omega
    have HF : Hid (textT s k = .none) := by show _ = _; rw [HN.out, if_pos hc]
    clear hc
    go_quiet (fail)
    go_wp2_with fail
    go_ret2
    rw [HF.out]
    exact ⟨rfl, H.out.drew _, moved_drew _ _ _ _⟩
end Go.Proofs.YtjijdgkccfeeaaaGreatDoor
namespace Go.Proofs.YtjijdgkccfeeaaaGreatDoor
open Go Go.Proofs Go.RowKit
attribute [local go_sem] Oper.semAt_some
def pairs : List (List UInt8) := [[45, 62], [58, 61], [61, 61], [33, 61], [60, 61], [62, 61], [38, 38], [124, 124], [46, 46]]
def pairText : ByteArray := ⟨#[45, 62, 32, 58, 61, 32, 61, 61, 32, 33, 61, 32, 60, 61, 32, 62, 61, 32, 38, 38, 32, 124, 124, 32, 46, 46]⟩
def signText : ByteArray := ⟨#[40, 41, 123, 125, 91, 93, 44, 59, 58, 46, 43, 45, 42, 47, 37, 60, 62, 61, 33, 38, 124, 64, 63, 94, 126]⟩
theorem fields_pairs : Lib.fields pairText.data.toList = pairs := by decide
def signL (s : ByteArray) (k : Nat) : List (List UInt8) → TR
  | [] => if 0 ≤ Lib.indexByte signText.data.toList (rest s k)[0]! then .tok ⟨4, k, ⟨#[(rest s k)[0]!]⟩, 0⟩ (k + 1) else .none
  | p :: ps => if Lib.hasPrefix (rest s k) p then .tok ⟨4, k, ⟨p.toArray⟩, 0⟩ (k + 2) else signL s k ps
def signT (s : ByteArray) (k : Nat) : TR := signL s k pairs
def pairAt (j : Nat) : List UInt8 := pairs[j]!
theorem pairs_drop (j : Nat) (h : j < 9) : pairs.drop j = pairAt j :: pairs.drop (j + 1) := by
  have : ∀ j : Fin 9, pairs.drop j.1 = pairAt j.1 :: pairs.drop (j.1 + 1) := by decide
  exact this ⟨j, h⟩
theorem pairAt_len (j : Nat) (h : j < 9) : (pairAt j).length = 2 := by
  have : ∀ j : Fin 9, (pairAt j.1).length = 2 := by decide
  exact this ⟨j, h⟩
theorem pair_fits {s : ByteArray} {k j : Nat} (h : j < 9) (hp : Lib.hasPrefix (rest s k) (pairAt j) = true) : k + 2 ≤ s.size := by
  have h1 := (List.isPrefixOf_iff_prefix.1 hp).length_le
  rw [pairAt_len j h, rest_len] at h1
  omega
def pairCells : Array Value := (pairs.map fun l => Value.string ⟨l.toArray⟩).toArray
theorem pairCells_at (j : Nat) (h : j < 9) : pairCells[j]? = some (.string ⟨(pairAt j).toArray⟩) := by
  have : ∀ j : Nat, j < 9 → pairCells[j]? = some (.string ⟨(pairAt j).toArray⟩) := by
    intro j hj
    match j, hj with
    | 0, _ => rfl
    | 1, _ => rfl
    | 2, _ => rfl
    | 3, _ => rfl
    | 4, _ => rfl
    | 5, _ => rfl
    | 6, _ => rfl
    | 7, _ => rfl
    | 8, _ => rfl
  exact this j h
theorem fields_any (w : World) (n : Nat) (hv : Vars n w) : Calls Tryz.prog 129 #[.string pairText] w fun e w' => e = .returned (.slice (some ⟨w.heap.size, 0, none⟩) 9 9) ∧ w' = w.alloc (.cells pairCells 9) := by
  have h := Tryz.strings_Fields pairText w (by decide) (fun j b hj => by
    have : ∀ b ∈ pairText.data.toList, b.toNat < 128 := by decide
    exact this b (List.mem_of_getElem? hj)) hv.tab.1
  rw [fields_pairs] at h
  exact h
theorem head_str (s : ByteArray) (k : Nat) (hk : k < s.size) : (s.extract k s.size).extract 0 1 = ⟨#[s[k]]⟩ := by
  apply ByteArray.ext
  apply Array.ext
  · simp; omega
  · intro i h1 h2
    simp at h2
    subst h2
    simp
    rfl
set_option maxRecDepth 20000 in
set_option maxHeartbeats 2000000 in
theorem sign_any (B base : Nat) (s : ByteArray) (k : Nat) (v : Value) (ts : List Tok) (w : World) (h : At w B base s k v ts) (hs : s.size ≤ 65536) (hk : k < s.size) :
    Calls Tryz.prog 113 #[.pointer (some ⟨B, 0, none⟩)] w (Took w B base s v k ts (signT s k)) := by
  obtain ⟨c0, c1, c2⟩ := h.rd.cells
  have H := Lib.hid h
  clear h
  have HFi := Lib.hid (fun (W : World) (ht : Turned (fun _ => False) w W) => fields_any W B (H.out.same ht).vars)
  go_enter Tryz.func113, Tryz.ntmps113
  go_wp2_with fail
  go_quiet (fail)
  have hrs : (s.extract k s.size).size = s.size - k := by simp
  have hrl : (s.extract k s.size).data.toList = rest s k := Lib.extract_to_end s k
  have hr1 := head_str s k hk
  generalize s.extract k s.size = rs at hrs hrl hr1 ⊢
  have hr0 : 1 ≤ rs.size := by omega
  have HQ := Lib.hid (fun (p : ByteArray) (W : World) => (Tryz.strings_HasPrefix rs p W).mono fun e w' h => (⟨h.1, h.2.symm⟩ : _ ∧ W = w'))
  have HO := Lib.hid (fun (W : World) => (Tryz.strings_Contains_one signText s[k] W).mono fun e w' h => (⟨h.1, h.2.symm⟩ : _ ∧ W = w'))
  rw [← hr1] at HO
  rw [hrl] at HQ
  clear hrl
  have HT0 : Hid (Turned (fun _ => False) w (w.drewN nq)) := drewN_turned _ _ _
  generalize hN : w.drewN nq = W at HT0 ⊢
  clear hN
  go_wp2_with (go_at_call 129; refine (HFi.out _ HT0.out).mono ?_; rintro e w' ⟨rfl, rfl⟩)
  have hcell : ∀ j : Nat, j < 9 → (W.alloc (.cells pairCells 9)).cell? ⟨W.heap.size, j, none⟩ = some (.string ⟨(pairAt j).toArray⟩) := fun j hj => by
    have : (W.alloc (.cells pairCells 9)).heap[W.heap.size]? = some (.cells pairCells 9 (0, 0)) := Array.getElem?_push_size
    unfold World.cell?
    rw [this]
    exact pairCells_at j hj
  have HT : Hid (Turned (fun _ => False) w (W.alloc (.cells pairCells 9))) := HT0.out.alloc _
  have hNs : W.heap.size < (W.alloc (.cells pairCells 9)).heap.size := by simp
  generalize W.alloc (.cells pairCells 9) = W1 at hcell HT hNs ⊢
  generalize W.heap.size = N at hcell hNs ⊢
  obtain ⟨d0, d1, d2⟩ := (H.out.same HT.out).rd.cells
  clear c0 c1 c2 HT0 HFi
  go_loop [18] (fun u => ∃ j : Nat, j ≤ 9 ∧ u = (.int .i64 j) ∧ Hid (signL s k (pairs.drop j) = signT s k)) (fun u => 9 - (intOf u).toNat)
  case atStart => exact ⟨0, by omega, rfl, rfl⟩
  case round =>
    obtain ⟨j, hj, rfl, HJ⟩ := hrel
    by_cases hj9 : j < 9
    · have dc := hcell j hj9
      have HD : Hid (signT s k = if Lib.hasPrefix (rest s k) (pairAt j) then .tok ⟨4, k, ⟨(pairAt j).toArray⟩, 0⟩ (k + 2) else signL s k (pairs.drop (j + 1))) := by
        show _ = _
        rw [← HJ.out, pairs_drop j hj9]; rfl
      by_cases hp : Lib.hasPrefix (rest s k) (pairAt j) = true
      · have hfit := pair_fits hj9 hp
        have HF : Hid (signT s k = .tok ⟨4, k, ⟨(pairAt j).toArray⟩, 0⟩ (k + 2)) := by show _ = _; rw [HD.out, if_pos hp]
        have HP := Lib.hid (put_at (H.out.same HT.out) 4 0 ⟨(pairAt j).toArray⟩ (k + 2) (by omega) (by omega) ((k : Int) + 2) (by omega))
        have HX : Hid (∀ W, Calls Tryz.prog 130 #[.string rs, .string ⟨(pairAt j).toArray⟩] W fun e w' => e = .returned (.bool true) ∧ W = w') := fun W => by
          have := HQ.out ⟨(pairAt j).toArray⟩ W
          simpa [hp] using this
        clear hp
        go_wp2_with (first | (go_at_call 130; refine (HX.out _).mono ?_; rintro e w' ⟨rfl, rfl⟩) | (go_at_call 86; refine (HP.out.mono ?_); rintro e w6 ⟨rfl, HQ2⟩; have HQ2 := Lib.hid HQ2))
        refine bodyPost_ret (results_tmp2 rfl _ _ _) rfl ?_
        rw [HF.out]
        obtain ⟨v', q1, q2⟩ := HQ2.out
        exact ⟨rfl, v', q1, (Moved.of HT.out).trans q2⟩
      · have hp' : Lib.hasPrefix (rest s k) (pairAt j) = false := by simpa using hp
        have HE : Hid (signL s k (pairs.drop (j + 1)) = signT s k) := by show _ = _; rw [HD.out, if_neg hp]
        have HX : Hid (∀ W, Calls Tryz.prog 130 #[.string rs, .string ⟨(pairAt j).toArray⟩] W fun e w' => e = .returned (.bool false) ∧ W = w') := fun W => by
          have := HQ.out ⟨(pairAt j).toArray⟩ W
          simpa [hp'] using this
        clear hp hp'
        go_wp2_with (go_at_call 130; refine (HX.out _).mono ?_; rintro e w' ⟨rfl, rfl⟩)
        go_round
        case rel => exact ⟨j + 1, by omega, by go_num, HE⟩
        case measure => simp [intOf]; omega
    · obtain rfl : j = 9 := by omega
      have HD : Hid (signT s k = if 0 ≤ Lib.indexByte signText.data.toList s[k] then .tok ⟨4, k, ⟨#[s[k]]⟩, 0⟩ (k + 1) else .none) := by
        show _ = _
        rw [← HJ.out]
        show signL s k [] = _
        unfold signL
        rw [rest_head s k hk]
        rfl
      by_cases hc : 0 ≤ Lib.indexByte signText.data.toList s[k]
      · have HF : Hid (signT s k = .tok ⟨4, k, ⟨#[s[k]]⟩, 0⟩ (k + 1)) := by show _ = _; rw [HD.out, if_pos hc]
        have HX : Hid (∀ W, Calls Tryz.prog 131 #[.string signText, .string (rs.extract 0 1)] W fun e w' => e = .returned (.bool true) ∧ W = w') := fun W => by simpa [hc] using HO.out W
        have HP : Hid (∀ W, Turned (fun _ => False) w W → Calls Tryz.prog 86 #[.pointer (some ⟨B, 0, none⟩), (.int .i64 4), (.int .i64 ((k : Int) + 1)), .string (rs.extract 0 1), (.int .i64 0)] W (PutR W B base s (k + 1) (ts ++ [Tok.mk 4 k ⟨#[s[k]]⟩ 0]))) := fun W ht => by
          have := put_at (H.out.same ht) 4 0 ⟨#[s[k]]⟩ (k + 1) (by omega) (by omega) ((k : Int) + 1) (by omega)
          rw [← hr1] at this ⊢
          exact this
        clear hc hr1
        go_wp2_with (go_at_call 131; refine (HX.out _).mono ?_; rintro e w' ⟨rfl, rfl⟩)
        refine region_tail HT.out 8 (by kernel_rfl) (by kernel_rfl) (fun V hT => ?_)
        obtain ⟨e0, e1, e2⟩ := (H.out.same hT).rd.cells
        have HV := Lib.hid (HP.out V hT)
        have HT2 := Lib.hid hT
        clear hT
        simp only [List.take_succ_cons, List.take_zero, List.drop_succ_cons, List.drop_zero]
        have hw : IntKind.i64.wrap ((k : Int) + 1) = (k : Int) + 1 := IntWalk.i64_in _ (by omega)
        have hx : (1 : Int) ≤ ((s.size - k : Nat) : Int) := by omega
        repeat still_step
        refine wpStill_nil ?_
        go_wp2_with (go_at_call 86; refine (HV.out.mono ?_); rintro e w6 ⟨rfl, HQ2⟩; have HQ2 := Lib.hid HQ2)
        refine bodyPost_ret (results_tmp2 rfl _ _ _) rfl ?_
        rw [HF.out]
        obtain ⟨v', q1, q2⟩ := HQ2.out
        exact ⟨rfl, v', q1, (Moved.of HT2.out).trans q2⟩
      · have HF : Hid (signT s k = .none) := by show _ = _; rw [HD.out, if_neg hc]
        have HX : Hid (∀ W, Calls Tryz.prog 131 #[.string signText, .string (rs.extract 0 1)] W fun e w' => e = .returned (.bool false) ∧ W = w') := fun W => by simpa [hc] using HO.out W
        clear hc hr1
        go_wp2_with (go_at_call 131; refine (HX.out _).mono ?_; rintro e w' ⟨rfl, rfl⟩)
        refine bodyPost_ret (results_tmp2 rfl _ _ _) rfl ?_
        rw [HF.out]
        exact ⟨rfl, H.out.same HT.out, Moved.of HT.out⟩
end Go.Proofs.YtjijdgkccfeeaaaGreatDoor
