/- Part 13 of the proof of card: ParWalkF. Conditions: those of each theorem. -/
import Derived.Test.YtjijdgkccfeeaaaGreatDoorPt01
import Derived.Test.YtjijdgkccfeeaaaGreatDoorPt07
import Derived.Test.YtjijdgkccfeeaaaGreatDoorPt12
set_option maxRecDepth 20000
set_option maxHeartbeats 8000000
namespace Go.Proofs.YtjijdgkccfeeaaaGreatDoor
open Go Go.Proofs Go.RowKit
attribute [local go_sem] Oper.semAt_some
theorem atom_leaf {B g cap : Nat} {ts : List Tok} (k : Nat) (d : Int) (w : World) (nf : Int) (h : PS B g cap ts w k nf) (t : Tok) (ht : ts[k]? = some t) (h23 : t.kind = 2 \/ t.kind = 3) :
  Calls Tryz.prog 114 #[.pointer (some ⟨B, 0, none⟩), .int .i64 d] w (XR B g cap ts nf w (if t.kind = 2 then .ok (.mk 1 t.n noB [] t.at_) (k + 1) else .ok (.mk 2 0 t.s [] t.at_) (k + 1))) := by
 have hb : beginsT t = true := by unfold beginsT; rcases h23 with h | h <;> simp [h]
 have hk1 := h.ok.next _ _ ht (by rcases h23 with h | h <;> (rw [h]; decide))
 have hR : Hid (∀ w', (XR B g cap ts nf w (if t.kind = 2 then .ok (.mk 1 t.n noB [] t.at_) (k + 1) else .ok (.mk 2 0 t.s [] t.at_) (k + 1))) (.returned (.agg #[(.int .i64 (t.kind - 1)), .int .i64 t.n, .string t.s, .slice none 0 0, .int .i64 t.at_])) w' ↔ (PS B g cap ts w' (k + 1) nf /\ Turned (fun b => b = B) w w')) := by
  show ∀ w', _
  intro w'
  rcases h23 with h2 | h2
  ·rw [if_pos h2, h2, (h.ok.none_ k t ht h2).1]
   constructor
   ·rintro ⟨p, c, h3, h4, h5, h6⟩; exact ⟨h5, h6⟩
   ·rintro ⟨h5, h6⟩; exact ⟨none, 0, rfl, .nil _ _, h5, h6⟩
  ·rw [if_neg (by rw [h2]; decide), h2, h.ok.zero k t ht (.inr (.inl h2))]
   constructor
   ·rintro ⟨p, c, h3, h4, h5, h6⟩; exact ⟨h5, h6⟩
   ·rintro ⟨h5, h6⟩; exact ⟨none, 0, rfl, .nil _ _, h5, h6⟩
 generalize (XR B g cap ts nf w (if t.kind = 2 then .ok (.mk 1 t.n noB [] t.at_) (k + 1) else .ok (.mk 2 0 t.s [] t.at_) (k + 1))) = Q at hR ⊢
 have S0 := SP.start h
 have HB := begins_ps h ht
 clear HB
 go_enter Tryz.func114, Tryz.ntmps114
 go_wp2_with fail
 obtain ⟨W1, rb, hW, hb1, S1⟩ := SP.box S0 (.cells #[.int .i64 0, .int .i64 0, .string ⟨#[]⟩, .slice none 0 0, .int .i64 0] 31)
 rw [<- hW, <- hb1]
 clear hW hb1 S0
 have HB := begins_ps S1.out.ps ht
 rw [hb] at HB
 refine HB.mono ?_
 rintro e W2 ⟨rfl, rfl⟩
 go_wp2_with fail
 refine (next_ps S1.out.ps ht hk1).mono ?_
 rintro e W2 ⟨rfl, hp, ht2⟩
 have S2 := SP.call S1 ht2 hp
 clear S1 hp ht2 HB
 have hz := (SP.boxAt S2 0 rfl).1
 have hrb := (SP.boxAt S2 0 rfl).2.2
 have fq := free_of_box hz
 obtain ⟨r0, r1, r2, r3, r4⟩ := cellsFive hz
 rcases h23 with h2 | h2
 ·have b2 : (t.kind == 2) = true := by simpa using h2
  have e1 : t.kind - 1 = 1 := by omega
  rw [e1] at hR
  clear h2 e1
  go_wp2_with fail
  have S3 := SP.put S2 0 rfl (five_turned W2 rb (.int .i64 1) (.int .i64 t.n) (.string t.s) (.slice none 0 0) (.int .i64 t.at_)) (five_set hz)
  obtain ⟨W4, tb, hW4, -, S4⟩ := SP.box S3 (.cells #[.int .i64 t.kind, .int .i64 t.at_, .string t.s, .int .i64 t.n] 68)
  obtain ⟨W5, eb, hW5, -, S5⟩ := SP.box S4 (.cells #[.int .i64 1, .int .i64 t.n, .string t.s, .slice none 0 0, .int .i64 t.at_] 31)
  rw [<- hW4, <- hW5]
  refine bodyPost_ret (results_ex rfl _ _ rb (.int .i64 1) (.int .i64 t.n) (.string t.s) (.slice none 0 0) (.int .i64 t.at_) rfl (SP.boxAt S5 2 rfl).1) rfl ?_
  exact (hR.out _).2 ⟨S5.out.ps, S5.out.tur⟩
 ·have b2 : (t.kind == 2) = false := by simp; omega
  have b3 : (t.kind == 3) = true := by simpa using h2
  have e1 : t.kind - 1 = 2 := by omega
  rw [e1] at hR
  clear h2 e1
  go_wp2_with fail
  have S3 := SP.put S2 0 rfl (five_turned W2 rb (.int .i64 2) (.int .i64 t.n) (.string t.s) (.slice none 0 0) (.int .i64 t.at_)) (five_set hz)
  obtain ⟨W4, tb, hW4, -, S4⟩ := SP.box S3 (.cells #[.int .i64 t.kind, .int .i64 t.at_, .string t.s, .int .i64 t.n] 68)
  obtain ⟨W5, eb, hW5, -, S5⟩ := SP.box S4 (.cells #[.int .i64 2, .int .i64 t.n, .string t.s, .slice none 0 0, .int .i64 t.at_] 31)
  rw [<- hW4, <- hW5]
  refine bodyPost_ret (results_ex rfl _ _ rb (.int .i64 2) (.int .i64 t.n) (.string t.s) (.slice none 0 0) (.int .i64 t.at_) rfl (SP.boxAt S5 2 rfl).1) rfl ?_
  exact (hR.out _).2 ⟨S5.out.ps, S5.out.tur⟩
theorem atom_bad {B g cap : Nat} {ts : List Tok} (k : Nat) (d : Int) (w : World) (nf : Int) (h : PS B g cap ts w k nf) (t : Tok) (ht : ts[k]? = some t) (hb : beginsT t = false) :
  Calls Tryz.prog 114 #[.pointer (some ⟨B, 0, none⟩), .int .i64 d] w (XR B g cap ts nf w (.err k 5)) := by
 have S0 := SP.start h
 go_enter Tryz.func114, Tryz.ntmps114
 go_wp2_with fail
 obtain ⟨W1, rb, hW, hb1, S1⟩ := SP.box S0 (.cells #[.int .i64 0, .int .i64 0, .string ⟨#[]⟩, .slice none 0 0, .int .i64 0] 31)
 rw [<- hW, <- hb1]
 clear hW hb1 S0
 have HB := begins_ps S1.out.ps ht
 rw [hb] at HB
 refine HB.mono ?_
 rintro e W2 ⟨rfl, rfl⟩
 go_wp2_with fail
 refine (fail_ps S1.out.ps 5).mono ?_
 rintro e W2 ⟨rfl, rfl⟩
 exact ⟨rfl, rfl, S1.out.tur⟩
theorem atom_paren {B g cap : Nat} {ts : List Tok} {f : Nat} (IH : Hyp B g cap ts f) (m : Nat) (k : Nat) (d : Int) (r : PR Ex) (w : World) (nf : Int) (hm : m < f) (hd0 : 0 <= d) (hd : d <= 30) (h : PS B g cap ts w k nf) (t : Tok) (ht : ts[k]? = some t) (hs : isS t ⟨#[40]⟩ = true)
  (hr : (PR.then_ (runF ts m .expr (k + 1) (d + 1)) fun x j => match ts[j]? with | none => none | some u => if isS u ⟨#[41]⟩ then some (.ok x (j + 1)) else some (.err j 5)) = some r) :
  Calls Tryz.prog 114 #[.pointer (some ⟨B, 0, none⟩), .int .i64 d] w (XR B g cap ts nf w r) := by
 have hb : beginsT t = true := by unfold beginsT; simp [hs]
 have hk1 := h.ok.sign ht hs
 have hk4 := isS_kind hs
 have b1 : (t.kind == 1) = false := by simp; omega
 have b2 : (t.kind == 2) = false := by simp; omega
 have b3 : (t.kind == 3) = false := by simp; omega
 clear hk4
 have S0 := SP.start h
 go_enter Tryz.func114, Tryz.ntmps114
 go_wp2_with fail
 obtain ⟨W1, rb, hW, hb1, S1⟩ := SP.box S0 (.cells #[.int .i64 0, .int .i64 0, .string ⟨#[]⟩, .slice none 0 0, .int .i64 0] 31)
 rw [<- hW, <- hb1]
 clear hW hb1 S0
 have HB := begins_ps S1.out.ps ht
 rw [hb] at HB
 refine HB.mono ?_
 rintro e W2 ⟨rfl, rfl⟩
 go_wp2_with fail
 refine (next_ps S1.out.ps ht hk1).mono ?_
 rintro e W2 ⟨rfl, hp, ht2⟩
 have S2 := SP.call S1 ht2 hp
 clear S1 hp ht2 HB
 go_wp2_with fail
 obtain ⟨W3, tb, hW3, hb3, S3⟩ := SP.box S2 (.cells #[.int .i64 t.kind, .int .i64 t.at_, .string t.s, .int .i64 t.n] 68)
 obtain ⟨W4, eb, hW4, hb4, S4⟩ := SP.box S3 (.cells #[.int .i64 0, .int .i64 t.n, .string t.s, .slice none 0 0, .int .i64 t.at_] 31)
 have e4 : eb = W2.heap.size + 1 := by rw [hb4, hW3]; simp
 have htb : tb < eb := by omega
 have hrb : rb < eb := by have := (SP.boxAt S2 0 rfl).2.2; omega
 rw [<- hW3, <- hW4, <- e4, <- hb3]
 clear hW3 hW4 hb3 hb4 e4 S2 S3
 rcases PR.then_some hr with ⟨j, c, h1, rfl⟩ | ⟨x, j, h1, h2⟩
 ·refine (IH.expr m (k + 1) (d + 1) _ _ nf (by omega) (by omega) (by omega) h1 S4.out.ps).mono ?_
  rintro e W5 ⟨rfl, ht2⟩
  exact ⟨rfl, rfl, S4.out.tur.trans ht2⟩
 refine (IH.expr m (k + 1) (d + 1) _ _ nf (by omega) (by omega) (by omega) h1 S4.out.ps).mono ?_
 rintro e W5 ⟨p, c, rfl, hk, hp, ht2⟩
 have S5 := SP.callK S4 ht2 hp hk
 clear S4 hk hp ht2 hr
 have hz := (SP.boxAt S5 0 rfl).1
 have fq := free_of_box hz
 obtain ⟨r0, r1, r2, r3, r4⟩ := cellsFive hz
 go_wp2_with fail
 have S6 := SP.put S5 0 rfl (five_turned _ _ (.int .i64 x.op) (.int .i64 x.n) (.string x.s) (.slice p x.kids.length c) (.int .i64 x.at_)) (five_set hz)
 obtain ⟨W6, hW6⟩ : ∃ W6, W6 = (((((W5.setCell ⟨eb, 0, none⟩ (.int .i64 x.op)).setCell ⟨eb, 1, none⟩ (.int .i64 x.n)).setCell ⟨eb, 2, none⟩ (.string x.s)).setCell ⟨eb, 3, none⟩ (.slice p x.kids.length c)).setCell ⟨eb, 4, none⟩ (.int .i64 x.at_)) := ⟨_, rfl⟩
 rw [<- hW6] at S6 ⊢
 clear hW6 hz fq r0 r1 r2 r3 r4 S5
 obtain ⟨u, hu⟩ := some_of_lt S6.out.ps.lt
 simp only [hu] at h2
 by_cases hc : isS u ⟨#[41]⟩ = true
 ·rw [if_pos hc] at h2
  cases h2
  refine (need_ps S6.out.ps hu _ hc).mono ?_
  rintro e W7 ⟨rfl, hp, ht2⟩
  have S7 := SP.call S6 ht2 hp
  clear S6 hp ht2
  obtain ⟨x0, x1, x2, x3, x4⟩ := cellsFive (SP.boxAt S7 0 rfl).1
  have hz := (SP.boxAt S7 2 rfl).1
  have fq := free_of_box hz
  obtain ⟨r0, r1, r2, r3, r4⟩ := cellsFive hz
  go_wp2_with fail
  have S8 := SP.put S7 2 rfl (five_turned _ _ (.int .i64 x.op) (.int .i64 x.n) (.string x.s) (.slice p x.kids.length c) (.int .i64 x.at_)) (five_set hz)
  refine bodyPost_ret (results_ex rfl _ _ rb (.int .i64 x.op) (.int .i64 x.n) (.string x.s) (.slice p x.kids.length c) (.int .i64 x.at_) rfl (five_set hz)) rfl ?_
  exact ⟨p, c, rfl, SP.kidAt S8 0 rfl, S8.out.ps, S8.out.tur⟩
 ·have hc : isS u ⟨#[41]⟩ = false := by simpa using hc
  rw [if_neg (by rw [hc]; decide)] at h2
  cases h2
  refine (need_no S6.out.ps hu _ hc).mono ?_
  rintro e W7 ⟨rfl, rfl⟩
  exact ⟨rfl, rfl, S6.out.tur⟩
def restA (ts : List Tok) (m : Nat) (t : Tok) (kids : List Ex) (j : Nat) (d : Int) : Option (PR Ex) :=
 match ts[j]? with
 | none => none
 | some u => if isS u ⟨#[41]⟩ then some (.ok (.mk 4 0 t.s kids t.at_) (j + 1)) else if kids = [] then runF ts m (.args t []) j d else if isS u ⟨#[44]⟩ then runF ts m (.args t kids) (j + 1) d else some (.err j 5)
structure AR (B g cap : Nat) (ts : List Tok) (f : Nat) (w : World) (nf : Int) (d : Int) (r : PR Ex) (t : Tok) (eb tb rb : Nat) (v : Value) (ps : List (Ex × Value)) (j m : Nat) (wr : World) : Prop where
 sp : Hid (SP B g cap ts w wr [(eb, .cells #[.int .i64 4, .int .i64 0, .string t.s, v, .int .i64 t.at_] 31), (tb, .cells #[.int .i64 t.kind, .int .i64 t.at_, .string t.s, .int .i64 0] 68), (rb, .cells #[.int .i64 0, .int .i64 0, .string ⟨#[]⟩, .slice none 0 0, .int .i64 0] 31)] [] j nf)
 own : Hid (Own wr (eb + 1) 31 5 exEnc exAt v ps.length ps)
 len : ps.length <= 40
 fuel : m < f
 eq : restA ts m t (ps.map (·.1)) j d = some r
theorem atom_name {B g cap : Nat} {ts : List Tok} {f : Nat} (IH : Hyp B g cap ts f) (m : Nat) (k : Nat) (d : Int) (r : PR Ex) (w : World) (nf : Int) (hm : m < f) (hd0 : 0 <= d) (hd : d <= 30) (h : PS B g cap ts w k nf) (t : Tok) (ht : ts[k]? = some t) (hs : t.kind = 1)
  (hr : (match ts[k + 1]? with
     | none => none
     | some u => if !isS u ⟨#[40]⟩ then some (.ok (.mk 3 0 t.s [] t.at_) (k + 1)) else
      match ts[k + 2]? with
      | none => none
      | some v => if isS v ⟨#[41]⟩ then some (.ok (.mk 4 0 t.s [] t.at_) (k + 3)) else runF ts m (.args t []) (k + 2) d) = some r) :
  Calls Tryz.prog 114 #[.pointer (some ⟨B, 0, none⟩), .int .i64 d] w (XR B g cap ts nf w r) := by
 have hb : beginsT t = true := by unfold beginsT; simp [hs]
 have hk1 := h.ok.next _ _ ht (by rw [hs]; decide)
 obtain ⟨u, hu⟩ := some_of_lt hk1
 simp only [hu] at hr
 have b1 : (t.kind == 1) = true := by simpa using hs
 have b2 : (t.kind == 2) = false := by simp; omega
 have b3 : (t.kind == 3) = false := by simp; omega
 have hn : t.n = 0 := h.ok.zero k t ht (.inl hs)
 clear hs
 have S0 := SP.start h
 go_enter Tryz.func114, Tryz.ntmps114
 go_wp2_with fail
 obtain ⟨W1, rb, hW, hb1, S1⟩ := SP.box S0 (.cells #[.int .i64 0, .int .i64 0, .string ⟨#[]⟩, .slice none 0 0, .int .i64 0] 31)
 rw [<- hW, <- hb1]
 clear hW hb1 S0
 have HB := begins_ps S1.out.ps ht
 rw [hb] at HB
 refine HB.mono ?_
 rintro e W2 ⟨rfl, rfl⟩
 go_wp2_with fail
 refine (next_ps S1.out.ps ht hk1).mono ?_
 rintro e W2 ⟨rfl, hp, ht2⟩
 have S2 := SP.call S1 ht2 hp
 clear S1 hp ht2 HB
 rw [hn]
 clear hn
 go_wp2_with fail
 obtain ⟨W3, tb, hW3, hb3, S3⟩ := SP.box S2 (.cells #[.int .i64 t.kind, .int .i64 t.at_, .string t.s, .int .i64 0] 68)
 obtain ⟨W4, eb, hW4, hb4, S4⟩ := SP.box S3 (.cells #[.int .i64 3, .int .i64 0, .string t.s, .slice none 0 0, .int .i64 t.at_] 31)
 have e4 : eb = W2.heap.size + 1 := by rw [hb4, hW3]; simp
 have htb : tb < eb := by omega
 have hrb : rb < eb := by have := (SP.boxAt S2 0 rfl).2.2; omega
 rw [<- hW3, <- hW4, <- e4, <- hb3]
 clear hW3 hW4 hb3 hb4 e4 S2 S3
 refine (is_ps S4.out.ps hu _).mono ?_
 rintro e W5 ⟨rfl, rfl⟩
 have hz := (SP.boxAt S4 0 rfl).1
 have fq := free_of_box hz
 obtain ⟨x0, x1, x2, x3, x4⟩ := cellsFive hz
 by_cases hc : isS u ⟨#[40]⟩ = true
 ·rw [if_neg (by rw [hc]; decide)] at hr
  have hk2 := h.ok.sign hu hc
  obtain ⟨v, hv⟩ := some_of_lt hk2
  have hv2 : ts[k + 2]? = some v := hv
  simp only [hv2] at hr
  have heq : restA ts m t (([] : List (Ex × Value)).map (·.1)) (k + 2) d = some r := by
   simp only [restA, hv2, List.map_nil, if_true]
   exact hr
  clear hr
  have i0h := infoExpr
  obtain ⟨i0, hif, hz0, hz1, hz2⟩ := info_parts i0h
  clear i0h
  have hwd : IntKind.i64.wrap (d + 1) = d + 1 := IntWalk.i64_in _ (by omega)
  go_wp2_with fail
  have S5 := SP.put S4 0 rfl (one_turned _ _ 0 (.int .i64 4)) (five_set0 hz)
  obtain ⟨W5, hW5⟩ : ∃ W5, W5 = W4.setCell ⟨eb, 0, none⟩ (.int .i64 4) := ⟨_, rfl⟩
  rw [<- hW5] at S5 ⊢
  clear hW5 hz fq x0 x1 x2 x3 x4 S4
  refine (next_ps S5.out.ps hu hk2).mono ?_
  rintro e W6 ⟨rfl, hp, ht2⟩
  have S6 := SP.call S5 ht2 hp
  clear S5 hp ht2
  have hBe : B < eb := by have := SP.size S6; have := S6.out.ltB; have := (SP.boxAt S6 0 rfl).2.1; omega
  have hwe : w.heap.size <= eb := (SP.boxAt S6 0 rfl).2.1
  go_wp2_with fail
  go_loopw [44] (fun _ wr => ∃ (v : Value) (ps : List (Ex × Value)) (j m2 : Nat), Hid (AR B g cap ts f w nf d r t eb tb rb v ps j m2 wr)) (fun _ wr => lenOf ((wr.cell? ⟨B, 0, none⟩).getD undef) * 64 + (64 - lenOf ((wr.cell? ⟨eb, 3, none⟩).getD undef)))
  case atStart => exact ⟨_, [], k + 2, m, Lib.hid ⟨S6, Own.start (SP.boxAt S6 0 rfl).2.2, by simp, hm, heq⟩⟩
  case round =>
   clear S6 heq
   obtain ⟨v, ps, j, m2, HA⟩ := hrel
   have S7 := HA.out.sp
   have OV := HA.out.own
   have hlen := HA.out.len
   have heq := HA.out.eq
   have hm2 := HA.out.fuel
   clear HA
   obtain ⟨va, vc, rfl⟩ := owns_shape OV.out.own
   obtain ⟨u2, hu2⟩ := some_of_lt S7.out.ps.lt
   have hju := S7.out.ps.lt
   simp only [restA, hu2] at heq
   obtain ⟨x0, x1, x2, x3, x4⟩ := cellsFive (SP.boxAt S7 0 rfl).1
   have HM : Hid (lenOf ((wr.cell? ⟨B, 0, none⟩).getD undef) * 64 + (64 - lenOf ((wr.cell? ⟨eb, 3, none⟩).getD undef)) = (ts.length - j) * 64 + (64 - ps.length)) := by
    show _ = _
    rw [S7.out.ps.len, x3]; rfl
   go_wp2_with fail
   refine (is_ps S7.out.ps hu2 _).mono ?_
   rintro e W8 ⟨rfl, rfl⟩
   by_cases hc2 : isS u2 ⟨#[41]⟩ = true
   ·rw [if_pos hc2] at heq
    cases heq
    have hk3 := h.ok.sign hu2 hc2
    have S8 := SP.addK S7 (KidsAt.move (Own.kidsAt OV rfl) (Turned.refl (fun _ => False) _) (fun _ _ => id) (fun b hb _ => ⟨by omega, by simp; omega⟩))
    clear S7 OV x0 x1 x2 x3 x4
    go_wp2_with fail
    refine (next_ps S8.out.ps hu2 hk3).mono ?_
    rintro e W9 ⟨rfl, hp, ht2⟩
    have S9 := SP.call S8 ht2 hp
    clear S8 hp ht2
    obtain ⟨x0, x1, x2, x3, x4⟩ := cellsFive (SP.boxAt S9 0 rfl).1
    have hz := (SP.boxAt S9 2 rfl).1
    have fq := free_of_box hz
    obtain ⟨r0, r1, r2, r3, r4⟩ := cellsFive hz
    go_wp2_with fail
    have SZ := SP.put S9 2 rfl (five_turned _ _ (.int .i64 4) (.int .i64 0) (.string t.s) (.slice va ps.length vc) (.int .i64 t.at_)) (five_set hz)
    refine bodyPost_ret (results_ex rfl _ _ rb (.int .i64 4) (.int .i64 0) (.string t.s) (.slice va ps.length vc) (.int .i64 t.at_) rfl (five_set hz)) rfl ?_
    exact ⟨va, vc, by simp [Ex.op, Ex.n, Ex.s, Ex.kids, Ex.at_], by simpa [Ex.kids] using SP.kidAt SZ 0 rfl, SZ.out.ps, SZ.out.tur⟩
   ·have hc2 : isS u2 ⟨#[41]⟩ = false := by simpa using hc2
    rw [if_neg (by rw [hc2]; decide)] at heq
    by_cases hps : ps = []
    ·have hl0 : Hid (ps.length = 0) := Lib.hid (by rw [hps]; rfl)
     have hl1 : ((0 : Int) < (ps.length : Int)) = False := by have := hl0.out; simp only [eq_iff_iff, iff_false]; omega
     have hl2 : (0 < ps.length) = False := by have := hl0.out; simp only [eq_iff_iff, iff_false]; omega
     have hl3 : ((ps.length : Int) == 40) = false := by have := hl0.out; simp; omega
     rw [if_pos (by rw [hps]; rfl)] at heq
     have heq2 : runF ts m2 (.args t (ps.map (·.1))) j d = some r := by rw [hps]; exact heq
     clear heq hps
     obtain ⟨m3, rfl⟩ : ∃ m', m2 = m' + 1 := by
      cases m2 with
      | zero => simp [runF] at heq2
      | succ m' => exact ⟨m', rfl⟩
     unfold runF at heq2
     simp only [hu2] at heq2
     simp only [List.length_map] at heq2
     rw [if_neg (by have := hl0.out; omega)] at heq2
     go_wp2_with fail
     have ST := SP.same S7 (Turned.refl _ _).drew
     have OV := Own.move OV exMov (Turned.refl (fun _ => False) _).drew (fun _ h => h.elim)
     clear S7 x0 x1 x2 x3 x4
     obtain ⟨x0, x1, x2, x3, x4⟩ := cellsFive (SP.boxAt ST 0 rfl).1
     rcases PR.then_some heq2 with ⟨j3, c, h5, rfl⟩ | ⟨y, j3, h5, h6⟩
     ·clear heq2
      refine region_R (R := fun j V => j < 8 -> (fun V : World => V.cell? ⟨eb, 3, none⟩ = some (.slice va ps.length vc)) V) (by kernel_rfl) ?_
      refine tk (n := 8) 0 (.pointer (some ⟨eb, 3, none⟩)) rfl (.inl ⟨by rfl, ?_⟩) x3 ?_
      ·intro V v3
       go_simp
      simp only [zz0, zz1, Act.put, zz3, zz4, zz5]
      refine tk (n := 8) 1 (.slice va ps.length vc) rfl (.inl ⟨by rfl, ?_⟩) x3 ?_
      ·intro V v3
       go_simp
      simp only [zz0, zz1, zz2, Act.put, zz3, zz4, zz5]
      refine tk (n := 8) 2 (.pointer (some ⟨B, 0, none⟩)) rfl (.inl ⟨by rfl, ?_⟩) x3 ?_
      ·intro V v3
       go_simp
      simp only [zz0, zz1, zz2, Act.put, zz3, zz4, zz5]
      refine tk (n := 8) 3 (.int .i64 d) rfl (.inl ⟨by rfl, ?_⟩) x3 ?_
      ·intro V v3
       go_simp
      simp only [zz0, zz1, zz2, Act.put, zz3, zz4, zz5]
      refine tk (n := 8) 4 (.int .i64 (d + 1)) rfl (.inl ⟨by rfl, ?_⟩) x3 ?_
      ·intro V v3
       go_simp
      simp only [zz0, zz1, zz2, Act.put, zz3, zz4, zz5]
      refine wpAnyR_all (rs := [5]) (by kernel_rfl) (by simp) (fun i2 hi2 => ?_)
      obtain rfl : i2 = 5 := by simpa using hi2
      clear hi2
      refine wpOp_plain rfl rfl ?_
      simp only [zz0, zz1, zz2]
      go_simp
      refine (IH.expr m3 j (d + 1) _ _ nf (by omega) (by omega) (by omega) h5 ST.out.ps).mono ?_
      rintro e W9 ⟨rfl, ht2⟩
      exact ⟨rfl, rfl, ST.out.tur.trans ht2⟩
     ·clear heq2
      have hj3 : j <= j3 /\ j3 < ts.length := run_fits h.ok _ _ _ _ _ h5
      refine region_R (R := fun j V => j < 8 -> (fun V : World => V.cell? ⟨eb, 3, none⟩ = some (.slice va ps.length vc)) V) (by kernel_rfl) ?_
      refine tk (n := 8) 0 (.pointer (some ⟨eb, 3, none⟩)) rfl (.inl ⟨by rfl, ?_⟩) x3 ?_
      ·intro V v3
       go_simp
      simp only [zz0, zz1, Act.put, zz3, zz4, zz5]
      refine tk (n := 8) 1 (.slice va ps.length vc) rfl (.inl ⟨by rfl, ?_⟩) x3 ?_
      ·intro V v3
       go_simp
      simp only [zz0, zz1, zz2, Act.put, zz3, zz4, zz5]
      refine tk (n := 8) 2 (.pointer (some ⟨B, 0, none⟩)) rfl (.inl ⟨by rfl, ?_⟩) x3 ?_
      ·intro V v3
       go_simp
      simp only [zz0, zz1, zz2, Act.put, zz3, zz4, zz5]
      refine tk (n := 8) 3 (.int .i64 d) rfl (.inl ⟨by rfl, ?_⟩) x3 ?_
      ·intro V v3
       go_simp
      simp only [zz0, zz1, zz2, Act.put, zz3, zz4, zz5]
      refine tk (n := 8) 4 (.int .i64 (d + 1)) rfl (.inl ⟨by rfl, ?_⟩) x3 ?_
      ·intro V v3
       go_simp
      simp only [zz0, zz1, zz2, Act.put, zz3, zz4, zz5]
      refine wpAnyR_all (rs := [5]) (by kernel_rfl) (by simp) (fun i2 hi2 => ?_)
      obtain rfl : i2 = 5 := by simpa using hi2
      clear hi2
      refine wpOp_plain rfl rfl ?_
      simp only [zz0, zz1, zz2]
      go_simp
      refine (IH.expr m3 j (d + 1) _ _ nf (by omega) (by omega) (by omega) h5 ST.out.ps).mono ?_
      rintro e W9 ⟨py, cy, rfl, hk, hp, ht2⟩
      have SU := SP.call ST ht2 hp
      have HY : Hid (exAt W9 (fun b => eb + 1 <= b /\ ∀ g, (Value.slice va ps.length vc).ownBlock = some g -> b ≠ g) (y, .slice py y.kids.length cy)) := Lib.hid (Own.fresh OV exMov (p := (y, .slice py y.kids.length cy)) hk)
      have OW := Own.move OV exMov ht2 (by omega)
      clear hk hp ht2 x3
      have hz := (SP.boxAt SU 0 rfl).1
      obtain ⟨x0, x1, x2, x3, x4⟩ := cellsFive hz
      refine ⟨x3, ?_⟩
      refine wpAnyR_all (rs := [6]) (by kernel_rfl) (by simp) (fun i2 hi2 => ?_)
      obtain rfl : i2 = 6 := by simpa using hi2
      clear hi2
      refine wpOp_plain rfl rfl ?_
      simp only [zz0, zz1, zz2]
      go_simp
      obtain ⟨Wk, kb, hW, hb, SV⟩ := SP.box SU (.cells #[.int .i64 y.op, .int .i64 y.n, .string y.s, .slice py y.kids.length cy, .int .i64 y.at_] 31)
      have SW := SP.forget SV
      have htA : Turned (fun _ => False) W9 Wk := by rw [hW]; exact (Turned.refl _ _).alloc _
      have OX := Own.move OW exMov htA (fun _ h => h.elim)
      have HZ : Hid (exAt Wk (fun b => eb + 1 <= b /\ ∀ g, (Value.slice va ps.length vc).ownBlock = some g -> b ≠ g) (y, .slice py y.kids.length cy)) := Lib.hid (exMov _ _ _ _ _ _ HY.out htA (fun _ _ => id) (fun _ hb _ => hb))
      have hcell : ∀ j u, [(.int .i64 y.op), .int .i64 y.n, .string y.s, .slice py y.kids.length cy, .int .i64 y.at_][j]? = some u -> Wk.cell? ((⟨kb, 0, none⟩ : Addr).add j) = some u := by rw [hW, hb]; exact cells_list W9 [(.int .i64 y.op), .int .i64 y.n, .string y.s, .slice py y.kids.length cy, .int .i64 y.at_] 31
      rw [<- hW, <- hb]
      clear hW hb htA HY SU SV OW x0 x1 x2 x3 x4 hz
      have hz := (SP.boxAt SW 0 rfl).1
      obtain ⟨x0, x1, x2, x3, x4⟩ := cellsFive hz
      refine ⟨x3, ?_⟩
      refine wpAnyR_all (rs := [7]) (by kernel_rfl) (by simp) (fun i2 hi2 => ?_)
      obtain rfl : i2 = 7 := by simpa using hi2
      clear hi2
      refine wpOp_append_exact _ rfl rfl _ _ 29 rfl (eb + 1) 31 i0 (.agg #[.int .i64 0, .int .i64 0, .string ⟨#[]⟩, .slice none 0 0, .int .i64 0]) 5 64 Tryz.underlying29 hif hz0 hz1 hz2 rfl (by decide) (.slice va ps.length vc) ps.length (ps.flatMap exEnc) rfl OX.out.own ⟨kb, 0, none⟩ 1 1 [(.int .i64 y.op), .int .i64 y.n, .string y.s, .slice py y.kids.length cy, .int .i64 y.at_] rfl rfl hcell (by simp [Value.oneCell']) (by have := hlen; unfold maxLen; omega) (by have := hlen; omega) (by have := (SP.boxAt SW 0 rfl).2.2; omega) ?_
      intro v' w4 hown' hgrow hex
      obtain ⟨ga, cap', rfl⟩ := ownsRow_succ hown'
      have htG := Own.turned_grown (B := 0) OX hgrow
      have SG := SP.turn SW htG.1 (fun b hb => ⟨by have := htG.2.1 b hb; omega, by have := htG.2.1 b hb; simp; omega⟩)
      have OG := Own.grown OX exMov HZ.out hgrow hown' hex
      clear hown' hgrow hex htG HZ OX SW hcell x0 x1 x2 x3 x4 hz
      have hz := (SP.boxAt SG 0 rfl).1
      have fq := free_of_box hz
      obtain ⟨x0, x1, x2, x3, x4⟩ := cellsFive hz
      refine ⟨fun _ => x3, ?_⟩
      simp only [zz0, zz1, zz2, Act.put, zz3, zz4, zz5]
      refine wpAnyR_all (rs := [8]) (by kernel_rfl) (by simp) (fun i2 hi2 => ?_)
      obtain rfl : i2 = 8 := by simpa using hi2
      clear hi2
      refine wpOp_plain rfl rfl ?_
      simp only [zz0, zz1, zz2]
      go_simp
      refine wpAnyR_all (rs := [9]) (by kernel_rfl) (by simp) (fun i2 hi2 => ?_)
      obtain rfl : i2 = 9 := by simpa using hi2
      clear hi2
      refine wpOp_plain rfl rfl ?_
      simp only [zz0, zz1, zz2]
      go_simp
      refine wpAnyR_done (by kernel_rfl) ?_ _
      obtain ⟨u9, hu9⟩ := some_of_lt hj3.2
      simp only [hu9] at h6
      have hre : restA ts m3 t ((ps ++ [(y, Value.slice py y.kids.length cy)]).map (·.1)) j3 d = some r := by simpa [restA, hu9] using h6
      clear h6 hu9 u9
      have SX := SP.put SG 0 rfl (one_turned w4 eb 3 (.slice (some ⟨ga, 0, none⟩) (ps.length + 1) cap')) (five_set3 hz)
      have OZ := Own.move OG exMov (one_turned w4 eb 3 (.slice (some ⟨ga, 0, none⟩) (ps.length + 1) cap')) (fun b hb => by omega)
      have hlen2 : (ps ++ [(y, Value.slice py y.kids.length cy)]).length = ps.length + 1 := by simp
      try go_wp2_with fail
      go_roundw
      case rel => exact ⟨_, ps ++ [(y, .slice py y.kids.length cy)], j3, m3, Lib.hid ⟨SX, (by rw [hlen2]; exact OZ), (by first | omega | (have := hl0.out; omega)), by omega, hre⟩⟩
      case measure =>
       rw [HM.out, SX.out.ps.len, (cellsFive (SP.boxAt SX 0 rfl).1).2.2.2.1]
       show (ts.length - j3) * 64 + (64 - (ps.length + 1)) < _
       omega
    ·have hl0 : ps.length ≠ 0 := fun h => hps (List.length_eq_zero_iff.1 h)
     have hl1 : decide ((0 : Int) < (ps.length : Int)) = true := by simp; omega
     have hl2 : (0 : Int) < (ps.length : Int) := by omega
     rw [if_neg (by simpa using hps)] at heq
     go_wp2_with fail
     by_cases hcm : isS u2 ⟨#[44]⟩ = true
     ·rw [if_pos hcm] at heq
      have hk3 := h.ok.sign hu2 hcm
      refine (need_ps S7.out.ps hu2 _ hcm).mono ?_
      rintro e W8 ⟨rfl, hp, ht2⟩
      have S8 := SP.call S7 ht2 hp
      have OW := Own.move OV exMov ht2 (by omega)
      clear S7 OV hp ht2 x0 x1 x2 x3 x4
      obtain ⟨x0, x1, x2, x3, x4⟩ := cellsFive (SP.boxAt S8 0 rfl).1
      obtain ⟨m3, rfl⟩ : ∃ m', m2 = m' + 1 := by
       cases m2 with
       | zero => simp [runF] at heq
       | succ m' => exact ⟨m', rfl⟩
      unfold runF at heq
      obtain ⟨u3, hu3⟩ := some_of_lt S8.out.ps.lt
      simp only [hu3] at heq
      simp only [List.length_map] at heq
      by_cases h40 : ps.length = 40
      ·rw [if_pos h40] at heq
       cases heq
       have h4i : (ps.length : Int) = 40 := by omega
       have h4b : ((ps.length : Int) == 40) = true := by simpa using h4i
       clear h4i
       go_wp2_with fail
       refine (deep_ps S8.out.ps hu3 _ _).mono ?_
       rintro e W9 ⟨hD, rfl⟩
       cases hfp : firstP u3 0 true with
       | some c =>
        rw [hfp] at hD
        obtain rfl : e = .panicked [stopE ts (j + 1) c] := hD
        exact ⟨rfl, by rw [hfp]; rfl, S8.out.tur⟩
       | none =>
        rw [hfp] at hD
        obtain rfl : e = .returned (.tuple #[]) := hD
        go_wp2_with fail
        refine (fail_ps S8.out.ps 2).mono ?_
        rintro e W9 ⟨rfl, rfl⟩
        exact ⟨rfl, by rw [hfp]; rfl, S8.out.tur⟩
      have hl3 : ((ps.length : Int) == 40) = false := by simp; omega
      rw [if_neg (by omega)] at heq
      go_wp2_with fail
      have ST := SP.same S8 (Turned.refl _ _).drew
      have OV := Own.move OW exMov (Turned.refl (fun _ => False) _).drew (fun _ h => h.elim)
      clear S8 OW x0 x1 x2 x3 x4
      obtain ⟨x0, x1, x2, x3, x4⟩ := cellsFive (SP.boxAt ST 0 rfl).1
      rcases PR.then_some heq with ⟨j3, c, h5, rfl⟩ | ⟨y, j3, h5, h6⟩
      ·clear heq
       refine region_R (R := fun j V => j < 8 -> (fun V : World => V.cell? ⟨eb, 3, none⟩ = some (.slice va ps.length vc)) V) (by kernel_rfl) ?_
       refine tk (n := 8) 0 (.pointer (some ⟨eb, 3, none⟩)) rfl (.inl ⟨by rfl, ?_⟩) x3 ?_
       ·intro V v3
        go_simp
       simp only [zz0, zz1, Act.put, zz3, zz4, zz5]
       refine tk (n := 8) 1 (.slice va ps.length vc) rfl (.inl ⟨by rfl, ?_⟩) x3 ?_
       ·intro V v3
        go_simp
       simp only [zz0, zz1, zz2, Act.put, zz3, zz4, zz5]
       refine tk (n := 8) 2 (.pointer (some ⟨B, 0, none⟩)) rfl (.inl ⟨by rfl, ?_⟩) x3 ?_
       ·intro V v3
        go_simp
       simp only [zz0, zz1, zz2, Act.put, zz3, zz4, zz5]
       refine tk (n := 8) 3 (.int .i64 d) rfl (.inl ⟨by rfl, ?_⟩) x3 ?_
       ·intro V v3
        go_simp
       simp only [zz0, zz1, zz2, Act.put, zz3, zz4, zz5]
       refine tk (n := 8) 4 (.int .i64 (d + 1)) rfl (.inl ⟨by rfl, ?_⟩) x3 ?_
       ·intro V v3
        go_simp
       simp only [zz0, zz1, zz2, Act.put, zz3, zz4, zz5]
       refine wpAnyR_all (rs := [5]) (by kernel_rfl) (by simp) (fun i2 hi2 => ?_)
       obtain rfl : i2 = 5 := by simpa using hi2
       clear hi2
       refine wpOp_plain rfl rfl ?_
       simp only [zz0, zz1, zz2]
       go_simp
       refine (IH.expr m3 (j + 1) (d + 1) _ _ nf (by omega) (by omega) (by omega) h5 ST.out.ps).mono ?_
       rintro e W9 ⟨rfl, ht2⟩
       exact ⟨rfl, rfl, ST.out.tur.trans ht2⟩
      ·clear heq
       have hj3 : (j + 1) <= j3 /\ j3 < ts.length := run_fits h.ok _ _ _ _ _ h5
       refine region_R (R := fun j V => j < 8 -> (fun V : World => V.cell? ⟨eb, 3, none⟩ = some (.slice va ps.length vc)) V) (by kernel_rfl) ?_
       refine tk (n := 8) 0 (.pointer (some ⟨eb, 3, none⟩)) rfl (.inl ⟨by rfl, ?_⟩) x3 ?_
       ·intro V v3
        go_simp
       simp only [zz0, zz1, Act.put, zz3, zz4, zz5]
       refine tk (n := 8) 1 (.slice va ps.length vc) rfl (.inl ⟨by rfl, ?_⟩) x3 ?_
       ·intro V v3
        go_simp
       simp only [zz0, zz1, zz2, Act.put, zz3, zz4, zz5]
       refine tk (n := 8) 2 (.pointer (some ⟨B, 0, none⟩)) rfl (.inl ⟨by rfl, ?_⟩) x3 ?_
       ·intro V v3
        go_simp
       simp only [zz0, zz1, zz2, Act.put, zz3, zz4, zz5]
       refine tk (n := 8) 3 (.int .i64 d) rfl (.inl ⟨by rfl, ?_⟩) x3 ?_
       ·intro V v3
        go_simp
       simp only [zz0, zz1, zz2, Act.put, zz3, zz4, zz5]
       refine tk (n := 8) 4 (.int .i64 (d + 1)) rfl (.inl ⟨by rfl, ?_⟩) x3 ?_
       ·intro V v3
        go_simp
       simp only [zz0, zz1, zz2, Act.put, zz3, zz4, zz5]
       refine wpAnyR_all (rs := [5]) (by kernel_rfl) (by simp) (fun i2 hi2 => ?_)
       obtain rfl : i2 = 5 := by simpa using hi2
       clear hi2
       refine wpOp_plain rfl rfl ?_
       simp only [zz0, zz1, zz2]
       go_simp
       refine (IH.expr m3 (j + 1) (d + 1) _ _ nf (by omega) (by omega) (by omega) h5 ST.out.ps).mono ?_
       rintro e W9 ⟨py, cy, rfl, hk, hp, ht2⟩
       have SU := SP.call ST ht2 hp
       have HY : Hid (exAt W9 (fun b => eb + 1 <= b /\ ∀ g, (Value.slice va ps.length vc).ownBlock = some g -> b ≠ g) (y, .slice py y.kids.length cy)) := Lib.hid (Own.fresh OV exMov (p := (y, .slice py y.kids.length cy)) hk)
       have OW := Own.move OV exMov ht2 (by omega)
       clear hk hp ht2 x3
       have hz := (SP.boxAt SU 0 rfl).1
       obtain ⟨x0, x1, x2, x3, x4⟩ := cellsFive hz
       refine ⟨x3, ?_⟩
       refine wpAnyR_all (rs := [6]) (by kernel_rfl) (by simp) (fun i2 hi2 => ?_)
       obtain rfl : i2 = 6 := by simpa using hi2
       clear hi2
       refine wpOp_plain rfl rfl ?_
       simp only [zz0, zz1, zz2]
       go_simp
       obtain ⟨Wk, kb, hW, hb, SV⟩ := SP.box SU (.cells #[.int .i64 y.op, .int .i64 y.n, .string y.s, .slice py y.kids.length cy, .int .i64 y.at_] 31)
       have SW := SP.forget SV
       have htA : Turned (fun _ => False) W9 Wk := by rw [hW]; exact (Turned.refl _ _).alloc _
       have OX := Own.move OW exMov htA (fun _ h => h.elim)
       have HZ : Hid (exAt Wk (fun b => eb + 1 <= b /\ ∀ g, (Value.slice va ps.length vc).ownBlock = some g -> b ≠ g) (y, .slice py y.kids.length cy)) := Lib.hid (exMov _ _ _ _ _ _ HY.out htA (fun _ _ => id) (fun _ hb _ => hb))
       have hcell : ∀ j u, [(.int .i64 y.op), .int .i64 y.n, .string y.s, .slice py y.kids.length cy, .int .i64 y.at_][j]? = some u -> Wk.cell? ((⟨kb, 0, none⟩ : Addr).add j) = some u := by rw [hW, hb]; exact cells_list W9 [(.int .i64 y.op), .int .i64 y.n, .string y.s, .slice py y.kids.length cy, .int .i64 y.at_] 31
       rw [<- hW, <- hb]
       clear hW hb htA HY SU SV OW x0 x1 x2 x3 x4 hz
       have hz := (SP.boxAt SW 0 rfl).1
       obtain ⟨x0, x1, x2, x3, x4⟩ := cellsFive hz
       refine ⟨x3, ?_⟩
       refine wpAnyR_all (rs := [7]) (by kernel_rfl) (by simp) (fun i2 hi2 => ?_)
       obtain rfl : i2 = 7 := by simpa using hi2
       clear hi2
       refine wpOp_append_exact _ rfl rfl _ _ 29 rfl (eb + 1) 31 i0 (.agg #[.int .i64 0, .int .i64 0, .string ⟨#[]⟩, .slice none 0 0, .int .i64 0]) 5 64 Tryz.underlying29 hif hz0 hz1 hz2 rfl (by decide) (.slice va ps.length vc) ps.length (ps.flatMap exEnc) rfl OX.out.own ⟨kb, 0, none⟩ 1 1 [(.int .i64 y.op), .int .i64 y.n, .string y.s, .slice py y.kids.length cy, .int .i64 y.at_] rfl rfl hcell (by simp [Value.oneCell']) (by have := hlen; unfold maxLen; omega) (by have := hlen; omega) (by have := (SP.boxAt SW 0 rfl).2.2; omega) ?_
       intro v' w4 hown' hgrow hex
       obtain ⟨ga, cap', rfl⟩ := ownsRow_succ hown'
       have htG := Own.turned_grown (B := 0) OX hgrow
       have SG := SP.turn SW htG.1 (fun b hb => ⟨by have := htG.2.1 b hb; omega, by have := htG.2.1 b hb; simp; omega⟩)
       have OG := Own.grown OX exMov HZ.out hgrow hown' hex
       clear hown' hgrow hex htG HZ OX SW hcell x0 x1 x2 x3 x4 hz
       have hz := (SP.boxAt SG 0 rfl).1
       have fq := free_of_box hz
       obtain ⟨x0, x1, x2, x3, x4⟩ := cellsFive hz
       refine ⟨fun _ => x3, ?_⟩
       simp only [zz0, zz1, zz2, Act.put, zz3, zz4, zz5]
       refine wpAnyR_all (rs := [8]) (by kernel_rfl) (by simp) (fun i2 hi2 => ?_)
       obtain rfl : i2 = 8 := by simpa using hi2
       clear hi2
       refine wpOp_plain rfl rfl ?_
       simp only [zz0, zz1, zz2]
       go_simp
       refine wpAnyR_all (rs := [9]) (by kernel_rfl) (by simp) (fun i2 hi2 => ?_)
       obtain rfl : i2 = 9 := by simpa using hi2
       clear hi2
       refine wpOp_plain rfl rfl ?_
       simp only [zz0, zz1, zz2]
       go_simp
       refine wpAnyR_done (by kernel_rfl) ?_ _
       obtain ⟨u9, hu9⟩ := some_of_lt hj3.2
       simp only [hu9] at h6
       have hre : restA ts m3 t ((ps ++ [(y, Value.slice py y.kids.length cy)]).map (·.1)) j3 d = some r := by simpa [restA, hu9] using h6
       clear h6 hu9 u9
       have SX := SP.put SG 0 rfl (one_turned w4 eb 3 (.slice (some ⟨ga, 0, none⟩) (ps.length + 1) cap')) (five_set3 hz)
       have OZ := Own.move OG exMov (one_turned w4 eb 3 (.slice (some ⟨ga, 0, none⟩) (ps.length + 1) cap')) (fun b hb => by omega)
       have hlen2 : (ps ++ [(y, Value.slice py y.kids.length cy)]).length = ps.length + 1 := by simp
       try go_wp2_with fail
       go_roundw
       case rel => exact ⟨_, ps ++ [(y, .slice py y.kids.length cy)], j3, m3, Lib.hid ⟨SX, (by rw [hlen2]; exact OZ), (by first | omega | (have := hl0.out; omega)), by omega, hre⟩⟩
       case measure =>
        rw [HM.out, SX.out.ps.len, (cellsFive (SP.boxAt SX 0 rfl).1).2.2.2.1]
        show (ts.length - j3) * 64 + (64 - (ps.length + 1)) < _
        omega
     ·have hcm : isS u2 ⟨#[44]⟩ = false := by simpa using hcm
      rw [if_neg (by rw [hcm]; decide)] at heq
      cases heq
      refine (need_no S7.out.ps hu2 _ hcm).mono ?_
      rintro e W8 ⟨rfl, rfl⟩
      exact ⟨rfl, rfl, S7.out.tur⟩
 ·have hc : isS u ⟨#[40]⟩ = false := by simpa using hc
  rw [if_pos (by rw [hc]; rfl)] at hr
  cases hr
  have hzr := (SP.boxAt S4 2 rfl).1
  have fqr := free_of_box hzr
  obtain ⟨r0, r1, r2, r3, r4⟩ := cellsFive hzr
  go_wp2_with fail
  have S5 := SP.put S4 2 rfl (five_turned W4 rb (.int .i64 3) (.int .i64 0) (.string t.s) (.slice none 0 0) (.int .i64 t.at_)) (five_set hzr)
  refine bodyPost_ret (results_ex rfl _ _ rb (.int .i64 3) (.int .i64 0) (.string t.s) (.slice none 0 0) (.int .i64 t.at_) rfl (five_set hzr)) rfl ?_
  exact ⟨none, 0, rfl, .nil _ _, S5.out.ps, S5.out.tur⟩
theorem atom_step {B g cap : Nat} {ts : List Tok} {f : Nat} (IH : Hyp B g cap ts f) (m : Nat) (k : Nat) (d : Int) (r : PR Ex) (w : World) (nf : Int) (hm : m <= f) (hd0 : 0 <= d) (hd : d <= 30) (hn : ∀ t, ts[k]? = some t -> isS t ⟨#[45]⟩ = false) (hr : runF ts m .atom k d = some r) (h : PS B g cap ts w k nf) :
  Calls Tryz.prog 114 #[.pointer (some ⟨B, 0, none⟩), .int .i64 d] w (XR B g cap ts nf w r) := by
 obtain ⟨t, ht⟩ := some_of_lt h.lt
 obtain ⟨m, rfl⟩ : ∃ m', m = m' + 1 := by
  cases m with
  | zero => simp [runF] at hr
  | succ m' => exact ⟨m', rfl⟩
 unfold runF at hr
 simp only [ht] at hr
 have hneg := hn t ht
 by_cases hs : isS t ⟨#[40]⟩ = true
 ·rw [if_pos hs] at hr
  exact atom_paren IH m k d r w nf (by omega) hd0 hd h t ht hs hr
 ·rw [if_neg hs] at hr
  by_cases h2 : t.kind = 2
  ·rw [if_pos h2] at hr
   have := atom_leaf (B := B) (g := g) (cap := cap) k d w nf h t ht (.inl h2)
   rw [if_pos h2] at this
   cases hr
   exact this
  ·rw [if_neg h2] at hr
   by_cases h3 : t.kind = 3
   ·rw [if_pos h3] at hr
    have := atom_leaf (B := B) (g := g) (cap := cap) k d w nf h t ht (.inr h3)
    rw [if_neg h2] at this
    cases hr
    exact this
   ·rw [if_neg h3] at hr
    by_cases h1 : t.kind = 1
    ·rw [if_pos h1] at hr
     exact atom_name IH m k d r w nf (by omega) hd0 hd h t ht h1 hr
    ·rw [if_neg h1] at hr
     cases hr
     refine atom_bad k d w nf h t ht ?_
     have hs : isS t ⟨#[40]⟩ = false := by simpa using hs
     unfold beginsT
     rw [hs, hneg]
     simp [h1, h2, h3]
theorem exReaders (B g cap : Nat) (ts : List Tok) : ∀ f, Hyp B g cap ts f
 | 0 => ⟨fun m _ _ _ _ _ hm => absurd hm (Nat.not_lt_zero m), fun m _ _ _ _ _ _ _ hm => absurd hm (Nat.not_lt_zero m), fun m _ _ _ _ _ hm => absurd hm (Nat.not_lt_zero m), fun m _ _ _ _ _ hm => absurd hm (Nat.not_lt_zero m)⟩
 | f + 1 => ⟨fun m k d r w nf hm hd0 hd hr h => expr_step (exReaders B g cap ts f) m k d r w nf (Nat.le_of_lt_succ hm) hd0 hd hr h,
   fun m n z k d r w nf hm hz h1 h7 hd0 hd hr h => level_step (exReaders B g cap ts f) m n z k d r w nf (Nat.le_of_lt_succ hm) hz h1 h7 hd0 hd hr h,
   fun m k d r w nf hm hd0 hd hr h => neg_step (exReaders B g cap ts f) m k d r w nf (Nat.le_of_lt_succ hm) hd0 hd hr h,
   fun m k d r w nf hm hd0 hd hn hr h => atom_step (exReaders B g cap ts f) m k d r w nf (Nat.le_of_lt_succ hm) hd0 hd hn hr h⟩
theorem expr_ps {B g cap : Nat} {ts : List Tok} (m k : Nat) (d : Int) (r : PR Ex) (w : World) (nf : Int) (hd0 : 0 <= d) (hd : d <= 31) (hr : runF ts m .expr k d = some r) (h : PS B g cap ts w k nf) : Calls Tryz.prog 31 #[.pointer (some ⟨B, 0, none⟩), .int .i64 d] w (XR B g cap ts nf w r) :=
 (exReaders B g cap ts (m + 1)).expr m k d r w nf (Nat.lt_succ_self m) hd0 hd hr h
end Go.Proofs.YtjijdgkccfeeaaaGreatDoor
