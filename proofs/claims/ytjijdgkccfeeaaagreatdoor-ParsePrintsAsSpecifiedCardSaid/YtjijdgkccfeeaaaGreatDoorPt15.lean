/- Part 15 of the proof of card: ParWalkH. Conditions: those of each theorem. -/
import Derived.Test.YtjijdgkccfeeaaaGreatDoorPt01
import Derived.Test.YtjijdgkccfeeaaaGreatDoorPt14
set_option maxRecDepth 20000
set_option maxHeartbeats 16000000
namespace Go.Proofs.YtjijdgkccfeeaaaGreatDoor
open Go Go.Proofs Go.RowKit
attribute [local go_sem] Oper.semAt_some
def FX (B g cap : Nat) (ts : List Tok) (w : World) (r : PR (Fm × Nat)) (e : Ending) (w' : World) : Prop :=
 match r with
 | .ok x j => ∃ pa ca pb cb, e = .returned (.agg #[.string x.1.word, .slice pa x.1.args.length ca, .slice pb x.1.body.length cb, .int .i64 x.1.at_]) /\ ArgsAt w' (fun b => w.heap.size <= b) x.1.args (.slice pa x.1.args.length ca) /\ FormsAt w' (fun b => w.heap.size <= b) x.1.body (.slice pb x.1.body.length cb) /\ PS B g cap ts w' j (x.2 : Nat) /\ Turned (fun b => b = B) w w'
 | .err j c => e = .panicked [stopE ts j c] /\ Turned (fun b => b = B) w w'
def HypF (B g cap : Nat) (ts : List Tok) (f : Nat) : Prop := ∀ (m k : Nat) (d : Int) (n : Nat) (r : PR (Fm × Nat)) (w : World), m < f -> 0 <= d -> d <= 31 -> n <= 2000 -> formF ts m .form k d n = some r -> PS B g cap ts w k (n : Nat) -> Calls Tryz.prog 29 #[.pointer (some ⟨B, 0, none⟩), .int .i64 d] w (FX B g cap ts w r)
theorem cellsFour {V : World} {N t : Nat} {a b c d : Value} (h : V.heap[N]? = some (.cells #[a, b, c, d] t (0, 0))) : V.cell? ⟨N, 0, none⟩ = some a /\ V.cell? ⟨N, 1, none⟩ = some b /\ V.cell? ⟨N, 2, none⟩ = some c /\ V.cell? ⟨N, 3, none⟩ = some d := by
 simp [World.cell?, h]
theorem four_set {V : World} {N t : Nat} {a b c d x y z u : Value} (h : V.heap[N]? = some (.cells #[a, b, c, d] t (0, 0))) : ((((V.setCell ⟨N, 0, none⟩ x).setCell ⟨N, 1, none⟩ y).setCell ⟨N, 2, none⟩ z).setCell ⟨N, 3, none⟩ u).heap[N]? = some (.cells #[x, y, z, u] t (0, 0)) := by
 simp [World.setCell, Array.getElem?_modify, h]
theorem four_turned (V : World) (N : Nat) (x y z u : Value) : Turned (fun c => c = N) V ((((V.setCell ⟨N, 0, none⟩ x).setCell ⟨N, 1, none⟩ y).setCell ⟨N, 2, none⟩ z).setCell ⟨N, 3, none⟩ u) :=
 ((((Turned.refl (fun c => c = N) V).setCell (p := ⟨N, 0, none⟩) rfl x).setCell (p := ⟨N, 1, none⟩) rfl y).setCell (p := ⟨N, 2, none⟩) rfl z).setCell (p := ⟨N, 3, none⟩) rfl u
theorem four_set1 {V : World} {N t : Nat} {a b c d x : Value} (h : V.heap[N]? = some (.cells #[a, b, c, d] t (0, 0))) : (V.setCell ⟨N, 1, none⟩ x).heap[N]? = some (.cells #[a, x, c, d] t (0, 0)) := by
 simp [World.setCell, Array.getElem?_modify, h]
theorem four_set2 {V : World} {N t : Nat} {a b c d x : Value} (h : V.heap[N]? = some (.cells #[a, b, c, d] t (0, 0))) : (V.setCell ⟨N, 2, none⟩ x).heap[N]? = some (.cells #[a, b, x, d] t (0, 0)) := by
 simp [World.setCell, Array.getElem?_modify, h]
theorem form_size : (Tryz.prog.info? 45).map (·.size) = some 4 := by kernel_rfl
theorem results_fm {fn : Func} {i : Nat} (hf : fn.results = #[ResultVar.cell i 45]) (tmps : Array Value) (w : World) (N : Nat) (a b c d : Value) (hp : tmps.getD i undef = .pointer (some ⟨N, 0, none⟩)) (hg : w.heap[N]? = some (.cells #[a, b, c, d] 45 (0, 0))) :
  (results fn tmps).run Tryz.prog w = .ok (.agg #[a, b, c, d]) w := by
 have hp' : tmps[i]?.getD undef = .pointer (some ⟨N, 0, none⟩) := by simpa using hp
 simp [results, hf, hp', asAddr, run_loadVar_row w N 45 45 #[a, b, c, d] (0, 0) _ hg Tryz.underlying45 rfl form_size]
theorem SP.forms {B g cap : Nat} {ts : List Tok} {w W : World} {L : List (Nat × Obj)} {K : List (List Ex × Value)} {k : Nat} {nf : Int} (h : Hid (SP B g cap ts w W L K k nf)) (mf : Int) : Hid (SP B g cap ts w (W.setCell ⟨B, 1, none⟩ (.int .i64 mf)) L K k mf) := by
 have ht : Turned (fun b => b = B) W (W.setCell ⟨B, 1, none⟩ (.int .i64 mf)) := one_turned W B 1 (.int .i64 mf)
 refine SP.call h ht (h.out.ps.moved ht h.out.ps.ne h.out.ps.lt ?_)
 have := h.out.ps.box
 simp [World.setCell, Array.getElem?_modify, this]
structure FA (B g cap : Nat) (ts : List Tok) (f : Nat) (w : World) (n : Nat) (d : Int) (r : PR (Fm × Nat)) (t : Tok) (fb tb rb : Nat) (v : Value) (ps : List (Ar × Value)) (j m : Nat) (wr : World) : Prop where
 sp : Hid (SP B g cap ts w wr [(fb, .cells #[.string t.s, v, .slice none 0 0, .int .i64 t.at_] 45), (tb, .cells #[.int .i64 t.kind, .int .i64 t.at_, .string t.s, .int .i64 t.n] 68), (rb, .cells #[.string ⟨#[]⟩, .slice none 0 0, .slice none 0 0, .int .i64 0] 45)] [] j (n : Nat))
 own : Hid (Own wr (fb + 1) 48 9 arEnc arAt v ps.length ps)
 len : ps.length <= 40
 fuel : m < f
 eq : formF ts m (.args t (ps.map (·.1))) j d n = some r
structure FB (B g cap : Nat) (ts : List Tok) (f : Nat) (w : World) (d : Int) (r : PR (Fm × Nat)) (t : Tok) (xs : List Ar) (av : Value) (lo fb tb rb : Nat) (v : Value) (ps : List (Fm × Value × Value)) (j m n : Nat) (wr : World) : Prop where
 sp : Hid (SP B g cap ts w wr [(fb, .cells #[.string t.s, av, v, .int .i64 t.at_] 45), (tb, .cells #[.int .i64 t.kind, .int .i64 t.at_, .string t.s, .int .i64 t.n] 68), (rb, .cells #[.string ⟨#[]⟩, .slice none 0 0, .slice none 0 0, .int .i64 0] 45)] [] j (n : Nat))
 args : Hid (ArgsAt wr (fun b => fb < b /\ b < lo) xs av)
 own : Hid (Own wr lo 45 4 fmEnc fmAt v ps.length ps)
 len : ps.length <= n
 cnt : n <= 2000
 fuel : m < f
 eq : formF ts m (.body t xs (ps.map (·.1))) j d n = some r
theorem Own.argsAt {W : World} {lo n : Nat} {v : Value} {ps : List (Ar × Value)} (h : Hid (Own W lo 48 9 arEnc arAt v n ps)) (hn : n = ps.length) : ArgsAt W (fun b => lo <= b) (ps.map (·.1)) v :=
 args_of_owns h.out.own hn (fun g hg => (ownsRow_block h.out.own g hg).1) fun p hp => KidsAt.move (h.out.kids p hp) (Turned.refl (fun _ => False) _) (fun _ _ => id) (fun _ hb _ => hb.1)
theorem Own.formsAt {W : World} {lo n : Nat} {v : Value} {ps : List (Fm × Value × Value)} (h : Hid (Own W lo 45 4 fmEnc fmAt v n ps)) (hn : n = ps.length) : FormsAt W (fun b => lo <= b) (ps.map (·.1)) v :=
 forms_of_owns h.out.own hn (fun g hg => (ownsRow_block h.out.own g hg).1) (fun p hp => ArgsAt.move (h.out.kids p hp).1 (Turned.refl (fun _ => False) _) (fun _ _ => id) (fun _ hb _ => hb.1)) fun p hp => FormsAt.move (h.out.kids p hp).2 (Turned.refl (fun _ => False) _) (fun _ _ => id) (fun _ hb _ => hb.1)
theorem form_bad {B g cap : Nat} {ts : List Tok} (k : Nat) (d : Int) (n : Nat) (w : World) (h : PS B g cap ts w k (n : Nat)) (t : Tok) (ht : ts[k]? = some t) (hk : ¬ t.kind = 1) :
  Calls Tryz.prog 29 #[.pointer (some ⟨B, 0, none⟩), .int .i64 d] w (FX B g cap ts w (.err k 5)) := by
 have bk : (t.kind == 1) = false := by simpa using hk
 have bk2 : (t.kind != 1) = true := by simpa using hk
 have S0 := SP.start h
 obtain ⟨W1, rb, hW, hb1, S1⟩ := SP.box S0 (.cells #[.string ⟨#[]⟩, .slice none 0 0, .slice none 0 0, .int .i64 0] 45)
 obtain ⟨c0, c1⟩ := S0.out.ps.cells
 obtain ⟨t0, t1, t2, t3⟩ := S0.out.ps.tok ht
 have hg := h.ltg
 have hB := h.ltB
 obtain ⟨l, hl⟩ : ∃ l, ts.length - k = l + 1 := ⟨ts.length - k - 1, by have := h.lt; omega⟩
 rw [hl] at c0
 clear hl
 go_enter Tryz.func29, Tryz.ntmps29
 go_wp2_with fail
 rw [<- hW]
 refine (fail_ps S1.out.ps 5).mono ?_
 rintro e W2 ⟨rfl, rfl⟩
 exact ⟨rfl, rfl, S1.out.tur⟩
theorem form_deep {B g cap : Nat} {ts : List Tok} (k : Nat) (d : Int) (n : Nat) (w : World) (hn : n <= 2000) (h : PS B g cap ts w k (n : Nat)) (t : Tok) (ht : ts[k]? = some t) (hk : t.kind = 1) (hd : 30 < d \/ 2000 <= n) :
  Calls Tryz.prog 29 #[.pointer (some ⟨B, 0, none⟩), .int .i64 d] w (FX B g cap ts w (.err k 2)) := by
 have bk : (t.kind == 1) = true := by simpa using hk
 have bk2 : (t.kind != 1) = false := by simpa using hk
 have S0 := SP.forms (SP.start h) ((n : Int) + 1)
 obtain ⟨W1, rb, hW, hb1, S1⟩ := SP.box S0 (.cells #[.string ⟨#[]⟩, .slice none 0 0, .slice none 0 0, .int .i64 0] 45)
 have hb2 : rb = w.heap.size := by rw [hb1]; simp
 obtain ⟨c0, c1⟩ := h.cells
 obtain ⟨t0, t1, t2, t3⟩ := h.tok ht
 have f1 := h.free 1
 have hg := h.ltg
 have hB := h.ltB
 obtain ⟨l, hl⟩ : ∃ l, ts.length - k = l + 1 := ⟨ts.length - k - 1, by have := h.lt; omega⟩
 rw [hl] at c0
 clear hl
 have hwn : IntKind.i64.wrap ((n : Int) + 1) = (n : Int) + 1 := IntWalk.i64_in _ (by omega)
 by_cases hd30 : 30 < d
 ·go_enter Tryz.func29, Tryz.ntmps29
  go_wp2_with fail
  rw [<- hW]
  refine (fail_ps S1.out.ps 2).mono ?_
  rintro e W2 ⟨rfl, rfl⟩
  exact ⟨rfl, rfl, S1.out.tur⟩
 ·have hn2 : (2000 : Int) < (n : Int) + 1 := by omega
  go_enter Tryz.func29, Tryz.ntmps29
  go_wp2_with fail
  rw [<- hW]
  refine (fail_ps S1.out.ps 2).mono ?_
  rintro e W2 ⟨rfl, rfl⟩
  exact ⟨rfl, rfl, S1.out.tur⟩
theorem form_go {B g cap : Nat} {ts : List Tok} {f : Nat} (IH : HypF B g cap ts f) (m k : Nat) (d : Int) (n : Nat) (r : PR (Fm × Nat)) (w : World) (hm : m < f) (hd0 : 0 <= d) (hd : d <= 30) (hn : n < 2000) (h : PS B g cap ts w k (n : Nat)) (t : Tok) (ht : ts[k]? = some t) (hk : t.kind = 1) (hr : formF ts m (.args t []) (k + 1) d (n + 1) = some r) :
  Calls Tryz.prog 29 #[.pointer (some ⟨B, 0, none⟩), .int .i64 d] w (FX B g cap ts w r) := by
 have hk1 := h.ok.next _ _ ht (by rw [hk]; decide)
 have hwd : IntKind.i64.wrap (d + 1) = d + 1 := IntWalk.i64_in _ (by omega)
 obtain ⟨i0, hif, hz0, hz1, hz2⟩ := info_parts infoArg
 have bk : (t.kind == 1) = true := by simpa using hk
 have bk2 : (t.kind != 1) = false := by simpa using hk
 have S0 := SP.forms (SP.start h) ((n : Int) + 1)
 obtain ⟨W1, rb, hW, hb1, S1⟩ := SP.box S0 (.cells #[.string ⟨#[]⟩, .slice none 0 0, .slice none 0 0, .int .i64 0] 45)
 have hb2 : rb = w.heap.size := by rw [hb1]; simp
 obtain ⟨c0, c1⟩ := h.cells
 obtain ⟨t0, t1, t2, t3⟩ := h.tok ht
 have f1 := h.free 1
 have hg := h.ltg
 have hB := h.ltB
 obtain ⟨l, hl⟩ : ∃ l, ts.length - k = l + 1 := ⟨ts.length - k - 1, by have := h.lt; omega⟩
 rw [hl] at c0
 clear hl
 have hwn : IntKind.i64.wrap ((n : Int) + 1) = (n : Int) + 1 := IntWalk.i64_in _ (by omega)
 have hd30 : ¬ 30 < d := by omega
 have hn2 : ¬ (2000 : Int) < (n : Int) + 1 := by omega
 have hf2 := field_tok2
 clear hk
 go_enter Tryz.func29, Tryz.ntmps29
 go_wp2_with fail
 rw [<- hW, <- hb2]
 clear hW hb1 hb2 S0 c0 c1 t0 t1 t2 t3 f1
 refine (next_ps S1.out.ps ht hk1).mono ?_
 rintro e W2 ⟨rfl, hp, ht2⟩
 have S2 : Hid (SP B g cap ts w W2 _ [] (k + 1) ((n + 1 : Nat) : Int)) := SP.call S1 ht2 hp
 clear S1 hp ht2
 go_wp2_with fail
 obtain ⟨W3, tb, hW3, hb3, S3⟩ := SP.box S2 (.cells #[.int .i64 t.kind, .int .i64 t.at_, .string t.s, .int .i64 t.n] 68)
 obtain ⟨W4, fb, hW4, hb4, S4⟩ := SP.box S3 (.cells #[.string t.s, .slice none 0 0, .slice none 0 0, .int .i64 t.at_] 45)
 have e4 : fb = W2.heap.size + 1 := by rw [hb4, hW3]; simp
 have htb : tb < fb := by omega
 have hrb : rb < fb := by have := (SP.boxAt S2 0 rfl).2.2; omega
 have hBf : B < fb := by have := (SP.boxAt S4 0 rfl).2.1; omega
 have hwf : w.heap.size <= fb := (SP.boxAt S4 0 rfl).2.1
 rw [<- hW3, <- hW4, <- e4, <- hb3]
 clear hW3 hW4 hb3 hb4 e4 S2 S3
 go_loopw [42] (fun _ wr => ∃ (v : Value) (ps : List (Ar × Value)) (j m2 : Nat), Hid (FA B g cap ts f w (n + 1) d r t fb tb rb v ps j m2 wr)) (fun _ wr => lenOf ((wr.cell? ⟨B, 0, none⟩).getD undef))
 case atStart => exact ⟨_, [], k + 1, m, Lib.hid ⟨S4, Own.start (SP.boxAt S4 0 rfl).2.2, by simp, hm, hr⟩⟩
 case round =>
  clear S4 hr
  obtain ⟨v, ps, j, m2, HA⟩ := hrel
  have S5 := HA.out.sp
  have OV := HA.out.own
  have hlen := HA.out.len
  have heq := HA.out.eq
  have hm2 := HA.out.fuel
  clear HA
  obtain ⟨va, vc, rfl⟩ := owns_shape OV.out.own
  have HM : Hid (lenOf ((wr.cell? ⟨B, 0, none⟩).getD undef) = ts.length - j) := Lib.hid S5.out.ps.len
  obtain ⟨u, hu⟩ := some_of_lt S5.out.ps.lt
  have hju := S5.out.ps.lt
  obtain ⟨m3, rfl⟩ : ∃ m', m2 = m' + 1 := by
   cases m2 with
   | zero => simp [formF] at heq
   | succ m' => exact ⟨m', rfl⟩
  unfold formF at heq
  simp only [hu] at heq
  go_wp2_with fail
  have HI := fun s => is_ps S5.out.ps hu s
  by_cases hsc : isS u ⟨#[59]⟩ = true
  ·rw [if_pos hsc] at heq
   cases heq
   have hk3 := h.ok.sign hu hsc
   have hus := isS_s hsc
   refine (HI _).mono ?_
   rintro e W5 ⟨rfl, rfl⟩
   go_wp2_with fail
   refine (next_ps S5.out.ps hu hk3).mono ?_
   rintro e W6 ⟨rfl, hp, ht2⟩
   have S6 := SP.call S5 ht2 hp
   have hargs := (Own.argsAt OV rfl).move ht2 (fun b hb => by omega) (fun _ hb _ => hb)
   have HAR := Lib.hid hargs
   clear S5 hp ht2 HI hargs OV
   rw [hus]
   obtain ⟨x0, x1, x2, x3⟩ := cellsFour (SP.boxAt S6 0 rfl).1
   have hz := (SP.boxAt S6 2 rfl).1
   have fq := free_of_box hz
   obtain ⟨r0, r1, r2, r3⟩ := cellsFour hz
   go_wp2_with fail
   have S7 := SP.put S6 2 rfl (four_turned _ rb (.string t.s) (.slice va ps.length vc) (.slice none 0 0) (.int .i64 t.at_)) (four_set hz)
   refine bodyPost_ret (results_fm rfl _ _ rb (.string t.s) (.slice va ps.length vc) (.slice none 0 0) (.int .i64 t.at_) rfl (four_set hz)) rfl ?_
   refine ⟨va, vc, none, 0, by simp [Fm.word, Fm.args, Fm.body, Fm.at_], ?_, .nil _ _, S7.out.ps, S7.out.tur⟩
   have h9 := HAR.out.move (four_turned W6 rb (.string t.s) (.slice va ps.length vc) (.slice none 0 0) (.int .i64 t.at_)) (fun b hb => by omega) (M := fun b => w.heap.size <= b) (fun b hb _ => by omega)
   simpa [Fm.args] using h9
  ·have hsc : isS u ⟨#[59]⟩ = false := by simpa using hsc
   rw [if_neg (by rw [hsc]; decide)] at heq
   refine (HI _).mono ?_
   rintro e W5 ⟨rfl, rfl⟩
   go_wp2_with fail
   refine (HI _).mono ?_
   rintro e W5 ⟨rfl, rfl⟩
   by_cases hbr : isS u ⟨#[123]⟩ = true
   ·rw [if_pos hbr] at heq
    have hk3 := h.ok.sign hu hbr
    have hus := isS_s hbr
    clear HI
    go_wp2_with fail
    refine (next_ps S5.out.ps hu hk3).mono ?_
    rintro e W6 ⟨rfl, hp, ht2⟩
    have S6 := SP.call S5 ht2 hp
    have HAR := Lib.hid ((Own.argsAt OV rfl).move ht2 (fun b hb => by omega) (M := fun b => fb < b /\ b < W6.heap.size) (fun b hb hlt => ⟨by omega, by have := ht2.size; omega⟩))
    obtain ⟨lo, hlo⟩ : ∃ lo, lo = W6.heap.size := ⟨_, rfl⟩
    have hlf : fb < lo := by have := (SP.boxAt S6 0 rfl).2.2; omega
    rw [<- hlo] at HAR
    clear S5 hp ht2 OV
    rw [hus]
    obtain ⟨i1, hif, hz0, hz1, hz2⟩ := info_parts infoForm
    go_wp2_with fail
    go_loopw [78] (fun _ wr => ∃ (v : Value) (qs : List (Fm × Value × Value)) (j m2 n2 : Nat), Hid (FB B g cap ts f w d r t (ps.map (·.1)) (.slice va ps.length vc) lo fb tb rb v qs j m2 n2 wr)) (fun _ wr => lenOf ((wr.cell? ⟨B, 0, none⟩).getD undef))
    case atStart => exact ⟨_, [], j + 1, m3, n + 1, Lib.hid ⟨S6, HAR, Own.start (by omega), by simp, by omega, by omega, heq⟩⟩
    case round =>
     clear S6 heq HAR HM hlo hbr hsc hus hk3 hu hju
     obtain ⟨v, qs, j, m2, n2, HB⟩ := hrel
     have S7 := HB.out.sp
     have OV := HB.out.own
     have HA := HB.out.args
     have hqn := HB.out.len
     have hcnt := HB.out.cnt
     have heq := HB.out.eq
     have hm4 := HB.out.fuel
     clear HB
     rename_i wr2 _ _ _
     obtain ⟨vb, vd, rfl⟩ := owns_shape OV.out.own
     have HM := Lib.hid S7.out.ps.len
     obtain ⟨u, hu⟩ := some_of_lt S7.out.ps.lt
     have hju := S7.out.ps.lt
     obtain ⟨m3, rfl⟩ : ∃ m', m2 = m' + 1 := by
      cases m2 with
      | zero => simp [formF] at heq
      | succ m' => exact ⟨m', rfl⟩
     unfold formF at heq
     simp only [hu] at heq
     go_wp2_with fail
     refine (is_ps S7.out.ps hu _).mono ?_
     rintro e W8 ⟨rfl, rfl⟩
     by_cases hcb : isS u ⟨#[125]⟩ = true
     ·rw [if_pos hcb] at heq
      cases heq
      have hk3 := h.ok.sign hu hcb
      go_wp2_with fail
      refine (next_ps S7.out.ps hu hk3).mono ?_
      rintro e W9 ⟨rfl, hp, ht2⟩
      have S8 := SP.call S7 ht2 hp
      have HA2 := Lib.hid (HA.out.move ht2 (fun b hb => by have := hb.1; omega) (fun _ hb _ => hb))
      have HF2 := Lib.hid ((Own.formsAt OV rfl).move ht2 (fun b hb => by omega) (fun _ hb _ => hb))
      clear S7 hp ht2 HA OV
      obtain ⟨x0, x1, x2, x3⟩ := cellsFour (SP.boxAt S8 0 rfl).1
      have hz := (SP.boxAt S8 2 rfl).1
      have fq := free_of_box hz
      obtain ⟨r0, r1, r2, r3⟩ := cellsFour hz
      go_wp2_with fail
      have ht9 := four_turned W9 rb (.string t.s) (.slice va ps.length vc) (.slice vb qs.length vd) (.int .i64 t.at_)
      have S9 := SP.put S8 2 rfl ht9 (four_set hz)
      refine bodyPost_ret (results_fm rfl _ _ rb (.string t.s) (.slice va ps.length vc) (.slice vb qs.length vd) (.int .i64 t.at_) rfl (four_set hz)) rfl ?_
      have h9 := HA2.out.move ht9 (fun b hb => by have := hb.1; omega) (M := fun b => w.heap.size <= b) (fun b hb _ => by have := hb.1; omega)
      have h10 := HF2.out.move ht9 (fun b hb => by omega) (M := fun b => w.heap.size <= b) (fun b hb _ => by omega)
      exact ⟨va, vc, vb, vd, by simp [Fm.word, Fm.args, Fm.body, Fm.at_], by simpa [Fm.args] using h9, by simpa [Fm.body] using h10, S9.out.ps, S9.out.tur⟩
     ·have hcb : isS u ⟨#[125]⟩ = false := by simpa using hcb
      rw [if_neg (by rw [hcb]; decide)] at heq
      go_wp2_with fail
      have ST := SP.same S7 (Turned.refl _ _).drew
      have OV := Own.move OV fmMov (Turned.refl (fun _ => False) _).drew (fun _ h => h.elim)
      have HA := Lib.hid (HA.out.move (Turned.refl (fun _ => False) _).drew (fun _ _ => id) (fun _ hb _ => hb))
      clear S7
      obtain ⟨x0, x1, x2, x3⟩ := cellsFour (SP.boxAt ST 0 rfl).1
      rcases PR.then_some heq with ⟨j3, c, h5, rfl⟩ | ⟨y, j3, h5, h6⟩
      ·clear heq
       refine region_R (R := fun j V => j < 8 -> (fun V : World => V.cell? ⟨fb, 2, none⟩ = some (.slice vb qs.length vd)) V) (by kernel_rfl) ?_
       refine tk (n := 8) 0 (.pointer (some ⟨fb, 2, none⟩)) rfl (.inl ⟨by rfl, ?_⟩) x2 ?_
       ·intro V v3
        go_simp
       simp only [zz0, zz1, Act.put, zz3, zz4, zz5]
       refine tk (n := 8) 1 (.slice vb qs.length vd) rfl (.inl ⟨by rfl, ?_⟩) x2 ?_
       ·intro V v3
        go_simp
       simp only [zz0, zz1, zz2, Act.put, zz3, zz4, zz5]
       refine tk (n := 8) 2 (.pointer (some ⟨B, 0, none⟩)) rfl (.inl ⟨by rfl, ?_⟩) x2 ?_
       ·intro V v3
        go_simp
       simp only [zz0, zz1, zz2, Act.put, zz3, zz4, zz5]
       refine tk (n := 8) 3 (.int .i64 d) rfl (.inl ⟨by rfl, ?_⟩) x2 ?_
       ·intro V v3
        go_simp
       simp only [zz0, zz1, zz2, Act.put, zz3, zz4, zz5]
       refine tk (n := 8) 4 (.int .i64 (d + 1)) rfl (.inl ⟨by rfl, ?_⟩) x2 ?_
       ·intro V v3
        go_simp
       simp only [zz0, zz1, zz2, Act.put, zz3, zz4, zz5]
       refine wpAnyR_all (rs := [5]) (by kernel_rfl) (by simp) (fun i2 hi2 => ?_)
       obtain rfl : i2 = 5 := by simpa using hi2
       clear hi2
       refine wpOp_plain rfl rfl ?_
       simp only [zz0, zz1, zz2]
       go_simp
       refine (IH m3 j (d + 1) n2 _ _ (by omega) (by omega) (by omega) hcnt h5 ST.out.ps).mono ?_
       rintro e W9 ⟨rfl, ht2⟩
       exact ⟨rfl, rfl, ST.out.tur.trans ht2⟩
      ·clear heq
       have hj3 : j + 1 <= j3 /\ j3 < ts.length := (form_fits h.ok _ _ _ _ _ _ h5).1
       have hcnt2 : n2 < y.2 /\ y.2 <= 2000 := (form_fits h.ok _ _ _ _ _ _ h5).2 trivial
       refine region_R (R := fun j V => j < 8 -> (fun V : World => V.cell? ⟨fb, 2, none⟩ = some (.slice vb qs.length vd)) V) (by kernel_rfl) ?_
       refine tk (n := 8) 0 (.pointer (some ⟨fb, 2, none⟩)) rfl (.inl ⟨by rfl, ?_⟩) x2 ?_
       ·intro V v3
        go_simp
       simp only [zz0, zz1, Act.put, zz3, zz4, zz5]
       refine tk (n := 8) 1 (.slice vb qs.length vd) rfl (.inl ⟨by rfl, ?_⟩) x2 ?_
       ·intro V v3
        go_simp
       simp only [zz0, zz1, zz2, Act.put, zz3, zz4, zz5]
       refine tk (n := 8) 2 (.pointer (some ⟨B, 0, none⟩)) rfl (.inl ⟨by rfl, ?_⟩) x2 ?_
       ·intro V v3
        go_simp
       simp only [zz0, zz1, zz2, Act.put, zz3, zz4, zz5]
       refine tk (n := 8) 3 (.int .i64 d) rfl (.inl ⟨by rfl, ?_⟩) x2 ?_
       ·intro V v3
        go_simp
       simp only [zz0, zz1, zz2, Act.put, zz3, zz4, zz5]
       refine tk (n := 8) 4 (.int .i64 (d + 1)) rfl (.inl ⟨by rfl, ?_⟩) x2 ?_
       ·intro V v3
        go_simp
       simp only [zz0, zz1, zz2, Act.put, zz3, zz4, zz5]
       refine wpAnyR_all (rs := [5]) (by kernel_rfl) (by simp) (fun i2 hi2 => ?_)
       obtain rfl : i2 = 5 := by simpa using hi2
       clear hi2
       refine wpOp_plain rfl rfl ?_
       simp only [zz0, zz1, zz2]
       go_simp
       refine (IH m3 j (d + 1) n2 _ _ (by omega) (by omega) (by omega) hcnt h5 ST.out.ps).mono ?_
       rintro e W9 ⟨pa, ca, pb, cb, rfl, hk1, hk2, hp, ht2⟩
       have SU := SP.call ST ht2 hp
       have HY : Hid (fmAt W9 (fun b => lo <= b /\ ∀ g, (Value.slice vb qs.length vd).ownBlock = some g -> b ≠ g) (y.1, .slice pa y.1.args.length ca, .slice pb y.1.body.length cb)) := Lib.hid (Own.fresh OV fmMov (p := (y.1, .slice pa y.1.args.length ca, .slice pb y.1.body.length cb)) ⟨hk1, hk2⟩)
       have OW := Own.move OV fmMov ht2 (by omega)
       have HA2 := Lib.hid (HA.out.move ht2 (fun b hb => by have := hb.1; omega) (fun _ hb _ => hb))
       clear hk1 hk2 hp ht2
       clear x0 x1 x2 x3
       have hz := (SP.boxAt SU 0 rfl).1
       obtain ⟨x0, x1, x2, x3⟩ := cellsFour hz
       refine ⟨x2, ?_⟩
       refine wpAnyR_all (rs := [6]) (by kernel_rfl) (by simp) (fun i2 hi2 => ?_)
       obtain rfl : i2 = 6 := by simpa using hi2
       clear hi2
       refine wpOp_plain rfl rfl ?_
       simp only [zz0, zz1, zz2]
       go_simp
       obtain ⟨Wk, kb, hW, hb, SV⟩ := SP.box SU (.cells #[.string y.1.word, .slice pa y.1.args.length ca, .slice pb y.1.body.length cb, .int .i64 y.1.at_] 45)
       have SW := SP.forget SV
       have htA : Turned (fun _ => False) W9 Wk := by rw [hW]; exact (Turned.refl _ _).alloc _
       have OX := Own.move OW fmMov htA (fun _ h => h.elim)
       have HZ : Hid (fmAt Wk (fun b => lo <= b /\ ∀ g, (Value.slice vb qs.length vd).ownBlock = some g -> b ≠ g) (y.1, .slice pa y.1.args.length ca, .slice pb y.1.body.length cb)) := Lib.hid (fmMov _ _ _ _ _ _ HY.out htA (fun _ _ => id) (fun _ hb _ => hb))
       have HA3 := Lib.hid (HA2.out.move htA (fun _ _ => id) (fun _ hb _ => hb))
       have hcell : ∀ j u, [.string y.1.word, .slice pa y.1.args.length ca, .slice pb y.1.body.length cb, .int .i64 y.1.at_][j]? = some u -> Wk.cell? ((⟨kb, 0, none⟩ : Addr).add j) = some u := by rw [hW, hb]; exact cells_list W9 [.string y.1.word, .slice pa y.1.args.length ca, .slice pb y.1.body.length cb, .int .i64 y.1.at_] 45
       rw [<- hW, <- hb]
       clear hW hb htA HY SU SV OW x0 x1 x2 x3 hz
       have hz := (SP.boxAt SW 0 rfl).1
       obtain ⟨x0, x1, x2, x3⟩ := cellsFour hz
       refine ⟨x2, ?_⟩
       refine wpAnyR_all (rs := [7]) (by kernel_rfl) (by simp) (fun i2 hi2 => ?_)
       obtain rfl : i2 = 7 := by simpa using hi2
       clear hi2
       refine wpOp_append_exact _ rfl rfl _ _ 23 rfl (lo) 45 i1 (.agg #[.string ⟨#[]⟩, .slice none 0 0, .slice none 0 0, .int .i64 0]) 4 72 Tryz.underlying23 hif hz0 hz1 hz2 rfl (by decide) (.slice vb qs.length vd) qs.length (qs.flatMap fmEnc) rfl OX.out.own ⟨kb, 0, none⟩ 1 1 [.string y.1.word, .slice pa y.1.args.length ca, .slice pb y.1.body.length cb, .int .i64 y.1.at_] rfl rfl hcell (by simp [Value.oneCell']) (by unfold maxLen; omega) (by omega) OX.out.top ?_
       intro v' w4 hown' hgrow hex
       obtain ⟨ga, cap', rfl⟩ := ownsRow_succ hown'
       have htG := Own.turned_grown (B := 0) OX hgrow
       have SG := SP.turn SW htG.1 (fun b hb => ⟨by have := htG.2.1 b hb; omega, by have := htG.2.1 b hb; simp; omega⟩)
       have OG := Own.grown OX fmMov HZ.out hgrow hown' hex
       have HA4 := Lib.hid (HA3.out.move htG.1 (fun b hb hc => by have := htG.2.1 b hc; have := hb.2; omega) (fun _ hb _ => hb))
       clear hown' hgrow hex htG HZ OX SW hcell x0 x1 x2 x3 hz
       have hz := (SP.boxAt SG 0 rfl).1
       have fq := free_of_box hz
       obtain ⟨x0, x1, x2, x3⟩ := cellsFour hz
       refine ⟨fun _ => x2, ?_⟩
       simp only [zz0, zz1, zz2, Act.put, zz3, zz4, zz5]
       refine wpAnyR_all (rs := [8]) (by kernel_rfl) (by simp) (fun i2 hi2 => ?_)
       obtain rfl : i2 = 8 := by simpa using hi2
       clear hi2
       refine wpOp_plain rfl rfl ?_
       simp only [zz0, zz1, zz2]
       go_simp
       refine wpAnyR_all (rs := [9]) (by kernel_rfl) (by simp) (fun i2 hi2 => ?_)
       obtain rfl : i2 = 9 := by simpa using hi2
       clear hi2
       refine wpOp_plain rfl rfl ?_
       simp only [zz0, zz1, zz2]
       go_simp
       refine wpAnyR_done (by kernel_rfl) ?_ _
       have SX := SP.put SG 0 rfl (one_turned w4 fb 2 (.slice (some ⟨ga, 0, none⟩) (qs.length + 1) cap')) (four_set2 hz)
       have OZ := Own.move OG fmMov (one_turned w4 fb 2 (.slice (some ⟨ga, 0, none⟩) (qs.length + 1) cap')) (fun b hb => by omega)
       have HA5 := Lib.hid (HA4.out.move (one_turned w4 fb 2 (.slice (some ⟨ga, 0, none⟩) (qs.length + 1) cap')) (fun b hb => by have := hb.1; omega) (fun _ hb _ => hb))
       have hlen2 : (qs ++ [(y.1, Value.slice pa y.1.args.length ca, Value.slice pb y.1.body.length cb)]).length = qs.length + 1 := by simp
       try go_wp2_with fail
       go_roundw
       case rel => exact ⟨_, qs ++ [(y.1, .slice pa y.1.args.length ca, .slice pb y.1.body.length cb)], j3, m3, y.2, Lib.hid ⟨SX, HA5, (by rw [hlen2]; exact OZ), by omega, by omega, by omega, by rw [List.map_append]; exact h6⟩⟩
       case measure =>
        rw [HM.out, SX.out.ps.len]
        omega
   ·have hbr : isS u ⟨#[123]⟩ = false := by simpa using hbr
    rw [if_neg (by rw [hbr]; decide)] at heq
    clear HI
    go_wp2_with fail
    refine (begins_ps S5.out.ps hu).mono ?_
    rintro e W5 ⟨rfl, rfl⟩
    have HX := Lib.hid heq
    clear heq
    by_cases hbg : beginsT u = true
    ·have heq := HX.out
     rw [if_neg (by rw [hbg]; simp)] at heq
     have hbeg : ∀ t, ts[j]? = some t -> beginsT t = true \/ isS t ⟨#[45, 62]⟩ = true := fun t' ht' => by rw [hu] at ht'; cases ht'; exact .inl hbg
     clear HX
     obtain ⟨x0, x1, x2, x3⟩ := cellsFour (SP.boxAt S5 0 rfl).1
     simp only [List.length_map] at heq
     by_cases h40 : ps.length = 40
     ·rw [if_pos h40] at heq
      cases heq
      have h4b : ((ps.length : Int) == 40) = true := by simp; omega
      clear h40
      go_wp2_with fail
      refine (fail_ps S5.out.ps 2).mono ?_
      rintro e W6 ⟨rfl, rfl⟩
      exact ⟨rfl, rfl, S5.out.tur⟩
     rw [if_neg h40] at heq
     have h4b : ((ps.length : Int) == 40) = false := by simp; omega
     go_wp2_with fail
     have ST := SP.same S5 (Turned.refl _ _).drew
     have OV := Own.move OV arMov (Turned.refl (fun _ => False) _).drew (fun _ h => h.elim)
     clear S5 x0 x1 x2 x3
     obtain ⟨x0, x1, x2, x3⟩ := cellsFour (SP.boxAt ST 0 rfl).1
     rcases PR.then_some heq with ⟨j3, c, h5, rfl⟩ | ⟨y, j3, h5, h6⟩
     ·clear heq
      refine region_R (R := fun j V => j < 6 -> (fun V : World => V.cell? ⟨fb, 1, none⟩ = some (.slice va ps.length vc)) V) (by kernel_rfl) ?_
      refine tk (n := 6) 0 (.pointer (some ⟨fb, 1, none⟩)) rfl (.inl ⟨by rfl, ?_⟩) x1 ?_
      ·intro V v3
       go_simp
      simp only [zz0, zz1, Act.put, zz3, zz4, zz5]
      refine tk (n := 6) 1 (.slice va ps.length vc) rfl (.inl ⟨by rfl, ?_⟩) x1 ?_
      ·intro V v3
       go_simp
      simp only [zz0, zz1, zz2, Act.put, zz3, zz4, zz5]
      refine tk (n := 6) 2 (.pointer (some ⟨B, 0, none⟩)) rfl (.inl ⟨by rfl, ?_⟩) x1 ?_
      ·intro V v3
       go_simp
      simp only [zz0, zz1, zz2, Act.put, zz3, zz4, zz5]
      refine wpAnyR_all (rs := [3]) (by kernel_rfl) (by simp) (fun i2 hi2 => ?_)
      obtain rfl : i2 = 3 := by simpa using hi2
      clear hi2
      refine wpOp_plain rfl rfl ?_
      simp only [zz0, zz1, zz2]
      go_simp
      refine (arg_step m3 j _ _ _ h5 ST.out.ps hbeg).mono ?_
      rintro e W9 ⟨rfl, ht2⟩
      exact ⟨rfl, rfl, ST.out.tur.trans ht2⟩
     ·clear heq
      have hj3 : j + 1 <= j3 /\ j3 < ts.length := arg_fits h.ok h5 hbeg
      refine region_R (R := fun j V => j < 6 -> (fun V : World => V.cell? ⟨fb, 1, none⟩ = some (.slice va ps.length vc)) V) (by kernel_rfl) ?_
      refine tk (n := 6) 0 (.pointer (some ⟨fb, 1, none⟩)) rfl (.inl ⟨by rfl, ?_⟩) x1 ?_
      ·intro V v3
       go_simp
      simp only [zz0, zz1, Act.put, zz3, zz4, zz5]
      refine tk (n := 6) 1 (.slice va ps.length vc) rfl (.inl ⟨by rfl, ?_⟩) x1 ?_
      ·intro V v3
       go_simp
      simp only [zz0, zz1, zz2, Act.put, zz3, zz4, zz5]
      refine tk (n := 6) 2 (.pointer (some ⟨B, 0, none⟩)) rfl (.inl ⟨by rfl, ?_⟩) x1 ?_
      ·intro V v3
       go_simp
      simp only [zz0, zz1, zz2, Act.put, zz3, zz4, zz5]
      refine wpAnyR_all (rs := [3]) (by kernel_rfl) (by simp) (fun i2 hi2 => ?_)
      obtain rfl : i2 = 3 := by simpa using hi2
      clear hi2
      refine wpOp_plain rfl rfl ?_
      simp only [zz0, zz1, zz2]
      go_simp
      refine (arg_step m3 j _ _ _ h5 ST.out.ps hbeg).mono ?_
      rintro e W9 ⟨py, cy, rfl, hk, hp, ht2⟩
      have SU := SP.call ST ht2 hp
      have HY : Hid (arAt W9 (fun b => fb + 1 <= b /\ ∀ g, (Value.slice va ps.length vc).ownBlock = some g -> b ≠ g) (y, .slice py y.e.kids.length cy)) := Lib.hid (Own.fresh OV arMov (p := (y, .slice py y.e.kids.length cy)) hk)
      have OW := Own.move OV arMov ht2 (by omega)
      clear hk hp ht2
      clear x0 x1 x2 x3
      have hz := (SP.boxAt SU 0 rfl).1
      obtain ⟨x0, x1, x2, x3⟩ := cellsFour hz
      refine ⟨x1, ?_⟩
      refine wpAnyR_all (rs := [4]) (by kernel_rfl) (by simp) (fun i2 hi2 => ?_)
      obtain rfl : i2 = 4 := by simpa using hi2
      clear hi2
      refine wpOp_plain rfl rfl ?_
      simp only [zz0, zz1, zz2]
      go_simp
      obtain ⟨Wk, kb, hW, hb, SV⟩ := SP.box SU (.cells #[.int .i64 y.kind, .int .i64 y.n, .string y.s, .int .i64 y.e.op, .int .i64 y.e.n, .string y.e.s, .slice py y.e.kids.length cy, .int .i64 y.e.at_, .int .i64 y.at_] 48)
      have SW := SP.forget SV
      have htA : Turned (fun _ => False) W9 Wk := by rw [hW]; exact (Turned.refl _ _).alloc _
      have OX := Own.move OW arMov htA (fun _ h => h.elim)
      have HZ : Hid (arAt Wk (fun b => fb + 1 <= b /\ ∀ g, (Value.slice va ps.length vc).ownBlock = some g -> b ≠ g) (y, .slice py y.e.kids.length cy)) := Lib.hid (arMov _ _ _ _ _ _ HY.out htA (fun _ _ => id) (fun _ hb _ => hb))
      have hcell : ∀ j u, [(.int .i64 y.kind), .int .i64 y.n, .string y.s, .int .i64 y.e.op, .int .i64 y.e.n, .string y.e.s, .slice py y.e.kids.length cy, .int .i64 y.e.at_, .int .i64 y.at_][j]? = some u -> Wk.cell? ((⟨kb, 0, none⟩ : Addr).add j) = some u := by rw [hW, hb]; exact cells_list W9 [(.int .i64 y.kind), .int .i64 y.n, .string y.s, .int .i64 y.e.op, .int .i64 y.e.n, .string y.e.s, .slice py y.e.kids.length cy, .int .i64 y.e.at_, .int .i64 y.at_] 48
      rw [<- hW, <- hb]
      clear hW hb htA HY SU SV OW x0 x1 x2 x3 hz
      have hz := (SP.boxAt SW 0 rfl).1
      obtain ⟨x0, x1, x2, x3⟩ := cellsFour hz
      refine ⟨x1, ?_⟩
      refine wpAnyR_all (rs := [5]) (by kernel_rfl) (by simp) (fun i2 hi2 => ?_)
      obtain rfl : i2 = 5 := by simpa using hi2
      clear hi2
      refine wpOp_append_exact _ rfl rfl _ _ 43 rfl (fb + 1) 48 i0 (.agg #[.int .i64 0, .int .i64 0, .string ⟨#[]⟩, .int .i64 0, .int .i64 0, .string ⟨#[]⟩, .slice none 0 0, .int .i64 0, .int .i64 0]) 9 104 Tryz.underlying43 hif hz0 hz1 hz2 rfl (by decide) (.slice va ps.length vc) ps.length (ps.flatMap arEnc) rfl OX.out.own ⟨kb, 0, none⟩ 1 1 [(.int .i64 y.kind), .int .i64 y.n, .string y.s, .int .i64 y.e.op, .int .i64 y.e.n, .string y.e.s, .slice py y.e.kids.length cy, .int .i64 y.e.at_, .int .i64 y.at_] rfl rfl hcell (by simp [Value.oneCell']) (by unfold maxLen; omega) (by omega) OX.out.top ?_
      intro v' w4 hown' hgrow hex
      obtain ⟨ga, cap', rfl⟩ := ownsRow_succ hown'
      have htG := Own.turned_grown (B := 0) OX hgrow
      have SG := SP.turn SW htG.1 (fun b hb => ⟨by have := htG.2.1 b hb; omega, by have := htG.2.1 b hb; simp; omega⟩)
      have OG := Own.grown OX arMov HZ.out hgrow hown' hex
      clear hown' hgrow hex htG HZ OX SW hcell x0 x1 x2 x3 hz
      have hz := (SP.boxAt SG 0 rfl).1
      have fq := free_of_box hz
      obtain ⟨x0, x1, x2, x3⟩ := cellsFour hz
      refine ⟨fun _ => x1, ?_⟩
      simp only [zz0, zz1, zz2, Act.put, zz3, zz4, zz5]
      refine wpAnyR_all (rs := [6]) (by kernel_rfl) (by simp) (fun i2 hi2 => ?_)
      obtain rfl : i2 = 6 := by simpa using hi2
      clear hi2
      refine wpOp_plain rfl rfl ?_
      simp only [zz0, zz1, zz2]
      go_simp
      refine wpAnyR_all (rs := [7]) (by kernel_rfl) (by simp) (fun i2 hi2 => ?_)
      obtain rfl : i2 = 7 := by simpa using hi2
      clear hi2
      refine wpOp_plain rfl rfl ?_
      simp only [zz0, zz1, zz2]
      go_simp
      refine wpAnyR_done (by kernel_rfl) ?_ _
      have SX := SP.put SG 0 rfl (one_turned w4 fb 1 (.slice (some ⟨ga, 0, none⟩) (ps.length + 1) cap')) (four_set1 hz)
      have OZ := Own.move OG arMov (one_turned w4 fb 1 (.slice (some ⟨ga, 0, none⟩) (ps.length + 1) cap')) (fun b hb => by omega)
      have hlen2 : (ps ++ [(y, Value.slice py y.e.kids.length cy)]).length = ps.length + 1 := by simp
      try go_wp2_with fail
      go_roundw
      case rel => exact ⟨_, ps ++ [(y, .slice py y.e.kids.length cy)], j3, m3, Lib.hid ⟨SX, (by rw [hlen2]; exact OZ), by omega, by omega, by rw [List.map_append]; exact h6⟩⟩
      case measure =>
       rw [HM.out, SX.out.ps.len]
       omega
    ·have hbg : beginsT u = false := by simpa using hbg
     go_wp2_with fail
     refine (is_ps S5.out.ps hu _).mono ?_
     rintro e W5 ⟨rfl, rfl⟩
     by_cases har : isS u ⟨#[45, 62]⟩ = true
     ·have heq := HX.out
      rw [if_neg (by rw [har]; simp)] at heq
      have hbeg : ∀ t, ts[j]? = some t -> beginsT t = true \/ isS t ⟨#[45, 62]⟩ = true := fun t' ht' => by rw [hu] at ht'; cases ht'; exact .inr har
      clear HX
      obtain ⟨x0, x1, x2, x3⟩ := cellsFour (SP.boxAt S5 0 rfl).1
      simp only [List.length_map] at heq
      by_cases h40 : ps.length = 40
      ·rw [if_pos h40] at heq
       cases heq
       have h4b : ((ps.length : Int) == 40) = true := by simp; omega
       clear h40
       go_wp2_with fail
       refine (fail_ps S5.out.ps 2).mono ?_
       rintro e W6 ⟨rfl, rfl⟩
       exact ⟨rfl, rfl, S5.out.tur⟩
      rw [if_neg h40] at heq
      have h4b : ((ps.length : Int) == 40) = false := by simp; omega
      go_wp2_with fail
      have ST := SP.same S5 (Turned.refl _ _).drew
      have OV := Own.move OV arMov (Turned.refl (fun _ => False) _).drew (fun _ h => h.elim)
      clear S5 x0 x1 x2 x3
      obtain ⟨x0, x1, x2, x3⟩ := cellsFour (SP.boxAt ST 0 rfl).1
      rcases PR.then_some heq with ⟨j3, c, h5, rfl⟩ | ⟨y, j3, h5, h6⟩
      ·clear heq
       refine region_R (R := fun j V => j < 6 -> (fun V : World => V.cell? ⟨fb, 1, none⟩ = some (.slice va ps.length vc)) V) (by kernel_rfl) ?_
       refine tk (n := 6) 0 (.pointer (some ⟨fb, 1, none⟩)) rfl (.inl ⟨by rfl, ?_⟩) x1 ?_
       ·intro V v3
        go_simp
       simp only [zz0, zz1, Act.put, zz3, zz4, zz5]
       refine tk (n := 6) 1 (.slice va ps.length vc) rfl (.inl ⟨by rfl, ?_⟩) x1 ?_
       ·intro V v3
        go_simp
       simp only [zz0, zz1, zz2, Act.put, zz3, zz4, zz5]
       refine tk (n := 6) 2 (.pointer (some ⟨B, 0, none⟩)) rfl (.inl ⟨by rfl, ?_⟩) x1 ?_
       ·intro V v3
        go_simp
       simp only [zz0, zz1, zz2, Act.put, zz3, zz4, zz5]
       refine wpAnyR_all (rs := [3]) (by kernel_rfl) (by simp) (fun i2 hi2 => ?_)
       obtain rfl : i2 = 3 := by simpa using hi2
       clear hi2
       refine wpOp_plain rfl rfl ?_
       simp only [zz0, zz1, zz2]
       go_simp
       refine (arg_step m3 j _ _ _ h5 ST.out.ps hbeg).mono ?_
       rintro e W9 ⟨rfl, ht2⟩
       exact ⟨rfl, rfl, ST.out.tur.trans ht2⟩
      ·clear heq
       have hj3 : j + 1 <= j3 /\ j3 < ts.length := arg_fits h.ok h5 hbeg
       refine region_R (R := fun j V => j < 6 -> (fun V : World => V.cell? ⟨fb, 1, none⟩ = some (.slice va ps.length vc)) V) (by kernel_rfl) ?_
       refine tk (n := 6) 0 (.pointer (some ⟨fb, 1, none⟩)) rfl (.inl ⟨by rfl, ?_⟩) x1 ?_
       ·intro V v3
        go_simp
       simp only [zz0, zz1, Act.put, zz3, zz4, zz5]
       refine tk (n := 6) 1 (.slice va ps.length vc) rfl (.inl ⟨by rfl, ?_⟩) x1 ?_
       ·intro V v3
        go_simp
       simp only [zz0, zz1, zz2, Act.put, zz3, zz4, zz5]
       refine tk (n := 6) 2 (.pointer (some ⟨B, 0, none⟩)) rfl (.inl ⟨by rfl, ?_⟩) x1 ?_
       ·intro V v3
        go_simp
       simp only [zz0, zz1, zz2, Act.put, zz3, zz4, zz5]
       refine wpAnyR_all (rs := [3]) (by kernel_rfl) (by simp) (fun i2 hi2 => ?_)
       obtain rfl : i2 = 3 := by simpa using hi2
       clear hi2
       refine wpOp_plain rfl rfl ?_
       simp only [zz0, zz1, zz2]
       go_simp
       refine (arg_step m3 j _ _ _ h5 ST.out.ps hbeg).mono ?_
       rintro e W9 ⟨py, cy, rfl, hk, hp, ht2⟩
       have SU := SP.call ST ht2 hp
       have HY : Hid (arAt W9 (fun b => fb + 1 <= b /\ ∀ g, (Value.slice va ps.length vc).ownBlock = some g -> b ≠ g) (y, .slice py y.e.kids.length cy)) := Lib.hid (Own.fresh OV arMov (p := (y, .slice py y.e.kids.length cy)) hk)
       have OW := Own.move OV arMov ht2 (by omega)
       clear hk hp ht2
       clear x0 x1 x2 x3
       have hz := (SP.boxAt SU 0 rfl).1
       obtain ⟨x0, x1, x2, x3⟩ := cellsFour hz
       refine ⟨x1, ?_⟩
       refine wpAnyR_all (rs := [4]) (by kernel_rfl) (by simp) (fun i2 hi2 => ?_)
       obtain rfl : i2 = 4 := by simpa using hi2
       clear hi2
       refine wpOp_plain rfl rfl ?_
       simp only [zz0, zz1, zz2]
       go_simp
       obtain ⟨Wk, kb, hW, hb, SV⟩ := SP.box SU (.cells #[.int .i64 y.kind, .int .i64 y.n, .string y.s, .int .i64 y.e.op, .int .i64 y.e.n, .string y.e.s, .slice py y.e.kids.length cy, .int .i64 y.e.at_, .int .i64 y.at_] 48)
       have SW := SP.forget SV
       have htA : Turned (fun _ => False) W9 Wk := by rw [hW]; exact (Turned.refl _ _).alloc _
       have OX := Own.move OW arMov htA (fun _ h => h.elim)
       have HZ : Hid (arAt Wk (fun b => fb + 1 <= b /\ ∀ g, (Value.slice va ps.length vc).ownBlock = some g -> b ≠ g) (y, .slice py y.e.kids.length cy)) := Lib.hid (arMov _ _ _ _ _ _ HY.out htA (fun _ _ => id) (fun _ hb _ => hb))
       have hcell : ∀ j u, [(.int .i64 y.kind), .int .i64 y.n, .string y.s, .int .i64 y.e.op, .int .i64 y.e.n, .string y.e.s, .slice py y.e.kids.length cy, .int .i64 y.e.at_, .int .i64 y.at_][j]? = some u -> Wk.cell? ((⟨kb, 0, none⟩ : Addr).add j) = some u := by rw [hW, hb]; exact cells_list W9 [(.int .i64 y.kind), .int .i64 y.n, .string y.s, .int .i64 y.e.op, .int .i64 y.e.n, .string y.e.s, .slice py y.e.kids.length cy, .int .i64 y.e.at_, .int .i64 y.at_] 48
       rw [<- hW, <- hb]
       clear hW hb htA HY SU SV OW x0 x1 x2 x3 hz
       have hz := (SP.boxAt SW 0 rfl).1
       obtain ⟨x0, x1, x2, x3⟩ := cellsFour hz
       refine ⟨x1, ?_⟩
       refine wpAnyR_all (rs := [5]) (by kernel_rfl) (by simp) (fun i2 hi2 => ?_)
       obtain rfl : i2 = 5 := by simpa using hi2
       clear hi2
       refine wpOp_append_exact _ rfl rfl _ _ 43 rfl (fb + 1) 48 i0 (.agg #[.int .i64 0, .int .i64 0, .string ⟨#[]⟩, .int .i64 0, .int .i64 0, .string ⟨#[]⟩, .slice none 0 0, .int .i64 0, .int .i64 0]) 9 104 Tryz.underlying43 hif hz0 hz1 hz2 rfl (by decide) (.slice va ps.length vc) ps.length (ps.flatMap arEnc) rfl OX.out.own ⟨kb, 0, none⟩ 1 1 [(.int .i64 y.kind), .int .i64 y.n, .string y.s, .int .i64 y.e.op, .int .i64 y.e.n, .string y.e.s, .slice py y.e.kids.length cy, .int .i64 y.e.at_, .int .i64 y.at_] rfl rfl hcell (by simp [Value.oneCell']) (by unfold maxLen; omega) (by omega) OX.out.top ?_
       intro v' w4 hown' hgrow hex
       obtain ⟨ga, cap', rfl⟩ := ownsRow_succ hown'
       have htG := Own.turned_grown (B := 0) OX hgrow
       have SG := SP.turn SW htG.1 (fun b hb => ⟨by have := htG.2.1 b hb; omega, by have := htG.2.1 b hb; simp; omega⟩)
       have OG := Own.grown OX arMov HZ.out hgrow hown' hex
       clear hown' hgrow hex htG HZ OX SW hcell x0 x1 x2 x3 hz
       have hz := (SP.boxAt SG 0 rfl).1
       have fq := free_of_box hz
       obtain ⟨x0, x1, x2, x3⟩ := cellsFour hz
       refine ⟨fun _ => x1, ?_⟩
       simp only [zz0, zz1, zz2, Act.put, zz3, zz4, zz5]
       refine wpAnyR_all (rs := [6]) (by kernel_rfl) (by simp) (fun i2 hi2 => ?_)
       obtain rfl : i2 = 6 := by simpa using hi2
       clear hi2
       refine wpOp_plain rfl rfl ?_
       simp only [zz0, zz1, zz2]
       go_simp
       refine wpAnyR_all (rs := [7]) (by kernel_rfl) (by simp) (fun i2 hi2 => ?_)
       obtain rfl : i2 = 7 := by simpa using hi2
       clear hi2
       refine wpOp_plain rfl rfl ?_
       simp only [zz0, zz1, zz2]
       go_simp
       refine wpAnyR_done (by kernel_rfl) ?_ _
       have SX := SP.put SG 0 rfl (one_turned w4 fb 1 (.slice (some ⟨ga, 0, none⟩) (ps.length + 1) cap')) (four_set1 hz)
       have OZ := Own.move OG arMov (one_turned w4 fb 1 (.slice (some ⟨ga, 0, none⟩) (ps.length + 1) cap')) (fun b hb => by omega)
       have hlen2 : (ps ++ [(y, Value.slice py y.e.kids.length cy)]).length = ps.length + 1 := by simp
       try go_wp2_with fail
       go_roundw
       case rel => exact ⟨_, ps ++ [(y, .slice py y.e.kids.length cy)], j3, m3, Lib.hid ⟨SX, (by rw [hlen2]; exact OZ), by omega, by omega, by rw [List.map_append]; exact h6⟩⟩
       case measure =>
        rw [HM.out, SX.out.ps.len]
        omega
     ·have har : isS u ⟨#[45, 62]⟩ = false := by simpa using har
      have heq := HX.out
      rw [if_pos (by rw [hbg, har]; rfl)] at heq
      cases heq
      go_wp2_with fail
      refine (fail_ps S5.out.ps 5).mono ?_
      rintro e W6 ⟨rfl, rfl⟩
      exact ⟨rfl, rfl, S5.out.tur⟩
theorem forms_hyp (B g cap : Nat) (ts : List Tok) : ∀ f, HypF B g cap ts f
 | 0 => fun m _ _ _ _ _ hm => absurd hm (Nat.not_lt_zero m)
 | f + 1 => fun m k d n r w hm hd0 hd hn hr h => by
  obtain ⟨t, ht⟩ := some_of_lt h.lt
  obtain ⟨m, rfl⟩ : ∃ m', m = m' + 1 := by
   cases m with
   | zero => simp [formF] at hr
   | succ m' => exact ⟨m', rfl⟩
  unfold formF at hr
  simp only [ht] at hr
  by_cases hk : t.kind = 1
  ·rw [if_neg (by simp [hk])] at hr
   by_cases hdn : 30 < d \/ 2000 <= n
   ·rw [if_pos hdn] at hr
    cases hr
    exact form_deep k d n w hn h t ht hk hdn
   ·rw [if_neg hdn] at hr
    exact form_go (forms_hyp B g cap ts f) m k d n r w (by omega) hd0 (by omega) (by omega) h t ht hk hr
  ·rw [if_pos (by simpa using hk)] at hr
   cases hr
   exact form_bad k d n w h t ht hk
theorem form_ps {B g cap : Nat} {ts : List Tok} (m k : Nat) (d : Int) (n : Nat) (r : PR (Fm × Nat)) (w : World) (hd0 : 0 <= d) (hd : d <= 31) (hn : n <= 2000) (hr : formF ts m .form k d n = some r) (h : PS B g cap ts w k (n : Nat)) : Calls Tryz.prog 29 #[.pointer (some ⟨B, 0, none⟩), .int .i64 d] w (FX B g cap ts w r) :=
 forms_hyp B g cap ts (m + 1) m k d n r w (Nat.lt_succ_self m) hd0 hd hn hr h
end Go.Proofs.YtjijdgkccfeeaaaGreatDoor
