/- Part 14 of the proof of card: ParWalkG. Conditions: those of each theorem. -/
import Derived.Test.YtjijdgkccfeeaaaGreatDoorPt01
import Derived.Test.YtjijdgkccfeeaaaGreatDoorPt13
set_option maxRecDepth 20000
set_option maxHeartbeats 8000000
namespace Go.Proofs.YtjijdgkccfeeaaaGreatDoor
open Go Go.Proofs Go.RowKit
attribute [local go_sem] Oper.semAt_some
def AX (B g cap : Nat) (ts : List Tok) (nf : Int) (w : World) (r : PR Ar) (e : Ending) (w' : World) : Prop :=
 match r with
 | .ok x j => ∃ p c, e = .returned (.agg #[.int .i64 x.kind, .int .i64 x.n, .string x.s, .int .i64 x.e.op, .int .i64 x.e.n, .string x.e.s, .slice p x.e.kids.length c, .int .i64 x.e.at_, .int .i64 x.at_]) /\ KidsAt w' (fun b => w.heap.size <= b) x.e.kids (.slice p x.e.kids.length c) /\ PS B g cap ts w' j nf /\ Turned (fun b => b = B) w w'
 | .err j c => e = .panicked [stopE ts j c] /\ Turned (fun b => b = B) w w'
theorem nine_cells {V : World} {N t : Nat} {a b c d e f g h i : Value} (hh : V.heap[N]? = some (.cells #[a, b, c, d, e, f, g, h, i] t (0, 0))) : V.cell? ⟨N, 0, none⟩ = some a /\ V.cell? ⟨N, 1, none⟩ = some b /\ V.cell? ⟨N, 2, none⟩ = some c /\ V.cell? ⟨N, 3, none⟩ = some d /\ V.cell? ⟨N, 4, none⟩ = some e /\ V.cell? ⟨N, 5, none⟩ = some f /\ V.cell? ⟨N, 6, none⟩ = some g /\ V.cell? ⟨N, 7, none⟩ = some h /\ V.cell? ⟨N, 8, none⟩ = some i := by
 simp [World.cell?, hh]
def set9 (V : World) (N : Nat) (a b c d e f g h i : Value) : World := (((((((((V.setCell ⟨N, 0, none⟩ a).setCell ⟨N, 1, none⟩ b).setCell ⟨N, 2, none⟩ c).setCell ⟨N, 3, none⟩ d).setCell ⟨N, 4, none⟩ e).setCell ⟨N, 5, none⟩ f).setCell ⟨N, 6, none⟩ g).setCell ⟨N, 7, none⟩ h).setCell ⟨N, 8, none⟩ i)
theorem nine_set {V : World} {N t : Nat} {a b c d e f g h i a' b' c' d' e' f' g' h' i' : Value} (hh : V.heap[N]? = some (.cells #[a, b, c, d, e, f, g, h, i] t (0, 0))) : (set9 V N a' b' c' d' e' f' g' h' i').heap[N]? = some (.cells #[a', b', c', d', e', f', g', h', i'] t (0, 0)) := by
 simp [set9, World.setCell, Array.getElem?_modify, hh]
theorem nine_turned (V : World) (N : Nat) (a b c d e f g h i : Value) : Turned (fun c => c = N) V (set9 V N a b c d e f g h i) :=
 (((((((((Turned.refl (fun c => c = N) V).setCell (p := ⟨N, 0, none⟩) rfl a).setCell (p := ⟨N, 1, none⟩) rfl b).setCell (p := ⟨N, 2, none⟩) rfl c).setCell (p := ⟨N, 3, none⟩) rfl d).setCell (p := ⟨N, 4, none⟩) rfl e).setCell (p := ⟨N, 5, none⟩) rfl f).setCell (p := ⟨N, 6, none⟩) rfl g).setCell (p := ⟨N, 7, none⟩) rfl h).setCell (p := ⟨N, 8, none⟩) rfl i
theorem nine_set01 {V : World} {N t : Nat} {a b c d e f g h i a' b' : Value} (hh : V.heap[N]? = some (.cells #[a, b, c, d, e, f, g, h, i] t (0, 0))) : ((V.setCell ⟨N, 0, none⟩ a').setCell ⟨N, 1, none⟩ b').heap[N]? = some (.cells #[a', b', c, d, e, f, g, h, i] t (0, 0)) := by
 simp [World.setCell, Array.getElem?_modify, hh]
theorem nine_turned01 (V : World) (N : Nat) (a b : Value) : Turned (fun c => c = N) V ((V.setCell ⟨N, 0, none⟩ a).setCell ⟨N, 1, none⟩ b) :=
 ((Turned.refl (fun c => c = N) V).setCell (p := ⟨N, 0, none⟩) rfl a).setCell (p := ⟨N, 1, none⟩) rfl b
def setE (V : World) (N : Nat) (a d e f g h : Value) : World := (((((V.setCell ⟨N, 0, none⟩ a).setCell ⟨N, 3, none⟩ d).setCell ⟨N, 4, none⟩ e).setCell ⟨N, 5, none⟩ f).setCell ⟨N, 6, none⟩ g).setCell ⟨N, 7, none⟩ h
theorem nine_setE {V : World} {N t : Nat} {a b c d e f g h i a' d' e' f' g' h' : Value} (hh : V.heap[N]? = some (.cells #[a, b, c, d, e, f, g, h, i] t (0, 0))) : (setE V N a' d' e' f' g' h').heap[N]? = some (.cells #[a', b, c, d', e', f', g', h', i] t (0, 0)) := by
 simp [setE, World.setCell, Array.getElem?_modify, hh]
theorem turnedE (V : World) (N : Nat) (a d e f g h : Value) : Turned (fun c => c = N) V (setE V N a d e f g h) :=
 ((((((Turned.refl (fun c => c = N) V).setCell (p := ⟨N, 0, none⟩) rfl a).setCell (p := ⟨N, 3, none⟩) rfl d).setCell (p := ⟨N, 4, none⟩) rfl e).setCell (p := ⟨N, 5, none⟩) rfl f).setCell (p := ⟨N, 6, none⟩) rfl g).setCell (p := ⟨N, 7, none⟩) rfl h
theorem arg_size : (Tryz.prog.info? 48).map (·.size) = some 9 := by kernel_rfl
theorem results_ar {fn : Func} {i : Nat} (hf : fn.results = #[ResultVar.cell i 48]) (tmps : Array Value) (w : World) (N : Nat) (a b c d e f g h l : Value) (hp : tmps.getD i undef = .pointer (some ⟨N, 0, none⟩)) (hg : w.heap[N]? = some (.cells #[a, b, c, d, e, f, g, h, l] 48 (0, 0))) :
  (results fn tmps).run Tryz.prog w = .ok (.agg #[a, b, c, d, e, f, g, h, l]) w := by
 have hp' : tmps[i]?.getD undef = .pointer (some ⟨N, 0, none⟩) := by simpa using hp
 simp [results, hf, hp', asAddr, run_loadVar_row w N 48 48 #[a, b, c, d, e, f, g, h, l] (0, 0) _ hg Tryz.underlying48 rfl arg_size]
theorem arg_plain {B g cap : Nat} {ts : List Tok} (k : Nat) (w : World) (nf : Int) (h : PS B g cap ts w k nf) (t : Tok) (ht : ts[k]? = some t) (hk : t.kind = 1 \/ t.kind = 2 \/ t.kind = 3) :
  Calls Tryz.prog 55 #[.pointer (some ⟨B, 0, none⟩)] w (AX B g cap ts nf w (.ok ⟨t.kind, t.n, t.s, noEx, t.at_⟩ (k + 1))) := by
 have hk1 := h.ok.next _ _ ht (by omega)
 have S0 := SP.start h
 go_enter Tryz.func55, Tryz.ntmps55
 go_wp2_with fail
 obtain ⟨W1, rb, hW, hb1, S1⟩ := SP.box S0 (.cells #[.int .i64 0, .int .i64 0, .string ⟨#[]⟩, .int .i64 0, .int .i64 0, .string ⟨#[]⟩, .slice none 0 0, .int .i64 0, .int .i64 0] 48)
 rw [<- hW, <- hb1]
 clear hW hb1 S0
 refine (next_ps S1.out.ps ht hk1).mono ?_
 rintro e W2 ⟨rfl, hp, ht2⟩
 have S2 := SP.call S1 ht2 hp
 clear S1 hp ht2
 have hz := (SP.boxAt S2 0 rfl).1
 have hrb := (SP.boxAt S2 0 rfl).2.2
 have fq := free_of_box hz
 obtain ⟨r0, r1, r2, r3, r4, r5, r6, r7, r8⟩ := nine_cells hz
 have S3 := SP.put S2 0 rfl (nine_turned W2 rb (.int .i64 t.kind) (.int .i64 t.n) (.string t.s) (.int .i64 0) (.int .i64 0) (.string ⟨#[]⟩) (.slice none 0 0) (.int .i64 0) (.int .i64 t.at_)) (nine_set hz)
 obtain ⟨W4, tb, hW4, -, S4⟩ := SP.box S3 (.cells #[.int .i64 t.kind, .int .i64 t.at_, .string t.s, .int .i64 t.n] 68)
 obtain ⟨W5, ab, hW5, -, S5⟩ := SP.box S4 (.cells #[.int .i64 t.kind, .int .i64 t.n, .string t.s, .int .i64 0, .int .i64 0, .string ⟨#[]⟩, .slice none 0 0, .int .i64 0, .int .i64 t.at_] 48)
 rcases hk with h1 | h1 | h1
 all_goals
  rw [h1] at hW4 hW5 S3 S4 S5
  unfold set9 at hW4
 ·have b1 : (t.kind == 1) = true := by simpa using h1
  go_wp2_with fail
  rw [<- hW4, <- hW5]
  refine bodyPost_ret (results_ar rfl _ _ rb (.int .i64 1) (.int .i64 t.n) (.string t.s) (.int .i64 0) (.int .i64 0) (.string ⟨#[]⟩) (.slice none 0 0) (.int .i64 0) (.int .i64 t.at_) rfl (SP.boxAt S5 2 rfl).1) rfl ?_
  exact ⟨none, 0, by rw [h1]; rfl, .nil _ _, S5.out.ps, S5.out.tur⟩
 ·have b1 : (t.kind == 1) = false := by simp; omega
  have b2 : (t.kind == 2) = true := by simpa using h1
  go_wp2_with fail
  rw [<- hW4, <- hW5]
  refine bodyPost_ret (results_ar rfl _ _ rb (.int .i64 2) (.int .i64 t.n) (.string t.s) (.int .i64 0) (.int .i64 0) (.string ⟨#[]⟩) (.slice none 0 0) (.int .i64 0) (.int .i64 t.at_) rfl (SP.boxAt S5 2 rfl).1) rfl ?_
  exact ⟨none, 0, by rw [h1]; rfl, .nil _ _, S5.out.ps, S5.out.tur⟩
 ·have b1 : (t.kind == 1) = false := by simp; omega
  have b2 : (t.kind == 2) = false := by simp; omega
  have b3 : (t.kind == 3) = true := by simpa using h1
  go_wp2_with fail
  rw [<- hW4, <- hW5]
  refine bodyPost_ret (results_ar rfl _ _ rb (.int .i64 3) (.int .i64 t.n) (.string t.s) (.int .i64 0) (.int .i64 0) (.string ⟨#[]⟩) (.slice none 0 0) (.int .i64 0) (.int .i64 t.at_) rfl (SP.boxAt S5 2 rfl).1) rfl ?_
  exact ⟨none, 0, by rw [h1]; rfl, .nil _ _, S5.out.ps, S5.out.tur⟩
theorem arg_arrow {B g cap : Nat} {ts : List Tok} (k : Nat) (w : World) (nf : Int) (h : PS B g cap ts w k nf) (a : Int) (ht : ts[k]? = some ⟨4, a, ⟨#[45, 62]⟩, 0⟩) :
  Calls Tryz.prog 55 #[.pointer (some ⟨B, 0, none⟩)] w (AX B g cap ts nf w (.ok ⟨4, 0, noB, noEx, a⟩ (k + 1))) := by
 have hk1 := h.ok.next _ _ ht (by simp)
 have S0 := SP.start h
 go_enter Tryz.func55, Tryz.ntmps55
 go_wp2_with fail
 obtain ⟨W1, rb, hW, hb1, S1⟩ := SP.box S0 (.cells #[.int .i64 0, .int .i64 0, .string ⟨#[]⟩, .int .i64 0, .int .i64 0, .string ⟨#[]⟩, .slice none 0 0, .int .i64 0, .int .i64 0] 48)
 rw [<- hW, <- hb1]
 clear hW hb1 S0
 refine (next_ps S1.out.ps ht hk1).mono ?_
 rintro e W2 ⟨rfl, hp, ht2⟩
 have S2 := SP.call S1 ht2 hp
 clear S1 hp ht2
 have hz := (SP.boxAt S2 0 rfl).1
 have hrb := (SP.boxAt S2 0 rfl).2.2
 have fq := free_of_box hz
 obtain ⟨r0, r1, r2, r3, r4, r5, r6, r7, r8⟩ := nine_cells hz
 have S3 := SP.put S2 0 rfl (nine_turned W2 rb (.int .i64 4) (.int .i64 0) (.string ⟨#[]⟩) (.int .i64 0) (.int .i64 0) (.string ⟨#[]⟩) (.slice none 0 0) (.int .i64 0) (.int .i64 a)) (nine_set hz)
 obtain ⟨W4, tb, hW4, -, S4⟩ := SP.box S3 (.cells #[.int .i64 4, .int .i64 a, .string ⟨#[45, 62]⟩, .int .i64 0] 68)
 obtain ⟨W5, ab, hW5, -, S5⟩ := SP.box S4 (.cells #[.int .i64 4, .int .i64 0, .string ⟨#[]⟩, .int .i64 0, .int .i64 0, .string ⟨#[]⟩, .slice none 0 0, .int .i64 0, .int .i64 a] 48)
 unfold set9 at hW4
 go_wp2_with fail
 rw [<- hW4, <- hW5]
 refine bodyPost_ret (results_ar rfl _ _ rb (.int .i64 4) (.int .i64 0) (.string ⟨#[]⟩) (.int .i64 0) (.int .i64 0) (.string ⟨#[]⟩) (.slice none 0 0) (.int .i64 0) (.int .i64 a) rfl (SP.boxAt S5 2 rfl).1) rfl ?_
 exact ⟨none, 0, rfl, .nil _ _, S5.out.ps, S5.out.tur⟩
theorem arg_minus {B g cap : Nat} {ts : List Tok} (k : Nat) (w : World) (nf : Int) (h : PS B g cap ts w k nf) (a : Int) (ht : ts[k]? = some ⟨4, a, ⟨#[45]⟩, 0⟩) (u : Tok) (hu : ts[k + 1]? = some u) (h2 : u.kind = 2) :
  Calls Tryz.prog 55 #[.pointer (some ⟨B, 0, none⟩)] w (AX B g cap ts nf w (.ok ⟨2, -u.n, noB, noEx, a⟩ (k + 2))) := by
 obtain ⟨-, n2, n3⟩ := h.ok.none_ _ _ hu h2
 have hwn : IntKind.i64.wrap (-u.n) = -u.n := IntWalk.i64_in _ (by omega)
 have hk1 := h.ok.next _ _ ht (by simp)
 have S0 := SP.start h
 go_enter Tryz.func55, Tryz.ntmps55
 go_wp2_with fail
 obtain ⟨W1, rb, hW, hb1, S1⟩ := SP.box S0 (.cells #[.int .i64 0, .int .i64 0, .string ⟨#[]⟩, .int .i64 0, .int .i64 0, .string ⟨#[]⟩, .slice none 0 0, .int .i64 0, .int .i64 0] 48)
 rw [<- hW, <- hb1]
 clear hW hb1 S0
 refine (next_ps S1.out.ps ht hk1).mono ?_
 rintro e W2 ⟨rfl, hp, ht2⟩
 have S2 := SP.call S1 ht2 hp
 clear S1 hp ht2
 go_wp2_with fail
 obtain ⟨W3, tb, hW3, hb3, S3⟩ := SP.box S2 (.cells #[.int .i64 4, .int .i64 a, .string ⟨#[45]⟩, .int .i64 0] 68)
 obtain ⟨W4, ab, hW4, hb4, S4⟩ := SP.box S3 (.cells #[.int .i64 0, .int .i64 0, .string ⟨#[]⟩, .int .i64 0, .int .i64 0, .string ⟨#[]⟩, .slice none 0 0, .int .i64 0, .int .i64 a] 48)
 have e4 : ab = W2.heap.size + 1 := by rw [hb4, hW3]; simp
 rw [<- hW3, <- hW4, <- e4, <- hb3]
 clear hW3 hW4 hb3 hb4 e4 S2 S3
 refine (number_ps S4.out.ps hu h2).mono ?_
 rintro e W5 ⟨rfl, hp, ht2⟩
 have S5 := SP.call S4 ht2 hp
 clear S4 hp ht2
 have hz := (SP.boxAt S5 0 rfl).1
 have fq := free_of_box hz
 obtain ⟨x0, x1, x2, x3, x4, x5, x6, x7, x8⟩ := nine_cells hz
 have hzr := (SP.boxAt S5 2 rfl).1
 have fqr := free_of_box hzr
 obtain ⟨r0, r1, r2, r3, r4, r5, r6, r7, r8⟩ := nine_cells hzr
 have hne : rb ≠ ab := dist_ne S5.out.dist (i := 0) (j := 2) rfl rfl (by decide)
 have hne2 : ab ≠ rb := fun h => hne h.symm
 go_wp2_with fail
 have S6 := SP.put S5 0 rfl (nine_turned01 W5 ab (.int .i64 2) (.int .i64 (-u.n))) (nine_set01 hz)
 have S7 := SP.put S6 2 rfl (nine_turned _ rb (.int .i64 2) (.int .i64 (-u.n)) (.string ⟨#[]⟩) (.int .i64 0) (.int .i64 0) (.string ⟨#[]⟩) (.slice none 0 0) (.int .i64 0) (.int .i64 a)) (nine_set (SP.boxAt S6 2 rfl).1)
 refine bodyPost_ret (results_ar rfl _ _ rb (.int .i64 2) (.int .i64 (-u.n)) (.string ⟨#[]⟩) (.int .i64 0) (.int .i64 0) (.string ⟨#[]⟩) (.slice none 0 0) (.int .i64 0) (.int .i64 a) rfl (SP.boxAt S7 2 rfl).1) rfl ?_
 exact ⟨none, 0, rfl, .nil _ _, S7.out.ps, S7.out.tur⟩
theorem arg_minus_no {B g cap : Nat} {ts : List Tok} (k : Nat) (w : World) (nf : Int) (h : PS B g cap ts w k nf) (a : Int) (ht : ts[k]? = some ⟨4, a, ⟨#[45]⟩, 0⟩) (u : Tok) (hu : ts[k + 1]? = some u) (h2 : ¬ u.kind = 2) :
  Calls Tryz.prog 55 #[.pointer (some ⟨B, 0, none⟩)] w (AX B g cap ts nf w (.err (k + 1) 5)) := by
 have hk1 := h.ok.next _ _ ht (by simp)
 have S0 := SP.start h
 go_enter Tryz.func55, Tryz.ntmps55
 go_wp2_with fail
 obtain ⟨W1, rb, hW, hb1, S1⟩ := SP.box S0 (.cells #[.int .i64 0, .int .i64 0, .string ⟨#[]⟩, .int .i64 0, .int .i64 0, .string ⟨#[]⟩, .slice none 0 0, .int .i64 0, .int .i64 0] 48)
 rw [<- hW, <- hb1]
 clear hW hb1 S0
 refine (next_ps S1.out.ps ht hk1).mono ?_
 rintro e W2 ⟨rfl, hp, ht2⟩
 have S2 := SP.call S1 ht2 hp
 clear S1 hp ht2
 go_wp2_with fail
 obtain ⟨W3, tb, hW3, hb3, S3⟩ := SP.box S2 (.cells #[.int .i64 4, .int .i64 a, .string ⟨#[45]⟩, .int .i64 0] 68)
 obtain ⟨W4, ab, hW4, hb4, S4⟩ := SP.box S3 (.cells #[.int .i64 0, .int .i64 0, .string ⟨#[]⟩, .int .i64 0, .int .i64 0, .string ⟨#[]⟩, .slice none 0 0, .int .i64 0, .int .i64 a] 48)
 have e4 : ab = W2.heap.size + 1 := by rw [hb4, hW3]; simp
 rw [<- hW3, <- hW4, <- e4, <- hb3]
 clear hW3 hW4 hb3 hb4 e4 S2 S3
 refine (number_no S4.out.ps hu h2).mono ?_
 rintro e W5 ⟨rfl, rfl⟩
 exact ⟨rfl, rfl, S4.out.tur⟩
theorem arg_paren {B g cap : Nat} {ts : List Tok} (m k : Nat) (r : PR Ar) (w : World) (nf : Int) (h : PS B g cap ts w k nf) (a : Int) (ht : ts[k]? = some ⟨4, a, ⟨#[40]⟩, 0⟩)
  (hr : (PR.then_ (runF ts m .expr (k + 1) 1) fun x j => match ts[j]? with | none => none | some u => if isS u ⟨#[41]⟩ then some (.ok ⟨5, 0, noB, x, a⟩ (j + 1)) else some (.err j 5)) = some r) :
  Calls Tryz.prog 55 #[.pointer (some ⟨B, 0, none⟩)] w (AX B g cap ts nf w r) := by
 have hk1 := h.ok.next _ _ ht (by simp)
 have S0 := SP.start h
 go_enter Tryz.func55, Tryz.ntmps55
 go_wp2_with fail
 obtain ⟨W1, rb, hW, hb1, S1⟩ := SP.box S0 (.cells #[.int .i64 0, .int .i64 0, .string ⟨#[]⟩, .int .i64 0, .int .i64 0, .string ⟨#[]⟩, .slice none 0 0, .int .i64 0, .int .i64 0] 48)
 rw [<- hW, <- hb1]
 clear hW hb1 S0
 refine (next_ps S1.out.ps ht hk1).mono ?_
 rintro e W2 ⟨rfl, hp, ht2⟩
 have S2 := SP.call S1 ht2 hp
 clear S1 hp ht2
 go_wp2_with fail
 obtain ⟨W3, tb, hW3, hb3, S3⟩ := SP.box S2 (.cells #[.int .i64 4, .int .i64 a, .string ⟨#[40]⟩, .int .i64 0] 68)
 obtain ⟨W4, ab, hW4, hb4, S4⟩ := SP.box S3 (.cells #[.int .i64 0, .int .i64 0, .string ⟨#[]⟩, .int .i64 0, .int .i64 0, .string ⟨#[]⟩, .slice none 0 0, .int .i64 0, .int .i64 a] 48)
 have e4 : ab = W2.heap.size + 1 := by rw [hb4, hW3]; simp
 rw [<- hW3, <- hW4, <- e4, <- hb3]
 clear hW3 hW4 hb3 hb4 e4 S2 S3
 rcases PR.then_some hr with ⟨j, c, h1, rfl⟩ | ⟨x, j, h1, h2⟩
 ·refine (expr_ps m (k + 1) 1 _ _ nf (by omega) (by omega) h1 S4.out.ps).mono ?_
  rintro e W5 ⟨rfl, ht2⟩
  exact ⟨rfl, rfl, S4.out.tur.trans ht2⟩
 refine (expr_ps m (k + 1) 1 _ _ nf (by omega) (by omega) h1 S4.out.ps).mono ?_
 rintro e W5 ⟨p, c, rfl, hk, hp, ht2⟩
 have S5 := SP.callK S4 ht2 hp hk
 clear S4 hk hp ht2 hr
 obtain ⟨u, hu⟩ := some_of_lt S5.out.ps.lt
 simp only [hu] at h2
 have hz := (SP.boxAt S5 0 rfl).1
 have fq := free_of_box hz
 obtain ⟨x0, x1, x2, x3, x4, x5, x6, x7, x8⟩ := nine_cells hz
 go_wp2_with fail
 have S6 := SP.put S5 0 rfl (turnedE W5 ab (.int .i64 5) (.int .i64 x.op) (.int .i64 x.n) (.string x.s) (.slice p x.kids.length c) (.int .i64 x.at_)) (nine_setE hz)
 obtain ⟨W6, hW6⟩ : ∃ W6, W6 = setE W5 ab (.int .i64 5) (.int .i64 x.op) (.int .i64 x.n) (.string x.s) (.slice p x.kids.length c) (.int .i64 x.at_) := ⟨_, rfl⟩
 rw [<- hW6] at S6
 unfold setE at hW6
 rw [<- hW6]
 clear hW6 hz fq x0 x1 x2 x3 x4 x5 x6 x7 x8 S5
 by_cases hc : isS u ⟨#[41]⟩ = true
 ·rw [if_pos hc] at h2
  cases h2
  refine (need_ps S6.out.ps hu _ hc).mono ?_
  rintro e W7 ⟨rfl, hp, ht2⟩
  have S7 := SP.call S6 ht2 hp
  clear S6 hp ht2
  obtain ⟨x0, x1, x2, x3, x4, x5, x6, x7, x8⟩ := nine_cells (SP.boxAt S7 0 rfl).1
  have hz := (SP.boxAt S7 2 rfl).1
  have fq := free_of_box hz
  obtain ⟨r0, r1, r2, r3, r4, r5, r6, r7, r8⟩ := nine_cells hz
  go_wp2_with fail
  have S8 := SP.put S7 2 rfl (nine_turned _ rb (.int .i64 5) (.int .i64 0) (.string ⟨#[]⟩) (.int .i64 x.op) (.int .i64 x.n) (.string x.s) (.slice p x.kids.length c) (.int .i64 x.at_) (.int .i64 a)) (nine_set hz)
  refine bodyPost_ret (results_ar rfl _ _ rb (.int .i64 5) (.int .i64 0) (.string ⟨#[]⟩) (.int .i64 x.op) (.int .i64 x.n) (.string x.s) (.slice p x.kids.length c) (.int .i64 x.at_) (.int .i64 a) rfl (SP.boxAt S8 2 rfl).1) rfl ?_
  exact ⟨p, c, rfl, SP.kidAt S8 0 rfl, S8.out.ps, S8.out.tur⟩
 ·have hc : isS u ⟨#[41]⟩ = false := by simpa using hc
  rw [if_neg (by rw [hc]; decide)] at h2
  cases h2
  refine (need_no S6.out.ps hu _ hc).mono ?_
  rintro e W7 ⟨rfl, rfl⟩
  exact ⟨rfl, rfl, S6.out.tur⟩
theorem arg_step {B g cap : Nat} {ts : List Tok} (m k : Nat) (r : PR Ar) (w : World) (nf : Int) (hr : argF ts m k = some r) (h : PS B g cap ts w k nf) (hb : ∀ t, ts[k]? = some t -> beginsT t = true \/ isS t ⟨#[45, 62]⟩ = true) :
  Calls Tryz.prog 55 #[.pointer (some ⟨B, 0, none⟩)] w (AX B g cap ts nf w r) := by
 obtain ⟨t, ht⟩ := some_of_lt h.lt
 have hb := hb t ht
 unfold argF at hr
 simp only [ht] at hr
 by_cases h13 : t.kind = 1 \/ t.kind = 3
 ·rw [if_pos h13] at hr
  cases hr
  have := arg_plain (B := B) (g := g) (cap := cap) k w nf h t ht (by omega)
  rw [h.ok.zero k t ht (by omega)] at this
  exact this
 rw [if_neg h13] at hr
 by_cases h2 : t.kind = 2
 ·rw [if_pos h2] at hr
  cases hr
  have := arg_plain (B := B) (g := g) (cap := cap) k w nf h t ht (by omega)
  rw [h2, (h.ok.none_ k t ht h2).1] at this
  exact this
 rw [if_neg h2] at hr
 have h4 : t.kind = 4 := by
  rcases hb with hb | hb
  ·unfold beginsT at hb
   simp only [Bool.or_eq_true, beq_iff_eq] at hb
   rcases hb with (((hb | hb) | hb) | hb) | hb
   ·omega
   ·omega
   ·omega
   ·exact isS_kind hb
   ·exact isS_kind hb
  ·exact isS_kind hb
 have h0 := h.ok.zero k t ht (.inr (.inr h4))
 by_cases ha : isS t ⟨#[45, 62]⟩ = true
 ·rw [if_pos ha] at hr
  cases hr
  have hs := isS_s ha
  obtain ⟨tk, ta, tss, tn⟩ := t
  simp only at h4 h0 hs
  subst h4 h0 hs
  exact arg_arrow k w nf h ta ht
 rw [if_neg ha] at hr
 by_cases hm : isS t ⟨#[45]⟩ = true
 ·rw [if_pos hm] at hr
  have hk1 := h.ok.sign ht hm
  obtain ⟨u, hu⟩ := some_of_lt hk1
  simp only [hu] at hr
  have hs := isS_s hm
  obtain ⟨tk, ta, tss, tn⟩ := t
  simp only at h4 h0 hs
  subst h4 h0 hs
  by_cases hu2 : u.kind = 2
  ·rw [if_pos hu2] at hr
   cases hr
   exact arg_minus k w nf h ta ht u hu hu2
  ·rw [if_neg hu2] at hr
   cases hr
   exact arg_minus_no k w nf h ta ht u hu hu2
 rw [if_neg hm] at hr
 have hp : isS t ⟨#[40]⟩ = true := by
  rcases hb with hb | hb
  ·unfold beginsT at hb
   simp only [Bool.or_eq_true, beq_iff_eq] at hb
   rcases hb with (((hb | hb) | hb) | hb) | hb
   ·omega
   ·omega
   ·omega
   ·exact hb
   ·exact absurd hb hm
  ·exact absurd hb ha
 have hs := isS_s hp
 obtain ⟨tk, ta, tss, tn⟩ := t
 simp only at h4 h0 hs
 subst h4 h0 hs
 exact arg_paren m k r w nf h ta ht hr
end Go.Proofs.YtjijdgkccfeeaaaGreatDoor
