/- Part 25 of the proof of card: ParRefI. Conditions: those of each theorem. -/
import Derived.Test.YtjijdgkccfeeaaaGreatDoorPt01
import Derived.Test.YtjijdgkccfeeaaaGreatDoorPt24
set_option maxRecDepth 20000
set_option maxHeartbeats 8000000
namespace Go.Proofs.YtjijdgkccfeeaaaGreatDoor
open Go Go.Proofs Go.RowKit
attribute [local go_sem] Oper.semAt_some
def AXG (w : World) (r : PR Ar) (e : Ending) (w' : World) : Prop :=
 Turned (fun _ => False) w w' /\ match r with
 | .ok x j => ∃ p c, e = .returned (.agg #[.int .i64 x.kind, .int .i64 x.n, .string x.s, .int .i64 x.e.op, .int .i64 x.e.n, .string x.e.s, .slice p x.e.kids.length c, .int .i64 x.e.at_, .int .i64 x.at_, (.int .i64 ((j : Nat))), .int .i64 0]) /\ KidsAt w' (fun b => w.heap.size <= b) x.e.kids (.slice p x.e.kids.length c)
 | .err j c => e = .returned (.agg #[.int .i64 0, .int .i64 0, .string ⟨#[]⟩, .int .i64 0, .int .i64 0, .string ⟨#[]⟩, .slice none 0 0, .int .i64 0, .int .i64 0, (.int .i64 ((j : Nat))), .int .i64 c])
theorem elf_cells {V : World} {N t : Nat} {a b c d e f g h i j k : Value} (hh : V.heap[N]? = some (.cells #[a, b, c, d, e, f, g, h, i, j, k] t (0, 0))) : V.cell? ⟨N, 0, none⟩ = some a /\ V.cell? ⟨N, 1, none⟩ = some b /\ V.cell? ⟨N, 2, none⟩ = some c /\ V.cell? ⟨N, 3, none⟩ = some d /\ V.cell? ⟨N, 4, none⟩ = some e /\ V.cell? ⟨N, 5, none⟩ = some f /\ V.cell? ⟨N, 6, none⟩ = some g /\ V.cell? ⟨N, 7, none⟩ = some h /\ V.cell? ⟨N, 8, none⟩ = some i /\ V.cell? ⟨N, 9, none⟩ = some j /\ V.cell? ⟨N, 10, none⟩ = some k := by
 simp [World.cell?, hh]
def set11 (V : World) (N : Nat) (a b c d e f g h i j k : Value) : World := (((((((((((V.setCell ⟨N, 0, none⟩ a).setCell ⟨N, 1, none⟩ b).setCell ⟨N, 2, none⟩ c).setCell ⟨N, 3, none⟩ d).setCell ⟨N, 4, none⟩ e).setCell ⟨N, 5, none⟩ f).setCell ⟨N, 6, none⟩ g).setCell ⟨N, 7, none⟩ h).setCell ⟨N, 8, none⟩ i).setCell ⟨N, 9, none⟩ j).setCell ⟨N, 10, none⟩ k)
theorem elf_set {V : World} {N t : Nat} {a b c d e f g h i j k a' b' c' d' e' f' g' h' i' j' k' : Value} (hh : V.heap[N]? = some (.cells #[a, b, c, d, e, f, g, h, i, j, k] t (0, 0))) : (set11 V N a' b' c' d' e' f' g' h' i' j' k').heap[N]? = some (.cells #[a', b', c', d', e', f', g', h', i', j', k'] t (0, 0)) := by
 simp [set11, World.setCell, Array.getElem?_modify, hh]
theorem elf_turned (V : World) (N : Nat) (a b c d e f g h i j k : Value) : Turned (fun c => c = N) V (set11 V N a b c d e f g h i j k) :=
 (((((((((((Turned.refl (fun c => c = N) V).setCell (p := ⟨N, 0, none⟩) rfl a).setCell (p := ⟨N, 1, none⟩) rfl b).setCell (p := ⟨N, 2, none⟩) rfl c).setCell (p := ⟨N, 3, none⟩) rfl d).setCell (p := ⟨N, 4, none⟩) rfl e).setCell (p := ⟨N, 5, none⟩) rfl f).setCell (p := ⟨N, 6, none⟩) rfl g).setCell (p := ⟨N, 7, none⟩) rfl h).setCell (p := ⟨N, 8, none⟩) rfl i).setCell (p := ⟨N, 9, none⟩) rfl j).setCell (p := ⟨N, 10, none⟩) rfl k
theorem sarg_size : (Tryz.prog.info? 121).map (·.size) = some 11 := by kernel_rfl
theorem results_sarg {fn : Func} {i0 : Nat} (hf : fn.results = #[ResultVar.cell i0 121]) (tmps : Array Value) (w : World) (N : Nat) (a b c d e f g h i j k : Value) (hp : tmps.getD i0 undef = .pointer (some ⟨N, 0, none⟩)) (hg : w.heap[N]? = some (.cells #[a, b, c, d, e, f, g, h, i, j, k] 121 (0, 0))) :
  (results fn tmps).run Tryz.prog w = .ok (.agg #[a, b, c, d, e, f, g, h, i, j, k]) w := by
 have hp' : tmps[i0]?.getD undef = .pointer (some ⟨N, 0, none⟩) := by simpa using hp
 simp [results, hf, hp', asAddr, run_loadVar_row w N 121 121 #[a, b, c, d, e, f, g, h, i, j, k] (0, 0) _ hg Tryz.underlying121 rfl sarg_size]
theorem rarg_plain {g cap : Nat} {ts : List Tok} (k : Nat) (w : World) (h : TQ g cap ts w) (t : Tok) (ht : ts[k]? = some t) (h1 : 1 <= t.kind) (h3 : t.kind <= 3) :
  Calls Tryz.prog 63 #[.slice (some ⟨g, 0, none⟩) ts.length cap, (.int .i64 ((k : Nat)))] w (AXG w (.ok ⟨t.kind, t.n, t.s, noEx, t.at_⟩ (k + 1))) := by
 have hkl := lt_of_some ht
 have hkl2 : (k : Int) < (ts.length : Int) := by omega
 have hln := h.ok.len
 have hwk : IntKind.i64.wrap ((k : Int) + 1) = (k : Int) + 1 := IntWalk.i64_in _ (by omega)
 have hwk2 : IntKind.i64.wrap ((k : Int) + 2) = (k : Int) + 2 := IntWalk.i64_in _ (by omega)
 obtain ⟨t0, t1, t2, t3⟩ := h.tok ht
 have hg := h.ltg
 have S0 := SQ.start h
 obtain ⟨W1, rb, hW1, hb1, S1⟩ := SQ.box S0 (.cells #[.int .i64 0, .int .i64 0, .string ⟨#[]⟩, .int .i64 0, .int .i64 0, .string ⟨#[]⟩, .slice none 0 0, .int .i64 0, .int .i64 0, .int .i64 0, .int .i64 0] 121)
 obtain ⟨W2, tb, hW2, hb2, S2⟩ := SQ.box S1 (.cells #[.int .i64 t.kind, .int .i64 t.at_, .string t.s, .int .i64 t.n] 68)
 have e2 : tb = w.heap.size + 1 := by rw [hb2, hW1]; simp
 clear hW1 hW2 hb1 hb2 e2 S1 S2
 go_enter Tryz.func63, Tryz.ntmps63
 go_wp2_with fail
 obtain ⟨WA, ra, hWA, hba, SA⟩ := SQ.box S0 (.cells #[.int .i64 t.kind, .int .i64 t.n, .string t.s, .int .i64 0, .int .i64 0, .string ⟨#[]⟩, .slice none 0 0, .int .i64 0, .int .i64 t.at_, (.int .i64 ((k : Int) + 1)), .int .i64 0] 121)
 obtain ⟨WB, ta, hWB, hbb, SB⟩ := SQ.box SA (.cells #[.int .i64 t.kind, .int .i64 t.at_, .string t.s, .int .i64 t.n] 68)
 rw [<- hWA, <- hWB, <- hba]
 refine bodyPost_ret (results_sarg rfl _ _ ra (.int .i64 t.kind) (.int .i64 t.n) (.string t.s) (.int .i64 0) (.int .i64 0) (.string ⟨#[]⟩) (.slice none 0 0) (.int .i64 0) (.int .i64 t.at_) (.int .i64 ((k : Int) + 1)) (.int .i64 0) rfl (SQ.boxAt SB 1 rfl).1) rfl ?_
 exact ⟨SB.out.tur, none, 0, by simp [noEx, Ex.op, Ex.n, Ex.s, Ex.at_, Ex.kids, noB], .nil _ _⟩
theorem rarg_arrow {g cap : Nat} {ts : List Tok} (k : Nat) (w : World) (h : TQ g cap ts w) (a : Int) (ht : ts[k]? = some ⟨4, a, ⟨#[45, 62]⟩, 0⟩) :
  Calls Tryz.prog 63 #[.slice (some ⟨g, 0, none⟩) ts.length cap, (.int .i64 ((k : Nat)))] w (AXG w (.ok ⟨4, 0, noB, noEx, a⟩ (k + 1))) := by
 have hkl := lt_of_some ht
 have hkl2 : (k : Int) < (ts.length : Int) := by omega
 have hln := h.ok.len
 have hwk : IntKind.i64.wrap ((k : Int) + 1) = (k : Int) + 1 := IntWalk.i64_in _ (by omega)
 have hwk2 : IntKind.i64.wrap ((k : Int) + 2) = (k : Int) + 2 := IntWalk.i64_in _ (by omega)
 obtain ⟨t0, t1, t2, t3⟩ := h.tok ht
 have hg := h.ltg
 have S0 := SQ.start h
 obtain ⟨W1, rb, hW1, hb1, S1⟩ := SQ.box S0 (.cells #[.int .i64 0, .int .i64 0, .string ⟨#[]⟩, .int .i64 0, .int .i64 0, .string ⟨#[]⟩, .slice none 0 0, .int .i64 0, .int .i64 0, .int .i64 0, .int .i64 0] 121)
 obtain ⟨W2, tb, hW2, hb2, S2⟩ := SQ.box S1 (.cells #[.int .i64 4, .int .i64 a, .string ⟨#[45, 62]⟩, .int .i64 0] 68)
 have e2 : tb = w.heap.size + 1 := by rw [hb2, hW1]; simp
 simp only at t0 t1 t2 t3
 go_enter Tryz.func63, Tryz.ntmps63
 go_wp2_with fail
 rw [<- hW1, <- hW2, <- e2, <- hb1]
 clear hW1 hW2 e2 hb1 hb2 S0 S1 t0 t1 t2 t3
 refine (sign_tq S2.out.tq ht _ rfl _).mono ?_
 rintro e W3 ⟨rfl, rfl⟩
 have hs : isS ⟨4, a, ⟨#[45, 62]⟩, 0⟩ ⟨#[45, 62]⟩ = true := rfl
 have hz2 := (SQ.boxAt S2 1 rfl).1
 obtain ⟨r0, r1, r2, r3, r4, r5, r6, r7, r8, r9, r10⟩ := elf_cells hz2
 have fq := free_of_box hz2
 obtain ⟨q0, q1, q2, q3⟩ := cellsFour (SQ.boxAt S2 0 rfl).1
 go_wp2_with fail
 have SB := SQ.put S2 1 rfl (elf_turned _ rb (.int .i64 4) (.int .i64 0) (.string ⟨#[]⟩) (.int .i64 0) (.int .i64 0) (.string ⟨#[]⟩) (.slice none 0 0) (.int .i64 0) (.int .i64 a) (.int .i64 ((k : Int) + 1)) (.int .i64 0)) (elf_set hz2)
 refine bodyPost_ret (results_sarg rfl _ _ rb (.int .i64 4) (.int .i64 0) (.string ⟨#[]⟩) (.int .i64 0) (.int .i64 0) (.string ⟨#[]⟩) (.slice none 0 0) (.int .i64 0) (.int .i64 a) (.int .i64 ((k : Int) + 1)) (.int .i64 0) rfl (SQ.boxAt SB 1 rfl).1) rfl ?_
 exact ⟨SB.out.tur, none, 0, by simp [noEx, Ex.op, Ex.n, Ex.s, Ex.at_, Ex.kids, noB], .nil _ _⟩
theorem rarg_minus_no {g cap : Nat} {ts : List Tok} (k : Nat) (w : World) (h : TQ g cap ts w) (a : Int) (ht : ts[k]? = some ⟨4, a, ⟨#[45]⟩, 0⟩) (u : Tok) (hu : ts[k + 1]? = some u) (h2 : ¬ u.kind = 2) :
  Calls Tryz.prog 63 #[.slice (some ⟨g, 0, none⟩) ts.length cap, (.int .i64 ((k : Nat)))] w (AXG w (.err (k + 1) 5)) := by
 have hkl := lt_of_some ht
 have hkl2 : (k : Int) < (ts.length : Int) := by omega
 have hln := h.ok.len
 have hwk : IntKind.i64.wrap ((k : Int) + 1) = (k : Int) + 1 := IntWalk.i64_in _ (by omega)
 have hwk2 : IntKind.i64.wrap ((k : Int) + 2) = (k : Int) + 2 := IntWalk.i64_in _ (by omega)
 obtain ⟨t0, t1, t2, t3⟩ := h.tok ht
 have hg := h.ltg
 have S0 := SQ.start h
 obtain ⟨W1, rb, hW1, hb1, S1⟩ := SQ.box S0 (.cells #[.int .i64 0, .int .i64 0, .string ⟨#[]⟩, .int .i64 0, .int .i64 0, .string ⟨#[]⟩, .slice none 0 0, .int .i64 0, .int .i64 0, .int .i64 0, .int .i64 0] 121)
 obtain ⟨W2, tb, hW2, hb2, S2⟩ := SQ.box S1 (.cells #[.int .i64 4, .int .i64 a, .string ⟨#[45]⟩, .int .i64 0] 68)
 have e2 : tb = w.heap.size + 1 := by rw [hb2, hW1]; simp
 simp only at t0 t1 t2 t3
 go_enter Tryz.func63, Tryz.ntmps63
 go_wp2_with fail
 rw [<- hW1, <- hW2, <- e2, <- hb1]
 clear hW1 hW2 e2 hb1 hb2 S0 S1 t0 t1 t2 t3
 refine (sign_tq S2.out.tq ht _ rfl _).mono ?_
 rintro e W3 ⟨rfl, rfl⟩
 have hs : isS ⟨4, a, ⟨#[45]⟩, 0⟩ ⟨#[45, 62]⟩ = false := rfl
 go_wp2_with fail
 clear hs
 refine (sign_tq S2.out.tq ht _ rfl _).mono ?_
 rintro e W4 ⟨rfl, rfl⟩
 have hs : isS ⟨4, a, ⟨#[45]⟩, 0⟩ ⟨#[45]⟩ = true := rfl
 have hul := lt_of_some hu
 have hul2 : (k : Int) + 1 < (ts.length : Int) := by omega
 have hn1 : ((k : Int) + 1).toNat = k + 1 := by omega
 have hne : (u.kind != 2) = true := by simpa using h2
 obtain ⟨u0, u1, u2, u3⟩ := S2.out.tq.tok hu
 have hz2 := (SQ.boxAt S2 1 rfl).1
 obtain ⟨r0, r1, r2, r3, r4, r5, r6, r7, r8, r9, r10⟩ := elf_cells hz2
 have fq := free_of_box hz2
 obtain ⟨q0, q1, q2, q3⟩ := cellsFour (SQ.boxAt S2 0 rfl).1
 go_wp2_with fail
 have SB := SQ.put S2 1 rfl (elf_turned _ rb (.int .i64 0) (.int .i64 0) (.string ⟨#[]⟩) (.int .i64 0) (.int .i64 0) (.string ⟨#[]⟩) (.slice none 0 0) (.int .i64 0) (.int .i64 0) (.int .i64 ((k : Int) + 1)) (.int .i64 5)) (elf_set hz2)
 refine bodyPost_ret (results_sarg rfl _ _ rb (.int .i64 0) (.int .i64 0) (.string ⟨#[]⟩) (.int .i64 0) (.int .i64 0) (.string ⟨#[]⟩) (.slice none 0 0) (.int .i64 0) (.int .i64 0) (.int .i64 ((k : Int) + 1)) (.int .i64 5) rfl (SQ.boxAt SB 1 rfl).1) rfl ?_
 exact ⟨SB.out.tur, by simp⟩
theorem rarg_minus {g cap : Nat} {ts : List Tok} (k : Nat) (w : World) (h : TQ g cap ts w) (a : Int) (ht : ts[k]? = some ⟨4, a, ⟨#[45]⟩, 0⟩) (u : Tok) (hu : ts[k + 1]? = some u) (h2 : u.kind = 2) :
  Calls Tryz.prog 63 #[.slice (some ⟨g, 0, none⟩) ts.length cap, (.int .i64 ((k : Nat)))] w (AXG w (.ok ⟨2, -u.n, noB, noEx, a⟩ (k + 2))) := by
 obtain ⟨-, n2, n3⟩ := h.ok.none_ _ _ hu h2
 have hwn : IntKind.i64.wrap (-u.n) = -u.n := IntWalk.i64_in _ (by omega)
 have hne : (u.kind != 2) = false := by simpa using h2
 clear h2
 have hkl := lt_of_some ht
 have hkl2 : (k : Int) < (ts.length : Int) := by omega
 have hln := h.ok.len
 have hwk : IntKind.i64.wrap ((k : Int) + 1) = (k : Int) + 1 := IntWalk.i64_in _ (by omega)
 have hwk2 : IntKind.i64.wrap ((k : Int) + 2) = (k : Int) + 2 := IntWalk.i64_in _ (by omega)
 obtain ⟨t0, t1, t2, t3⟩ := h.tok ht
 have hg := h.ltg
 have S0 := SQ.start h
 obtain ⟨W1, rb, hW1, hb1, S1⟩ := SQ.box S0 (.cells #[.int .i64 0, .int .i64 0, .string ⟨#[]⟩, .int .i64 0, .int .i64 0, .string ⟨#[]⟩, .slice none 0 0, .int .i64 0, .int .i64 0, .int .i64 0, .int .i64 0] 121)
 obtain ⟨W2, tb, hW2, hb2, S2⟩ := SQ.box S1 (.cells #[.int .i64 4, .int .i64 a, .string ⟨#[45]⟩, .int .i64 0] 68)
 have e2 : tb = w.heap.size + 1 := by rw [hb2, hW1]; simp
 simp only at t0 t1 t2 t3
 go_enter Tryz.func63, Tryz.ntmps63
 go_wp2_with fail
 rw [<- hW1, <- hW2, <- e2, <- hb1]
 clear hW1 hW2 e2 hb1 hb2 S0 S1 t0 t1 t2 t3
 refine (sign_tq S2.out.tq ht _ rfl _).mono ?_
 rintro e W3 ⟨rfl, rfl⟩
 have hs : isS ⟨4, a, ⟨#[45]⟩, 0⟩ ⟨#[45, 62]⟩ = false := rfl
 go_wp2_with fail
 clear hs
 refine (sign_tq S2.out.tq ht _ rfl _).mono ?_
 rintro e W4 ⟨rfl, rfl⟩
 have hs : isS ⟨4, a, ⟨#[45]⟩, 0⟩ ⟨#[45]⟩ = true := rfl
 have hul := lt_of_some hu
 have hul2 : (k : Int) + 1 < (ts.length : Int) := by omega
 have hn1 : ((k : Int) + 1).toNat = k + 1 := by omega
 obtain ⟨u0, u1, u2, u3⟩ := S2.out.tq.tok hu
 go_wp2_with fail
 refine region_R (R := fun q V => q < 13 -> (fun V : World => V.cell? ⟨g, (k + 1) * 4 + 3, none⟩ = some (.int .i64 u.n) /\ V.cell? ⟨tb, 1, none⟩ = some (.int .i64 a)) V) (by kernel_rfl) ?_
 obtain ⟨Wd, hWd⟩ : ∃ Wd, Wd = W2.drew := ⟨_, rfl⟩
 rw [<- hWd]
 have S3 := SQ.same S2 (Turned.refl _ _).drew
 rw [<- hWd] at S3
 clear hWd S2 u0 u1 u2 u3
 obtain ⟨u0, u1, u2, u3⟩ := S3.out.tq.tok hu
 obtain ⟨q0, q1, q2, q3⟩ := cellsFour (SQ.boxAt S3 0 rfl).1
 refine tk (n := 13) 0 (.slice (some ⟨g, 0, none⟩) ts.length cap) rfl (.inl ⟨by rfl, ?_⟩) ⟨u3, q1⟩ ?_
 ·rintro V ⟨v0, v1⟩
  go_simp
 simp only [zz0, zz1, Act.put, zz3, zz4, zz5]
 refine tk (n := 13) 1 (.int .i64 ((k : Nat))) rfl (.inl ⟨by rfl, ?_⟩) ⟨u3, q1⟩ ?_
 ·rintro V ⟨v0, v1⟩
  go_simp
 simp only [zz0, zz1, zz2, Act.put, zz3, zz4, zz5]
 refine tk (n := 13) 2 (.int .i64 ((k : Int) + 1)) rfl (.inl ⟨by rfl, ?_⟩) ⟨u3, q1⟩ ?_
 ·rintro V ⟨v0, v1⟩
  go_simp
 simp only [zz0, zz1, zz2, Act.put, zz3, zz4, zz5]
 refine tk (n := 13) 3 (.pointer (some ⟨g, (k + 1) * 4, none⟩)) rfl (.inl ⟨by rfl, ?_⟩) ⟨u3, q1⟩ ?_
 ·rintro V ⟨v0, v1⟩
  go_simp; intro h9; omega
 simp only [zz0, zz1, zz2, Act.put, zz3, zz4, zz5]
 refine tk (n := 13) 4 (.pointer (some ⟨g, (k + 1) * 4 + 3, none⟩)) rfl (.inl ⟨by rfl, ?_⟩) ⟨u3, q1⟩ ?_
 ·rintro V ⟨v0, v1⟩
  go_simp
 simp only [zz0, zz1, zz2, Act.put, zz3, zz4, zz5]
 refine tk (n := 13) 5 (.int .i64 u.n) rfl (.inl ⟨by rfl, ?_⟩) ⟨u3, q1⟩ ?_
 ·rintro V ⟨v0, v1⟩
  go_simp
 simp only [zz0, zz1, zz2, Act.put, zz3, zz4, zz5]
 refine tk (n := 13) 6 (.int .i64 (-u.n)) rfl (.inl ⟨by rfl, ?_⟩) ⟨u3, q1⟩ ?_
 ·rintro V ⟨v0, v1⟩
  go_simp
 simp only [zz0, zz1, zz2, Act.put, zz3, zz4, zz5]
 refine tk (n := 13) 7 (.pointer (some ⟨tb, 1, none⟩)) rfl (.inl ⟨by rfl, ?_⟩) ⟨u3, q1⟩ ?_
 ·rintro V ⟨v0, v1⟩
  go_simp
 simp only [zz0, zz1, zz2, Act.put, zz3, zz4, zz5]
 refine tk (n := 13) 8 (.int .i64 a) rfl (.inl ⟨by rfl, ?_⟩) ⟨u3, q1⟩ ?_
 ·rintro V ⟨v0, v1⟩
  go_simp
 simp only [zz0, zz1, zz2, Act.put, zz3, zz4, zz5]
 refine tk (n := 13) 9 (.agg #[.int .i64 2, (.int .i64 (-u.n)), .string ⟨#[]⟩, .int .i64 0, .int .i64 0, .string ⟨#[]⟩, .slice none 0 0, .int .i64 0, .int .i64 a]) rfl (.inl ⟨by rfl, ?_⟩) ⟨u3, q1⟩ ?_
 ·rintro V ⟨v0, v1⟩
  go_simp
 simp only [zz0, zz1, zz2, Act.put, zz3, zz4, zz5]
 refine tk (n := 13) 10 (.int .i64 ((k : Nat))) rfl (.inl ⟨by rfl, ?_⟩) ⟨u3, q1⟩ ?_
 ·rintro V ⟨v0, v1⟩
  go_simp
 simp only [zz0, zz1, zz2, Act.put, zz3, zz4, zz5]
 refine tk (n := 13) 11 (.int .i64 ((k : Int) + 2)) rfl (.inl ⟨by rfl, ?_⟩) ⟨u3, q1⟩ ?_
 ·rintro V ⟨v0, v1⟩
  go_simp
 simp only [zz0, zz1, zz2, Act.put, zz3, zz4, zz5]
 refine tk (n := 13) 12 (.agg #[.int .i64 2, (.int .i64 (-u.n)), .string ⟨#[]⟩, .int .i64 0, .int .i64 0, .string ⟨#[]⟩, .slice none 0 0, .int .i64 0, .int .i64 a, (.int .i64 ((k : Int) + 2)), .int .i64 0]) rfl (.inl ⟨by rfl, ?_⟩) ⟨u3, q1⟩ ?_
 ·rintro V ⟨v0, v1⟩
  go_simp
 simp only [zz0, zz1, zz2, Act.put, zz3, zz4, zz5]
 have hz2 := (SQ.boxAt S3 1 rfl).1
 obtain ⟨r0, r1, r2, r3, r4, r5, r6, r7, r8, r9, r10⟩ := elf_cells hz2
 have fq := free_of_box hz2
 refine wpAnyR_all (rs := [13]) (by kernel_rfl) (by simp) (fun i2 hi2 => ?_)
 obtain rfl : i2 = 13 := by simpa using hi2
 clear hi2
 refine wpOp_plain rfl rfl ?_
 simp only [zz0, zz1, zz2]
 go_simp
 refine wpAnyR_done (by kernel_rfl) ?_ _
 go_wp2_with fail
 have SB := SQ.put S3 1 rfl (elf_turned _ rb (.int .i64 2) (.int .i64 (-u.n)) (.string ⟨#[]⟩) (.int .i64 0) (.int .i64 0) (.string ⟨#[]⟩) (.slice none 0 0) (.int .i64 0) (.int .i64 a) (.int .i64 ((k : Int) + 2)) (.int .i64 0)) (elf_set hz2)
 refine bodyPost_ret (results_sarg rfl _ _ rb (.int .i64 2) (.int .i64 (-u.n)) (.string ⟨#[]⟩) (.int .i64 0) (.int .i64 0) (.string ⟨#[]⟩) (.slice none 0 0) (.int .i64 0) (.int .i64 a) (.int .i64 ((k : Int) + 2)) (.int .i64 0) rfl (SQ.boxAt SB 1 rfl).1) rfl ?_
 exact ⟨SB.out.tur, none, 0, by simp [noEx, Ex.op, Ex.n, Ex.s, Ex.at_, Ex.kids, noB], .nil _ _⟩
theorem rarg_paren {g cap : Nat} {ts : List Tok} (m k : Nat) (r : PR Ar) (w : World) (h : TQ g cap ts w) (a : Int) (ht : ts[k]? = some ⟨4, a, ⟨#[40]⟩, 0⟩)
  (hr : (PR.then_ (runF ts m .expr (k + 1) 1) fun x j => match ts[j]? with | none => none | some u => if isS u ⟨#[41]⟩ then some (.ok ⟨5, 0, noB, x, a⟩ (j + 1)) else some (.err j 5)) = some r) :
  Calls Tryz.prog 63 #[.slice (some ⟨g, 0, none⟩) ts.length cap, (.int .i64 ((k : Nat)))] w (AXG w r) := by
 have hkl := lt_of_some ht
 have hkl2 : (k : Int) < (ts.length : Int) := by omega
 have hln := h.ok.len
 have hwk : IntKind.i64.wrap ((k : Int) + 1) = (k : Int) + 1 := IntWalk.i64_in _ (by omega)
 have hwk2 : IntKind.i64.wrap ((k : Int) + 2) = (k : Int) + 2 := IntWalk.i64_in _ (by omega)
 obtain ⟨t0, t1, t2, t3⟩ := h.tok ht
 have hg := h.ltg
 have S0 := SQ.start h
 obtain ⟨W1, rb, hW1, hb1, S1⟩ := SQ.box S0 (.cells #[.int .i64 0, .int .i64 0, .string ⟨#[]⟩, .int .i64 0, .int .i64 0, .string ⟨#[]⟩, .slice none 0 0, .int .i64 0, .int .i64 0, .int .i64 0, .int .i64 0] 121)
 obtain ⟨W2, tb, hW2, hb2, S2⟩ := SQ.box S1 (.cells #[.int .i64 4, .int .i64 a, .string ⟨#[40]⟩, .int .i64 0] 68)
 have e2 : tb = w.heap.size + 1 := by rw [hb2, hW1]; simp
 simp only at t0 t1 t2 t3
 go_enter Tryz.func63, Tryz.ntmps63
 go_wp2_with fail
 rw [<- hW1, <- hW2, <- e2, <- hb1]
 clear hW1 hW2 e2 hb1 hb2 S0 S1 t0 t1 t2 t3
 refine (sign_tq S2.out.tq ht _ rfl _).mono ?_
 rintro e W3 ⟨rfl, rfl⟩
 have hs : isS ⟨4, a, ⟨#[40]⟩, 0⟩ ⟨#[45, 62]⟩ = false := rfl
 go_wp2_with fail
 clear hs
 refine (sign_tq S2.out.tq ht _ rfl _).mono ?_
 rintro e W4 ⟨rfl, rfl⟩
 have hs : isS ⟨4, a, ⟨#[40]⟩, 0⟩ ⟨#[45]⟩ = false := rfl
 go_wp2_with fail
 clear hs
 rcases PR.then_some hr with ⟨j, cc, h1, rfl⟩ | ⟨x, j, h1, h2⟩
 ·have hcc := (run_fits h.ok _ _ _ _ _ h1).2
  have hc : (cc != 0) = true := by simp; omega
  refine (rexpr_tq m (k + 1) _ 1 _ _ (by simp) (by omega) (by omega) h1 S2.out.tq).mono ?_
  rintro e W5 ⟨ht2, rfl⟩
  have S3 := SQ.same S2 ht2
  clear S2 ht2 hr
  have hz2 := (SQ.boxAt S3 1 rfl).1
  have hrl := (SQ.boxAt S3 1 rfl).2.2
  obtain ⟨r0, r1, r2, r3, r4, r5, r6, r7, r8, r9, r10⟩ := elf_cells hz2
  have fq := free_of_box hz2
  have S4 := SQ.put S3 1 rfl (elf_turned _ rb (.int .i64 0) (.int .i64 0) (.string ⟨#[]⟩) (.int .i64 0) (.int .i64 0) (.string ⟨#[]⟩) (.slice none 0 0) (.int .i64 0) (.int .i64 0) (.int .i64 ((j : Nat))) (.int .i64 cc)) (elf_set hz2)
  obtain ⟨W5, xb, hW5, -, S5⟩ := SQ.box S4 (.cells #[.int .i64 0, .int .i64 0, .string ⟨#[]⟩, .slice none 0 0, .int .i64 0, (.int .i64 ((j : Nat))), .int .i64 cc] 82)
  unfold set11 at hW5
  go_wp2_with fail
  rw [<- hW5]
  refine bodyPost_ret (results_sarg rfl _ _ rb (.int .i64 0) (.int .i64 0) (.string ⟨#[]⟩) (.int .i64 0) (.int .i64 0) (.string ⟨#[]⟩) (.slice none 0 0) (.int .i64 0) (.int .i64 0) (.int .i64 ((j : Nat))) (.int .i64 cc) rfl (SQ.boxAt S5 2 rfl).1) rfl ?_
  exact ⟨S5.out.tur, rfl⟩
 have hjl := (run_fits h.ok _ _ _ _ _ h1).2
 have hwj : IntKind.i64.wrap ((j : Int) + 1) = (j : Int) + 1 := IntWalk.i64_in _ (by omega)
 refine (rexpr_tq m (k + 1) _ 1 _ _ (by simp) (by omega) (by omega) h1 S2.out.tq).mono ?_
 rintro e W5 ⟨ht2, p, c, rfl, hk⟩
 have S3 := SQ.callK S2 ht2 hk
 clear S2 ht2 hk hr
 obtain ⟨u, hu⟩ := some_of_lt hjl
 simp only [hu] at h2
 go_wp2_with fail
 obtain ⟨W6, xb, hW, hb, S4⟩ := SQ.box S3 (.cells #[.int .i64 x.op, .int .i64 x.n, .string x.s, .slice p x.kids.length c, .int .i64 x.at_, (.int .i64 ((j : Nat))), .int .i64 0] 82)
 rw [<- hW, <- hb]
 clear hW hb S3
 refine (sign_tq S4.out.tq hu _ rfl _).mono ?_
 rintro e W7 ⟨rfl, rfl⟩
 obtain ⟨x0, x1, x2, x3, x4, x5, x6⟩ := seven_cells (SQ.boxAt S4 0 rfl).1
 obtain ⟨q0, q1, q2, q3⟩ := cellsFour (SQ.boxAt S4 1 rfl).1
 have hz2 := (SQ.boxAt S4 2 rfl).1
 obtain ⟨r0, r1, r2, r3, r4, r5, r6, r7, r8, r9, r10⟩ := elf_cells hz2
 have fq := free_of_box hz2
 by_cases hc : isS u ⟨#[41]⟩ = true
 ·rw [if_pos hc] at h2
  cases h2
  go_wp2_with fail
  have SB := SQ.put S4 2 rfl (elf_turned _ rb (.int .i64 5) (.int .i64 0) (.string ⟨#[]⟩) (.int .i64 x.op) (.int .i64 x.n) (.string x.s) (.slice p x.kids.length c) (.int .i64 x.at_) (.int .i64 a) (.int .i64 ((j : Int) + 1)) (.int .i64 0)) (elf_set hz2)
  refine bodyPost_ret (results_sarg rfl _ _ rb (.int .i64 5) (.int .i64 0) (.string ⟨#[]⟩) (.int .i64 x.op) (.int .i64 x.n) (.string x.s) (.slice p x.kids.length c) (.int .i64 x.at_) (.int .i64 a) (.int .i64 ((j : Int) + 1)) (.int .i64 0) rfl (SQ.boxAt SB 2 rfl).1) rfl ?_
  exact ⟨SB.out.tur, p, c, by simp [noB], SQ.kidAt SB 0 rfl⟩
 ·have hc : isS u ⟨#[41]⟩ = false := by simpa using hc
  rw [if_neg (by rw [hc]; decide)] at h2
  cases h2
  go_wp2_with fail
  have SB := SQ.put S4 2 rfl (elf_turned _ rb (.int .i64 0) (.int .i64 0) (.string ⟨#[]⟩) (.int .i64 0) (.int .i64 0) (.string ⟨#[]⟩) (.slice none 0 0) (.int .i64 0) (.int .i64 0) (.int .i64 ((j : Nat))) (.int .i64 5)) (elf_set hz2)
  refine bodyPost_ret (results_sarg rfl _ _ rb (.int .i64 0) (.int .i64 0) (.string ⟨#[]⟩) (.int .i64 0) (.int .i64 0) (.string ⟨#[]⟩) (.slice none 0 0) (.int .i64 0) (.int .i64 0) (.int .i64 ((j : Nat))) (.int .i64 5) rfl (SQ.boxAt SB 2 rfl).1) rfl ?_
  exact ⟨SB.out.tur, rfl⟩
theorem rarg_step {g cap : Nat} {ts : List Tok} (m k : Nat) (z : Int) (r : PR Ar) (w : World) (hz : z = k) (hr : argF ts m k = some r) (h : TQ g cap ts w) (hb : ∀ t, ts[k]? = some t -> beginsT t = true \/ isS t ⟨#[45, 62]⟩ = true) :
  Calls Tryz.prog 63 #[.slice (some ⟨g, 0, none⟩) ts.length cap, .int .i64 z] w (AXG w r) := by
 subst hz
 obtain ⟨t, ht⟩ : ∃ t, ts[k]? = some t := by
  unfold argF at hr
  split at hr
  ·cases hr
  ·rename_i t ht; exact ⟨t, ht⟩
 have hb := hb t ht
 unfold argF at hr
 simp only [ht] at hr
 by_cases h13 : t.kind = 1 \/ t.kind = 3
 ·rw [if_pos h13] at hr
  cases hr
  have := rarg_plain k w h t ht (by omega) (by omega)
  rw [h.ok.zero k t ht (by omega)] at this
  exact this
 rw [if_neg h13] at hr
 by_cases h2 : t.kind = 2
 ·rw [if_pos h2] at hr
  cases hr
  have := rarg_plain k w h t ht (by omega) (by omega)
  rw [h2, (h.ok.none_ k t ht h2).1] at this
  exact this
 rw [if_neg h2] at hr
 have h4 : t.kind = 4 := by
  rcases hb with hb | hb
  ·unfold beginsT at hb
   simp only [Bool.or_eq_true, beq_iff_eq] at hb
   rcases hb with (((hb | hb) | hb) | hb) | hb
   ·omega
   ·omega
   ·omega
   ·exact isS_kind hb
   ·exact isS_kind hb
  ·exact isS_kind hb
 have h0 := h.ok.zero k t ht (.inr (.inr h4))
 by_cases ha : isS t ⟨#[45, 62]⟩ = true
 ·rw [if_pos ha] at hr
  cases hr
  have hs := isS_s ha
  obtain ⟨tk, ta, tss, tn⟩ := t
  simp only at h4 h0 hs
  subst h4 h0 hs
  exact rarg_arrow k w h ta ht
 rw [if_neg ha] at hr
 by_cases hm : isS t ⟨#[45]⟩ = true
 ·rw [if_pos hm] at hr
  have hk1 := h.ok.sign ht hm
  obtain ⟨u, hu⟩ := some_of_lt hk1
  simp only [hu] at hr
  have hs := isS_s hm
  obtain ⟨tk, ta, tss, tn⟩ := t
  simp only at h4 h0 hs
  subst h4 h0 hs
  by_cases hu2 : u.kind = 2
  ·rw [if_pos hu2] at hr
   cases hr
   exact rarg_minus k w h ta ht u hu hu2
  ·rw [if_neg hu2] at hr
   cases hr
   exact rarg_minus_no k w h ta ht u hu hu2
 rw [if_neg hm] at hr
 have hp : isS t ⟨#[40]⟩ = true := by
  rcases hb with hb | hb
  ·unfold beginsT at hb
   simp only [Bool.or_eq_true, beq_iff_eq] at hb
   rcases hb with (((hb | hb) | hb) | hb) | hb
   ·omega
   ·omega
   ·omega
   ·exact hb
   ·exact absurd hb hm
  ·exact absurd hb ha
 have hs := isS_s hp
 obtain ⟨tk, ta, tss, tn⟩ := t
 simp only at h4 h0 hs
 subst h4 h0 hs
 exact rarg_paren m k r w h ta ht hr
end Go.Proofs.YtjijdgkccfeeaaaGreatDoor
