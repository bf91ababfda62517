/- Part 28 of the proof of card: ParRefK, ParTxL. Conditions: those of each theorem. -/
import Derived.Test.YtjijdgkccfeeaaaGreatDoorPt01
import Derived.Test.YtjijdgkccfeeaaaGreatDoorPt18
import Derived.Test.YtjijdgkccfeeaaaGreatDoorPt21
import Derived.Test.YtjijdgkccfeeaaaGreatDoorPt26
import Derived.Test.YtjijdgkccfeeaaaGreatDoorPt27
set_option maxRecDepth 20000
set_option maxHeartbeats 16000000
namespace Go.Proofs.YtjijdgkccfeeaaaGreatDoor
open Go Go.Proofs Go.RowKit
attribute [local go_sem] Oper.semAt_some
theorem eight_cells {V : World} {N t : Nat} {a b c d e f g h : Value} (hh : V.heap[N]? = some (.cells #[a, b, c, d, e, f, g, h] t (0, 0))) : V.cell? ⟨N, 0, none⟩ = some a /\ V.cell? ⟨N, 1, none⟩ = some b /\ V.cell? ⟨N, 2, none⟩ = some c /\ V.cell? ⟨N, 3, none⟩ = some d /\ V.cell? ⟨N, 4, none⟩ = some e /\ V.cell? ⟨N, 5, none⟩ = some f /\ V.cell? ⟨N, 6, none⟩ = some g /\ V.cell? ⟨N, 7, none⟩ = some h := by
 simp [World.cell?, hh]
def set8 (V : World) (N : Nat) (a b c d e f g h : Value) : World := ((((((((V.setCell ⟨N, 0, none⟩ a).setCell ⟨N, 1, none⟩ b).setCell ⟨N, 2, none⟩ c).setCell ⟨N, 3, none⟩ d).setCell ⟨N, 4, none⟩ e).setCell ⟨N, 5, none⟩ f).setCell ⟨N, 6, none⟩ g).setCell ⟨N, 7, none⟩ h)
theorem eight_set {V : World} {N t : Nat} {a b c d e f g h a' b' c' d' e' f' g' h' : Value} (hh : V.heap[N]? = some (.cells #[a, b, c, d, e, f, g, h] t (0, 0))) : (set8 V N a' b' c' d' e' f' g' h').heap[N]? = some (.cells #[a', b', c', d', e', f', g', h'] t (0, 0)) := by
 simp [set8, World.setCell, Array.getElem?_modify, hh]
theorem eight_turned (V : World) (N : Nat) (a b c d e f g h : Value) : Turned (fun c => c = N) V (set8 V N a b c d e f g h) :=
 ((((((((Turned.refl (fun c => c = N) V).setCell (p := ⟨N, 0, none⟩) rfl a).setCell (p := ⟨N, 1, none⟩) rfl b).setCell (p := ⟨N, 2, none⟩) rfl c).setCell (p := ⟨N, 3, none⟩) rfl d).setCell (p := ⟨N, 4, none⟩) rfl e).setCell (p := ⟨N, 5, none⟩) rfl f).setCell (p := ⟨N, 6, none⟩) rfl g).setCell (p := ⟨N, 7, none⟩) rfl h
theorem sread_size : (Tryz.prog.info? 35).map (·.size) = some 8 := by kernel_rfl
theorem results_sread {fn : Func} {i0 : Nat} (hf : fn.results = #[ResultVar.cell i0 35]) (tmps : Array Value) (w : World) (N : Nat) (a b c d e f g h : Value) (hp : tmps.getD i0 undef = .pointer (some ⟨N, 0, none⟩)) (hg : w.heap[N]? = some (.cells #[a, b, c, d, e, f, g, h] 35 (0, 0))) :
  (results fn tmps).run Tryz.prog w = .ok (.agg #[a, b, c, d, e, f, g, h]) w := by
 have hp' : tmps[i0]?.getD undef = .pointer (some ⟨N, 0, none⟩) := by simpa using hp
 simp [results, hf, hp', asAddr, run_loadVar_row w N 35 35 #[a, b, c, d, e, f, g, h] (0, 0) _ hg Tryz.underlying35 rfl sread_size]
theorem tq_of_owns {W : World} {base : Nat} {ts : List Tok} {v : Value} (hown : W.ownsRow base 68 4 v ts.length (ts.flatMap tokV)) (ok : TokOK ts) (pos : 0 < ts.length) : ∃ g cap, v = .slice (some ⟨g, 0, none⟩) ts.length cap /\ base <= g /\ TQ g cap ts W := by
 rcases owns_cell (enc := tokV) (fun _ => rfl) hown with ⟨rfl, hnil⟩ | ⟨g, cap, rfl, h1, h2, h3, h4, h5⟩
 ·rw [hnil] at pos; simp at pos
 ·refine ⟨g, cap, rfl, h3, ⟨?_, ok, h4, h1, h2⟩⟩
  intro i hi j u hu
  have hj : j < 4 := by
   have := (List.getElem?_eq_some_iff.1 hu).1
   simpa [tokRow, List.getElem?_eq_getElem hi, tokV] using this
  have h6 := h5 i j hi hj
  simp only [tokRow, List.getElem?_eq_getElem hi] at hu
  rw [hu] at h6
  exact h6
theorem done8 {w w1 W W' : World} {rb : Nat} (t0 : Turned (fun _ => False) w w1) (t1 : Turned (fun _ => False) w1 W) (hr : w.heap.size <= rb) (t2 : Turned (fun c => c = rb) W W') : Turned (fun _ => False) w W' :=
 turned_narrow (C := fun c => c = rb) (((t0.trans t1).mono fun _ h => h.elim).trans t2) fun b hb hc => by omega
def ReadE (s : ByteArray) (w : World) (e : Ending) (w' : World) : Prop :=
 Turned (fun _ => False) w w' /\ match exprP s with
 | .bad a c => e = .returned (.agg #[.slice none 0 0, .int .i64 0, .int .i64 0, .string ⟨#[]⟩, .slice none 0 0, .int .i64 0, .int .i64 a, .int .i64 c])
 | .ok x => ∃ p c, e = .returned (.agg #[.slice none 0 0, .int .i64 x.op, .int .i64 x.n, .string x.s, .slice p x.kids.length c, .int .i64 x.at_, .int .i64 0, .int .i64 0]) /\ KidsAt w' (fun b => w.heap.size <= b) x.kids (.slice p x.kids.length c)
def ReadF (s : ByteArray) (w : World) (e : Ending) (w' : World) : Prop :=
 Turned (fun _ => False) w w' /\ match formsP s with
 | .bad a c => e = .returned (.agg #[.slice none 0 0, .int .i64 0, .int .i64 0, .string ⟨#[]⟩, .slice none 0 0, .int .i64 0, .int .i64 a, .int .i64 c])
 | .ok fs => ∃ p c, e = .returned (.agg #[.slice p fs.length c, .int .i64 0, .int .i64 0, .string ⟨#[]⟩, .slice none 0 0, .int .i64 0, .int .i64 0, .int .i64 0]) /\ FormsAt w' (fun b => w.heap.size <= b) fs (.slice p fs.length c)
theorem rexprS_all (s : ByteArray) (w : World) : Calls Tryz.prog 12 #[.string s] w (ReadE s w) := by
 go_enter Tryz.func12, Tryz.ntmps12
 go_wp2_with fail
 obtain ⟨W0, hW0⟩ : ∃ W0, W0 = w.alloc (.cells #[.slice none 0 0, .int .i64 0, .int .i64 0, .string ⟨#[]⟩, .slice none 0 0, .int .i64 0, .int .i64 0, .int .i64 0] 35) := ⟨_, rfl⟩
 obtain ⟨rb, hrb⟩ : ∃ rb, rb = w.heap.size := ⟨_, rfl⟩
 have t0 : Turned (fun _ => False) w W0 := by rw [hW0]; exact (Turned.refl _ _).alloc _
 have hR0 : W0.heap[rb]? = some (.cells #[.slice none 0 0, .int .i64 0, .int .i64 0, .string ⟨#[]⟩, .slice none 0 0, .int .i64 0, .int .i64 0, .int .i64 0] 35 (0, 0)) := by rw [hW0, hrb]; exact heap_alloc_new _ _
 rw [<- hW0, <- hrb]
 have HB := Lib.hid hrb
 clear hW0 hrb
 have HT := rtokens_all s W0
 cases hT : tokensP s with
 | err k c =>
  rw [hT] at HT
  have hE : Hid (exprP s = .bad k c) := by show _ = _; unfold exprP; rw [hT]
  have hc : (c != 0) = true := by simpa using tokens_err0 hT
  clear hT
  refine HT.mono ?_
  rintro e W1 ⟨rfl, ht⟩
  have hz2 := (ht.block rb (getElem?_lt hR0) id).trans hR0
  have hlt := getElem?_lt hz2
  obtain ⟨r0, r1, r2, r3, r4, r5, r6, r7⟩ := eight_cells hz2
  have fq := free_of_box hz2
  have tA := Lib.hid (t0.trans ht)
  have HR := Lib.hid hz2
  clear HT hR0 t0 ht hz2
  obtain ⟨W2, hW2⟩ : ∃ W2, W2 = (set8 W1 rb (.slice none 0 0) (.int .i64 0) (.int .i64 0) (.string ⟨#[]⟩) (.slice none 0 0) (.int .i64 0) (.int .i64 k) (.int .i64 c)).alloc (.cells #[.slice none 0 0, .int .i64 k, .int .i64 c] 76) := ⟨_, rfl⟩
  have hz3 : W2.heap[rb]? = some (.cells #[.slice none 0 0, .int .i64 0, .int .i64 0, .string ⟨#[]⟩, .slice none 0 0, .int .i64 0, .int .i64 k, .int .i64 c] 35 (0, 0)) := by
   have h8 := eight_set (a' := (.slice none 0 0)) (b' := (.int .i64 0)) (c' := (.int .i64 0)) (d' := (.string ⟨#[]⟩)) (e' := (.slice none 0 0)) (f' := (.int .i64 0)) (g' := (.int .i64 k)) (h' := (.int .i64 c)) HR.out
   rw [hW2, hao _ _ (getElem?_lt h8)]
   exact h8
  have t2 : Turned (fun c => c = rb) W1 W2 := by rw [hW2]; exact (eight_turned W1 rb (.slice none 0 0) (.int .i64 0) (.int .i64 0) (.string ⟨#[]⟩) (.slice none 0 0) (.int .i64 0) (.int .i64 k) (.int .i64 c)).alloc _
  unfold set8 at hW2
  go_wp2_with fail
  rw [<- hW2]
  refine bodyPost_ret (results_sread rfl _ _ rb (.slice none 0 0) (.int .i64 0) (.int .i64 0) (.string ⟨#[]⟩) (.slice none 0 0) (.int .i64 0) (.int .i64 k) (.int .i64 c) rfl hz3) rfl ?_
  exact ⟨done8 tA.out (Turned.refl _ _) (by rw [HB.out]; omega) t2, by rw [hE.out]⟩
 | ok ts =>
  rw [hT] at HT
  obtain ⟨hOK, hpos, -⟩ := tokens_good hT
  have hP : Hid (exprP s = endP ts (readE ts)) := by show _ = _; unfold exprP; rw [hT]
  clear hT
  refine HT.mono ?_
  rintro e W1 ⟨v, rfl, hown, ht⟩
  obtain ⟨g, cap, rfl, hg, hq⟩ := tq_of_owns hown hOK hpos
  have hz2 := (ht.block rb (getElem?_lt hR0) id).trans hR0
  have hrl := getElem?_lt hz2
  have tA := Lib.hid (t0.trans ht)
  have HR := Lib.hid hz2
  have hB2 : w.heap.size <= rb := by rw [HB.out]; omega
  have S0 := SQ.start hq
  clear HT hR0 t0 ht hown hg hq hz2 HB
  have hrd := readE_some hOK hpos
  go_wp2_with fail
  obtain ⟨W2, tb, hW2, hb2, S1⟩ := SQ.box S0 (.cells #[.slice (some ⟨g, 0, none⟩) ts.length cap, .int .i64 0, .int .i64 0] 76)
  rw [<- hW2, <- hb2]
  clear hW2 hb2 S0
  have HR1 := HR
  clear HR
  obtain ⟨b0, b1, b2⟩ := three_cells (SQ.boxAt S1 0 rfl).1
  go_wp2_with fail
  have hfit := run_fits hOK _ _ _ _ _ hrd
  cases hr : readE ts with
  | err j c =>
   rw [hr] at hrd hfit
   obtain ⟨hjl, hcc⟩ : j < ts.length /\ (c = 5 \/ c = 2) := hfit
   have hc : (c != 0) = true := by simp; omega
   obtain ⟨u, hu⟩ := some_of_lt hjl
   have hE : Hid (exprP s = .bad u.at_ c) := by show _ = _; rw [hP.out, hr]; simp only [endP, atT, hu]
   have hjl2 : (j : Int) < (ts.length : Int) := by omega
   refine (rexpr_tq _ 0 _ 1 _ _ rfl (by omega) (by omega) hrd S1.out.tq).mono ?_
   rintro e W3 ⟨ht2, rfl⟩
   have S2 := SQ.same S1 ht2
   clear S1 ht2 b0 b1 b2 hcc
   go_wp2_with fail
   obtain ⟨W4, xb, hW4, hb4, S3⟩ := SQ.box S2 (.cells #[.int .i64 0, .int .i64 0, .string ⟨#[]⟩, .slice none 0 0, .int .i64 0, (.int .i64 ((j : Nat))), .int .i64 c] 82)
   rw [<- hW4, <- hb4]
   clear hW4 hb4 S2
   obtain ⟨b0, b1, b2⟩ := three_cells (SQ.boxAt S3 1 rfl).1
   obtain ⟨x0, x1, x2, x3, x4, x5, x6⟩ := seven_cells (SQ.boxAt S3 0 rfl).1
   refine region_R (R := fun q V => q < 11 -> (fun V : World => V.cell? ⟨tb, 0, none⟩ = some (.slice (some ⟨g, 0, none⟩) ts.length cap) /\ V.cell? ⟨xb, 5, none⟩ = some (.int .i64 ((j : Nat))) /\ V.cell? ⟨xb, 6, none⟩ = some (.int .i64 c) /\ V.cell? ⟨g, j * 4 + 1, none⟩ = some (.int .i64 u.at_)) V) (by kernel_rfl) ?_
   obtain ⟨Wd, hWd⟩ : ∃ Wd, Wd = W4.drew := ⟨_, rfl⟩
   rw [<- hWd]
   have SD := SQ.same S3 (Turned.refl _ _).drew
   rw [<- hWd] at SD
   clear hWd S3 b0 b1 b2 x0 x1 x2 x3 x4 x5 x6
   obtain ⟨b0, b1, b2⟩ := three_cells (SQ.boxAt SD 1 rfl).1
   obtain ⟨x0, x1, x2, x3, x4, x5, x6⟩ := seven_cells (SQ.boxAt SD 0 rfl).1
   have u1 := (SD.out.tq.tok hu).2.1
   refine tk (n := 11) 0 (.pointer (some ⟨tb, 0, none⟩)) rfl (.inl ⟨by rfl, ?_⟩) ⟨b0, x5, x6, u1⟩ ?_
   ·rintro V ⟨v0, v1, v2, v3⟩
    go_simp
   simp only [zz0, zz1, Act.put, zz3, zz4, zz5]
   refine tk (n := 11) 1 (.slice (some ⟨g, 0, none⟩) ts.length cap) rfl (.inl ⟨by rfl, ?_⟩) ⟨b0, x5, x6, u1⟩ ?_
   ·rintro V ⟨v0, v1, v2, v3⟩
    go_simp
   simp only [zz0, zz1, zz2, Act.put, zz3, zz4, zz5]
   refine tk (n := 11) 2 (.pointer (some ⟨xb, 5, none⟩)) rfl (.inl ⟨by rfl, ?_⟩) ⟨b0, x5, x6, u1⟩ ?_
   ·rintro V ⟨v0, v1, v2, v3⟩
    go_simp
   simp only [zz0, zz1, zz2, Act.put, zz3, zz4, zz5]
   refine tk (n := 11) 3 (.int .i64 ((j : Nat))) rfl (.inl ⟨by rfl, ?_⟩) ⟨b0, x5, x6, u1⟩ ?_
   ·rintro V ⟨v0, v1, v2, v3⟩
    go_simp
   simp only [zz0, zz1, zz2, Act.put, zz3, zz4, zz5]
   refine tk (n := 11) 4 (.pointer (some ⟨g, j * 4, none⟩)) rfl (.inl ⟨by rfl, ?_⟩) ⟨b0, x5, x6, u1⟩ ?_
   ·rintro V ⟨v0, v1, v2, v3⟩
    go_simp
   simp only [zz0, zz1, zz2, Act.put, zz3, zz4, zz5]
   refine tk (n := 11) 5 (.pointer (some ⟨g, j * 4 + 1, none⟩)) rfl (.inl ⟨by rfl, ?_⟩) ⟨b0, x5, x6, u1⟩ ?_
   ·rintro V ⟨v0, v1, v2, v3⟩
    go_simp
   simp only [zz0, zz1, zz2, Act.put, zz3, zz4, zz5]
   refine tk (n := 11) 6 (.int .i64 u.at_) rfl (.inl ⟨by rfl, ?_⟩) ⟨b0, x5, x6, u1⟩ ?_
   ·rintro V ⟨v0, v1, v2, v3⟩
    go_simp
   simp only [zz0, zz1, zz2, Act.put, zz3, zz4, zz5]
   refine tk (n := 11) 7 (.pointer (some ⟨xb, 6, none⟩)) rfl (.inl ⟨by rfl, ?_⟩) ⟨b0, x5, x6, u1⟩ ?_
   ·rintro V ⟨v0, v1, v2, v3⟩
    go_simp
   simp only [zz0, zz1, zz2, Act.put, zz3, zz4, zz5]
   refine tk (n := 11) 8 (.int .i64 c) rfl (.inl ⟨by rfl, ?_⟩) ⟨b0, x5, x6, u1⟩ ?_
   ·rintro V ⟨v0, v1, v2, v3⟩
    go_simp
   simp only [zz0, zz1, zz2, Act.put, zz3, zz4, zz5]
   refine tk (n := 11) 9 (.agg #[.int .i64 u.at_, .int .i64 c]) rfl (.inl ⟨by rfl, ?_⟩) ⟨b0, x5, x6, u1⟩ ?_
   ·rintro V ⟨v0, v1, v2, v3⟩
    go_simp
   simp only [zz0, zz1, zz2, Act.put, zz3, zz4, zz5]
   refine tk (n := 11) 10 (.agg #[.slice none 0 0, .int .i64 0, .int .i64 0, .string ⟨#[]⟩, .slice none 0 0, .int .i64 0, .int .i64 u.at_, .int .i64 c]) rfl (.inl ⟨by rfl, ?_⟩) ⟨b0, x5, x6, u1⟩ ?_
   ·rintro V ⟨v0, v1, v2, v3⟩
    go_simp
   simp only [zz0, zz1, zz2, Act.put, zz3, zz4, zz5]
   have HR := Lib.hid ((SD.out.tur.block rb hrl id).trans HR1.out)
   obtain ⟨r0, r1, r2, r3, r4, r5, r6, r7⟩ := eight_cells HR.out
   have fq := free_of_box HR.out
   refine wpAnyR_all (rs := [11]) (by kernel_rfl) (by simp) (fun i2 hi2 => ?_)
   obtain rfl : i2 = 11 := by simpa using hi2
   clear hi2
   refine wpOp_plain rfl rfl ?_
   simp only [zz0, zz1, zz2]
   go_simp
   refine wpAnyR_done (by kernel_rfl) ?_ _
   go_wp2_with fail
   have hzE : (set8 Wd rb (.slice none 0 0) (.int .i64 0) (.int .i64 0) (.string ⟨#[]⟩) (.slice none 0 0) (.int .i64 0) (.int .i64 u.at_) (.int .i64 c)).heap[rb]? = some (.cells #[.slice none 0 0, .int .i64 0, .int .i64 0, .string ⟨#[]⟩, .slice none 0 0, .int .i64 0, .int .i64 u.at_, .int .i64 c] 35 (0, 0)) := eight_set HR.out
   have tE := eight_turned Wd rb (.slice none 0 0) (.int .i64 0) (.int .i64 0) (.string ⟨#[]⟩) (.slice none 0 0) (.int .i64 0) (.int .i64 u.at_) (.int .i64 c)
   refine bodyPost_ret (results_sread rfl _ _ rb (.slice none 0 0) (.int .i64 0) (.int .i64 0) (.string ⟨#[]⟩) (.slice none 0 0) (.int .i64 0) (.int .i64 u.at_) (.int .i64 c) rfl hzE) rfl ?_
   exact ⟨done8 tA.out SD.out.tur hB2 tE, by rw [hE.out]⟩
  | ok x j =>
   rw [hr] at hrd hfit
   obtain ⟨-, hjl⟩ : _ /\ j < ts.length := hfit
   obtain ⟨u, hu⟩ := some_of_lt hjl
   have hjl2 : (j : Int) < (ts.length : Int) := by omega
   refine (rexpr_tq _ 0 _ 1 _ _ rfl (by omega) (by omega) hrd S1.out.tq).mono ?_
   rintro e W3 ⟨ht2, p, c, rfl, hk⟩
   have S2 := SQ.callK S1 ht2 hk
   clear S1 ht2 hk b0 b1 b2
   obtain ⟨b0, b1, b2⟩ := three_cells (SQ.boxAt S2 0 rfl).1
   obtain ⟨u0, u1, u2, u3⟩ := S2.out.tq.tok hu
   have htb := (SQ.boxAt S2 0 rfl).2.2
   have hgl := S2.out.tq.ltg
   have HR := Lib.hid ((S2.out.tur.block rb hrl id).trans HR1.out)
   obtain ⟨r0, r1, r2, r3, r4, r5, r6, r7⟩ := eight_cells HR.out
   have fq := free_of_box HR.out
   have hrl3 := getElem?_lt HR.out
   by_cases h5 : u.kind = 5
   ·have hE : Hid (exprP s = .ok x) := by show _ = _; rw [hP.out, hr]; simp only [endP, hu, Option.map_some, h5, if_true]
    have h5b : (u.kind != 5) = false := by simpa using h5
    clear h5
    obtain ⟨Wz, hWz⟩ : ∃ Wz, Wz = (set8 W3 rb (.slice none 0 0) (.int .i64 x.op) (.int .i64 x.n) (.string x.s) (.slice p x.kids.length c) (.int .i64 x.at_) (.int .i64 0) (.int .i64 0)).alloc (.cells #[.int .i64 x.op, .int .i64 x.n, .string x.s, .slice p x.kids.length c, .int .i64 x.at_, (.int .i64 ((j : Nat))), .int .i64 0] 82) := ⟨_, rfl⟩
    have hz3 : Wz.heap[rb]? = some (.cells #[.slice none 0 0, .int .i64 x.op, .int .i64 x.n, .string x.s, .slice p x.kids.length c, .int .i64 x.at_, .int .i64 0, .int .i64 0] 35 (0, 0)) := by
     have h8 := eight_set (a' := (.slice none 0 0)) (b' := (.int .i64 x.op)) (c' := (.int .i64 x.n)) (d' := (.string x.s)) (e' := (.slice p x.kids.length c)) (f' := (.int .i64 x.at_)) (g' := (.int .i64 0)) (h' := (.int .i64 0)) HR.out
     rw [hWz, hao _ _ (getElem?_lt h8)]
     exact h8
    have tE : Turned (fun c => c = rb) W3 Wz := by rw [hWz]; exact (eight_turned W3 rb (.slice none 0 0) (.int .i64 x.op) (.int .i64 x.n) (.string x.s) (.slice p x.kids.length c) (.int .i64 x.at_) (.int .i64 0) (.int .i64 0)).alloc _
    unfold set8 at hWz
    go_wp2_with fail
    rw [<- hWz]
    refine bodyPost_ret (results_sread rfl _ _ rb (.slice none 0 0) (.int .i64 x.op) (.int .i64 x.n) (.string x.s) (.slice p x.kids.length c) (.int .i64 x.at_) (.int .i64 0) (.int .i64 0) rfl hz3) rfl ?_
    refine ⟨done8 tA.out S2.out.tur hB2 tE, ?_⟩
    rw [hE.out]
    have hk := (SQ.kidAt S2 0 rfl).move tE (fun b hb => by omega) (M := fun b => w.heap.size <= b) (fun b hb _ => by omega)
    exact ⟨p, c, rfl, hk⟩
   ·have hE : Hid (exprP s = .bad u.at_ 5) := by show _ = _; rw [hP.out, hr]; simp only [endP, hu, Option.map_some, Option.some.injEq, h5, if_false, atT]
    have h5b : (u.kind != 5) = true := by simpa using h5
    clear h5
    obtain ⟨Wz, hWz⟩ : ∃ Wz, Wz = (set8 W3 rb (.slice none 0 0) (.int .i64 0) (.int .i64 0) (.string ⟨#[]⟩) (.slice none 0 0) (.int .i64 0) (.int .i64 u.at_) (.int .i64 5)).alloc (.cells #[.int .i64 x.op, .int .i64 x.n, .string x.s, .slice p x.kids.length c, .int .i64 x.at_, (.int .i64 ((j : Nat))), .int .i64 0] 82) := ⟨_, rfl⟩
    have hz3 : Wz.heap[rb]? = some (.cells #[.slice none 0 0, .int .i64 0, .int .i64 0, .string ⟨#[]⟩, .slice none 0 0, .int .i64 0, .int .i64 u.at_, .int .i64 5] 35 (0, 0)) := by
     have h8 := eight_set (a' := (.slice none 0 0)) (b' := (.int .i64 0)) (c' := (.int .i64 0)) (d' := (.string ⟨#[]⟩)) (e' := (.slice none 0 0)) (f' := (.int .i64 0)) (g' := (.int .i64 u.at_)) (h' := (.int .i64 5)) HR.out
     rw [hWz, hao _ _ (getElem?_lt h8)]
     exact h8
    have tE : Turned (fun c => c = rb) W3 Wz := by rw [hWz]; exact (eight_turned W3 rb (.slice none 0 0) (.int .i64 0) (.int .i64 0) (.string ⟨#[]⟩) (.slice none 0 0) (.int .i64 0) (.int .i64 u.at_) (.int .i64 5)).alloc _
    unfold set8 at hWz
    go_wp2_with fail
    rw [<- hWz]
    refine bodyPost_ret (results_sread rfl _ _ rb (.slice none 0 0) (.int .i64 0) (.int .i64 0) (.string ⟨#[]⟩) (.slice none 0 0) (.int .i64 0) (.int .i64 u.at_) (.int .i64 5) rfl hz3) rfl ?_
    exact ⟨done8 tA.out S2.out.tur hB2 tE, by rw [hE.out]⟩
structure FL (g cap : Nat) (ts : List Tok) (w1 : World) (r : PR (List Fm)) (tb : Nat) (v : Value) (ps : List (Fm × Value × Value)) (j n m : Nat) (wr : World) : Prop where
 sq : Hid (SQ g cap ts w1 wr [(tb, .cells #[.slice (some ⟨g, 0, none⟩) ts.length cap, .int .i64 0, .int .i64 0] 76)] [])
 own : Hid (Own wr (tb + 1) 45 4 fmEnc fmAt v ps.length ps)
 len : ps.length <= n
 cnt : n <= 2000
 lt : j < ts.length
 eq : formsF ts m j n (ps.map (·.1)) = some r
theorem rformsS_all (s : ByteArray) (w : World) : Calls Tryz.prog 11 #[.string s] w (ReadF s w) := by
 obtain ⟨i1, hif1, hy0, hy1, hy2⟩ := info_parts infoForm
 go_enter Tryz.func11, Tryz.ntmps11
 go_wp2_with fail
 obtain ⟨W0, hW0⟩ : ∃ W0, W0 = w.alloc (.cells #[.slice none 0 0, .int .i64 0, .int .i64 0, .string ⟨#[]⟩, .slice none 0 0, .int .i64 0, .int .i64 0, .int .i64 0] 35) := ⟨_, rfl⟩
 obtain ⟨rb, hrb⟩ : ∃ rb, rb = w.heap.size := ⟨_, rfl⟩
 have t0 : Turned (fun _ => False) w W0 := by rw [hW0]; exact (Turned.refl _ _).alloc _
 have hR0 : W0.heap[rb]? = some (.cells #[.slice none 0 0, .int .i64 0, .int .i64 0, .string ⟨#[]⟩, .slice none 0 0, .int .i64 0, .int .i64 0, .int .i64 0] 35 (0, 0)) := by rw [hW0, hrb]; exact heap_alloc_new _ _
 rw [<- hW0, <- hrb]
 have HB := Lib.hid hrb
 clear hW0 hrb
 have HT := rtokens_all s W0
 cases hT : tokensP s with
 | err k c =>
  rw [hT] at HT
  have hE : Hid (formsP s = .bad k c) := by show _ = _; unfold formsP; rw [hT]
  have hc : (c != 0) = true := by simpa using tokens_err0 hT
  clear hT
  refine HT.mono ?_
  rintro e W1 ⟨rfl, ht⟩
  have hz2 := (ht.block rb (getElem?_lt hR0) id).trans hR0
  have hlt := getElem?_lt hz2
  obtain ⟨r0, r1, r2, r3, r4, r5, r6, r7⟩ := eight_cells hz2
  have fq := free_of_box hz2
  have tA := Lib.hid (t0.trans ht)
  have HR := Lib.hid hz2
  clear HT hR0 t0 ht hz2
  obtain ⟨W2, hW2⟩ : ∃ W2, W2 = (set8 W1 rb (.slice none 0 0) (.int .i64 0) (.int .i64 0) (.string ⟨#[]⟩) (.slice none 0 0) (.int .i64 0) (.int .i64 k) (.int .i64 c)).alloc (.cells #[.slice none 0 0, .int .i64 k, .int .i64 c] 76) := ⟨_, rfl⟩
  have hz3 : W2.heap[rb]? = some (.cells #[.slice none 0 0, .int .i64 0, .int .i64 0, .string ⟨#[]⟩, .slice none 0 0, .int .i64 0, .int .i64 k, .int .i64 c] 35 (0, 0)) := by
   have h8 := eight_set (a' := (.slice none 0 0)) (b' := (.int .i64 0)) (c' := (.int .i64 0)) (d' := (.string ⟨#[]⟩)) (e' := (.slice none 0 0)) (f' := (.int .i64 0)) (g' := (.int .i64 k)) (h' := (.int .i64 c)) HR.out
   rw [hW2, hao _ _ (getElem?_lt h8)]
   exact h8
  have t2 : Turned (fun c => c = rb) W1 W2 := by rw [hW2]; exact (eight_turned W1 rb (.slice none 0 0) (.int .i64 0) (.int .i64 0) (.string ⟨#[]⟩) (.slice none 0 0) (.int .i64 0) (.int .i64 k) (.int .i64 c)).alloc _
  unfold set8 at hW2
  go_wp2_with fail
  rw [<- hW2]
  refine bodyPost_ret (results_sread rfl _ _ rb (.slice none 0 0) (.int .i64 0) (.int .i64 0) (.string ⟨#[]⟩) (.slice none 0 0) (.int .i64 0) (.int .i64 k) (.int .i64 c) rfl hz3) rfl ?_
  exact ⟨done8 tA.out (Turned.refl _ _) (by rw [HB.out]; omega) t2, by rw [hE.out]⟩
 | ok ts =>
  rw [hT] at HT
  obtain ⟨hOK, hpos, -⟩ := tokens_good hT
  have hP : Hid (formsP s = endP ts (readF ts)) := by show _ = _; unfold formsP; rw [hT]
  clear hT
  refine HT.mono ?_
  rintro e W1 ⟨v, rfl, hown, ht⟩
  obtain ⟨g, cap, rfl, hg, hq⟩ := tq_of_owns hown hOK hpos
  have hz2 := (ht.block rb (getElem?_lt hR0) id).trans hR0
  have hrl := getElem?_lt hz2
  have tA := Lib.hid (t0.trans ht)
  have HR := Lib.hid hz2
  have hB2 : w.heap.size <= rb := by rw [HB.out]; omega
  have S0 := SQ.start hq
  clear HT hR0 t0 ht hown hg hq hz2 HB
  have hrd := readF_some hOK hpos
  obtain ⟨r, hr⟩ : ∃ r, r = readF ts := ⟨_, rfl⟩
  rw [<- hr] at hrd hP
  clear hr
  go_wp2_with fail
  obtain ⟨W2, tb, hW2, hb2, S1⟩ := SQ.box S0 (.cells #[.slice (some ⟨g, 0, none⟩) ts.length cap, .int .i64 0, .int .i64 0] 76)
  rw [<- hW2, <- hb2]
  have htr : rb < tb := by omega
  have hwt : W1.heap.size <= tb := by omega
  clear hW2 hb2 S0
  have HR1 := HR
  clear HR
  obtain ⟨b0, b1, b2⟩ := three_cells (SQ.boxAt S1 0 rfl).1
  go_wp2_with fail
  clear b0 b1 b2
  go_loopw [4, 5, 6] (fun v uk un wr => ∃ (ps : List (Fm × Value × Value)) (j n2 m2 : Nat), uk = (.int .i64 ((j : Nat))) /\ un = (.int .i64 ((n2 : Nat))) /\ Hid (FL g cap ts W1 r tb v ps j n2 m2 wr)) (fun _ uk _ _ => ts.length - (intOf uk).toNat)
  case atStart => exact ⟨[], 0, 0, _, rfl, rfl, Lib.hid ⟨S1, Own.start (SQ.boxAt S1 0 rfl).2.2, by simp, by omega, hpos, hrd⟩⟩
  case round =>
   clear S1 hrd
   obtain ⟨ps, j, n2, m2, rfl, rfl, HA⟩ := hrel
   have S4 := HA.out.sq
   have OV := HA.out.own
   have hqn := HA.out.len
   have hcnt := HA.out.cnt
   have hjl := HA.out.lt
   have heq := HA.out.eq
   clear HA
   obtain ⟨va, vc, rfl⟩ := owns_shape OV.out.own
   obtain ⟨u, hu⟩ := some_of_lt hjl
   have hjl2 : (j : Int) < (ts.length : Int) := by omega
   obtain ⟨m3, rfl⟩ : ∃ m', m2 = m' + 1 := by
    cases m2 with
    | zero => simp [formsF] at heq
    | succ m' => exact ⟨m', rfl⟩
   unfold formsF at heq
   simp only [hu] at heq
   obtain ⟨b0, b1, b2⟩ := three_cells (SQ.boxAt S4 0 rfl).1
   obtain ⟨u0, u1, u2, u3⟩ := S4.out.tq.tok hu
   have HR := Lib.hid ((S4.out.tur.block rb hrl id).trans HR1.out)
   obtain ⟨r0, r1, r2, r3, r4, r5, r6, r7⟩ := eight_cells HR.out
   have fq := free_of_box HR.out
   by_cases h5 : u.kind = 5
   ·rw [if_pos h5] at heq
    cases heq
    have hE : Hid (formsP s = .ok (ps.map (·.1))) := by show _ = _; rw [hP.out]; simp only [endP, hu, Option.map_some, h5, if_true]
    have h5b : (u.kind != 5) = false := by simpa using h5
    clear h5
    go_wp2_with fail
    have hzE : (set8 wr rb (.slice va ps.length vc) (.int .i64 0) (.int .i64 0) (.string ⟨#[]⟩) (.slice none 0 0) (.int .i64 0) (.int .i64 0) (.int .i64 0)).heap[rb]? = some (.cells #[.slice va ps.length vc, .int .i64 0, .int .i64 0, .string ⟨#[]⟩, .slice none 0 0, .int .i64 0, .int .i64 0, .int .i64 0] 35 (0, 0)) := eight_set HR.out
    have tE := eight_turned wr rb (.slice va ps.length vc) (.int .i64 0) (.int .i64 0) (.string ⟨#[]⟩) (.slice none 0 0) (.int .i64 0) (.int .i64 0) (.int .i64 0)
    refine bodyPost_ret (results_sread rfl _ _ rb (.slice va ps.length vc) (.int .i64 0) (.int .i64 0) (.string ⟨#[]⟩) (.slice none 0 0) (.int .i64 0) (.int .i64 0) (.int .i64 0) rfl hzE) rfl ?_
    refine ⟨done8 tA.out S4.out.tur hB2 tE, ?_⟩
    rw [hE.out]
    have hk := (Own.formsAt OV rfl).move tE (fun b hb => by omega) (M := fun b => w.heap.size <= b) (fun b hb _ => by omega)
    refine ⟨va, vc, by simp, ?_⟩
    simp only [List.length_map]
    exact hk
   ·rw [if_neg h5] at heq
    have h5b : (u.kind != 5) = true := by simpa using h5
    clear h5
    go_wp2_with fail
    rcases PR.then_some heq with ⟨j3, cc, h5f, rfl⟩ | ⟨y, j3, h5f, h6⟩
    ·obtain ⟨hj3, hcc⟩ : j3 < ts.length /\ (cc = 5 \/ cc = 2) := (form_fits hOK _ _ _ _ _ _ h5f).1
     have hc : (cc != 0) = true := by simp; omega
     clear heq hu u0 u1 u2 u3 h5b
     obtain ⟨u, hu⟩ := some_of_lt hj3
     have hE : Hid (formsP s = .bad u.at_ cc) := by show _ = _; rw [hP.out]; simp only [endP, atT, hu]
     have hjl3 : (j3 : Int) < (ts.length : Int) := by omega
     refine (rform_tq m3 j _ 1 n2 _ _ _ rfl rfl (by omega) (by omega) hcnt h5f S4.out.tq).mono ?_
     rintro e W3 ⟨ht2, rfl⟩
     have S2 := SQ.same S4 ht2
     clear S4 ht2 b0 b1 b2 hcc r0 r1 r2 r3 r4 r5 r6 r7 fq HR
     go_wp2_with fail
     obtain ⟨W4, xb, hW4, hb4, S3⟩ := SQ.box S2 (.cells #[.string ⟨#[]⟩, .slice none 0 0, .slice none 0 0, .int .i64 0, (.int .i64 ((j3 : Nat))), .int .i64 0, .int .i64 cc] 79)
     rw [<- hW4, <- hb4]
     clear hW4 hb4 S2
     obtain ⟨b0, b1, b2⟩ := three_cells (SQ.boxAt S3 1 rfl).1
     obtain ⟨x0, x1, x2, x3, x4, x5, x6⟩ := seven_cells (SQ.boxAt S3 0 rfl).1
     refine region_R (R := fun q V => q < 11 -> (fun V : World => V.cell? ⟨tb, 0, none⟩ = some (.slice (some ⟨g, 0, none⟩) ts.length cap) /\ V.cell? ⟨xb, 4, none⟩ = some (.int .i64 ((j3 : Nat))) /\ V.cell? ⟨xb, 6, none⟩ = some (.int .i64 cc) /\ V.cell? ⟨g, j3 * 4 + 1, none⟩ = some (.int .i64 u.at_)) V) (by kernel_rfl) ?_
     obtain ⟨Wd, hWd⟩ : ∃ Wd, Wd = W4.drew := ⟨_, rfl⟩
     rw [<- hWd]
     have SD := SQ.same S3 (Turned.refl _ _).drew
     rw [<- hWd] at SD
     clear hWd S3 b0 b1 b2 x0 x1 x2 x3 x4 x5 x6
     obtain ⟨b0, b1, b2⟩ := three_cells (SQ.boxAt SD 1 rfl).1
     obtain ⟨x0, x1, x2, x3, x4, x5, x6⟩ := seven_cells (SQ.boxAt SD 0 rfl).1
     have u1 := (SD.out.tq.tok hu).2.1
     refine tk (n := 11) 0 (.pointer (some ⟨tb, 0, none⟩)) rfl (.inl ⟨by rfl, ?_⟩) ⟨b0, x4, x6, u1⟩ ?_
     ·rintro V ⟨v0, v1, v2, v3⟩
      go_simp
     simp only [zz0, zz1, Act.put, zz3, zz4, zz5]
     refine tk (n := 11) 1 (.slice (some ⟨g, 0, none⟩) ts.length cap) rfl (.inl ⟨by rfl, ?_⟩) ⟨b0, x4, x6, u1⟩ ?_
     ·rintro V ⟨v0, v1, v2, v3⟩
      go_simp
     simp only [zz0, zz1, zz2, Act.put, zz3, zz4, zz5]
     refine tk (n := 11) 2 (.pointer (some ⟨xb, 4, none⟩)) rfl (.inl ⟨by rfl, ?_⟩) ⟨b0, x4, x6, u1⟩ ?_
     ·rintro V ⟨v0, v1, v2, v3⟩
      go_simp
     simp only [zz0, zz1, zz2, Act.put, zz3, zz4, zz5]
     refine tk (n := 11) 3 (.int .i64 ((j3 : Nat))) rfl (.inl ⟨by rfl, ?_⟩) ⟨b0, x4, x6, u1⟩ ?_
     ·rintro V ⟨v0, v1, v2, v3⟩
      go_simp
     simp only [zz0, zz1, zz2, Act.put, zz3, zz4, zz5]
     refine tk (n := 11) 4 (.pointer (some ⟨g, j3 * 4, none⟩)) rfl (.inl ⟨by rfl, ?_⟩) ⟨b0, x4, x6, u1⟩ ?_
     ·rintro V ⟨v0, v1, v2, v3⟩
      go_simp
     simp only [zz0, zz1, zz2, Act.put, zz3, zz4, zz5]
     refine tk (n := 11) 5 (.pointer (some ⟨g, j3 * 4 + 1, none⟩)) rfl (.inl ⟨by rfl, ?_⟩) ⟨b0, x4, x6, u1⟩ ?_
     ·rintro V ⟨v0, v1, v2, v3⟩
      go_simp
     simp only [zz0, zz1, zz2, Act.put, zz3, zz4, zz5]
     refine tk (n := 11) 6 (.int .i64 u.at_) rfl (.inl ⟨by rfl, ?_⟩) ⟨b0, x4, x6, u1⟩ ?_
     ·rintro V ⟨v0, v1, v2, v3⟩
      go_simp
     simp only [zz0, zz1, zz2, Act.put, zz3, zz4, zz5]
     refine tk (n := 11) 7 (.pointer (some ⟨xb, 6, none⟩)) rfl (.inl ⟨by rfl, ?_⟩) ⟨b0, x4, x6, u1⟩ ?_
     ·rintro V ⟨v0, v1, v2, v3⟩
      go_simp
     simp only [zz0, zz1, zz2, Act.put, zz3, zz4, zz5]
     refine tk (n := 11) 8 (.int .i64 cc) rfl (.inl ⟨by rfl, ?_⟩) ⟨b0, x4, x6, u1⟩ ?_
     ·rintro V ⟨v0, v1, v2, v3⟩
      go_simp
     simp only [zz0, zz1, zz2, Act.put, zz3, zz4, zz5]
     refine tk (n := 11) 9 (.agg #[.int .i64 u.at_, .int .i64 cc]) rfl (.inl ⟨by rfl, ?_⟩) ⟨b0, x4, x6, u1⟩ ?_
     ·rintro V ⟨v0, v1, v2, v3⟩
      go_simp
     simp only [zz0, zz1, zz2, Act.put, zz3, zz4, zz5]
     refine tk (n := 11) 10 (.agg #[.slice none 0 0, .int .i64 0, .int .i64 0, .string ⟨#[]⟩, .slice none 0 0, .int .i64 0, .int .i64 u.at_, .int .i64 cc]) rfl (.inl ⟨by rfl, ?_⟩) ⟨b0, x4, x6, u1⟩ ?_
     ·rintro V ⟨v0, v1, v2, v3⟩
      go_simp
     simp only [zz0, zz1, zz2, Act.put, zz3, zz4, zz5]
     have HR := Lib.hid ((SD.out.tur.block rb hrl id).trans HR1.out)
     obtain ⟨r0, r1, r2, r3, r4, r5, r6, r7⟩ := eight_cells HR.out
     have fq := free_of_box HR.out
     refine wpAnyR_all (rs := [11]) (by kernel_rfl) (by simp) (fun i2 hi2 => ?_)
     obtain rfl : i2 = 11 := by simpa using hi2
     clear hi2
     refine wpOp_plain rfl rfl ?_
     simp only [zz0, zz1, zz2]
     go_simp
     refine wpAnyR_done (by kernel_rfl) ?_ _
     go_wp2_with fail
     have hzE : (set8 Wd rb (.slice none 0 0) (.int .i64 0) (.int .i64 0) (.string ⟨#[]⟩) (.slice none 0 0) (.int .i64 0) (.int .i64 u.at_) (.int .i64 cc)).heap[rb]? = some (.cells #[.slice none 0 0, .int .i64 0, .int .i64 0, .string ⟨#[]⟩, .slice none 0 0, .int .i64 0, .int .i64 u.at_, .int .i64 cc] 35 (0, 0)) := eight_set HR.out
     have tE := eight_turned Wd rb (.slice none 0 0) (.int .i64 0) (.int .i64 0) (.string ⟨#[]⟩) (.slice none 0 0) (.int .i64 0) (.int .i64 u.at_) (.int .i64 cc)
     refine bodyPost_ret (results_sread rfl _ _ rb (.slice none 0 0) (.int .i64 0) (.int .i64 0) (.string ⟨#[]⟩) (.slice none 0 0) (.int .i64 0) (.int .i64 u.at_) (.int .i64 cc) rfl hzE) rfl ?_
     exact ⟨done8 tA.out SD.out.tur hB2 tE, by rw [hE.out]⟩
    ·clear heq
     have hj3 : j + 1 <= j3 /\ j3 < ts.length := (form_fits hOK _ _ _ _ _ _ h5f).1
     have hcnt2 : n2 < y.2 /\ y.2 <= 2000 := (form_fits hOK _ _ _ _ _ _ h5f).2 trivial
     refine (rform_tq m3 j _ 1 n2 _ _ _ rfl rfl (by omega) (by omega) hcnt h5f S4.out.tq).mono ?_
     rintro e W9 ⟨ht2, pa, ca, pb, cb, rfl, hk1, hk2⟩
     have S5 := SQ.same S4 ht2
     have HY : Hid (fmAt W9 (fun b => tb + 1 <= b /\ ∀ g, (Value.slice va ps.length vc).ownBlock = some g -> b ≠ g) (y.1, .slice pa y.1.args.length ca, .slice pb y.1.body.length cb)) := Lib.hid (Own.fresh OV fmMov (p := (y.1, .slice pa y.1.args.length ca, .slice pb y.1.body.length cb)) ⟨hk1, hk2⟩)
     have OW := Own.move OV fmMov ht2 (fun _ h => h.elim)
     clear S4 OV ht2 hk1 hk2 b0 b1 b2 r0 r1 r2 r3 r4 r5 r6 r7 fq HR u0 u1 u2 u3
     have hel := (SQ.boxAt S5 0 rfl).2.2
     obtain ⟨W10, xb, hW10, hb10, S6⟩ := SQ.box S5 (.cells #[.string y.1.word, .slice pa y.1.args.length ca, .slice pb y.1.body.length cb, .int .i64 y.1.at_, (.int .i64 ((j3 : Nat))), (.int .i64 ((y.2 : Nat))), .int .i64 0] 79)
     obtain ⟨W11, kb, hW11, hb11, S7⟩ := SQ.box S6 (.cells #[.string y.1.word, .slice pa y.1.args.length ca, .slice pb y.1.body.length cb, .int .i64 y.1.at_] 45)
     have SF := SQ.forget S7
     have ekb : kb = W9.heap.size + 1 := by rw [hb11, hW10]; simp
     have t9 : Turned (fun _ => False) W9 W11 := by rw [hW11, hW10]; exact ((Turned.refl _ _).alloc _).alloc _
     have OX := Own.move OW fmMov t9 (fun _ h => h.elim)
     have HYX : Hid (fmAt W11 (fun b => tb + 1 <= b /\ ∀ g, (Value.slice va ps.length vc).ownBlock = some g -> b ≠ g) (y.1, .slice pa y.1.args.length ca, .slice pb y.1.body.length cb)) := Lib.hid (fmMov _ _ _ _ _ _ HY.out t9 (fun _ _ => id) (fun _ hb _ => hb))
     have hcell : ∀ j u, [.string y.1.word, .slice pa y.1.args.length ca, .slice pb y.1.body.length cb, .int .i64 y.1.at_][j]? = some u -> W11.cell? ((⟨kb, 0, none⟩ : Addr).add j) = some u := by rw [hW11, hb11]; exact cells_list W10 [.string y.1.word, .slice pa y.1.args.length ca, .slice pb y.1.body.length cb, .int .i64 y.1.at_] 45
     have hown9 : ∀ b, (Value.slice va ps.length vc).ownBlock = some b -> tb + 1 <= b /\ b < W9.heap.size := fun b hb => ownsRow_block OW.out.own b hb
     clear S5 S6 S7 OW HY t9 hb11
     subst hW11
     subst hW10
     subst hb10
     subst ekb
     have HOX := OX.out.own
     have HTOP := OX.out.top
     go_wp2_with (at_builtin; refine wpList_append_exact _ rfl _ _ 23 rfl (tb + 1) 45 i1 (.agg #[.string ⟨#[]⟩, .slice none 0 0, .slice none 0 0, .int .i64 0]) 4 72 Tryz.underlying23 hif1 hy0 hy1 hy2 rfl (by decide) (.slice va ps.length vc) ps.length (ps.flatMap fmEnc) rfl HOX ⟨W9.heap.size + 1, 0, none⟩ 1 1 [.string y.1.word, .slice pa y.1.args.length ca, .slice pb y.1.body.length cb, .int .i64 y.1.at_] rfl rfl hcell (by simp [Value.oneCell']) (by unfold maxLen; omega) (by omega) HTOP ?_; intro v' w4 hown' hgrow hex; obtain ⟨ga, cap', rfl⟩ := ownsRow_succ hown'; have htG := Own.turned_grown (B := 0) OX hgrow; have SG := SQ.turn SF htG.1 (fun b hb => ⟨by have := hown9 b hb; omega, by have := hown9 b hb; simp; omega⟩); have OG := Own.grown OX fmMov HYX.out hgrow hown' hex; clear hown' hgrow hex htG HYX OX SF hcell HOX HTOP; obtain ⟨g0, g1, g2, g3, g4, g5, g6⟩ := seven_cells (SQ.boxAt SG 0 rfl).1)
     have hlen2 : (ps ++ [(y.1, Value.slice pa y.1.args.length ca, Value.slice pb y.1.body.length cb)]).length = ps.length + 1 := by simp
     go_roundw
     case rel => exact ⟨ps ++ [(y.1, .slice pa y.1.args.length ca, .slice pb y.1.body.length cb)], j3, y.2, m3, by go_num, by go_num, Lib.hid ⟨SQ.forget SG, (by rw [hlen2]; exact OG), by omega, by omega, by omega, by rw [List.map_append]; exact h6⟩⟩
     case measure => simp [intOf]; omega
def shownT (t : ByteArray × Bool) : ByteArray × Int := if t.2 then (noB, 1) else match exprP t.1 with
 | .bad _ c => if c = 0 then (t.1, 0) else (noB, 2)
 | .ok _ => (t.1, 0)
def shownX (x : Ex) : ByteArray × Int := shownT (rtX x)
abbrev shBox : Obj := .cells #[.string ⟨#[]⟩, .int .i64 0] 57
theorem shown_size : (Tryz.prog.info? 57).map (·.size) = some 2 := by kernel_rfl
theorem results_shown {fn : Func} {i : Nat} (hf : fn.results = #[ResultVar.cell i 57]) (tmps : Array Value) (w : World) (N : Nat) (a b : Value) (hp : tmps.getD i undef = .pointer (some ⟨N, 0, none⟩)) (hg : w.heap[N]? = some (.cells #[a, b] 57 (0, 0))) :
  (results fn tmps).run Tryz.prog w = .ok (.agg #[a, b]) w := by
 have hp' : tmps[i]?.getD undef = .pointer (some ⟨N, 0, none⟩) := by simpa using hp
 simp [results, hf, hp', asAddr, run_loadVar_row w N 57 57 #[a, b] (0, 0) _ hg Tryz.underlying57 rfl shown_size]
theorem run_field_read (a b c d e f g h : Value) (W : World) : (Instr.field 35 (.agg #[a, b, c, d, e, f, g, h]) 2).run Tryz.prog W = .ok (.agg #[g, h]) W := by kernel_rfl
theorem run_field_problem (a c : Int) (W : World) : (Instr.field 26 (.agg #[.int .i64 a, .int .i64 c]) 1).run Tryz.prog W = .ok (.int .i64 c) W := by kernel_rfl
theorem sprintExpr_any (x : Ex) (hx : SzX x) (a : Value) (w : World) (hk : KidsAt w (fun _ => True) x.kids a) : Calls Tryz.prog 23 #[exA x a] w fun e w' => e = .returned (.agg #[.string (shownX x).1, (.int .i64 ((shownX x).2))]) /\ Turned (fun _ => False) w w' := by
 obtain ⟨pa, ca, rfl⟩ := hk.shape
 have HSH : Hid (∀ W, Turned (fun _ => False) w W -> Calls Tryz.prog 44 #[exA x (.slice pa x.kids.length ca)] W (ShowR x W)) := Lib.hid fun W ht => show_any _ x (Nat.le_refl _) hx _ W (hk.all ht)
 have S0 := St.start (T := fun W => KidsAt W (fun _ => True) x.kids (.slice pa x.kids.length ca)) hk (stays_kids _ _)
 clear hk
 unfold exA ShowR at HSH
 unfold exA
 have HX : Hid (shownX x = shownT (rtX x)) := Lib.hid rfl
 generalize rtX x = t at HSH HX
 go_enter Tryz.func23, Tryz.ntmps23
 go_upto_region 1 with fail
 obtain ⟨W1, b1, hW, hB, hbl, S1⟩ := St.box S0 (.cells #[.int .i64 x.op, .int .i64 x.n, .string x.s, .slice pa x.kids.length ca, .int .i64 x.at_] 31)
 have hz : W1.heap.size = b1 + 1 := by rw [hW, hB]; simp
 have hb1 : b1 = w.heap.size := hB
 rw [<- hW, <- hB]
 clear hW hB hbl S0
 obtain ⟨W2, b2, hW, hB, hbl, S2⟩ := St.box S1 shBox
 rw [hz] at hB
 have HGE : Hid (w.heap.size <= b2) := Lib.hid (by omega)
 rw [<- hW, <- hB]
 clear hW hB hbl S1 hz hb1
 obtain ⟨x0, x1, x2, x3, x4⟩ := St.cells5 S2 1 rfl
 go_upto_region 2 with (go_at_call 44; refine (HSH.out _ (Turned.of_new (S2.out.bel))).mono ?_; rintro e W3 ⟨rfl, ht⟩; have S3 := St.call S2 (below_turned ht); clear ht x0 x1 x2 x3 x4)
 obtain ⟨W4, b3, hW, hB, hbl, S4⟩ := St.box S3 (.cells #[.string t.1, .bool t.2] 96)
 rw [<- hW, <- hB]
 clear hW hB hbl S3 HSH
 obtain ⟨ts, tb⟩ := t
 obtain ⟨y0, y1⟩ := St.cells2 S4 0 rfl
 dsimp only at y0 y1 S4
 cases tb with
 | true =>
  have HR : Hid (shownX x = (noB, 1)) := Lib.hid (HX.out.trans rfl)
  have hb2 := S4.out.lays.get 1 rfl
  obtain ⟨z0, z1⟩ := cellsTx hb2
  have fq := free_of_box hb2
  have HB2 := Lib.hid hb2
  clear hb2
  go_wp2_with fail
  refine bodyPost_ret (results_shown rfl _ _ b2 _ _ rfl (tx_set HB2.out)) rfl ?_
  rw [HR.out]
  exact ⟨rfl, ((Turned.of_new (C := fun b => w.heap.size <= b) S4.out.bel).trans ((tx_turned _ _ _ _).mono fun b hb => by have := HGE.out; omega)).strip⟩
 | false =>
  have hfld := run_field_read
  have hfld2 := run_field_problem
  have HEX := Lib.hid (rexprS_all ts W4)
  cases hP : exprP ts with
  | bad a c =>
   have HEC : Hid (Calls Tryz.prog 12 #[.string ts] W4 fun e w' => e = .returned (.agg #[.slice none 0 0, .int .i64 0, .int .i64 0, .string ⟨#[]⟩, .slice none 0 0, .int .i64 0, .int .i64 a, .int .i64 c]) /\ Turned (fun _ => False) W4 w') := Lib.hid (HEX.out.mono fun e w' h => by
    unfold ReadE at h
    rw [hP] at h
    exact ⟨h.2, h.1⟩)
   by_cases hc : c = 0
   ·have HR : Hid (shownX x = (ts, 0)) := Lib.hid (by rw [HX.out]; unfold shownT; rw [hP]; simp [hc])
    have hcb : (c != 0) = false := by simp [hc]
    clear hc hP HEX
    go_wp2_with (go_at_call 12; refine HEC.out.mono ?_; rintro e W5 ⟨rfl, ht⟩; have S5 := St.call S4 (below_turned ht); clear ht y0 y1 S4; obtain ⟨y0, y1⟩ := St.cells2 S5 0 rfl; have hb2 := S5.out.lays.get 1 rfl; obtain ⟨z0, z1⟩ := cellsTx hb2; have fq := free_of_box hb2; have HB2 := Lib.hid hb2; clear hb2)
    refine bodyPost_ret (results_shown rfl _ _ b2 _ _ rfl (tx_set HB2.out)) rfl ?_
    rw [HR.out]
    exact ⟨rfl, ((Turned.of_new (C := fun b => w.heap.size <= b) S5.out.bel).trans ((tx_turned _ _ _ _).mono fun b hb => by have := HGE.out; omega)).strip⟩
   ·have HR : Hid (shownX x = (noB, 2)) := Lib.hid (by rw [HX.out]; unfold shownT; rw [hP]; simp [hc])
    have hcb : (c != 0) = true := by simpa using hc
    clear hc hP HEX
    go_wp2_with (go_at_call 12; refine HEC.out.mono ?_; rintro e W5 ⟨rfl, ht⟩; have S5 := St.call S4 (below_turned ht); clear ht y0 y1 S4; obtain ⟨y0, y1⟩ := St.cells2 S5 0 rfl; have hb2 := S5.out.lays.get 1 rfl; obtain ⟨z0, z1⟩ := cellsTx hb2; have fq := free_of_box hb2; have HB2 := Lib.hid hb2; clear hb2)
    refine bodyPost_ret (results_shown rfl _ _ b2 _ _ rfl (tx_set HB2.out)) rfl ?_
    rw [HR.out]
    exact ⟨rfl, ((Turned.of_new (C := fun b => w.heap.size <= b) S5.out.bel).trans ((tx_turned _ _ _ _).mono fun b hb => by have := HGE.out; omega)).strip⟩
  | ok y =>
   have HR : Hid (shownX x = (ts, 0)) := Lib.hid (by rw [HX.out]; unfold shownT; rw [hP]; rfl)
   have HEC : Hid (Calls Tryz.prog 12 #[.string ts] W4 fun e w' => ∃ p cc, e = .returned (.agg #[.slice none 0 0, .int .i64 y.op, .int .i64 y.n, .string y.s, .slice p y.kids.length cc, .int .i64 y.at_, .int .i64 0, .int .i64 0]) /\ Turned (fun _ => False) W4 w') := Lib.hid (HEX.out.mono fun e w' h => by
    unfold ReadE at h
    rw [hP] at h
    obtain ⟨ht, p, c, he, -⟩ := h
    exact ⟨p, c, he, ht⟩)
   clear hP HEX
   go_wp2_with (go_at_call 12; refine HEC.out.mono ?_; rintro e W5 ⟨pz, cz, rfl, ht⟩; have S5 := St.call S4 (below_turned ht); clear ht y0 y1 S4; obtain ⟨y0, y1⟩ := St.cells2 S5 0 rfl; have hb2 := S5.out.lays.get 1 rfl; obtain ⟨z0, z1⟩ := cellsTx hb2; have fq := free_of_box hb2; have HB2 := Lib.hid hb2; clear hb2)
   refine bodyPost_ret (results_shown rfl _ _ b2 _ _ rfl (tx_set HB2.out)) rfl ?_
   rw [HR.out]
   exact ⟨rfl, ((Turned.of_new (C := fun b => w.heap.size <= b) S5.out.bel).trans ((tx_turned _ _ _ _).mono fun b hb => by have := HGE.out; omega)).strip⟩
end Go.Proofs.YtjijdgkccfeeaaaGreatDoor
