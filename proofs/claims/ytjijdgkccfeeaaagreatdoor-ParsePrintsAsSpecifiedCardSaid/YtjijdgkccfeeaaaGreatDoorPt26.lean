/- Part 26 of the proof of card: ParRefJ. Conditions: those of each theorem. -/
import Derived.Test.YtjijdgkccfeeaaaGreatDoorPt01
import Derived.Test.YtjijdgkccfeeaaaGreatDoorPt25
set_option maxRecDepth 20000
set_option maxHeartbeats 16000000
namespace Go.Proofs.YtjijdgkccfeeaaaGreatDoor
open Go Go.Proofs Go.RowKit
attribute [local go_sem] Oper.semAt_some
def FXG (w : World) (r : PR (Fm × Nat)) (e : Ending) (w' : World) : Prop :=
 Turned (fun _ => False) w w' /\ match r with
 | .ok x j => ∃ pa ca pb cb, e = .returned (.agg #[.string x.1.word, .slice pa x.1.args.length ca, .slice pb x.1.body.length cb, .int .i64 x.1.at_, (.int .i64 ((j : Nat))), (.int .i64 ((x.2 : Nat))), .int .i64 0]) /\ ArgsAt w' (fun b => w.heap.size <= b) x.1.args (.slice pa x.1.args.length ca) /\ FormsAt w' (fun b => w.heap.size <= b) x.1.body (.slice pb x.1.body.length cb)
 | .err j c => e = .returned (.agg #[.string ⟨#[]⟩, .slice none 0 0, .slice none 0 0, .int .i64 0, (.int .i64 ((j : Nat))), .int .i64 0, .int .i64 c])
def HypFG (g cap : Nat) (ts : List Tok) (f : Nat) : Prop := ∀ (m k : Nat) (z d : Int) (n : Nat) (y : Int) (r : PR (Fm × Nat)) (w : World), m < f -> z = k -> y = n -> 0 <= d -> d <= 31 -> n <= 2000 -> formF ts m .form k d n = some r -> TQ g cap ts w -> Calls Tryz.prog 33 #[.slice (some ⟨g, 0, none⟩) ts.length cap, .int .i64 z, .int .i64 d, .int .i64 y] w (FXG w r)
theorem part_size : (Tryz.prog.info? 79).map (·.size) = some 7 := by kernel_rfl
theorem results_part {fn : Func} {i : Nat} (hf : fn.results = #[ResultVar.cell i 79]) (tmps : Array Value) (w : World) (N : Nat) (a b c d e f g : Value) (hp : tmps.getD i undef = .pointer (some ⟨N, 0, none⟩)) (hg : w.heap[N]? = some (.cells #[a, b, c, d, e, f, g] 79 (0, 0))) :
  (results fn tmps).run Tryz.prog w = .ok (.agg #[a, b, c, d, e, f, g]) w := by
 have hp' : tmps[i]?.getD undef = .pointer (some ⟨N, 0, none⟩) := by simpa using hp
 simp [results, hf, hp', asAddr, run_loadVar_row w N 79 79 #[a, b, c, d, e, f, g] (0, 0) _ hg Tryz.underlying79 rfl part_size]
theorem part_set1 {V : World} {N t : Nat} {a b c d e f g x : Value} (hh : V.heap[N]? = some (.cells #[a, b, c, d, e, f, g] t (0, 0))) : (V.setCell ⟨N, 1, none⟩ x).heap[N]? = some (.cells #[a, x, c, d, e, f, g] t (0, 0)) := by
 simp [World.setCell, Array.getElem?_modify, hh]
theorem part_set2 {V : World} {N t : Nat} {a b c d e f g x : Value} (hh : V.heap[N]? = some (.cells #[a, b, c, d, e, f, g] t (0, 0))) : (V.setCell ⟨N, 2, none⟩ x).heap[N]? = some (.cells #[a, b, x, d, e, f, g] t (0, 0)) := by
 simp [World.setCell, Array.getElem?_modify, hh]
theorem part_set4 {V : World} {N t : Nat} {a b c d e f g x : Value} (hh : V.heap[N]? = some (.cells #[a, b, c, d, e, f, g] t (0, 0))) : (V.setCell ⟨N, 4, none⟩ x).heap[N]? = some (.cells #[a, b, c, d, x, f, g] t (0, 0)) := by
 simp [World.setCell, Array.getElem?_modify, hh]
theorem part_set5 {V : World} {N t : Nat} {a b c d e f g x : Value} (hh : V.heap[N]? = some (.cells #[a, b, c, d, e, f, g] t (0, 0))) : (V.setCell ⟨N, 5, none⟩ x).heap[N]? = some (.cells #[a, b, c, d, e, x, g] t (0, 0)) := by
 simp [World.setCell, Array.getElem?_modify, hh]
structure FQ (g cap : Nat) (ts : List Tok) (f : Nat) (w : World) (d : Int) (r : PR (Fm × Nat)) (t : Tok) (fb rb : Nat) (v : Value) (ps : List (Ar × Value)) (j n m : Nat) (wr : World) : Prop where
 sq : Hid (SQ g cap ts w wr [(fb, .cells #[.string t.s, v, .slice none 0 0, .int .i64 t.at_, (.int .i64 ((j : Nat))), (.int .i64 ((n : Nat))), .int .i64 0] 79), (rb, .cells #[.string ⟨#[]⟩, .slice none 0 0, .slice none 0 0, .int .i64 0, .int .i64 0, .int .i64 0, .int .i64 0] 79)] [])
 own : Hid (Own wr (fb + 1) 48 9 arEnc arAt v ps.length ps)
 len : ps.length <= 40
 lt : j < ts.length
 fuel : m < f
 eq : formF ts m (.args t (ps.map (·.1))) j d n = some r
structure FC (g cap : Nat) (ts : List Tok) (f : Nat) (w : World) (d : Int) (r : PR (Fm × Nat)) (t : Tok) (xs : List Ar) (av : Value) (lo fb rb : Nat) (v : Value) (ps : List (Fm × Value × Value)) (j n m : Nat) (wr : World) : Prop where
 sq : Hid (SQ g cap ts w wr [(fb, .cells #[.string t.s, av, v, .int .i64 t.at_, (.int .i64 ((j : Nat))), (.int .i64 ((n : Nat))), .int .i64 0] 79), (rb, .cells #[.string ⟨#[]⟩, .slice none 0 0, .slice none 0 0, .int .i64 0, .int .i64 0, .int .i64 0, .int .i64 0] 79)] [])
 args : Hid (ArgsAt wr (fun b => fb < b /\ b < lo) xs av)
 own : Hid (Own wr lo 45 4 fmEnc fmAt v ps.length ps)
 len : ps.length <= n
 cnt : n <= 2000
 lt : j < ts.length
 fuel : m < f
 eq : formF ts m (.body t xs (ps.map (·.1))) j d n = some r
theorem rform_bad {g cap : Nat} {ts : List Tok} (k : Nat) (d : Int) (n : Nat) (w : World) (h : TQ g cap ts w) (t : Tok) (ht : ts[k]? = some t) (hk : ¬ t.kind = 1) :
  Calls Tryz.prog 33 #[.slice (some ⟨g, 0, none⟩) ts.length cap, (.int .i64 ((k : Nat))), .int .i64 d, (.int .i64 ((n : Nat)))] w (FXG w (.err k 5)) := by
 have hkl := lt_of_some ht
 have hkl2 : (k : Int) < (ts.length : Int) := by omega
 obtain ⟨t0, t1, t2, t3⟩ := h.tok ht
 have hg := h.ltg
 have S0 := SQ.start h
 have bk2 : (t.kind != 1) = true := by simpa using hk
 clear hk
 go_enter Tryz.func33, Tryz.ntmps33
 go_wp2_with fail
 obtain ⟨WA, ra, hWA, hba, SA⟩ := SQ.box S0 (.cells #[.string ⟨#[]⟩, .slice none 0 0, .slice none 0 0, .int .i64 0, (.int .i64 ((k : Nat))), .int .i64 0, .int .i64 5] 79)
 rw [<- hWA, <- hba]
 refine bodyPost_ret (results_part rfl _ _ ra (.string ⟨#[]⟩) (.slice none 0 0) (.slice none 0 0) (.int .i64 0) (.int .i64 ((k : Nat))) (.int .i64 0) (.int .i64 5) rfl (SQ.boxAt SA 0 rfl).1) rfl ?_
 exact ⟨SA.out.tur, rfl⟩
theorem rform_deep {g cap : Nat} {ts : List Tok} (k : Nat) (d : Int) (n : Nat) (w : World) (h : TQ g cap ts w) (t : Tok) (ht : ts[k]? = some t) (hk : t.kind = 1) (hd : 30 < d \/ 2000 <= n) :
  Calls Tryz.prog 33 #[.slice (some ⟨g, 0, none⟩) ts.length cap, (.int .i64 ((k : Nat))), .int .i64 d, (.int .i64 ((n : Nat)))] w (FXG w (.err k 2)) := by
 have hkl := lt_of_some ht
 have hkl2 : (k : Int) < (ts.length : Int) := by omega
 obtain ⟨t0, t1, t2, t3⟩ := h.tok ht
 have hg := h.ltg
 have S0 := SQ.start h
 have bk2 : (t.kind != 1) = false := by simpa using hk
 clear hk
 by_cases hd30 : 30 < d
 ·go_enter Tryz.func33, Tryz.ntmps33
  go_wp2_with fail
  obtain ⟨WA, ra, hWA, hba, SA⟩ := SQ.box S0 (.cells #[.string ⟨#[]⟩, .slice none 0 0, .slice none 0 0, .int .i64 0, (.int .i64 ((k : Nat))), .int .i64 0, .int .i64 2] 79)
  rw [<- hWA, <- hba]
  refine bodyPost_ret (results_part rfl _ _ ra (.string ⟨#[]⟩) (.slice none 0 0) (.slice none 0 0) (.int .i64 0) (.int .i64 ((k : Nat))) (.int .i64 0) (.int .i64 2) rfl (SQ.boxAt SA 0 rfl).1) rfl ?_
  exact ⟨SA.out.tur, rfl⟩
 ·have hn2 : (2000 : Int) <= (n : Int) := by omega
  go_enter Tryz.func33, Tryz.ntmps33
  go_wp2_with fail
  obtain ⟨WA, ra, hWA, hba, SA⟩ := SQ.box S0 (.cells #[.string ⟨#[]⟩, .slice none 0 0, .slice none 0 0, .int .i64 0, (.int .i64 ((k : Nat))), .int .i64 0, .int .i64 2] 79)
  rw [<- hWA, <- hba]
  refine bodyPost_ret (results_part rfl _ _ ra (.string ⟨#[]⟩) (.slice none 0 0) (.slice none 0 0) (.int .i64 0) (.int .i64 ((k : Nat))) (.int .i64 0) (.int .i64 2) rfl (SQ.boxAt SA 0 rfl).1) rfl ?_
  exact ⟨SA.out.tur, rfl⟩
theorem rform_go {g cap : Nat} {ts : List Tok} {f : Nat} (IH : HypFG g cap ts f) (m k : Nat) (d : Int) (n : Nat) (r : PR (Fm × Nat)) (w : World) (hm : m < f) (hd0 : 0 <= d) (hd : d <= 30) (hn : n < 2000) (h : TQ g cap ts w) (t : Tok) (ht : ts[k]? = some t) (hk : t.kind = 1) (hr : formF ts m (.args t []) (k + 1) d (n + 1) = some r) :
  Calls Tryz.prog 33 #[.slice (some ⟨g, 0, none⟩) ts.length cap, (.int .i64 ((k : Nat))), .int .i64 d, (.int .i64 ((n : Nat)))] w (FXG w r) := by
 have hk1 := h.ok.next _ _ ht (by rw [hk]; decide)
 have hkl := lt_of_some ht
 have hkl2 : (k : Int) < (ts.length : Int) := by omega
 have hln := h.ok.len
 have hwk : IntKind.i64.wrap ((k : Int) + 1) = (k : Int) + 1 := IntWalk.i64_in _ (by omega)
 have hwn : IntKind.i64.wrap ((n : Int) + 1) = (n : Int) + 1 := IntWalk.i64_in _ (by omega)
 have hwd : IntKind.i64.wrap (d + 1) = d + 1 := IntWalk.i64_in _ (by omega)
 obtain ⟨i0, hif, hz0, hz1, hz2⟩ := info_parts infoArg
 have bk2 : (t.kind != 1) = false := by simpa using hk
 have hd30 : ¬ 30 < d := by omega
 have hn2 : ¬ (2000 : Int) <= (n : Int) := by omega
 have hcn : n + 1 <= 2000 := by omega
 obtain ⟨t0, t1, t2, t3⟩ := h.tok ht
 have hg := h.ltg
 have S0 := SQ.start h
 clear hk
 go_enter Tryz.func33, Tryz.ntmps33
 go_wp2_with fail
 obtain ⟨W1, rb, hW1, hb1, S1⟩ := SQ.box S0 (.cells #[.string ⟨#[]⟩, .slice none 0 0, .slice none 0 0, .int .i64 0, .int .i64 0, .int .i64 0, .int .i64 0] 79)
 rw [<- hW1, <- hb1]
 clear hW1 hb1 S0 t0 t1 t2 t3 hd30 hn2 bk2
 obtain ⟨t0, t1, t2, t3⟩ := S1.out.tq.tok ht
 refine region_R (R := fun q V => q < 17 -> (fun V : World => V.cell? ⟨g, k * 4 + 1, none⟩ = some (.int .i64 t.at_) /\ V.cell? ⟨g, k * 4 + 2, none⟩ = some (.string t.s)) V) (by kernel_rfl) ?_
 obtain ⟨Wd, hWd⟩ : ∃ Wd, Wd = W1.drew := ⟨_, rfl⟩
 rw [<- hWd]
 have S2 := SQ.same S1 (Turned.refl _ _).drew
 rw [<- hWd] at S2
 clear hWd S1 t0 t1 t2 t3
 have t1 := (S2.out.tq.tok ht).2.1
 have t2 := (S2.out.tq.tok ht).2.2.1
 refine tk (n := 17) 0 (.slice (some ⟨g, 0, none⟩) ts.length cap) rfl (.inl ⟨by rfl, ?_⟩) ⟨t1, t2⟩ ?_
 ·rintro V ⟨v0, v1⟩
  go_simp
 simp only [zz0, zz1, Act.put, zz3, zz4, zz5]
 refine tk (n := 17) 1 (.int .i64 ((k : Nat))) rfl (.inl ⟨by rfl, ?_⟩) ⟨t1, t2⟩ ?_
 ·rintro V ⟨v0, v1⟩
  go_simp
 simp only [zz0, zz1, zz2, Act.put, zz3, zz4, zz5]
 refine tk (n := 17) 2 (.pointer (some ⟨g, k * 4, none⟩)) rfl (.inl ⟨by rfl, ?_⟩) ⟨t1, t2⟩ ?_
 ·rintro V ⟨v0, v1⟩
  go_simp
 simp only [zz0, zz1, zz2, Act.put, zz3, zz4, zz5]
 refine tk (n := 17) 3 (.pointer (some ⟨g, k * 4 + 2, none⟩)) rfl (.inl ⟨by rfl, ?_⟩) ⟨t1, t2⟩ ?_
 ·rintro V ⟨v0, v1⟩
  go_simp
 simp only [zz0, zz1, zz2, Act.put, zz3, zz4, zz5]
 refine tk (n := 17) 4 (.string t.s) rfl (.inl ⟨by rfl, ?_⟩) ⟨t1, t2⟩ ?_
 ·rintro V ⟨v0, v1⟩
  go_simp
 simp only [zz0, zz1, zz2, Act.put, zz3, zz4, zz5]
 refine tk (n := 17) 5 (.slice (some ⟨g, 0, none⟩) ts.length cap) rfl (.inl ⟨by rfl, ?_⟩) ⟨t1, t2⟩ ?_
 ·rintro V ⟨v0, v1⟩
  go_simp
 simp only [zz0, zz1, zz2, Act.put, zz3, zz4, zz5]
 refine tk (n := 17) 6 (.int .i64 ((k : Nat))) rfl (.inl ⟨by rfl, ?_⟩) ⟨t1, t2⟩ ?_
 ·rintro V ⟨v0, v1⟩
  go_simp
 simp only [zz0, zz1, zz2, Act.put, zz3, zz4, zz5]
 refine tk (n := 17) 7 (.pointer (some ⟨g, k * 4, none⟩)) rfl (.inl ⟨by rfl, ?_⟩) ⟨t1, t2⟩ ?_
 ·rintro V ⟨v0, v1⟩
  go_simp
 simp only [zz0, zz1, zz2, Act.put, zz3, zz4, zz5]
 refine tk (n := 17) 8 (.pointer (some ⟨g, k * 4 + 1, none⟩)) rfl (.inl ⟨by rfl, ?_⟩) ⟨t1, t2⟩ ?_
 ·rintro V ⟨v0, v1⟩
  go_simp
 simp only [zz0, zz1, zz2, Act.put, zz3, zz4, zz5]
 refine tk (n := 17) 9 (.int .i64 t.at_) rfl (.inl ⟨by rfl, ?_⟩) ⟨t1, t2⟩ ?_
 ·rintro V ⟨v0, v1⟩
  go_simp
 simp only [zz0, zz1, zz2, Act.put, zz3, zz4, zz5]
 refine tk (n := 17) 10 (.agg #[.string t.s, .slice none 0 0, .slice none 0 0, .int .i64 t.at_]) rfl (.inl ⟨by rfl, ?_⟩) ⟨t1, t2⟩ ?_
 ·rintro V ⟨v0, v1⟩
  go_simp
 simp only [zz0, zz1, zz2, Act.put, zz3, zz4, zz5]
 refine tk (n := 17) 11 (.int .i64 ((k : Nat))) rfl (.inl ⟨by rfl, ?_⟩) ⟨t1, t2⟩ ?_
 ·rintro V ⟨v0, v1⟩
  go_simp
 simp only [zz0, zz1, zz2, Act.put, zz3, zz4, zz5]
 refine tk (n := 17) 12 (.int .i64 ((k : Int) + 1)) rfl (.inl ⟨by rfl, ?_⟩) ⟨t1, t2⟩ ?_
 ·rintro V ⟨v0, v1⟩
  go_simp
 simp only [zz0, zz1, zz2, Act.put, zz3, zz4, zz5]
 refine tk (n := 17) 13 (.int .i64 ((n : Nat))) rfl (.inl ⟨by rfl, ?_⟩) ⟨t1, t2⟩ ?_
 ·rintro V ⟨v0, v1⟩
  go_simp
 simp only [zz0, zz1, zz2, Act.put, zz3, zz4, zz5]
 refine tk (n := 17) 14 (.int .i64 ((n : Int) + 1)) rfl (.inl ⟨by rfl, ?_⟩) ⟨t1, t2⟩ ?_
 ·rintro V ⟨v0, v1⟩
  go_simp
 simp only [zz0, zz1, zz2, Act.put, zz3, zz4, zz5]
 refine tk (n := 17) 15 (.agg #[.string t.s, .slice none 0 0, .slice none 0 0, .int .i64 t.at_, (.int .i64 ((k : Int) + 1)), (.int .i64 ((n : Int) + 1)), .int .i64 0]) rfl (.inl ⟨by rfl, ?_⟩) ⟨t1, t2⟩ ?_
 ·rintro V ⟨v0, v1⟩
  go_simp
 simp only [zz0, zz1, zz2, Act.put, zz3, zz4, zz5]
 have ltg := S2.out.tq.ltg
 refine wpAnyR_all (rs := [16]) (by kernel_rfl) (by simp) (fun i2 hi2 => ?_)
 obtain rfl : i2 = 16 := by simpa using hi2
 clear hi2
 refine wpOp_plain rfl rfl ?_
 simp only [zz0, zz1, zz2]
 go_simp
 refine wpAnyR_all (rs := [17]) (by kernel_rfl) (by simp) (fun i2 hi2 => ?_)
 obtain rfl : i2 = 17 := by simpa using hi2
 clear hi2
 refine wpOp_plain rfl rfl ?_
 simp only [zz0, zz1, zz2]
 go_simp
 refine wpAnyR_done (by kernel_rfl) ?_ _
 go_wp2_with fail
 obtain ⟨W3, fb, hW, hb, S3⟩ := SQ.box S2 (.cells #[.string t.s, .slice none 0 0, .slice none 0 0, .int .i64 t.at_, (.int .i64 ((k : Int) + 1)), (.int .i64 ((n : Int) + 1)), .int .i64 0] 79)
 rw [<- hW, <- hb]
 have hrbW := (SQ.boxAt S2 0 rfl).2.2
 clear hW S2 t1 t2 ltg
 have hwf : w.heap.size <= fb := (SQ.boxAt S3 0 rfl).2.1
 have hrb : rb < fb := by omega
 clear hb
 rw [show (k : Int) + 1 = ((k + 1 : Nat) : Int) from rfl, show (n : Int) + 1 = ((n + 1 : Nat) : Int) from rfl] at S3
 go_loopw [49] (fun _ wr => ∃ (v : Value) (ps : List (Ar × Value)) (j n2 m2 : Nat), n2 <= 2000 /\ Hid (FQ g cap ts f w d r t fb rb v ps j n2 m2 wr)) (fun _ wr => ts.length - (intOf ((wr.cell? ⟨fb, 4, none⟩).getD undef)).toNat)
 case atStart => exact ⟨_, [], k + 1, n + 1, m, hcn, Lib.hid ⟨S3, Own.start (SQ.boxAt S3 0 rfl).2.2, by simp, hk1, hm, hr⟩⟩
 case round =>
  clear S3 hr hcn hrbW
  obtain ⟨v, ps, j, n2, m2, hcn, HA⟩ := hrel
  have S4 := HA.out.sq
  have OV := HA.out.own
  have hlen := HA.out.len
  have hjl := HA.out.lt
  have heq := HA.out.eq
  have hm2 := HA.out.fuel
  clear HA
  obtain ⟨va, vc, rfl⟩ := owns_shape OV.out.own
  obtain ⟨u, hu⟩ := some_of_lt hjl
  obtain ⟨m3, rfl⟩ : ∃ m', m2 = m' + 1 := by
   cases m2 with
   | zero => simp [formF] at heq
   | succ m' => exact ⟨m', rfl⟩
  unfold formF at heq
  simp only [hu] at heq
  have hwj : IntKind.i64.wrap ((j : Int) + 1) = (j : Int) + 1 := IntWalk.i64_in _ (by omega)
  have hzx := (SQ.boxAt S4 0 rfl).1
  obtain ⟨x0, x1, x2, x3, x4, x5, x6⟩ := seven_cells hzx
  have fqx := free_of_box hzx
  have hzr := (SQ.boxAt S4 1 rfl).1
  obtain ⟨r0, r1, r2, r3, r4, r5, r6⟩ := seven_cells hzr
  have fqr := free_of_box hzr
  have HM : Hid (intOf ((wr.cell? ⟨fb, 4, none⟩).getD undef) = (j : Int)) := Lib.hid (by rw [x4]; rfl)
  go_wp2_with fail
  have HI := fun s => sign_tq S4.out.tq hu _ rfl s
  refine (HI _).mono ?_
  rintro e W5 ⟨rfl, rfl⟩
  by_cases hsc : isS u ⟨#[59]⟩ = true
  ·rw [if_pos hsc] at heq
   cases heq
   clear HI
   go_wp2_with fail
   have SA := SQ.put S4 0 rfl (one_turned _ fb 4 (.int .i64 ((j : Int) + 1))) (part_set4 hzx)
   have tS := seven_turned (wr.setCell ⟨fb, 4, none⟩ (.int .i64 ((j : Int) + 1))) rb (.string t.s) (.slice va ps.length vc) (.slice none 0 0) (.int .i64 t.at_) (.int .i64 ((j : Int) + 1)) (.int .i64 ((n2 : Nat))) (.int .i64 0)
   have SB := SQ.put SA 1 rfl (seven_turned _ rb (.string t.s) (.slice va ps.length vc) (.slice none 0 0) (.int .i64 t.at_) (.int .i64 ((j : Int) + 1)) (.int .i64 ((n2 : Nat))) (.int .i64 0)) (seven_set (SQ.boxAt SA 1 rfl).1)
   refine bodyPost_ret (results_part rfl _ _ rb (.string t.s) (.slice va ps.length vc) (.slice none 0 0) (.int .i64 t.at_) (.int .i64 ((j : Int) + 1)) (.int .i64 ((n2 : Nat))) (.int .i64 0) rfl (SQ.boxAt SB 1 rfl).1) rfl ?_
   have h9 := ((Own.argsAt OV rfl).move (one_turned wr fb 4 (.int .i64 ((j : Int) + 1))) (fun b hb => by omega) (M := fun b => fb < b) (fun b hb _ => hb)).move tS (fun b hb => by omega) (M := fun b => w.heap.size <= b) (fun b hb _ => by omega)
   unfold set7 at h9
   exact ⟨SB.out.tur, va, vc, none, 0, by simp [Fm.word, Fm.args, Fm.body, Fm.at_], by simpa [Fm.args] using h9, .nil _ _⟩
  ·have hsc : isS u ⟨#[59]⟩ = false := by simpa using hsc
   rw [if_neg (by rw [hsc]; decide)] at heq
   go_wp2_with fail
   refine (HI _).mono ?_
   rintro e W5 ⟨rfl, rfl⟩
   by_cases hbr : isS u ⟨#[123]⟩ = true
   ·rw [if_pos hbr] at heq
    clear HI
    have hk3 := h.ok.sign hu hbr
    go_wp2_with fail
    have S6 := SQ.put S4 0 rfl (one_turned _ fb 4 (.int .i64 ((j : Int) + 1))) (part_set4 hzx)
    have hlf := (SQ.boxAt S6 0 rfl).2.2
    have HAR := Lib.hid ((Own.argsAt OV rfl).move (one_turned wr fb 4 (.int .i64 ((j : Int) + 1))) (fun b hb => by omega) (M := fun b => fb < b /\ b < wr.heap.size) (fun b hb hlt => ⟨by omega, hlt⟩))
    obtain ⟨W6, hW6⟩ : ∃ W6, W6 = wr.setCell ⟨fb, 4, none⟩ (.int .i64 ((j : Int) + 1)) := ⟨_, rfl⟩
    rw [<- hW6] at S6 HAR hlf ⊢
    have hsz : wr.heap.size = W6.heap.size := by rw [hW6]; simp [World.setCell]
    obtain ⟨lo, hlo⟩ : ∃ lo, lo = W6.heap.size := ⟨_, rfl⟩
    rw [hsz, <- hlo] at HAR
    rw [<- hlo] at hlf
    rw [show (j : Int) + 1 = ((j + 1 : Nat) : Int) from rfl] at S6
    clear hW6 hsz S4 OV
    clear hzx fqx x0 x1 x2 x3 x4 x5 x6 hzr fqr r0 r1 r2 r3 r4 r5 r6
    obtain ⟨i1, hif1, hy0, hy1, hy2⟩ := info_parts infoForm
    try go_wp2_with fail
    go_loopw [117] (fun _ wr => ∃ (v : Value) (qs : List (Fm × Value × Value)) (j n2 m2 : Nat), Hid (FC g cap ts f w d r t (ps.map (·.1)) (.slice va ps.length vc) lo fb rb v qs j n2 m2 wr)) (fun _ wr => ts.length - (intOf ((wr.cell? ⟨fb, 4, none⟩).getD undef)).toNat)
    case atStart => exact ⟨_, [], j + 1, n2, m3, Lib.hid ⟨S6, HAR, Own.start (by omega), by simp, hcn, by omega, by omega, heq⟩⟩
    case round =>
     clear S6 heq HAR HM hlo hbr hsc hk3 hu hjl hcn
     obtain ⟨v, qs, j, n2, m2, HB⟩ := hrel
     have S4 := HB.out.sq
     have OV := HB.out.own
     have HA := HB.out.args
     have hqn := HB.out.len
     have hcnt := HB.out.cnt
     have hjl := HB.out.lt
     have heq := HB.out.eq
     have hm2 := HB.out.fuel
     clear HB
     obtain ⟨vb, vd, rfl⟩ := owns_shape OV.out.own
     obtain ⟨u, hu⟩ := some_of_lt hjl
     obtain ⟨m3, rfl⟩ : ∃ m', m2 = m' + 1 := by
      cases m2 with
      | zero => simp [formF] at heq
      | succ m' => exact ⟨m', rfl⟩
     unfold formF at heq
     simp only [hu] at heq
     have hzx := (SQ.boxAt S4 0 rfl).1
     obtain ⟨x0, x1, x2, x3, x4, x5, x6⟩ := seven_cells hzx
     have fqx := free_of_box hzx
     have hzr := (SQ.boxAt S4 1 rfl).1
     obtain ⟨r0, r1, r2, r3, r4, r5, r6⟩ := seven_cells hzr
     have fqr := free_of_box hzr
     have HM : Hid (intOf ((wr.cell? ⟨fb, 4, none⟩).getD undef) = (j : Int)) := Lib.hid (by rw [x4]; rfl)
     have hwj : IntKind.i64.wrap ((j : Int) + 1) = (j : Int) + 1 := IntWalk.i64_in _ (by omega)
     go_wp2_with fail
     refine (sign_tq S4.out.tq hu _ rfl _).mono ?_
     rintro e W8 ⟨rfl, rfl⟩
     by_cases hcb : isS u ⟨#[125]⟩ = true
     ·rw [if_pos hcb] at heq
      cases heq
      go_wp2_with fail
      have SA := SQ.put S4 0 rfl (one_turned _ fb 4 (.int .i64 ((j : Int) + 1))) (part_set4 hzx)
      have tS := seven_turned (wr.setCell ⟨fb, 4, none⟩ (.int .i64 ((j : Int) + 1))) rb (.string t.s) (.slice va ps.length vc) (.slice vb qs.length vd) (.int .i64 t.at_) (.int .i64 ((j : Int) + 1)) (.int .i64 ((n2 : Nat))) (.int .i64 0)
      have SB := SQ.put SA 1 rfl (seven_turned _ rb (.string t.s) (.slice va ps.length vc) (.slice vb qs.length vd) (.int .i64 t.at_) (.int .i64 ((j : Int) + 1)) (.int .i64 ((n2 : Nat))) (.int .i64 0)) (seven_set (SQ.boxAt SA 1 rfl).1)
      refine bodyPost_ret (results_part rfl _ _ rb (.string t.s) (.slice va ps.length vc) (.slice vb qs.length vd) (.int .i64 t.at_) (.int .i64 ((j : Int) + 1)) (.int .i64 ((n2 : Nat))) (.int .i64 0) rfl (SQ.boxAt SB 1 rfl).1) rfl ?_
      have h9 := (HA.out.move (one_turned wr fb 4 (.int .i64 ((j : Int) + 1))) (fun b hb => by have := hb.1; omega) (M := fun b => fb < b) (fun b hb _ => hb.1)).move tS (fun b hb => by omega) (M := fun b => w.heap.size <= b) (fun b hb _ => by omega)
      have h10 := ((Own.formsAt OV rfl).move (one_turned wr fb 4 (.int .i64 ((j : Int) + 1))) (fun b hb => by omega) (M := fun b => lo <= b) (fun b hb _ => hb)).move tS (fun b hb => by omega) (M := fun b => w.heap.size <= b) (fun b hb _ => by omega)
      unfold set7 at h9 h10
      exact ⟨SB.out.tur, va, vc, vb, vd, by simp [Fm.word, Fm.args, Fm.body, Fm.at_], by simpa [Fm.args] using h9, by simpa [Fm.body] using h10⟩
     ·have hcb : isS u ⟨#[125]⟩ = false := by simpa using hcb
      rw [if_neg (by rw [hcb]; decide)] at heq
      go_wp2_with fail
      rcases PR.then_some heq with ⟨j3, cc, h5, rfl⟩ | ⟨y, j3, h5, h6⟩
      ·clear heq
       have hcc : j3 < ts.length /\ (cc = 5 \/ cc = 2) := (form_fits h.ok _ _ _ _ _ _ h5).1
       have hc : (cc != 0) = true := by simp; omega
       refine (IH m3 j _ (d + 1) n2 _ _ _ (by omega) rfl rfl (by omega) (by omega) hcnt h5 S4.out.tq).mono ?_
       rintro e W9 ⟨ht2, rfl⟩
       have S5 := SQ.same S4 ht2
       clear hzx fqx x0 x1 x2 x3 x4 x5 x6 hzr fqr r0 r1 r2 r3 r4 r5 r6
       have hzr := (SQ.boxAt S5 1 rfl).1
       obtain ⟨r0, r1, r2, r3, r4, r5, r6⟩ := seven_cells hzr
       have fqr := free_of_box hzr
       have hrl := (SQ.boxAt S5 1 rfl).2.2
       have S6 := SQ.put S5 1 rfl (seven_turned _ rb (.string ⟨#[]⟩) (.slice none 0 0) (.slice none 0 0) (.int .i64 0) (.int .i64 ((j3 : Nat))) (.int .i64 0) (.int .i64 cc)) (seven_set hzr)
       obtain ⟨W5e, xbe, hW5e, -, S7⟩ := SQ.box S6 (.cells #[.string ⟨#[]⟩, .slice none 0 0, .slice none 0 0, .int .i64 0, (.int .i64 ((j3 : Nat))), .int .i64 0, .int .i64 cc] 79)
       unfold set7 at hW5e
       go_wp2_with fail
       rw [<- hW5e]
       refine bodyPost_ret (results_part rfl _ _ rb (.string ⟨#[]⟩) (.slice none 0 0) (.slice none 0 0) (.int .i64 0) (.int .i64 ((j3 : Nat))) (.int .i64 0) (.int .i64 cc) rfl (SQ.boxAt S7 2 rfl).1) rfl ?_
       exact ⟨S7.out.tur, rfl⟩
      ·clear heq
       have hj3 : j + 1 <= j3 /\ j3 < ts.length := (form_fits h.ok _ _ _ _ _ _ h5).1
       have hcnt2 : n2 < y.2 /\ y.2 <= 2000 := (form_fits h.ok _ _ _ _ _ _ h5).2 trivial
       refine (IH m3 j _ (d + 1) n2 _ _ _ (by omega) rfl rfl (by omega) (by omega) hcnt h5 S4.out.tq).mono ?_
       rintro e W9 ⟨ht2, pa, ca, pb, cb, rfl, hk1, hk2⟩
       have S5 := SQ.same S4 ht2
       have HY : Hid (fmAt W9 (fun b => lo <= b /\ ∀ g, (Value.slice vb qs.length vd).ownBlock = some g -> b ≠ g) (y.1, .slice pa y.1.args.length ca, .slice pb y.1.body.length cb)) := Lib.hid (Own.fresh OV fmMov (p := (y.1, .slice pa y.1.args.length ca, .slice pb y.1.body.length cb)) ⟨hk1, hk2⟩)
       have OW := Own.move OV fmMov ht2 (fun _ h => h.elim)
       have HA := Lib.hid (HA.out.move ht2 (fun _ _ => id) (fun _ hb _ => hb))
       clear S4 OV ht2 hk1 hk2
       clear hzx fqx x0 x1 x2 x3 x4 x5 x6 hzr fqr r0 r1 r2 r3 r4 r5 r6
       have hzx := (SQ.boxAt S5 0 rfl).1
       obtain ⟨x0, x1, x2, x3, x4, x5, x6⟩ := seven_cells hzx
       have hel := (SQ.boxAt S5 0 rfl).2.2
       clear hzx
       obtain ⟨W10, xb, hW10, hb10, S6⟩ := SQ.box S5 (.cells #[.string y.1.word, .slice pa y.1.args.length ca, .slice pb y.1.body.length cb, .int .i64 y.1.at_, (.int .i64 ((j3 : Nat))), (.int .i64 ((y.2 : Nat))), .int .i64 0] 79)
       obtain ⟨W11, kb, hW11, hb11, S7⟩ := SQ.box S6 (.cells #[.string y.1.word, .slice pa y.1.args.length ca, .slice pb y.1.body.length cb, .int .i64 y.1.at_] 45)
       have SF := SQ.forget S7
       have ekb : kb = W9.heap.size + 1 := by rw [hb11, hW10]; simp
       have t9 : Turned (fun _ => False) W9 W11 := by rw [hW11, hW10]; exact ((Turned.refl _ _).alloc _).alloc _
       have OX := Own.move OW fmMov t9 (fun _ h => h.elim)
       have HYX : Hid (fmAt W11 (fun b => lo <= b /\ ∀ g, (Value.slice vb qs.length vd).ownBlock = some g -> b ≠ g) (y.1, .slice pa y.1.args.length ca, .slice pb y.1.body.length cb)) := Lib.hid (fmMov _ _ _ _ _ _ HY.out t9 (fun _ _ => id) (fun _ hb _ => hb))
       have HA := Lib.hid (HA.out.move t9 (fun _ _ => id) (fun _ hb _ => hb))
       have hcell : ∀ j u, [.string y.1.word, .slice pa y.1.args.length ca, .slice pb y.1.body.length cb, .int .i64 y.1.at_][j]? = some u -> W11.cell? ((⟨kb, 0, none⟩ : Addr).add j) = some u := by rw [hW11, hb11]; exact cells_list W10 [.string y.1.word, .slice pa y.1.args.length ca, .slice pb y.1.body.length cb, .int .i64 y.1.at_] 45
       have hown9 : ∀ b, (Value.slice vb qs.length vd).ownBlock = some b -> lo <= b /\ b < W9.heap.size := fun b hb => ownsRow_block OW.out.own b hb
       clear S5 S6 S7 OW HY t9 hb11
       subst hW11
       subst hW10
       subst hb10
       subst ekb
       have HOX := OX.out.own
       have HTOP := OX.out.top
       go_wp2_with (at_builtin; refine wpList_append_exact _ rfl _ _ 23 rfl (lo) 45 i1 (.agg #[.string ⟨#[]⟩, .slice none 0 0, .slice none 0 0, .int .i64 0]) 4 72 Tryz.underlying23 hif1 hy0 hy1 hy2 rfl (by decide) (.slice vb qs.length vd) qs.length (qs.flatMap fmEnc) rfl HOX ⟨W9.heap.size + 1, 0, none⟩ 1 1 [.string y.1.word, .slice pa y.1.args.length ca, .slice pb y.1.body.length cb, .int .i64 y.1.at_] rfl rfl hcell (by simp [Value.oneCell']) (by unfold maxLen; omega) (by omega) HTOP ?_; intro v' w4 hown' hgrow hex; obtain ⟨ga, cap', rfl⟩ := ownsRow_succ hown'; have htG := Own.turned_grown (B := 0) OX hgrow; have SG := SQ.turn SF htG.1 (fun b hb => ⟨by have := hown9 b hb; omega, by have := hown9 b hb; simp; omega⟩); have OG := Own.grown OX fmMov HYX.out hgrow hown' hex; have HA := Lib.hid (HA.out.move htG.1 (fun b hb hc => by have := htG.2.1 b hc; have := hb.2; omega) (fun _ hb _ => hb)); clear hown' hgrow hex htG HYX OX SF hcell HOX HTOP x0 x1 x2 x3 x4 x5 x6; have hze := (SQ.boxAt SG 1 rfl).1; have fe := free_of_box hze; obtain ⟨x0, x1, x2, x3, x4, x5, x6⟩ := seven_cells hze; obtain ⟨g0, g1, g2, g3, g4, g5, g6⟩ := seven_cells (SQ.boxAt SG 0 rfl).1)
       have SX := SQ.put SG 1 rfl (one_turned w4 fb 2 (.slice (some ⟨ga, 0, none⟩) (qs.length + 1) cap')) (part_set2 hze)
       have OZ := Own.move OG fmMov (one_turned w4 fb 2 (.slice (some ⟨ga, 0, none⟩) (qs.length + 1) cap')) (fun b hb => by omega)
       have HA := Lib.hid (HA.out.move (one_turned w4 fb 2 (.slice (some ⟨ga, 0, none⟩) (qs.length + 1) cap')) (fun b hb => by have := hb.1; omega) (fun _ hb _ => hb))
       have SY := SQ.put SX 1 rfl (one_turned _ fb 4 (.int .i64 ((j3 : Nat)))) (part_set4 (SQ.boxAt SX 1 rfl).1)
       have OY := Own.move OZ fmMov (one_turned _ fb 4 (.int .i64 ((j3 : Nat)))) (fun b hb => by omega)
       have HA := Lib.hid (HA.out.move (one_turned _ fb 4 (.int .i64 ((j3 : Nat)))) (fun b hb => by have := hb.1; omega) (fun _ hb _ => hb))
       have SY := SQ.put SY 1 rfl (one_turned _ fb 5 (.int .i64 ((y.2 : Nat)))) (part_set5 (SQ.boxAt SY 1 rfl).1)
       have OY := Own.move OY fmMov (one_turned _ fb 5 (.int .i64 ((y.2 : Nat)))) (fun b hb => by omega)
       have HA := Lib.hid (HA.out.move (one_turned _ fb 5 (.int .i64 ((y.2 : Nat)))) (fun b hb => by have := hb.1; omega) (fun _ hb _ => hb))
       have hlen2 : (qs ++ [(y.1, Value.slice pa y.1.args.length ca, Value.slice pb y.1.body.length cb)]).length = qs.length + 1 := by simp
       have hmz := (seven_cells (SQ.boxAt SY 1 rfl).1).2.2.2.2.1
       go_roundw
       case rel => exact ⟨_, qs ++ [(y.1, .slice pa y.1.args.length ca, .slice pb y.1.body.length cb)], j3, y.2, m3, Lib.hid ⟨SQ.forget SY, HA, (by rw [hlen2]; exact OY), by omega, by omega, by omega, by omega, by rw [List.map_append]; exact h6⟩⟩
       case measure =>
        rw [HM.out, hmz]
        simp [intOf]
        omega
   ·have hbr : isS u ⟨#[123]⟩ = false := by simpa using hbr
    rw [if_neg (by rw [hbr]; decide)] at heq
    go_wp2_with fail
    refine (rbegins_tq S4.out.tq hu _ rfl).mono ?_
    rintro e W5 ⟨rfl, rfl⟩
    have HX := Lib.hid heq
    clear heq
    go_wp2_with fail
    refine (HI _).mono ?_
    rintro e W5 ⟨rfl, rfl⟩
    clear HI
    by_cases hbg : beginsT u = true
    ·have heq := HX.out
     rw [if_neg (by rw [hbg]; simp)] at heq
     have hbeg : ∀ t, ts[j]? = some t -> beginsT t = true \/ isS t ⟨#[45, 62]⟩ = true := fun t' ht' => by rw [hu] at ht'; cases ht'; exact .inl hbg
     clear HX
     simp only [List.length_map] at heq
     by_cases h40 : ps.length = 40
     ·rw [if_pos h40] at heq
      cases heq
      have h4b : ((ps.length : Int) == 40) = true := by simp; omega
      clear h40
      go_wp2_with fail
      have SB := SQ.put S4 1 rfl (seven_turned _ rb (.string ⟨#[]⟩) (.slice none 0 0) (.slice none 0 0) (.int .i64 0) (.int .i64 ((j : Nat))) (.int .i64 0) (.int .i64 2)) (seven_set (SQ.boxAt S4 1 rfl).1)
      refine bodyPost_ret (results_part rfl _ _ rb (.string ⟨#[]⟩) (.slice none 0 0) (.slice none 0 0) (.int .i64 0) (.int .i64 ((j : Nat))) (.int .i64 0) (.int .i64 2) rfl (SQ.boxAt SB 1 rfl).1) rfl ?_
      exact ⟨SB.out.tur, rfl⟩
     rw [if_neg h40] at heq
     have h4b : ((ps.length : Int) == 40) = false := by simp; omega
     go_wp2_with fail
     rcases PR.then_some heq with ⟨j3, cc, h5, rfl⟩ | ⟨y, j3, h5, h6⟩
     ·clear heq
      have hcc : j3 < ts.length /\ (cc = 5 \/ cc = 2) := arg_fits h.ok h5 hbeg
      have hc : (cc != 0) = true := by simp; omega
      refine (rarg_step m3 j _ _ _ rfl h5 S4.out.tq hbeg).mono ?_
      rintro e W9 ⟨ht2, rfl⟩
      have S5 := SQ.same S4 ht2
      clear hzx fqx x0 x1 x2 x3 x4 x5 x6 hzr fqr r0 r1 r2 r3 r4 r5 r6
      have hzr := (SQ.boxAt S5 1 rfl).1
      obtain ⟨r0, r1, r2, r3, r4, r5, r6⟩ := seven_cells hzr
      have fqr := free_of_box hzr
      have hrl := (SQ.boxAt S5 1 rfl).2.2
      have S6 := SQ.put S5 1 rfl (seven_turned _ rb (.string ⟨#[]⟩) (.slice none 0 0) (.slice none 0 0) (.int .i64 0) (.int .i64 ((j3 : Nat))) (.int .i64 0) (.int .i64 cc)) (seven_set hzr)
      obtain ⟨W5e, xbe, hW5e, -, S7⟩ := SQ.box S6 (.cells #[.int .i64 0, .int .i64 0, .string ⟨#[]⟩, .int .i64 0, .int .i64 0, .string ⟨#[]⟩, .slice none 0 0, .int .i64 0, .int .i64 0, (.int .i64 ((j3 : Nat))), .int .i64 cc] 121)
      unfold set7 at hW5e
      go_wp2_with fail
      rw [<- hW5e]
      refine bodyPost_ret (results_part rfl _ _ rb (.string ⟨#[]⟩) (.slice none 0 0) (.slice none 0 0) (.int .i64 0) (.int .i64 ((j3 : Nat))) (.int .i64 0) (.int .i64 cc) rfl (SQ.boxAt S7 2 rfl).1) rfl ?_
      exact ⟨S7.out.tur, rfl⟩
     ·clear heq
      have hj3 : j + 1 <= j3 /\ j3 < ts.length := arg_fits h.ok h5 hbeg
      refine (rarg_step m3 j _ _ _ rfl h5 S4.out.tq hbeg).mono ?_
      rintro e W9 ⟨ht2, py, cy, rfl, hk⟩
      have S5 := SQ.same S4 ht2
      have HY : Hid (arAt W9 (fun b => fb + 1 <= b /\ ∀ g, (Value.slice va ps.length vc).ownBlock = some g -> b ≠ g) (y, .slice py y.e.kids.length cy)) := Lib.hid (Own.fresh OV arMov (p := (y, .slice py y.e.kids.length cy)) hk)
      have OW := Own.move OV arMov ht2 (fun _ h => h.elim)
      clear S4 OV ht2 hk
      clear hzx fqx x0 x1 x2 x3 x4 x5 x6 hzr fqr r0 r1 r2 r3 r4 r5 r6
      have hzx := (SQ.boxAt S5 0 rfl).1
      obtain ⟨x0, x1, x2, x3, x4, x5, x6⟩ := seven_cells hzx
      have hel := (SQ.boxAt S5 0 rfl).2.2
      clear hzx
      obtain ⟨W10, xb, hW10, hb10, S6⟩ := SQ.box S5 (.cells #[.int .i64 y.kind, .int .i64 y.n, .string y.s, .int .i64 y.e.op, .int .i64 y.e.n, .string y.e.s, .slice py y.e.kids.length cy, .int .i64 y.e.at_, .int .i64 y.at_, (.int .i64 ((j3 : Nat))), .int .i64 0] 121)
      obtain ⟨W11, kb, hW11, hb11, S7⟩ := SQ.box S6 (.cells #[.int .i64 y.kind, .int .i64 y.n, .string y.s, .int .i64 y.e.op, .int .i64 y.e.n, .string y.e.s, .slice py y.e.kids.length cy, .int .i64 y.e.at_, .int .i64 y.at_] 48)
      have SF := SQ.forget S7
      have ekb : kb = W9.heap.size + 1 := by rw [hb11, hW10]; simp
      have t9 : Turned (fun _ => False) W9 W11 := by rw [hW11, hW10]; exact ((Turned.refl _ _).alloc _).alloc _
      have OX := Own.move OW arMov t9 (fun _ h => h.elim)
      have HYX : Hid (arAt W11 (fun b => fb + 1 <= b /\ ∀ g, (Value.slice va ps.length vc).ownBlock = some g -> b ≠ g) (y, .slice py y.e.kids.length cy)) := Lib.hid (arMov _ _ _ _ _ _ HY.out t9 (fun _ _ => id) (fun _ hb _ => hb))
      have hcell : ∀ j u, [(.int .i64 y.kind), .int .i64 y.n, .string y.s, .int .i64 y.e.op, .int .i64 y.e.n, .string y.e.s, .slice py y.e.kids.length cy, .int .i64 y.e.at_, .int .i64 y.at_][j]? = some u -> W11.cell? ((⟨kb, 0, none⟩ : Addr).add j) = some u := by rw [hW11, hb11]; exact cells_list W10 [(.int .i64 y.kind), .int .i64 y.n, .string y.s, .int .i64 y.e.op, .int .i64 y.e.n, .string y.e.s, .slice py y.e.kids.length cy, .int .i64 y.e.at_, .int .i64 y.at_] 48
      have hown9 : ∀ b, (Value.slice va ps.length vc).ownBlock = some b -> fb + 1 <= b /\ b < W9.heap.size := fun b hb => ownsRow_block OW.out.own b hb
      clear S5 S6 S7 OW HY t9 hb11
      subst hW11
      subst hW10
      subst hb10
      subst ekb
      have HOX := OX.out.own
      have HTOP := OX.out.top
      go_wp2_with (at_builtin; refine wpList_append_exact _ rfl _ _ 43 rfl (fb + 1) 48 i0 (.agg #[.int .i64 0, .int .i64 0, .string ⟨#[]⟩, .int .i64 0, .int .i64 0, .string ⟨#[]⟩, .slice none 0 0, .int .i64 0, .int .i64 0]) 9 104 Tryz.underlying43 hif hz0 hz1 hz2 rfl (by decide) (.slice va ps.length vc) ps.length (ps.flatMap arEnc) rfl HOX ⟨W9.heap.size + 1, 0, none⟩ 1 1 [(.int .i64 y.kind), .int .i64 y.n, .string y.s, .int .i64 y.e.op, .int .i64 y.e.n, .string y.e.s, .slice py y.e.kids.length cy, .int .i64 y.e.at_, .int .i64 y.at_] rfl rfl hcell (by simp [Value.oneCell']) (by unfold maxLen; omega) (by omega) HTOP ?_; intro v' w4 hown' hgrow hex; obtain ⟨ga, cap', rfl⟩ := ownsRow_succ hown'; have htG := Own.turned_grown (B := 0) OX hgrow; have SG := SQ.turn SF htG.1 (fun b hb => ⟨by have := hown9 b hb; omega, by have := hown9 b hb; simp; omega⟩); have OG := Own.grown OX arMov HYX.out hgrow hown' hex; clear hown' hgrow hex htG HYX OX SF hcell HOX HTOP x0 x1 x2 x3 x4 x5 x6; have hze := (SQ.boxAt SG 1 rfl).1; have fe := free_of_box hze; obtain ⟨x0, x1, x2, x3, x4, x5, x6⟩ := seven_cells hze; obtain ⟨g0, g1, g2, g3, g4, g5, g6, g7, g8, g9, g10⟩ := elf_cells (SQ.boxAt SG 0 rfl).1)
      have SX := SQ.put SG 1 rfl (one_turned w4 fb 1 (.slice (some ⟨ga, 0, none⟩) (ps.length + 1) cap')) (part_set1 hze)
      have OZ := Own.move OG arMov (one_turned w4 fb 1 (.slice (some ⟨ga, 0, none⟩) (ps.length + 1) cap')) (fun b hb => by omega)
      have SY := SQ.put SX 1 rfl (one_turned _ fb 4 (.int .i64 ((j3 : Nat)))) (part_set4 (SQ.boxAt SX 1 rfl).1)
      have OY := Own.move OZ arMov (one_turned _ fb 4 (.int .i64 ((j3 : Nat)))) (fun b hb => by omega)
      have hlen2 : (ps ++ [(y, Value.slice py y.e.kids.length cy)]).length = ps.length + 1 := by simp
      have hmz := (seven_cells (SQ.boxAt SY 1 rfl).1).2.2.2.2.1
      go_roundw
      case rel => exact ⟨_, ps ++ [(y, .slice py y.e.kids.length cy)], j3, n2, m3, hcn, Lib.hid ⟨SQ.forget SY, (by rw [hlen2]; exact OY), by omega, by omega, by omega, by rw [List.map_append]; exact h6⟩⟩
      case measure =>
       rw [HM.out, hmz]
       simp [intOf]
       omega
    ·have hbg : beginsT u = false := by simpa using hbg
     by_cases har : isS u ⟨#[45, 62]⟩ = true
     ·have heq := HX.out
      rw [if_neg (by rw [har]; simp)] at heq
      have hbeg : ∀ t, ts[j]? = some t -> beginsT t = true \/ isS t ⟨#[45, 62]⟩ = true := fun t' ht' => by rw [hu] at ht'; cases ht'; exact .inr har
      clear HX
      simp only [List.length_map] at heq
      by_cases h40 : ps.length = 40
      ·rw [if_pos h40] at heq
       cases heq
       have h4b : ((ps.length : Int) == 40) = true := by simp; omega
       clear h40
       go_wp2_with fail
       have SB := SQ.put S4 1 rfl (seven_turned _ rb (.string ⟨#[]⟩) (.slice none 0 0) (.slice none 0 0) (.int .i64 0) (.int .i64 ((j : Nat))) (.int .i64 0) (.int .i64 2)) (seven_set (SQ.boxAt S4 1 rfl).1)
       refine bodyPost_ret (results_part rfl _ _ rb (.string ⟨#[]⟩) (.slice none 0 0) (.slice none 0 0) (.int .i64 0) (.int .i64 ((j : Nat))) (.int .i64 0) (.int .i64 2) rfl (SQ.boxAt SB 1 rfl).1) rfl ?_
       exact ⟨SB.out.tur, rfl⟩
      rw [if_neg h40] at heq
      have h4b : ((ps.length : Int) == 40) = false := by simp; omega
      go_wp2_with fail
      rcases PR.then_some heq with ⟨j3, cc, h5, rfl⟩ | ⟨y, j3, h5, h6⟩
      ·clear heq
       have hcc : j3 < ts.length /\ (cc = 5 \/ cc = 2) := arg_fits h.ok h5 hbeg
       have hc : (cc != 0) = true := by simp; omega
       refine (rarg_step m3 j _ _ _ rfl h5 S4.out.tq hbeg).mono ?_
       rintro e W9 ⟨ht2, rfl⟩
       have S5 := SQ.same S4 ht2
       clear hzx fqx x0 x1 x2 x3 x4 x5 x6 hzr fqr r0 r1 r2 r3 r4 r5 r6
       have hzr := (SQ.boxAt S5 1 rfl).1
       obtain ⟨r0, r1, r2, r3, r4, r5, r6⟩ := seven_cells hzr
       have fqr := free_of_box hzr
       have hrl := (SQ.boxAt S5 1 rfl).2.2
       have S6 := SQ.put S5 1 rfl (seven_turned _ rb (.string ⟨#[]⟩) (.slice none 0 0) (.slice none 0 0) (.int .i64 0) (.int .i64 ((j3 : Nat))) (.int .i64 0) (.int .i64 cc)) (seven_set hzr)
       obtain ⟨W5e, xbe, hW5e, -, S7⟩ := SQ.box S6 (.cells #[.int .i64 0, .int .i64 0, .string ⟨#[]⟩, .int .i64 0, .int .i64 0, .string ⟨#[]⟩, .slice none 0 0, .int .i64 0, .int .i64 0, (.int .i64 ((j3 : Nat))), .int .i64 cc] 121)
       unfold set7 at hW5e
       go_wp2_with fail
       rw [<- hW5e]
       refine bodyPost_ret (results_part rfl _ _ rb (.string ⟨#[]⟩) (.slice none 0 0) (.slice none 0 0) (.int .i64 0) (.int .i64 ((j3 : Nat))) (.int .i64 0) (.int .i64 cc) rfl (SQ.boxAt S7 2 rfl).1) rfl ?_
       exact ⟨S7.out.tur, rfl⟩
      ·clear heq
       have hj3 : j + 1 <= j3 /\ j3 < ts.length := arg_fits h.ok h5 hbeg
       refine (rarg_step m3 j _ _ _ rfl h5 S4.out.tq hbeg).mono ?_
       rintro e W9 ⟨ht2, py, cy, rfl, hk⟩
       have S5 := SQ.same S4 ht2
       have HY : Hid (arAt W9 (fun b => fb + 1 <= b /\ ∀ g, (Value.slice va ps.length vc).ownBlock = some g -> b ≠ g) (y, .slice py y.e.kids.length cy)) := Lib.hid (Own.fresh OV arMov (p := (y, .slice py y.e.kids.length cy)) hk)
       have OW := Own.move OV arMov ht2 (fun _ h => h.elim)
       clear S4 OV ht2 hk
       clear hzx fqx x0 x1 x2 x3 x4 x5 x6 hzr fqr r0 r1 r2 r3 r4 r5 r6
       have hzx := (SQ.boxAt S5 0 rfl).1
       obtain ⟨x0, x1, x2, x3, x4, x5, x6⟩ := seven_cells hzx
       have hel := (SQ.boxAt S5 0 rfl).2.2
       clear hzx
       obtain ⟨W10, xb, hW10, hb10, S6⟩ := SQ.box S5 (.cells #[.int .i64 y.kind, .int .i64 y.n, .string y.s, .int .i64 y.e.op, .int .i64 y.e.n, .string y.e.s, .slice py y.e.kids.length cy, .int .i64 y.e.at_, .int .i64 y.at_, (.int .i64 ((j3 : Nat))), .int .i64 0] 121)
       obtain ⟨W11, kb, hW11, hb11, S7⟩ := SQ.box S6 (.cells #[.int .i64 y.kind, .int .i64 y.n, .string y.s, .int .i64 y.e.op, .int .i64 y.e.n, .string y.e.s, .slice py y.e.kids.length cy, .int .i64 y.e.at_, .int .i64 y.at_] 48)
       have SF := SQ.forget S7
       have ekb : kb = W9.heap.size + 1 := by rw [hb11, hW10]; simp
       have t9 : Turned (fun _ => False) W9 W11 := by rw [hW11, hW10]; exact ((Turned.refl _ _).alloc _).alloc _
       have OX := Own.move OW arMov t9 (fun _ h => h.elim)
       have HYX : Hid (arAt W11 (fun b => fb + 1 <= b /\ ∀ g, (Value.slice va ps.length vc).ownBlock = some g -> b ≠ g) (y, .slice py y.e.kids.length cy)) := Lib.hid (arMov _ _ _ _ _ _ HY.out t9 (fun _ _ => id) (fun _ hb _ => hb))
       have hcell : ∀ j u, [(.int .i64 y.kind), .int .i64 y.n, .string y.s, .int .i64 y.e.op, .int .i64 y.e.n, .string y.e.s, .slice py y.e.kids.length cy, .int .i64 y.e.at_, .int .i64 y.at_][j]? = some u -> W11.cell? ((⟨kb, 0, none⟩ : Addr).add j) = some u := by rw [hW11, hb11]; exact cells_list W10 [(.int .i64 y.kind), .int .i64 y.n, .string y.s, .int .i64 y.e.op, .int .i64 y.e.n, .string y.e.s, .slice py y.e.kids.length cy, .int .i64 y.e.at_, .int .i64 y.at_] 48
       have hown9 : ∀ b, (Value.slice va ps.length vc).ownBlock = some b -> fb + 1 <= b /\ b < W9.heap.size := fun b hb => ownsRow_block OW.out.own b hb
       clear S5 S6 S7 OW HY t9 hb11
       subst hW11
       subst hW10
       subst hb10
       subst ekb
       have HOX := OX.out.own
       have HTOP := OX.out.top
       go_wp2_with (at_builtin; refine wpList_append_exact _ rfl _ _ 43 rfl (fb + 1) 48 i0 (.agg #[.int .i64 0, .int .i64 0, .string ⟨#[]⟩, .int .i64 0, .int .i64 0, .string ⟨#[]⟩, .slice none 0 0, .int .i64 0, .int .i64 0]) 9 104 Tryz.underlying43 hif hz0 hz1 hz2 rfl (by decide) (.slice va ps.length vc) ps.length (ps.flatMap arEnc) rfl HOX ⟨W9.heap.size + 1, 0, none⟩ 1 1 [(.int .i64 y.kind), .int .i64 y.n, .string y.s, .int .i64 y.e.op, .int .i64 y.e.n, .string y.e.s, .slice py y.e.kids.length cy, .int .i64 y.e.at_, .int .i64 y.at_] rfl rfl hcell (by simp [Value.oneCell']) (by unfold maxLen; omega) (by omega) HTOP ?_; intro v' w4 hown' hgrow hex; obtain ⟨ga, cap', rfl⟩ := ownsRow_succ hown'; have htG := Own.turned_grown (B := 0) OX hgrow; have SG := SQ.turn SF htG.1 (fun b hb => ⟨by have := hown9 b hb; omega, by have := hown9 b hb; simp; omega⟩); have OG := Own.grown OX arMov HYX.out hgrow hown' hex; clear hown' hgrow hex htG HYX OX SF hcell HOX HTOP x0 x1 x2 x3 x4 x5 x6; have hze := (SQ.boxAt SG 1 rfl).1; have fe := free_of_box hze; obtain ⟨x0, x1, x2, x3, x4, x5, x6⟩ := seven_cells hze; obtain ⟨g0, g1, g2, g3, g4, g5, g6, g7, g8, g9, g10⟩ := elf_cells (SQ.boxAt SG 0 rfl).1)
       have SX := SQ.put SG 1 rfl (one_turned w4 fb 1 (.slice (some ⟨ga, 0, none⟩) (ps.length + 1) cap')) (part_set1 hze)
       have OZ := Own.move OG arMov (one_turned w4 fb 1 (.slice (some ⟨ga, 0, none⟩) (ps.length + 1) cap')) (fun b hb => by omega)
       have SY := SQ.put SX 1 rfl (one_turned _ fb 4 (.int .i64 ((j3 : Nat)))) (part_set4 (SQ.boxAt SX 1 rfl).1)
       have OY := Own.move OZ arMov (one_turned _ fb 4 (.int .i64 ((j3 : Nat)))) (fun b hb => by omega)
       have hlen2 : (ps ++ [(y, Value.slice py y.e.kids.length cy)]).length = ps.length + 1 := by simp
       have hmz := (seven_cells (SQ.boxAt SY 1 rfl).1).2.2.2.2.1
       go_roundw
       case rel => exact ⟨_, ps ++ [(y, .slice py y.e.kids.length cy)], j3, n2, m3, hcn, Lib.hid ⟨SQ.forget SY, (by rw [hlen2]; exact OY), by omega, by omega, by omega, by rw [List.map_append]; exact h6⟩⟩
       case measure =>
        rw [HM.out, hmz]
        simp [intOf]
        omega
     ·have har : isS u ⟨#[45, 62]⟩ = false := by simpa using har
      have heq := HX.out
      rw [if_pos (by rw [hbg, har]; rfl)] at heq
      cases heq
      go_wp2_with fail
      have SB := SQ.put S4 1 rfl (seven_turned _ rb (.string ⟨#[]⟩) (.slice none 0 0) (.slice none 0 0) (.int .i64 0) (.int .i64 ((j : Nat))) (.int .i64 0) (.int .i64 5)) (seven_set (SQ.boxAt S4 1 rfl).1)
      refine bodyPost_ret (results_part rfl _ _ rb (.string ⟨#[]⟩) (.slice none 0 0) (.slice none 0 0) (.int .i64 0) (.int .i64 ((j : Nat))) (.int .i64 0) (.int .i64 5) rfl (SQ.boxAt SB 1 rfl).1) rfl ?_
      exact ⟨SB.out.tur, rfl⟩
theorem rforms_hyp (g cap : Nat) (ts : List Tok) : ∀ f, HypFG g cap ts f
 | 0 => fun m _ _ _ _ _ _ _ hm => absurd hm (Nat.not_lt_zero m)
 | f + 1 => fun m k z d n y r w hm hz hy hd0 hd hn hr h => by
  subst hz hy
  obtain ⟨m, rfl⟩ : ∃ m', m = m' + 1 := by
   cases m with
   | zero => simp [formF] at hr
   | succ m' => exact ⟨m', rfl⟩
  unfold formF at hr
  split at hr
  ·cases hr
  rename_i t ht
  simp only at hr
  by_cases hk : t.kind = 1
  ·rw [if_neg (by simp [hk])] at hr
   by_cases hdn : 30 < d \/ 2000 <= n
   ·rw [if_pos hdn] at hr
    cases hr
    exact rform_deep k d n w h t ht hk hdn
   ·rw [if_neg hdn] at hr
    exact rform_go (rforms_hyp g cap ts f) m k d n r w (by omega) hd0 (by omega) (by omega) h t ht hk hr
  ·rw [if_pos (by simpa using hk)] at hr
   cases hr
   exact rform_bad k d n w h t ht hk
theorem rform_tq {g cap : Nat} {ts : List Tok} (m k : Nat) (z d : Int) (n : Nat) (y : Int) (r : PR (Fm × Nat)) (w : World) (hz : z = k) (hy : y = n) (hd0 : 0 <= d) (hd : d <= 31) (hn : n <= 2000) (hr : formF ts m .form k d n = some r) (h : TQ g cap ts w) : Calls Tryz.prog 33 #[.slice (some ⟨g, 0, none⟩) ts.length cap, .int .i64 z, .int .i64 d, .int .i64 y] w (FXG w r) :=
 rforms_hyp g cap ts (m + 1) m k z d n y r w (Nat.lt_succ_self m) hz hy hd0 hd hn hr h
end Go.Proofs.YtjijdgkccfeeaaaGreatDoor
