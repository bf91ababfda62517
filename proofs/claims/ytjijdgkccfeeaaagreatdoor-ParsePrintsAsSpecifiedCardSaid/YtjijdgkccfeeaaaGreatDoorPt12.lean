/- Part 12 of the proof of card: ParWalkE. Conditions: those of each theorem. -/
import Derived.Test.YtjijdgkccfeeaaaGreatDoorPt01
import Derived.Test.YtjijdgkccfeeaaaGreatDoorPt11
set_option maxRecDepth 20000
set_option maxHeartbeats 8000000
namespace Go.Proofs.YtjijdgkccfeeaaaGreatDoor
open Go Go.Proofs Go.RowKit
attribute [local go_sem] Oper.semAt_some
structure LvR (B g cap : Nat) (ts : List Tok) (f : Nat) (w : World) (nf z : Int) (nn : Nat) (d : Int) (r : PR Ex) (eb rb nb pb : Nat) (x : Ex) (px : Option Addr) (cx j m : Nat) (wr : World) : Prop where
 sp : Hid (SP B g cap ts w wr [(eb, .cells #[.int .i64 x.op, .int .i64 x.n, .string x.s, .slice px x.kids.length cx, .int .i64 x.at_] 31), (rb, .cells #[.int .i64 0, .int .i64 0, .string ⟨#[]⟩, .slice none 0 0, .int .i64 0] 31), (nb, .cells #[.int .i64 z] 3), (pb, .cells #[.pointer (some ⟨B, 0, none⟩)] 66)] [(x.kids, .slice px x.kids.length cx)] j nf)
 fuel : m <= f
 eq : runF ts m (.loop nn x) j d = some r
theorem loop_eq {ts : List Tok} {m nn j : Nat} {x : Ex} {d : Int} {r : PR Ex} {u : Tok} (h : runF ts m (.loop nn x) j d = some r) (hu : ts[j]? = some u) :
  ∃ m', m = m' + 1 /\ ((opAt nn u = none /\ r = .ok x j) \/ ∃ op, opAt nn u = some op /\ PR.then_ (runF ts m' (.level (nn + 1)) (j + 1) d) (fun y j => if nn = 4 then some (.ok (.mk op 0 noB [x, y] x.at_) j) else runF ts m' (.loop nn (.mk op 0 noB [x, y] x.at_)) j d) = some r) := by
 cases m with
 | zero => simp [runF] at h
 | succ m' =>
  refine ⟨m', rfl, ?_⟩
  unfold runF at h
  simp only [hu] at h
  cases ho : opAt nn u with
  | none => rw [ho] at h; cases h; exact .inl ⟨rfl, rfl⟩
  | some op => rw [ho] at h; exact .inr ⟨op, rfl, h⟩
theorem level_loop {B g cap : Nat} {ts : List Tok} {f : Nat} (IH : Hyp B g cap ts f) (m n : Nat) (z : Int) (k : Nat) (d : Int) (r : PR Ex) (w : World) (nf : Int) (hm : m <= f) (hz : z = n) (h3 : n ≠ 3) (h7 : n ≠ 7) (hn1 : 1 <= n) (hn7 : n <= 7) (hd0 : 0 <= d) (hd : d <= 30) (hr : runF ts m (.level n) k d = some r) (h : PS B g cap ts w k nf) :
  Calls Tryz.prog 57 #[.pointer (some ⟨B, 0, none⟩), .int .i64 z, .int .i64 d] w (XR B g cap ts nf w r) := by
 obtain ⟨t, ht⟩ := some_of_lt h.lt
 obtain ⟨m, rfl⟩ : ∃ m', m = m' + 1 := by
  cases m with
  | zero => simp [runF] at hr
  | succ m' => exact ⟨m', rfl⟩
 unfold runF at hr
 simp only [ht] at hr
 rw [if_neg h3, if_neg h7] at hr
 have b3 : (z == 3) = false := by simp; omega
 have b7 : (z == 7) = false := by simp; omega
 have hz1 : 1 <= z := by omega
 have hz7 : z <= 7 := by omega
 have hwz : IntKind.i64.wrap (z + 1) = z + 1 := IntWalk.i64_in _ (by omega)
 have HZ := Lib.hid hz
 clear hz
 have S0 := SP.start h
 have hmf : ∀ (fn : Fn) (first cap : Array Value) (w : World), (Instr.makeFunc fn first cap).run Tryz.prog w = .ok (.func fn first cap) w := fun _ _ _ _ => rfl
 go_enter Tryz.func57, Tryz.ntmps57
 go_wp2_with fail
 obtain ⟨W1, pb, hW1, hb1, S1⟩ := SP.box S0 (.cells #[.pointer (some ⟨B, 0, none⟩)] 66)
 obtain ⟨W2, nb, hW2, hb2, S2⟩ := SP.box S1 (.cells #[.int .i64 z] 3)
 obtain ⟨W3, rb, hW3, hb3, S3⟩ := SP.box S2 (.cells #[.int .i64 0, .int .i64 0, .string ⟨#[]⟩, .slice none 0 0, .int .i64 0] 31)
 have e2 : nb = w.heap.size + 1 := by rw [hb2, hW1]; simp
 have e3 : rb = w.heap.size + 1 + 1 := by rw [hb3, hW2]; simp; omega
 rw [<- hW1, <- hW2, <- hW3, <- e3, <- e2, <- hb1]
 clear hW1 hW2 hW3 hb1 hb2 hb3 e2 e3 S0 S1 S2
 rcases PR.then_some hr with ⟨j, c, h1, rfl⟩ | ⟨x, j, h1, h2⟩
 ·refine (IH.level m (n + 1) (z + 1) k d _ _ nf (by omega) (by have := HZ.out; omega) (by omega) (by omega) hd0 hd h1 S3.out.ps).mono ?_
  rintro e W5 ⟨rfl, ht2⟩
  exact ⟨rfl, rfl, S3.out.tur.trans ht2⟩
 refine (IH.level m (n + 1) (z + 1) k d _ _ nf (by omega) (by have := HZ.out; omega) (by omega) (by omega) hd0 hd h1 S3.out.ps).mono ?_
 rintro e W5 ⟨px, cx, rfl, hk, hp, ht2⟩
 have S4 := SP.callK S3 ht2 hp hk
 clear S3 hk hp ht2 hr
 go_wp2_with fail
 obtain ⟨W6, eb, hW, hb, S5⟩ := SP.box S4 (.cells #[.int .i64 x.op, .int .i64 x.n, .string x.s, .slice px x.kids.length cx, .int .i64 x.at_] 31)
 rw [<- hW, <- hb]
 clear hW hb S4
 go_loopw [9] (fun _ wr => ∃ (x : Ex) (px : Option Addr) (cx j m2 : Nat), Hid (LvR B g cap ts f w nf z n d r eb rb nb pb x px cx j m2 wr)) (fun _ wr => lenOf ((wr.cell? ⟨B, 0, none⟩).getD undef))
 case atStart => exact ⟨x, px, cx, j, m, Lib.hid ⟨S5, by omega, h2⟩⟩
 case round =>
  clear h2 h1 S5
  obtain ⟨x, px, cx, j, m2, HL⟩ := hrel
  have HM : Hid (lenOf ((wr.cell? ⟨B, 0, none⟩).getD undef) = ts.length - j) := Lib.hid HL.out.sp.out.ps.len
  have S6 := HL.out.sp
  obtain ⟨u, hu⟩ := some_of_lt S6.out.ps.lt
  have hju := S6.out.ps.lt
  obtain ⟨m3, rfl, hcase⟩ := loop_eq HL.out.eq hu
  have hm3 : m3 < f := by have := HL.out.fuel; omega
  clear HL
  obtain ⟨x0, x1, x2, x3, x4⟩ := cellsFive (SP.boxAt S6 0 rfl).1
  have n0 := cell_of_box (SP.boxAt S6 2 rfl).1
  have q0 := cell_of_box (SP.boxAt S6 3 rfl).1
  go_wp2_with fail
  refine (operators_any _).mono ?_
  rintro e Wo ⟨go, rfl, hge, hrow, hto⟩
  have S7 := SP.same S6 hto
  clear x0 x1 x2 x3 x4 n0 q0 S6 hto hge
  have n0 := cell_of_box (SP.boxAt S7 2 rfl).1
  have q0 := cell_of_box (SP.boxAt S7 3 rfl).1
  go_wp2_with fail
  rcases hcase with ⟨ho, rfl⟩ | ⟨op, ho, h4⟩
  ·have hidx : idxI (opIdx n u) = -1 := by rw [opAt_none ho]; rfl
   have HI := index_ps S7.out.ps hu n nb pb go z HZ.out n0 q0 hrow
   rw [hidx] at HI
   refine HI.mono ?_
   rintro e W8 ⟨rfl, ht2⟩
   have S8 := SP.same S7 ht2
   clear S7 ht2 HI n0 q0 hrow hidx
   obtain ⟨x0, x1, x2, x3, x4⟩ := cellsFive (SP.boxAt S8 0 rfl).1
   have hz := (SP.boxAt S8 1 rfl).1
   have fq := free_of_box hz
   obtain ⟨r0, r1, r2, r3, r4⟩ := cellsFive hz
   go_wp2_with fail
   have S9 := SP.put S8 1 rfl (five_turned _ _ (.int .i64 x.op) (.int .i64 x.n) (.string x.s) (.slice px x.kids.length cx) (.int .i64 x.at_)) (five_set hz)
   refine bodyPost_ret (results_ex rfl _ _ rb (.int .i64 x.op) (.int .i64 x.n) (.string x.s) (.slice px x.kids.length cx) (.int .i64 x.at_) rfl (five_set hz)) rfl ?_
   exact ⟨px, cx, rfl, SP.kidAt S9 0 rfl, S9.out.ps, S9.out.tur⟩
  ·obtain ⟨i, hid, ⟨rs, ro, rl⟩, hopr, hopr2⟩ := opAt_some ho
   have hopr2 : ro = op := hopr2
   subst hopr2
   have hidx : idxI (opIdx n u) = (i : Int) := by rw [hid]; rfl
   have hi : i < 13 := by have := lt_of_some hopr; simpa [opRows] using this
   have hi2 : (i : Int) < 13 := by omega
   have hi3 : (0 : Int) <= (i : Int) := by omega
   have HI := index_ps S7.out.ps hu n nb pb go z HZ.out n0 q0 hrow
   rw [hidx] at HI
   have hsu := (opAt_isS ho).elim fun s hs => h.ok.sign hu hs
   clear hid hidx ho hrow
   refine HI.mono ?_
   rintro e W8 ⟨rfl, ht2⟩
   have S8 := SP.same S7 ht2
   clear S7 ht2 HI n0 q0
   have q0 := cell_of_box (SP.boxAt S8 3 rfl).1
   go_wp2_with fail
   refine (next_ps S8.out.ps hu hsu).mono ?_
   rintro e W9 ⟨rfl, hp, ht2⟩
   have S9 := SP.call S8 ht2 hp
   clear S8 hp ht2 q0
   go_wp2_with fail
   have ST := SP.same S9 (Turned.refl _ _).drew
   clear S9
   obtain ⟨x0, x1, x2, x3, x4⟩ := cellsFive (SP.boxAt ST 0 rfl).1
   have n0 := cell_of_box (SP.boxAt ST 2 rfl).1
   have q0 := cell_of_box (SP.boxAt ST 3 rfl).1
   have hopr3 : opRow i = binV (rs, ro, rl) := by unfold opRow; rw [hopr]
   rcases PR.then_some h4 with ⟨j3, c, h5, rfl⟩ | ⟨y, j3, h5, h6⟩
   ·clear h4
    refine region_R (R := fun j V => j < 15 -> (fun V : World => V.cell? ⟨eb, 0, none⟩ = some (.int .i64 x.op) /\ V.cell? ⟨eb, 1, none⟩ = some (.int .i64 x.n) /\ V.cell? ⟨eb, 2, none⟩ = some (.string x.s) /\ V.cell? ⟨eb, 3, none⟩ = some (.slice px x.kids.length cx) /\ V.cell? ⟨eb, 4, none⟩ = some (.int .i64 x.at_) /\ V.cell? ⟨nb, 0, none⟩ = some (.int .i64 z) /\ V.cell? ⟨pb, 0, none⟩ = some (.pointer (some ⟨B, 0, none⟩))) V) (by kernel_rfl) ?_
    refine tk (n := 15) 1 (.int .i64 ((i : Nat))) rfl (.inl ⟨by rfl, ?_⟩) ⟨x0, x1, x2, x3, x4, n0, q0⟩ ?_
    ·rintro V ⟨v0, v1, v2, v3, v4, v5, v6⟩
     go_simp
    simp only [zz0, zz1, zz2, Act.put, zz3, zz4, zz5]
    refine tk (n := 15) 5 (.pointer (some ⟨eb, 4, none⟩)) rfl (.inl ⟨by rfl, ?_⟩) ⟨x0, x1, x2, x3, x4, n0, q0⟩ ?_
    ·rintro V ⟨v0, v1, v2, v3, v4, v5, v6⟩
     go_simp
    simp only [zz0, zz1, zz2, Act.put, zz3, zz4, zz5]
    refine tk (n := 15) 6 (.int .i64 x.at_) rfl (.inl ⟨by rfl, ?_⟩) ⟨x0, x1, x2, x3, x4, n0, q0⟩ ?_
    ·rintro V ⟨v0, v1, v2, v3, v4, v5, v6⟩
     go_simp
    simp only [zz0, zz1, zz2, Act.put, zz3, zz4, zz5]
    refine tk (n := 15) 7 (.agg #[.int .i64 x.op, .int .i64 x.n, .string x.s, .slice px x.kids.length cx, .int .i64 x.at_]) rfl (.inl ⟨by rfl, ?_⟩) ⟨x0, x1, x2, x3, x4, n0, q0⟩ ?_
    ·rintro V ⟨v0, v1, v2, v3, v4, v5, v6⟩
     go_simp
    simp only [zz0, zz1, zz2, Act.put, zz3, zz4, zz5]
    refine tk (n := 15) 8 (.pointer (some ⟨B, 0, none⟩)) rfl (.inl ⟨by rfl, ?_⟩) ⟨x0, x1, x2, x3, x4, n0, q0⟩ ?_
    ·rintro V ⟨v0, v1, v2, v3, v4, v5, v6⟩
     go_simp
    simp only [zz0, zz1, zz2, Act.put, zz3, zz4, zz5]
    refine tk (n := 15) 9 (.int .i64 z) rfl (.inl ⟨by rfl, ?_⟩) ⟨x0, x1, x2, x3, x4, n0, q0⟩ ?_
    ·rintro V ⟨v0, v1, v2, v3, v4, v5, v6⟩
     go_simp
    simp only [zz0, zz1, zz2, Act.put, zz3, zz4, zz5]
    refine tk (n := 15) 10 (.int .i64 (z + 1)) rfl (.inl ⟨by rfl, ?_⟩) ⟨x0, x1, x2, x3, x4, n0, q0⟩ ?_
    ·rintro V ⟨v0, v1, v2, v3, v4, v5, v6⟩
     go_simp
    simp only [zz0, zz1, zz2, Act.put, zz3, zz4, zz5]
    refine tk (n := 15) 11 (.int .i64 d) rfl (.inl ⟨by rfl, ?_⟩) ⟨x0, x1, x2, x3, x4, n0, q0⟩ ?_
    ·rintro V ⟨v0, v1, v2, v3, v4, v5, v6⟩
     go_simp
    simp only [zz0, zz1, zz2, Act.put, zz3, zz4, zz5]
    refine wpAnyR_all (rs := [0]) (by kernel_rfl) (by simp) (fun i2 hi2 => ?_)
    obtain rfl : i2 = 0 := by simpa using hi2
    clear hi2
    refine wpOp_plain rfl rfl ?_
    simp only [zz0, zz1]
    go_simp
    refine (operators_any _).mono ?_
    rintro e Wo ⟨gb, rfl, hge, hrow, hto⟩
    have hgo : gb ≠ B := by have := SP.size ST; have := ST.out.ltB; omega
    have o1 := hrow i hi 1 (.int .i64 ro) (by rw [hopr3]; rfl)
    rw [Nat.zero_add] at o1
    have ST := SP.same ST hto
    clear x0 x1 x2 x3 x4 n0 q0
    obtain ⟨x0, x1, x2, x3, x4⟩ := cellsFive (SP.boxAt ST 0 rfl).1
    have n0 := cell_of_box (SP.boxAt ST 2 rfl).1
    have q0 := cell_of_box (SP.boxAt ST 3 rfl).1
    clear hrow hto hge
    refine ⟨⟨x0, x1, x2, x3, x4, n0, q0⟩, ?_⟩
    refine tk (n := 15) 2 (.pointer (some ⟨gb, i * 3, none⟩)) rfl (.inl ⟨by rfl, ?_⟩) ⟨x0, x1, x2, x3, x4, n0, q0⟩ ?_
    ·rintro V ⟨v0, v1, v2, v3, v4, v5, v6⟩
     go_simp
    simp only [zz0, zz1, zz2, Act.put, zz3, zz4, zz5]
    refine tk (n := 15) 3 (.pointer (some ⟨gb, i * 3 + 1, none⟩)) rfl (.inl ⟨by rfl, ?_⟩) ⟨x0, x1, x2, x3, x4, n0, q0⟩ ?_
    ·rintro V ⟨v0, v1, v2, v3, v4, v5, v6⟩
     go_simp
    simp only [zz0, zz1, zz2, Act.put, zz3, zz4, zz5]
    refine wpAnyR_all (rs := [4, 12]) (by kernel_rfl) (by simp) (fun i2 hi2 => ?_)
    rcases (show i2 = 4 \/ i2 = 12 by simpa using hi2) with rfl | rfl
    ·clear hi2
     refine wpOp_plain rfl rfl ?_
     simp only [zz0, zz1, zz2]
     go_simp
     refine wpAnyR_all (rs := [12]) (by kernel_rfl) (by simp) (fun i2 hi2 => ?_)
     obtain rfl : i2 = 12 := by simpa using hi2
     clear hi2
     refine wpOp_plain rfl rfl ?_
     simp only [zz0, zz1, zz2]
     go_simp
     refine (IH.level m3 (n + 1) (z + 1) (j + 1) d _ _ nf (by omega) (by have := HZ.out; omega) (by omega) (by omega) hd0 hd h5 ST.out.ps).mono ?_
     rintro e W9 ⟨rfl, ht2⟩
     exact ⟨rfl, rfl, ST.out.tur.trans ht2⟩
    ·clear hi2
     refine wpOp_plain rfl rfl ?_
     simp only [zz0, zz1, zz2]
     go_simp
     refine (IH.level m3 (n + 1) (z + 1) (j + 1) d _ _ nf (by omega) (by have := HZ.out; omega) (by omega) (by omega) hd0 hd h5 ST.out.ps).mono ?_
     rintro e W9 ⟨rfl, ht2⟩
     exact ⟨rfl, rfl, ST.out.tur.trans ht2⟩
   ·clear h4
    have hj3 : j + 1 <= j3 /\ j3 < ts.length := run_fits h.ok _ _ _ _ _ h5
    refine region_R (R := fun j V => j < 15 -> (fun V : World => V.cell? ⟨eb, 0, none⟩ = some (.int .i64 x.op) /\ V.cell? ⟨eb, 1, none⟩ = some (.int .i64 x.n) /\ V.cell? ⟨eb, 2, none⟩ = some (.string x.s) /\ V.cell? ⟨eb, 3, none⟩ = some (.slice px x.kids.length cx) /\ V.cell? ⟨eb, 4, none⟩ = some (.int .i64 x.at_) /\ V.cell? ⟨nb, 0, none⟩ = some (.int .i64 z) /\ V.cell? ⟨pb, 0, none⟩ = some (.pointer (some ⟨B, 0, none⟩))) V) (by kernel_rfl) ?_
    refine tk (n := 15) 1 (.int .i64 ((i : Nat))) rfl (.inl ⟨by rfl, ?_⟩) ⟨x0, x1, x2, x3, x4, n0, q0⟩ ?_
    ·rintro V ⟨v0, v1, v2, v3, v4, v5, v6⟩
     go_simp
    simp only [zz0, zz1, zz2, Act.put, zz3, zz4, zz5]
    refine tk (n := 15) 5 (.pointer (some ⟨eb, 4, none⟩)) rfl (.inl ⟨by rfl, ?_⟩) ⟨x0, x1, x2, x3, x4, n0, q0⟩ ?_
    ·rintro V ⟨v0, v1, v2, v3, v4, v5, v6⟩
     go_simp
    simp only [zz0, zz1, zz2, Act.put, zz3, zz4, zz5]
    refine tk (n := 15) 6 (.int .i64 x.at_) rfl (.inl ⟨by rfl, ?_⟩) ⟨x0, x1, x2, x3, x4, n0, q0⟩ ?_
    ·rintro V ⟨v0, v1, v2, v3, v4, v5, v6⟩
     go_simp
    simp only [zz0, zz1, zz2, Act.put, zz3, zz4, zz5]
    refine tk (n := 15) 7 (.agg #[.int .i64 x.op, .int .i64 x.n, .string x.s, .slice px x.kids.length cx, .int .i64 x.at_]) rfl (.inl ⟨by rfl, ?_⟩) ⟨x0, x1, x2, x3, x4, n0, q0⟩ ?_
    ·rintro V ⟨v0, v1, v2, v3, v4, v5, v6⟩
     go_simp
    simp only [zz0, zz1, zz2, Act.put, zz3, zz4, zz5]
    refine tk (n := 15) 8 (.pointer (some ⟨B, 0, none⟩)) rfl (.inl ⟨by rfl, ?_⟩) ⟨x0, x1, x2, x3, x4, n0, q0⟩ ?_
    ·rintro V ⟨v0, v1, v2, v3, v4, v5, v6⟩
     go_simp
    simp only [zz0, zz1, zz2, Act.put, zz3, zz4, zz5]
    refine tk (n := 15) 9 (.int .i64 z) rfl (.inl ⟨by rfl, ?_⟩) ⟨x0, x1, x2, x3, x4, n0, q0⟩ ?_
    ·rintro V ⟨v0, v1, v2, v3, v4, v5, v6⟩
     go_simp
    simp only [zz0, zz1, zz2, Act.put, zz3, zz4, zz5]
    refine tk (n := 15) 10 (.int .i64 (z + 1)) rfl (.inl ⟨by rfl, ?_⟩) ⟨x0, x1, x2, x3, x4, n0, q0⟩ ?_
    ·rintro V ⟨v0, v1, v2, v3, v4, v5, v6⟩
     go_simp
    simp only [zz0, zz1, zz2, Act.put, zz3, zz4, zz5]
    refine tk (n := 15) 11 (.int .i64 d) rfl (.inl ⟨by rfl, ?_⟩) ⟨x0, x1, x2, x3, x4, n0, q0⟩ ?_
    ·rintro V ⟨v0, v1, v2, v3, v4, v5, v6⟩
     go_simp
    simp only [zz0, zz1, zz2, Act.put, zz3, zz4, zz5]
    refine wpAnyR_all (rs := [0]) (by kernel_rfl) (by simp) (fun i2 hi2 => ?_)
    obtain rfl : i2 = 0 := by simpa using hi2
    clear hi2
    refine wpOp_plain rfl rfl ?_
    simp only [zz0, zz1]
    go_simp
    refine (operators_any _).mono ?_
    rintro e Wo ⟨gb, rfl, hge, hrow, hto⟩
    have hgo : gb ≠ B := by have := SP.size ST; have := ST.out.ltB; omega
    have o1 := hrow i hi 1 (.int .i64 ro) (by rw [hopr3]; rfl)
    rw [Nat.zero_add] at o1
    have ST := SP.same ST hto
    clear x0 x1 x2 x3 x4 n0 q0
    obtain ⟨x0, x1, x2, x3, x4⟩ := cellsFive (SP.boxAt ST 0 rfl).1
    have n0 := cell_of_box (SP.boxAt ST 2 rfl).1
    have q0 := cell_of_box (SP.boxAt ST 3 rfl).1
    clear hrow hto hge
    refine ⟨⟨x0, x1, x2, x3, x4, n0, q0⟩, ?_⟩
    refine tk (n := 15) 2 (.pointer (some ⟨gb, i * 3, none⟩)) rfl (.inl ⟨by rfl, ?_⟩) ⟨x0, x1, x2, x3, x4, n0, q0⟩ ?_
    ·rintro V ⟨v0, v1, v2, v3, v4, v5, v6⟩
     go_simp
    simp only [zz0, zz1, zz2, Act.put, zz3, zz4, zz5]
    refine tk (n := 15) 3 (.pointer (some ⟨gb, i * 3 + 1, none⟩)) rfl (.inl ⟨by rfl, ?_⟩) ⟨x0, x1, x2, x3, x4, n0, q0⟩ ?_
    ·rintro V ⟨v0, v1, v2, v3, v4, v5, v6⟩
     go_simp
    simp only [zz0, zz1, zz2, Act.put, zz3, zz4, zz5]
    refine wpAnyR_all (rs := [4, 12]) (by kernel_rfl) (by simp) (fun i2 hi2 => ?_)
    rcases (show i2 = 4 \/ i2 = 12 by simpa using hi2) with rfl | rfl
    ·clear hi2
     refine wpOp_plain rfl rfl ?_
     simp only [zz0, zz1, zz2]
     go_simp
     refine wpAnyR_all (rs := [12]) (by kernel_rfl) (by simp) (fun i2 hi2 => ?_)
     obtain rfl : i2 = 12 := by simpa using hi2
     clear hi2
     refine wpOp_plain rfl rfl ?_
     simp only [zz0, zz1, zz2]
     go_simp
     refine (IH.level m3 (n + 1) (z + 1) (j + 1) d _ _ nf (by omega) (by have := HZ.out; omega) (by omega) (by omega) hd0 hd h5 ST.out.ps).mono ?_
     rintro e W9 ⟨py, cy, rfl, hk, hp, ht2⟩
     have ST := SP.callK ST ht2 hp hk
     have o1 := cell_turned ht2 hgo o1
     clear hk hp ht2
     clear x0 x1 x2 x3 x4 n0 q0
     obtain ⟨x0, x1, x2, x3, x4⟩ := cellsFive (SP.boxAt ST 0 rfl).1
     have n0 := cell_of_box (SP.boxAt ST 2 rfl).1
     have q0 := cell_of_box (SP.boxAt ST 3 rfl).1
     refine ⟨⟨x0, x1, x2, x3, x4, n0, q0⟩, ?_⟩
     refine wpAnyR_all (rs := [13]) (by kernel_rfl) (by simp) (fun i2 hi2 => ?_)
     obtain rfl : i2 = 13 := by simpa using hi2
     clear hi2
     refine wpOp_plain rfl rfl ?_
     simp only [zz0, zz1, zz2]
     go_simp
     obtain ⟨Wk, kb, hW, hb, ST⟩ := SP.box ST (.cells #[.int .i64 x.op, .int .i64 x.n, .string x.s, .slice px x.kids.length cx, .int .i64 x.at_, .int .i64 y.op, .int .i64 y.n, .string y.s, .slice py y.kids.length cy, .int .i64 y.at_] 31)
     have o1 := cell_turned ((Turned.refl (fun _ => False) _).alloc (.cells #[.int .i64 x.op, .int .i64 x.n, .string x.s, .slice px x.kids.length cx, .int .i64 x.at_, .int .i64 y.op, .int .i64 y.n, .string y.s, .slice py y.kids.length cy, .int .i64 y.at_] 31)) id o1
     rw [<- hW] at o1
     rw [<- hW, <- hb]
     clear hW hb
     clear x0 x1 x2 x3 x4 n0 q0
     obtain ⟨x0, x1, x2, x3, x4⟩ := cellsFive (SP.boxAt ST 1 rfl).1
     have n0 := cell_of_box (SP.boxAt ST 3 rfl).1
     have q0 := cell_of_box (SP.boxAt ST 4 rfl).1
     refine ⟨⟨x0, x1, x2, x3, x4, n0, q0⟩, ?_⟩
     refine wpAnyR_all (rs := [14]) (by kernel_rfl) (by simp) (fun i2 hi2 => ?_)
     obtain rfl : i2 = 14 := by simpa using hi2
     clear hi2
     refine wpOp_plain rfl rfl ?_
     simp only [zz0, zz1, zz2]
     go_simp
     have hz := (SP.boxAt ST 1 rfl).1
     have fq := free_of_box hz
     refine wpAnyR_all (rs := [15]) (by kernel_rfl) (by simp) (fun i2 hi2 => ?_)
     obtain rfl : i2 = 15 := by simpa using hi2
     clear hi2
     refine wpOp_plain rfl rfl ?_
     simp only [zz0, zz1, zz2]
     go_simp
     refine wpAnyR_done (by kernel_rfl) ?_ _
     have ST := SP.adopt ST [(x, .slice px x.kids.length cx), (y, .slice py y.kids.length cy)] rfl (by simp) 2
     have ST := SP.put ST 0 rfl (five_turned _ _ (.int .i64 ro) (.int .i64 0) (.string ⟨#[]⟩) (.slice (some ⟨kb, 0, none⟩) 2 2) (.int .i64 x.at_)) (five_set hz)
     have ST := SP.dropK ST (K' := [([x, y], .slice (some ⟨kb, 0, none⟩) 2 2)]) (by simp)
     obtain ⟨Wz, hWz⟩ : ∃ Wz, Wz = (((((Wk.setCell ⟨eb, 0, none⟩ (.int .i64 ro)).setCell ⟨eb, 1, none⟩ (.int .i64 0)).setCell ⟨eb, 2, none⟩ (.string ⟨#[]⟩)).setCell ⟨eb, 3, none⟩ (.slice (some ⟨kb, 0, none⟩) 2 2)).setCell ⟨eb, 4, none⟩ (.int .i64 x.at_)) := ⟨_, rfl⟩
     rw [<- hWz] at ST ⊢
     clear hWz x0 x1 x2 x3 x4 n0 q0 hz fq o1
     have n0 := cell_of_box (SP.boxAt ST 2 rfl).1
     by_cases h4 : n = 4
     ·have b4 : (z == 4) = true := by have := HZ.out; simp; omega
      rw [if_pos h4] at h6
      cases h6
      obtain ⟨x0, x1, x2, x3, x4⟩ := cellsFive (SP.boxAt ST 0 rfl).1
      have hz := (SP.boxAt ST 1 rfl).1
      have fq := free_of_box hz
      obtain ⟨r0, r1, r2, r3, r4⟩ := cellsFive hz
      go_wp2_with fail
      have SU := SP.put ST 1 rfl (five_turned _ _ (.int .i64 ro) (.int .i64 0) (.string ⟨#[]⟩) (.slice (some ⟨kb, 0, none⟩) 2 2) (.int .i64 x.at_)) (five_set hz)
      refine bodyPost_ret (results_ex rfl _ _ rb (.int .i64 ro) (.int .i64 0) (.string ⟨#[]⟩) (.slice (some ⟨kb, 0, none⟩) 2 2) (.int .i64 x.at_) rfl (five_set hz)) rfl ?_
      exact ⟨some ⟨kb, 0, none⟩, 2, rfl, SP.kidAt SU 0 rfl, SU.out.ps, SU.out.tur⟩
     ·have b4 : (z == 4) = false := by have := HZ.out; simp; omega
      rw [if_neg h4] at h6
      go_wp2_with fail
      go_roundw
      case rel => exact ⟨.mk ro 0 noB [x, y] x.at_, some ⟨kb, 0, none⟩, 2, j3, m3, Lib.hid ⟨ST, by omega, h6⟩⟩
      case measure => rw [ST.out.ps.len, HM.out]; omega
    ·clear hi2
     refine wpOp_plain rfl rfl ?_
     simp only [zz0, zz1, zz2]
     go_simp
     refine (IH.level m3 (n + 1) (z + 1) (j + 1) d _ _ nf (by omega) (by have := HZ.out; omega) (by omega) (by omega) hd0 hd h5 ST.out.ps).mono ?_
     rintro e W9 ⟨py, cy, rfl, hk, hp, ht2⟩
     have ST := SP.callK ST ht2 hp hk
     have o1 := cell_turned ht2 hgo o1
     clear hk hp ht2
     clear x0 x1 x2 x3 x4 n0 q0
     obtain ⟨x0, x1, x2, x3, x4⟩ := cellsFive (SP.boxAt ST 0 rfl).1
     have n0 := cell_of_box (SP.boxAt ST 2 rfl).1
     have q0 := cell_of_box (SP.boxAt ST 3 rfl).1
     refine ⟨⟨x0, x1, x2, x3, x4, n0, q0⟩, ?_⟩
     refine wpAnyR_all (rs := [4, 13]) (by kernel_rfl) (by simp) (fun i2 hi2 => ?_)
     rcases (show i2 = 4 \/ i2 = 13 by simpa using hi2) with rfl | rfl
     ·clear hi2
      refine wpOp_plain rfl rfl ?_
      simp only [zz0, zz1, zz2]
      go_simp
      refine wpAnyR_all (rs := [13]) (by kernel_rfl) (by simp) (fun i2 hi2 => ?_)
      obtain rfl : i2 = 13 := by simpa using hi2
      clear hi2
      refine wpOp_plain rfl rfl ?_
      simp only [zz0, zz1, zz2]
      go_simp
      obtain ⟨Wk, kb, hW, hb, ST⟩ := SP.box ST (.cells #[.int .i64 x.op, .int .i64 x.n, .string x.s, .slice px x.kids.length cx, .int .i64 x.at_, .int .i64 y.op, .int .i64 y.n, .string y.s, .slice py y.kids.length cy, .int .i64 y.at_] 31)
      have o1 := cell_turned ((Turned.refl (fun _ => False) _).alloc (.cells #[.int .i64 x.op, .int .i64 x.n, .string x.s, .slice px x.kids.length cx, .int .i64 x.at_, .int .i64 y.op, .int .i64 y.n, .string y.s, .slice py y.kids.length cy, .int .i64 y.at_] 31)) id o1
      rw [<- hW] at o1
      rw [<- hW, <- hb]
      clear hW hb
      clear x0 x1 x2 x3 x4 n0 q0
      obtain ⟨x0, x1, x2, x3, x4⟩ := cellsFive (SP.boxAt ST 1 rfl).1
      have n0 := cell_of_box (SP.boxAt ST 3 rfl).1
      have q0 := cell_of_box (SP.boxAt ST 4 rfl).1
      refine ⟨⟨x0, x1, x2, x3, x4, n0, q0⟩, ?_⟩
      refine wpAnyR_all (rs := [14]) (by kernel_rfl) (by simp) (fun i2 hi2 => ?_)
      obtain rfl : i2 = 14 := by simpa using hi2
      clear hi2
      refine wpOp_plain rfl rfl ?_
      simp only [zz0, zz1, zz2]
      go_simp
      have hz := (SP.boxAt ST 1 rfl).1
      have fq := free_of_box hz
      refine wpAnyR_all (rs := [15]) (by kernel_rfl) (by simp) (fun i2 hi2 => ?_)
      obtain rfl : i2 = 15 := by simpa using hi2
      clear hi2
      refine wpOp_plain rfl rfl ?_
      simp only [zz0, zz1, zz2]
      go_simp
      refine wpAnyR_done (by kernel_rfl) ?_ _
      have ST := SP.adopt ST [(x, .slice px x.kids.length cx), (y, .slice py y.kids.length cy)] rfl (by simp) 2
      have ST := SP.put ST 0 rfl (five_turned _ _ (.int .i64 ro) (.int .i64 0) (.string ⟨#[]⟩) (.slice (some ⟨kb, 0, none⟩) 2 2) (.int .i64 x.at_)) (five_set hz)
      have ST := SP.dropK ST (K' := [([x, y], .slice (some ⟨kb, 0, none⟩) 2 2)]) (by simp)
      obtain ⟨Wz, hWz⟩ : ∃ Wz, Wz = (((((Wk.setCell ⟨eb, 0, none⟩ (.int .i64 ro)).setCell ⟨eb, 1, none⟩ (.int .i64 0)).setCell ⟨eb, 2, none⟩ (.string ⟨#[]⟩)).setCell ⟨eb, 3, none⟩ (.slice (some ⟨kb, 0, none⟩) 2 2)).setCell ⟨eb, 4, none⟩ (.int .i64 x.at_)) := ⟨_, rfl⟩
      rw [<- hWz] at ST ⊢
      clear hWz x0 x1 x2 x3 x4 n0 q0 hz fq o1
      have n0 := cell_of_box (SP.boxAt ST 2 rfl).1
      by_cases h4 : n = 4
      ·have b4 : (z == 4) = true := by have := HZ.out; simp; omega
       rw [if_pos h4] at h6
       cases h6
       obtain ⟨x0, x1, x2, x3, x4⟩ := cellsFive (SP.boxAt ST 0 rfl).1
       have hz := (SP.boxAt ST 1 rfl).1
       have fq := free_of_box hz
       obtain ⟨r0, r1, r2, r3, r4⟩ := cellsFive hz
       go_wp2_with fail
       have SU := SP.put ST 1 rfl (five_turned _ _ (.int .i64 ro) (.int .i64 0) (.string ⟨#[]⟩) (.slice (some ⟨kb, 0, none⟩) 2 2) (.int .i64 x.at_)) (five_set hz)
       refine bodyPost_ret (results_ex rfl _ _ rb (.int .i64 ro) (.int .i64 0) (.string ⟨#[]⟩) (.slice (some ⟨kb, 0, none⟩) 2 2) (.int .i64 x.at_) rfl (five_set hz)) rfl ?_
       exact ⟨some ⟨kb, 0, none⟩, 2, rfl, SP.kidAt SU 0 rfl, SU.out.ps, SU.out.tur⟩
      ·have b4 : (z == 4) = false := by have := HZ.out; simp; omega
       rw [if_neg h4] at h6
       go_wp2_with fail
       go_roundw
       case rel => exact ⟨.mk ro 0 noB [x, y] x.at_, some ⟨kb, 0, none⟩, 2, j3, m3, Lib.hid ⟨ST, by omega, h6⟩⟩
       case measure => rw [ST.out.ps.len, HM.out]; omega
     ·clear hi2
      refine wpOp_plain rfl rfl ?_
      simp only [zz0, zz1, zz2]
      go_simp
      obtain ⟨Wk, kb, hW, hb, ST⟩ := SP.box ST (.cells #[.int .i64 x.op, .int .i64 x.n, .string x.s, .slice px x.kids.length cx, .int .i64 x.at_, .int .i64 y.op, .int .i64 y.n, .string y.s, .slice py y.kids.length cy, .int .i64 y.at_] 31)
      have o1 := cell_turned ((Turned.refl (fun _ => False) _).alloc (.cells #[.int .i64 x.op, .int .i64 x.n, .string x.s, .slice px x.kids.length cx, .int .i64 x.at_, .int .i64 y.op, .int .i64 y.n, .string y.s, .slice py y.kids.length cy, .int .i64 y.at_] 31)) id o1
      rw [<- hW] at o1
      rw [<- hW, <- hb]
      clear hW hb
      clear x0 x1 x2 x3 x4 n0 q0
      obtain ⟨x0, x1, x2, x3, x4⟩ := cellsFive (SP.boxAt ST 1 rfl).1
      have n0 := cell_of_box (SP.boxAt ST 3 rfl).1
      have q0 := cell_of_box (SP.boxAt ST 4 rfl).1
      refine ⟨⟨x0, x1, x2, x3, x4, n0, q0⟩, ?_⟩
      refine wpAnyR_all (rs := [4]) (by kernel_rfl) (by simp) (fun i2 hi2 => ?_)
      obtain rfl : i2 = 4 := by simpa using hi2
      clear hi2
      refine wpOp_plain rfl rfl ?_
      simp only [zz0, zz1, zz2]
      go_simp
      refine wpAnyR_all (rs := [14]) (by kernel_rfl) (by simp) (fun i2 hi2 => ?_)
      obtain rfl : i2 = 14 := by simpa using hi2
      clear hi2
      refine wpOp_plain rfl rfl ?_
      simp only [zz0, zz1, zz2]
      go_simp
      have hz := (SP.boxAt ST 1 rfl).1
      have fq := free_of_box hz
      refine wpAnyR_all (rs := [15]) (by kernel_rfl) (by simp) (fun i2 hi2 => ?_)
      obtain rfl : i2 = 15 := by simpa using hi2
      clear hi2
      refine wpOp_plain rfl rfl ?_
      simp only [zz0, zz1, zz2]
      go_simp
      refine wpAnyR_done (by kernel_rfl) ?_ _
      have ST := SP.adopt ST [(x, .slice px x.kids.length cx), (y, .slice py y.kids.length cy)] rfl (by simp) 2
      have ST := SP.put ST 0 rfl (five_turned _ _ (.int .i64 ro) (.int .i64 0) (.string ⟨#[]⟩) (.slice (some ⟨kb, 0, none⟩) 2 2) (.int .i64 x.at_)) (five_set hz)
      have ST := SP.dropK ST (K' := [([x, y], .slice (some ⟨kb, 0, none⟩) 2 2)]) (by simp)
      obtain ⟨Wz, hWz⟩ : ∃ Wz, Wz = (((((Wk.setCell ⟨eb, 0, none⟩ (.int .i64 ro)).setCell ⟨eb, 1, none⟩ (.int .i64 0)).setCell ⟨eb, 2, none⟩ (.string ⟨#[]⟩)).setCell ⟨eb, 3, none⟩ (.slice (some ⟨kb, 0, none⟩) 2 2)).setCell ⟨eb, 4, none⟩ (.int .i64 x.at_)) := ⟨_, rfl⟩
      rw [<- hWz] at ST ⊢
      clear hWz x0 x1 x2 x3 x4 n0 q0 hz fq o1
      have n0 := cell_of_box (SP.boxAt ST 2 rfl).1
      by_cases h4 : n = 4
      ·have b4 : (z == 4) = true := by have := HZ.out; simp; omega
       rw [if_pos h4] at h6
       cases h6
       obtain ⟨x0, x1, x2, x3, x4⟩ := cellsFive (SP.boxAt ST 0 rfl).1
       have hz := (SP.boxAt ST 1 rfl).1
       have fq := free_of_box hz
       obtain ⟨r0, r1, r2, r3, r4⟩ := cellsFive hz
       go_wp2_with fail
       have SU := SP.put ST 1 rfl (five_turned _ _ (.int .i64 ro) (.int .i64 0) (.string ⟨#[]⟩) (.slice (some ⟨kb, 0, none⟩) 2 2) (.int .i64 x.at_)) (five_set hz)
       refine bodyPost_ret (results_ex rfl _ _ rb (.int .i64 ro) (.int .i64 0) (.string ⟨#[]⟩) (.slice (some ⟨kb, 0, none⟩) 2 2) (.int .i64 x.at_) rfl (five_set hz)) rfl ?_
       exact ⟨some ⟨kb, 0, none⟩, 2, rfl, SP.kidAt SU 0 rfl, SU.out.ps, SU.out.tur⟩
      ·have b4 : (z == 4) = false := by have := HZ.out; simp; omega
       rw [if_neg h4] at h6
       go_wp2_with fail
       go_roundw
       case rel => exact ⟨.mk ro 0 noB [x, y] x.at_, some ⟨kb, 0, none⟩, 2, j3, m3, Lib.hid ⟨ST, by omega, h6⟩⟩
       case measure => rw [ST.out.ps.len, HM.out]; omega
theorem level_seven {B g cap : Nat} {ts : List Tok} {f : Nat} (IH : Hyp B g cap ts f) (m : Nat) (k : Nat) (d : Int) (r : PR Ex) (w : World) (nf : Int) (hm : m <= f) (hd0 : 0 <= d) (hd : d <= 30) (hr : runF ts m (.level 7) k d = some r) (h : PS B g cap ts w k nf) :
  Calls Tryz.prog 57 #[.pointer (some ⟨B, 0, none⟩), .int .i64 7, .int .i64 d] w (XR B g cap ts nf w r) := by
 obtain ⟨t, ht⟩ := some_of_lt h.lt
 obtain ⟨m, rfl⟩ : ∃ m', m = m' + 1 := by
  cases m with
  | zero => simp [runF] at hr
  | succ m' => exact ⟨m', rfl⟩
 unfold runF at hr
 simp only [ht] at hr
 rw [if_neg (by decide), if_pos trivial] at hr
 have S0 := SP.start h
 go_enter Tryz.func57, Tryz.ntmps57
 go_wp2_with fail
 obtain ⟨W1, pb, hW1, hb1, S1⟩ := SP.box S0 (.cells #[.pointer (some ⟨B, 0, none⟩)] 66)
 obtain ⟨W2, nb, hW2, hb2, S2⟩ := SP.box S1 (.cells #[.int .i64 7] 3)
 obtain ⟨W3, rb, hW3, hb3, S3⟩ := SP.box S2 (.cells #[.int .i64 0, .int .i64 0, .string ⟨#[]⟩, .slice none 0 0, .int .i64 0] 31)
 have e2 : nb = w.heap.size + 1 := by rw [hb2, hW1]; simp
 have e3 : rb = w.heap.size + 1 + 1 := by rw [hb3, hW2]; simp; omega
 rw [<- hW1, <- hW2, <- hW3, <- e3, <- hb1]
 clear hW1 hW2 hW3 hb1 hb2 hb3 e2 e3 S0 S1 S2
 cases r with
 | err j c =>
  refine (IH.neg m k d _ _ nf (by omega) hd0 hd hr S3.out.ps).mono ?_
  rintro e W4 ⟨rfl, ht2⟩
  exact ⟨rfl, rfl, S3.out.tur.trans ht2⟩
 | ok x j =>
  refine (IH.neg m k d _ _ nf (by omega) hd0 hd hr S3.out.ps).mono ?_
  rintro e W4 ⟨p, c, rfl, hk, hp, ht2⟩
  have S4 := SP.callK S3 ht2 hp hk
  clear S3 hk hp ht2
  have hz := (SP.boxAt S4 0 rfl).1
  have fq := free_of_box hz
  obtain ⟨r0, r1, r2, r3, r4⟩ := cellsFive hz
  go_wp2_with fail
  have S5 := SP.put S4 0 rfl (five_turned _ _ (.int .i64 x.op) (.int .i64 x.n) (.string x.s) (.slice p x.kids.length c) (.int .i64 x.at_)) (five_set hz)
  refine bodyPost_ret (results_ex rfl _ _ rb (.int .i64 x.op) (.int .i64 x.n) (.string x.s) (.slice p x.kids.length c) (.int .i64 x.at_) rfl (five_set hz)) rfl ?_
  exact ⟨p, c, rfl, SP.kidAt S5 0 rfl, S5.out.ps, S5.out.tur⟩
theorem level_three {B g cap : Nat} {ts : List Tok} {f : Nat} (IH : Hyp B g cap ts f) (m : Nat) (k : Nat) (d : Int) (r : PR Ex) (w : World) (nf : Int) (hm : m <= f) (hd0 : 0 <= d) (hd : d <= 30) (hr : runF ts m (.level 3) k d = some r) (h : PS B g cap ts w k nf) :
  Calls Tryz.prog 57 #[.pointer (some ⟨B, 0, none⟩), .int .i64 3, .int .i64 d] w (XR B g cap ts nf w r) := by
 obtain ⟨t, ht⟩ := some_of_lt h.lt
 obtain ⟨m, rfl⟩ : ∃ m', m = m' + 1 := by
  cases m with
  | zero => simp [runF] at hr
  | succ m' => exact ⟨m', rfl⟩
 unfold runF at hr
 simp only [ht] at hr
 rw [if_pos trivial] at hr
 have S0 := SP.start h
 have hmf : ∀ (fn : Fn) (first cap : Array Value) (w : World), (Instr.makeFunc fn first cap).run Tryz.prog w = .ok (.func fn first cap) w := fun _ _ _ _ => rfl
 have hf := field_tok1
 have HZ : Hid ((4 : Int) = (4 : Nat)) := Lib.hid rfl
 go_enter Tryz.func57, Tryz.ntmps57
 go_wp2_with fail
 obtain ⟨W1, pb, hW1, hb1, S1⟩ := SP.box S0 (.cells #[.pointer (some ⟨B, 0, none⟩)] 66)
 obtain ⟨W2, nb, hW2, hb2, S2⟩ := SP.box S1 (.cells #[.int .i64 3] 3)
 obtain ⟨W3, rb, hW3, hb3, S3⟩ := SP.box S2 (.cells #[.int .i64 0, .int .i64 0, .string ⟨#[]⟩, .slice none 0 0, .int .i64 0] 31)
 have e2 : nb = w.heap.size + 1 := by rw [hb2, hW1]; simp
 have e3 : rb = w.heap.size + 1 + 1 := by rw [hb3, hW2]; simp; omega
 rw [<- hW1, <- hW2, <- hW3, <- e3, <- e2, <- hb1]
 clear hW1 hW2 hW3 hb1 hb2 hb3 e2 e3 S0 S1 S2
 refine (is_ps S3.out.ps ht _).mono ?_
 rintro e W4 ⟨rfl, rfl⟩
 have q0 := cell_of_box (SP.boxAt S3 2 rfl).1
 have hzn := (SP.boxAt S3 1 rfl).1
 have n0 := cell_of_box hzn
 have fn0 := free_of_box hzn 0
 by_cases hs : isS t ⟨#[33]⟩ = true
 ·have hk1 := h.ok.sign ht hs
  obtain ⟨u, hu⟩ := some_of_lt hk1
  rw [if_pos hs] at hr
  simp only [hu] at hr
  go_wp2_with fail
  refine (next_ps S3.out.ps ht hk1).mono ?_
  rintro e W4 ⟨rfl, hp, ht2⟩
  have S4 := SP.call S3 ht2 hp
  clear S3 hp ht2 q0 n0 fn0 hzn
  have q0 := cell_of_box (SP.boxAt S4 2 rfl).1
  go_wp2_with fail
  refine (deep_ps S4.out.ps hu _ _).mono ?_
  rintro e W5 ⟨hD, rfl⟩
  cases hfp : firstP u (d + 1) true with
  | some c =>
   rw [hfp] at hr hD
   cases hr
   obtain rfl : e = .panicked [stopE ts (k + 1) c] := hD
   exact ⟨rfl, rfl, S4.out.tur⟩
  | none =>
   rw [hfp] at hr hD
   obtain rfl : e = .returned (.tuple #[]) := hD
   have hd2 := firstP_le hfp
   clear hfp
   go_wp2_with fail
   rcases PR.then_some hr with ⟨j, c, h1, rfl⟩ | ⟨x, j, h1, h2⟩
   ·refine (IH.level m 3 3 (k + 1) (d + 1) _ _ nf (by omega) rfl (by omega) (by omega) (by omega) hd2 h1 S4.out.ps).mono ?_
    rintro e W5 ⟨rfl, ht2⟩
    exact ⟨rfl, rfl, S4.out.tur.trans ht2⟩
   ·cases h2
    refine (IH.level m 3 3 (k + 1) (d + 1) _ _ nf (by omega) rfl (by omega) (by omega) (by omega) hd2 h1 S4.out.ps).mono ?_
    rintro e W5 ⟨p, c, rfl, hk, hp, ht2⟩
    have S5 := SP.callK S4 ht2 hp hk
    clear S4 hk hp ht2 q0
    have p1 := (SP.boxAt S5 0 rfl).1
    have hrb := (SP.boxAt S5 0 rfl).2.2
    have q := free_of_box p1
    obtain ⟨c0, c1, c2, c3, c4⟩ := cellsFive p1
    go_wp2_with fail
    have S6 := SP.put S5 0 rfl (five_turned W5 rb (.int .i64 5) (.int .i64 0) (.string ⟨#[]⟩) (.slice (some ⟨W5.heap.size, 0, none⟩) 1 1) (.int .i64 t.at_)) (five_set p1)
    obtain ⟨W6, bk, hW, hb, S7⟩ := SP.box S6 (.cells #[.int .i64 x.op, .int .i64 x.n, .string x.s, .slice p x.kids.length c, .int .i64 x.at_] 31)
    have hb2 : bk = W5.heap.size := by rw [hb]; simp
    rw [<- hb2] at hW S7 ⊢
    rw [<- hW]
    refine bodyPost_ret (results_ex rfl _ _ rb (.int .i64 5) (.int .i64 0) (.string ⟨#[]⟩) (.slice (some ⟨bk, 0, none⟩) 1 1) (.int .i64 t.at_) rfl (SP.boxAt S7 1 rfl).1) rfl ?_
    have S8 := SP.adopt S7 [(x, .slice p x.kids.length c)] rfl (by simp) 1
    exact ⟨some ⟨bk, 0, none⟩, 1, rfl, SP.kidAt S8 0 rfl, S8.out.ps, S8.out.tur⟩
 ·have hs : isS t ⟨#[33]⟩ = false := by simpa using hs
  rw [if_neg (by rw [hs]; decide)] at hr
  obtain ⟨m, rfl⟩ : ∃ m', m = m' + 1 := by
   cases m with
   | zero => simp [runF] at hr
   | succ m' => exact ⟨m', rfl⟩
  unfold runF at hr
  simp only [ht] at hr
  rw [if_neg (by decide), if_neg (by decide)] at hr
  have hw5 : IntKind.i64.wrap 5 = 5 := by rfl
  have hpn : pb ≠ nb := dist_ne S3.out.dist (i := 1) (j := 2) rfl rfl (by decide)
  have hnp : nb ≠ pb := fun h => hpn h.symm
  go_wp2_with fail
  have S4 := SP.put S3 1 rfl ((Turned.refl (fun c => c = nb) W3).setCell (p := ⟨nb, 0, none⟩) rfl (.int .i64 4)) (box_setCell (.int .i64 4) hzn)
  obtain ⟨Wn, hWn⟩ : ∃ Wn, Wn = W3.setCell ⟨nb, 0, none⟩ (.int .i64 4) := ⟨_, rfl⟩
  rw [<- hWn] at S4 ⊢
  clear hWn q0 n0 fn0 hzn S3
  have S3 : Hid (SP B g cap ts w Wn [(rb, .cells #[.int .i64 0, .int .i64 0, .string ⟨#[]⟩, .slice none 0 0, .int .i64 0] 31), (nb, .cells #[.int .i64 4] 3), (pb, .cells #[.pointer (some ⟨B, 0, none⟩)] 66)] [] k nf) := S4
  clear S4
  rcases PR.then_some hr with ⟨j, c, h1, rfl⟩ | ⟨x, j, h1, h2⟩
  ·refine (IH.level m (4 + 1) (5) k d _ _ nf (by omega) (by have := HZ.out; omega) (by omega) (by omega) hd0 hd h1 S3.out.ps).mono ?_
   rintro e W5 ⟨rfl, ht2⟩
   exact ⟨rfl, rfl, S3.out.tur.trans ht2⟩
  refine (IH.level m (4 + 1) (5) k d _ _ nf (by omega) (by have := HZ.out; omega) (by omega) (by omega) hd0 hd h1 S3.out.ps).mono ?_
  rintro e W5 ⟨px, cx, rfl, hk, hp, ht2⟩
  have S4 := SP.callK S3 ht2 hp hk
  clear S3 hk hp ht2 hr
  go_wp2_with fail
  obtain ⟨W6, eb, hW, hb, S5⟩ := SP.box S4 (.cells #[.int .i64 x.op, .int .i64 x.n, .string x.s, .slice px x.kids.length cx, .int .i64 x.at_] 31)
  rw [<- hW, <- hb]
  clear hW hb S4
  go_loopw [9] (fun _ wr => ∃ (x : Ex) (px : Option Addr) (cx j m2 : Nat), Hid (LvR B g cap ts f w nf 4 4 d r eb rb nb pb x px cx j m2 wr)) (fun _ wr => lenOf ((wr.cell? ⟨B, 0, none⟩).getD undef))
  case atStart => exact ⟨x, px, cx, j, m, Lib.hid ⟨S5, by omega, h2⟩⟩
  case round =>
   clear h2 h1 S5
   obtain ⟨x, px, cx, j, m2, HL⟩ := hrel
   have HM : Hid (lenOf ((wr.cell? ⟨B, 0, none⟩).getD undef) = ts.length - j) := Lib.hid HL.out.sp.out.ps.len
   have S6 := HL.out.sp
   obtain ⟨u, hu⟩ := some_of_lt S6.out.ps.lt
   have hju := S6.out.ps.lt
   obtain ⟨m3, rfl, hcase⟩ := loop_eq HL.out.eq hu
   have hm3 : m3 < f := by have := HL.out.fuel; omega
   clear HL
   obtain ⟨x0, x1, x2, x3, x4⟩ := cellsFive (SP.boxAt S6 0 rfl).1
   have n0 := cell_of_box (SP.boxAt S6 2 rfl).1
   have q0 := cell_of_box (SP.boxAt S6 3 rfl).1
   go_wp2_with fail
   refine (operators_any _).mono ?_
   rintro e Wo ⟨go, rfl, hge, hrow, hto⟩
   have S7 := SP.same S6 hto
   clear x0 x1 x2 x3 x4 n0 q0 S6 hto hge
   have n0 := cell_of_box (SP.boxAt S7 2 rfl).1
   have q0 := cell_of_box (SP.boxAt S7 3 rfl).1
   go_wp2_with fail
   rcases hcase with ⟨ho, rfl⟩ | ⟨op, ho, h4⟩
   ·have hidx : idxI (opIdx 4 u) = -1 := by rw [opAt_none ho]; rfl
    have HI := index_ps S7.out.ps hu 4 nb pb go 4 HZ.out n0 q0 hrow
    rw [hidx] at HI
    refine HI.mono ?_
    rintro e W8 ⟨rfl, ht2⟩
    have S8 := SP.same S7 ht2
    clear S7 ht2 HI n0 q0 hrow hidx
    obtain ⟨x0, x1, x2, x3, x4⟩ := cellsFive (SP.boxAt S8 0 rfl).1
    have hz := (SP.boxAt S8 1 rfl).1
    have fq := free_of_box hz
    obtain ⟨r0, r1, r2, r3, r4⟩ := cellsFive hz
    go_wp2_with fail
    have S9 := SP.put S8 1 rfl (five_turned _ _ (.int .i64 x.op) (.int .i64 x.n) (.string x.s) (.slice px x.kids.length cx) (.int .i64 x.at_)) (five_set hz)
    refine bodyPost_ret (results_ex rfl _ _ rb (.int .i64 x.op) (.int .i64 x.n) (.string x.s) (.slice px x.kids.length cx) (.int .i64 x.at_) rfl (five_set hz)) rfl ?_
    exact ⟨px, cx, rfl, SP.kidAt S9 0 rfl, S9.out.ps, S9.out.tur⟩
   ·obtain ⟨i, hid, ⟨rs, ro, rl⟩, hopr, hopr2⟩ := opAt_some ho
    have hopr2 : ro = op := hopr2
    subst hopr2
    have hidx : idxI (opIdx 4 u) = (i : Int) := by rw [hid]; rfl
    have hi : i < 13 := by have := lt_of_some hopr; simpa [opRows] using this
    have hi2 : (i : Int) < 13 := by omega
    have hi3 : (0 : Int) <= (i : Int) := by omega
    have HI := index_ps S7.out.ps hu 4 nb pb go 4 HZ.out n0 q0 hrow
    rw [hidx] at HI
    have hsu := (opAt_isS ho).elim fun s hs => h.ok.sign hu hs
    clear hid hidx ho hrow
    refine HI.mono ?_
    rintro e W8 ⟨rfl, ht2⟩
    have S8 := SP.same S7 ht2
    clear S7 ht2 HI n0 q0
    have q0 := cell_of_box (SP.boxAt S8 3 rfl).1
    go_wp2_with fail
    refine (next_ps S8.out.ps hu hsu).mono ?_
    rintro e W9 ⟨rfl, hp, ht2⟩
    have S9 := SP.call S8 ht2 hp
    clear S8 hp ht2 q0
    go_wp2_with fail
    have ST := SP.same S9 (Turned.refl _ _).drew
    clear S9
    obtain ⟨x0, x1, x2, x3, x4⟩ := cellsFive (SP.boxAt ST 0 rfl).1
    have n0 := cell_of_box (SP.boxAt ST 2 rfl).1
    have q0 := cell_of_box (SP.boxAt ST 3 rfl).1
    have hopr3 : opRow i = binV (rs, ro, rl) := by unfold opRow; rw [hopr]
    rcases PR.then_some h4 with ⟨j3, c, h5, rfl⟩ | ⟨y, j3, h5, h6⟩
    ·clear h4
     refine region_R (R := fun j V => j < 15 -> (fun V : World => V.cell? ⟨eb, 0, none⟩ = some (.int .i64 x.op) /\ V.cell? ⟨eb, 1, none⟩ = some (.int .i64 x.n) /\ V.cell? ⟨eb, 2, none⟩ = some (.string x.s) /\ V.cell? ⟨eb, 3, none⟩ = some (.slice px x.kids.length cx) /\ V.cell? ⟨eb, 4, none⟩ = some (.int .i64 x.at_) /\ V.cell? ⟨nb, 0, none⟩ = some (.int .i64 4) /\ V.cell? ⟨pb, 0, none⟩ = some (.pointer (some ⟨B, 0, none⟩))) V) (by kernel_rfl) ?_
     refine tk (n := 15) 1 (.int .i64 ((i : Nat))) rfl (.inl ⟨by rfl, ?_⟩) ⟨x0, x1, x2, x3, x4, n0, q0⟩ ?_
     ·rintro V ⟨v0, v1, v2, v3, v4, v5, v6⟩
      go_simp
     simp only [zz0, zz1, zz2, Act.put, zz3, zz4, zz5]
     refine tk (n := 15) 5 (.pointer (some ⟨eb, 4, none⟩)) rfl (.inl ⟨by rfl, ?_⟩) ⟨x0, x1, x2, x3, x4, n0, q0⟩ ?_
     ·rintro V ⟨v0, v1, v2, v3, v4, v5, v6⟩
      go_simp
     simp only [zz0, zz1, zz2, Act.put, zz3, zz4, zz5]
     refine tk (n := 15) 6 (.int .i64 x.at_) rfl (.inl ⟨by rfl, ?_⟩) ⟨x0, x1, x2, x3, x4, n0, q0⟩ ?_
     ·rintro V ⟨v0, v1, v2, v3, v4, v5, v6⟩
      go_simp
     simp only [zz0, zz1, zz2, Act.put, zz3, zz4, zz5]
     refine tk (n := 15) 7 (.agg #[.int .i64 x.op, .int .i64 x.n, .string x.s, .slice px x.kids.length cx, .int .i64 x.at_]) rfl (.inl ⟨by rfl, ?_⟩) ⟨x0, x1, x2, x3, x4, n0, q0⟩ ?_
     ·rintro V ⟨v0, v1, v2, v3, v4, v5, v6⟩
      go_simp
     simp only [zz0, zz1, zz2, Act.put, zz3, zz4, zz5]
     refine tk (n := 15) 8 (.pointer (some ⟨B, 0, none⟩)) rfl (.inl ⟨by rfl, ?_⟩) ⟨x0, x1, x2, x3, x4, n0, q0⟩ ?_
     ·rintro V ⟨v0, v1, v2, v3, v4, v5, v6⟩
      go_simp
     simp only [zz0, zz1, zz2, Act.put, zz3, zz4, zz5]
     refine tk (n := 15) 9 (.int .i64 4) rfl (.inl ⟨by rfl, ?_⟩) ⟨x0, x1, x2, x3, x4, n0, q0⟩ ?_
     ·rintro V ⟨v0, v1, v2, v3, v4, v5, v6⟩
      go_simp
     simp only [zz0, zz1, zz2, Act.put, zz3, zz4, zz5]
     refine tk (n := 15) 10 (.int .i64 5) rfl (.inl ⟨by rfl, ?_⟩) ⟨x0, x1, x2, x3, x4, n0, q0⟩ ?_
     ·rintro V ⟨v0, v1, v2, v3, v4, v5, v6⟩
      go_simp
     simp only [zz0, zz1, zz2, Act.put, zz3, zz4, zz5]
     refine tk (n := 15) 11 (.int .i64 d) rfl (.inl ⟨by rfl, ?_⟩) ⟨x0, x1, x2, x3, x4, n0, q0⟩ ?_
     ·rintro V ⟨v0, v1, v2, v3, v4, v5, v6⟩
      go_simp
     simp only [zz0, zz1, zz2, Act.put, zz3, zz4, zz5]
     refine wpAnyR_all (rs := [0]) (by kernel_rfl) (by simp) (fun i2 hi2 => ?_)
     obtain rfl : i2 = 0 := by simpa using hi2
     clear hi2
     refine wpOp_plain rfl rfl ?_
     simp only [zz0, zz1]
     go_simp
     refine (operators_any _).mono ?_
     rintro e Wo ⟨gb, rfl, hge, hrow, hto⟩
     have hgo : gb ≠ B := by have := SP.size ST; have := ST.out.ltB; omega
     have o1 := hrow i hi 1 (.int .i64 ro) (by rw [hopr3]; rfl)
     rw [Nat.zero_add] at o1
     have ST := SP.same ST hto
     clear x0 x1 x2 x3 x4 n0 q0
     obtain ⟨x0, x1, x2, x3, x4⟩ := cellsFive (SP.boxAt ST 0 rfl).1
     have n0 := cell_of_box (SP.boxAt ST 2 rfl).1
     have q0 := cell_of_box (SP.boxAt ST 3 rfl).1
     clear hrow hto hge
     refine ⟨⟨x0, x1, x2, x3, x4, n0, q0⟩, ?_⟩
     refine tk (n := 15) 2 (.pointer (some ⟨gb, i * 3, none⟩)) rfl (.inl ⟨by rfl, ?_⟩) ⟨x0, x1, x2, x3, x4, n0, q0⟩ ?_
     ·rintro V ⟨v0, v1, v2, v3, v4, v5, v6⟩
      go_simp
     simp only [zz0, zz1, zz2, Act.put, zz3, zz4, zz5]
     refine tk (n := 15) 3 (.pointer (some ⟨gb, i * 3 + 1, none⟩)) rfl (.inl ⟨by rfl, ?_⟩) ⟨x0, x1, x2, x3, x4, n0, q0⟩ ?_
     ·rintro V ⟨v0, v1, v2, v3, v4, v5, v6⟩
      go_simp
     simp only [zz0, zz1, zz2, Act.put, zz3, zz4, zz5]
     refine wpAnyR_all (rs := [4, 12]) (by kernel_rfl) (by simp) (fun i2 hi2 => ?_)
     rcases (show i2 = 4 \/ i2 = 12 by simpa using hi2) with rfl | rfl
     ·clear hi2
      refine wpOp_plain rfl rfl ?_
      simp only [zz0, zz1, zz2]
      go_simp
      refine wpAnyR_all (rs := [12]) (by kernel_rfl) (by simp) (fun i2 hi2 => ?_)
      obtain rfl : i2 = 12 := by simpa using hi2
      clear hi2
      refine wpOp_plain rfl rfl ?_
      simp only [zz0, zz1, zz2]
      go_simp
      refine (IH.level m3 (4 + 1) (5) (j + 1) d _ _ nf (by omega) (by have := HZ.out; omega) (by omega) (by omega) hd0 hd h5 ST.out.ps).mono ?_
      rintro e W9 ⟨rfl, ht2⟩
      exact ⟨rfl, rfl, ST.out.tur.trans ht2⟩
     ·clear hi2
      refine wpOp_plain rfl rfl ?_
      simp only [zz0, zz1, zz2]
      go_simp
      refine (IH.level m3 (4 + 1) (5) (j + 1) d _ _ nf (by omega) (by have := HZ.out; omega) (by omega) (by omega) hd0 hd h5 ST.out.ps).mono ?_
      rintro e W9 ⟨rfl, ht2⟩
      exact ⟨rfl, rfl, ST.out.tur.trans ht2⟩
    ·clear h4
     have hj3 : j + 1 <= j3 /\ j3 < ts.length := run_fits h.ok _ _ _ _ _ h5
     refine region_R (R := fun j V => j < 15 -> (fun V : World => V.cell? ⟨eb, 0, none⟩ = some (.int .i64 x.op) /\ V.cell? ⟨eb, 1, none⟩ = some (.int .i64 x.n) /\ V.cell? ⟨eb, 2, none⟩ = some (.string x.s) /\ V.cell? ⟨eb, 3, none⟩ = some (.slice px x.kids.length cx) /\ V.cell? ⟨eb, 4, none⟩ = some (.int .i64 x.at_) /\ V.cell? ⟨nb, 0, none⟩ = some (.int .i64 4) /\ V.cell? ⟨pb, 0, none⟩ = some (.pointer (some ⟨B, 0, none⟩))) V) (by kernel_rfl) ?_
     refine tk (n := 15) 1 (.int .i64 ((i : Nat))) rfl (.inl ⟨by rfl, ?_⟩) ⟨x0, x1, x2, x3, x4, n0, q0⟩ ?_
     ·rintro V ⟨v0, v1, v2, v3, v4, v5, v6⟩
      go_simp
     simp only [zz0, zz1, zz2, Act.put, zz3, zz4, zz5]
     refine tk (n := 15) 5 (.pointer (some ⟨eb, 4, none⟩)) rfl (.inl ⟨by rfl, ?_⟩) ⟨x0, x1, x2, x3, x4, n0, q0⟩ ?_
     ·rintro V ⟨v0, v1, v2, v3, v4, v5, v6⟩
      go_simp
     simp only [zz0, zz1, zz2, Act.put, zz3, zz4, zz5]
     refine tk (n := 15) 6 (.int .i64 x.at_) rfl (.inl ⟨by rfl, ?_⟩) ⟨x0, x1, x2, x3, x4, n0, q0⟩ ?_
     ·rintro V ⟨v0, v1, v2, v3, v4, v5, v6⟩
      go_simp
     simp only [zz0, zz1, zz2, Act.put, zz3, zz4, zz5]
     refine tk (n := 15) 7 (.agg #[.int .i64 x.op, .int .i64 x.n, .string x.s, .slice px x.kids.length cx, .int .i64 x.at_]) rfl (.inl ⟨by rfl, ?_⟩) ⟨x0, x1, x2, x3, x4, n0, q0⟩ ?_
     ·rintro V ⟨v0, v1, v2, v3, v4, v5, v6⟩
      go_simp
     simp only [zz0, zz1, zz2, Act.put, zz3, zz4, zz5]
     refine tk (n := 15) 8 (.pointer (some ⟨B, 0, none⟩)) rfl (.inl ⟨by rfl, ?_⟩) ⟨x0, x1, x2, x3, x4, n0, q0⟩ ?_
     ·rintro V ⟨v0, v1, v2, v3, v4, v5, v6⟩
      go_simp
     simp only [zz0, zz1, zz2, Act.put, zz3, zz4, zz5]
     refine tk (n := 15) 9 (.int .i64 4) rfl (.inl ⟨by rfl, ?_⟩) ⟨x0, x1, x2, x3, x4, n0, q0⟩ ?_
     ·rintro V ⟨v0, v1, v2, v3, v4, v5, v6⟩
      go_simp
     simp only [zz0, zz1, zz2, Act.put, zz3, zz4, zz5]
     refine tk (n := 15) 10 (.int .i64 5) rfl (.inl ⟨by rfl, ?_⟩) ⟨x0, x1, x2, x3, x4, n0, q0⟩ ?_
     ·rintro V ⟨v0, v1, v2, v3, v4, v5, v6⟩
      go_simp
     simp only [zz0, zz1, zz2, Act.put, zz3, zz4, zz5]
     refine tk (n := 15) 11 (.int .i64 d) rfl (.inl ⟨by rfl, ?_⟩) ⟨x0, x1, x2, x3, x4, n0, q0⟩ ?_
     ·rintro V ⟨v0, v1, v2, v3, v4, v5, v6⟩
      go_simp
     simp only [zz0, zz1, zz2, Act.put, zz3, zz4, zz5]
     refine wpAnyR_all (rs := [0]) (by kernel_rfl) (by simp) (fun i2 hi2 => ?_)
     obtain rfl : i2 = 0 := by simpa using hi2
     clear hi2
     refine wpOp_plain rfl rfl ?_
     simp only [zz0, zz1]
     go_simp
     refine (operators_any _).mono ?_
     rintro e Wo ⟨gb, rfl, hge, hrow, hto⟩
     have hgo : gb ≠ B := by have := SP.size ST; have := ST.out.ltB; omega
     have o1 := hrow i hi 1 (.int .i64 ro) (by rw [hopr3]; rfl)
     rw [Nat.zero_add] at o1
     have ST := SP.same ST hto
     clear x0 x1 x2 x3 x4 n0 q0
     obtain ⟨x0, x1, x2, x3, x4⟩ := cellsFive (SP.boxAt ST 0 rfl).1
     have n0 := cell_of_box (SP.boxAt ST 2 rfl).1
     have q0 := cell_of_box (SP.boxAt ST 3 rfl).1
     clear hrow hto hge
     refine ⟨⟨x0, x1, x2, x3, x4, n0, q0⟩, ?_⟩
     refine tk (n := 15) 2 (.pointer (some ⟨gb, i * 3, none⟩)) rfl (.inl ⟨by rfl, ?_⟩) ⟨x0, x1, x2, x3, x4, n0, q0⟩ ?_
     ·rintro V ⟨v0, v1, v2, v3, v4, v5, v6⟩
      go_simp
     simp only [zz0, zz1, zz2, Act.put, zz3, zz4, zz5]
     refine tk (n := 15) 3 (.pointer (some ⟨gb, i * 3 + 1, none⟩)) rfl (.inl ⟨by rfl, ?_⟩) ⟨x0, x1, x2, x3, x4, n0, q0⟩ ?_
     ·rintro V ⟨v0, v1, v2, v3, v4, v5, v6⟩
      go_simp
     simp only [zz0, zz1, zz2, Act.put, zz3, zz4, zz5]
     refine wpAnyR_all (rs := [4, 12]) (by kernel_rfl) (by simp) (fun i2 hi2 => ?_)
     rcases (show i2 = 4 \/ i2 = 12 by simpa using hi2) with rfl | rfl
     ·clear hi2
      refine wpOp_plain rfl rfl ?_
      simp only [zz0, zz1, zz2]
      go_simp
      refine wpAnyR_all (rs := [12]) (by kernel_rfl) (by simp) (fun i2 hi2 => ?_)
      obtain rfl : i2 = 12 := by simpa using hi2
      clear hi2
      refine wpOp_plain rfl rfl ?_
      simp only [zz0, zz1, zz2]
      go_simp
      refine (IH.level m3 (4 + 1) (5) (j + 1) d _ _ nf (by omega) (by have := HZ.out; omega) (by omega) (by omega) hd0 hd h5 ST.out.ps).mono ?_
      rintro e W9 ⟨py, cy, rfl, hk, hp, ht2⟩
      have ST := SP.callK ST ht2 hp hk
      have o1 := cell_turned ht2 hgo o1
      clear hk hp ht2
      clear x0 x1 x2 x3 x4 n0 q0
      obtain ⟨x0, x1, x2, x3, x4⟩ := cellsFive (SP.boxAt ST 0 rfl).1
      have n0 := cell_of_box (SP.boxAt ST 2 rfl).1
      have q0 := cell_of_box (SP.boxAt ST 3 rfl).1
      refine ⟨⟨x0, x1, x2, x3, x4, n0, q0⟩, ?_⟩
      refine wpAnyR_all (rs := [13]) (by kernel_rfl) (by simp) (fun i2 hi2 => ?_)
      obtain rfl : i2 = 13 := by simpa using hi2
      clear hi2
      refine wpOp_plain rfl rfl ?_
      simp only [zz0, zz1, zz2]
      go_simp
      obtain ⟨Wk, kb, hW, hb, ST⟩ := SP.box ST (.cells #[.int .i64 x.op, .int .i64 x.n, .string x.s, .slice px x.kids.length cx, .int .i64 x.at_, .int .i64 y.op, .int .i64 y.n, .string y.s, .slice py y.kids.length cy, .int .i64 y.at_] 31)
      have o1 := cell_turned ((Turned.refl (fun _ => False) _).alloc (.cells #[.int .i64 x.op, .int .i64 x.n, .string x.s, .slice px x.kids.length cx, .int .i64 x.at_, .int .i64 y.op, .int .i64 y.n, .string y.s, .slice py y.kids.length cy, .int .i64 y.at_] 31)) id o1
      rw [<- hW] at o1
      rw [<- hW, <- hb]
      clear hW hb
      clear x0 x1 x2 x3 x4 n0 q0
      obtain ⟨x0, x1, x2, x3, x4⟩ := cellsFive (SP.boxAt ST 1 rfl).1
      have n0 := cell_of_box (SP.boxAt ST 3 rfl).1
      have q0 := cell_of_box (SP.boxAt ST 4 rfl).1
      refine ⟨⟨x0, x1, x2, x3, x4, n0, q0⟩, ?_⟩
      refine wpAnyR_all (rs := [14]) (by kernel_rfl) (by simp) (fun i2 hi2 => ?_)
      obtain rfl : i2 = 14 := by simpa using hi2
      clear hi2
      refine wpOp_plain rfl rfl ?_
      simp only [zz0, zz1, zz2]
      go_simp
      have hz := (SP.boxAt ST 1 rfl).1
      have fq := free_of_box hz
      refine wpAnyR_all (rs := [15]) (by kernel_rfl) (by simp) (fun i2 hi2 => ?_)
      obtain rfl : i2 = 15 := by simpa using hi2
      clear hi2
      refine wpOp_plain rfl rfl ?_
      simp only [zz0, zz1, zz2]
      go_simp
      refine wpAnyR_done (by kernel_rfl) ?_ _
      have ST := SP.adopt ST [(x, .slice px x.kids.length cx), (y, .slice py y.kids.length cy)] rfl (by simp) 2
      have ST := SP.put ST 0 rfl (five_turned _ _ (.int .i64 ro) (.int .i64 0) (.string ⟨#[]⟩) (.slice (some ⟨kb, 0, none⟩) 2 2) (.int .i64 x.at_)) (five_set hz)
      have ST := SP.dropK ST (K' := [([x, y], .slice (some ⟨kb, 0, none⟩) 2 2)]) (by simp)
      obtain ⟨Wz, hWz⟩ : ∃ Wz, Wz = (((((Wk.setCell ⟨eb, 0, none⟩ (.int .i64 ro)).setCell ⟨eb, 1, none⟩ (.int .i64 0)).setCell ⟨eb, 2, none⟩ (.string ⟨#[]⟩)).setCell ⟨eb, 3, none⟩ (.slice (some ⟨kb, 0, none⟩) 2 2)).setCell ⟨eb, 4, none⟩ (.int .i64 x.at_)) := ⟨_, rfl⟩
      rw [<- hWz] at ST ⊢
      clear hWz x0 x1 x2 x3 x4 n0 q0 hz fq o1
      have n0 := cell_of_box (SP.boxAt ST 2 rfl).1
      (first | rw [if_pos trivial] at h6 | rw [if_pos rfl] at h6)
      cases h6
      obtain ⟨x0, x1, x2, x3, x4⟩ := cellsFive (SP.boxAt ST 0 rfl).1
      have hz := (SP.boxAt ST 1 rfl).1
      have fq := free_of_box hz
      obtain ⟨r0, r1, r2, r3, r4⟩ := cellsFive hz
      go_wp2_with fail
      have SU := SP.put ST 1 rfl (five_turned _ _ (.int .i64 ro) (.int .i64 0) (.string ⟨#[]⟩) (.slice (some ⟨kb, 0, none⟩) 2 2) (.int .i64 x.at_)) (five_set hz)
      refine bodyPost_ret (results_ex rfl _ _ rb (.int .i64 ro) (.int .i64 0) (.string ⟨#[]⟩) (.slice (some ⟨kb, 0, none⟩) 2 2) (.int .i64 x.at_) rfl (five_set hz)) rfl ?_
      exact ⟨some ⟨kb, 0, none⟩, 2, rfl, SP.kidAt SU 0 rfl, SU.out.ps, SU.out.tur⟩
     ·clear hi2
      refine wpOp_plain rfl rfl ?_
      simp only [zz0, zz1, zz2]
      go_simp
      refine (IH.level m3 (4 + 1) (5) (j + 1) d _ _ nf (by omega) (by have := HZ.out; omega) (by omega) (by omega) hd0 hd h5 ST.out.ps).mono ?_
      rintro e W9 ⟨py, cy, rfl, hk, hp, ht2⟩
      have ST := SP.callK ST ht2 hp hk
      have o1 := cell_turned ht2 hgo o1
      clear hk hp ht2
      clear x0 x1 x2 x3 x4 n0 q0
      obtain ⟨x0, x1, x2, x3, x4⟩ := cellsFive (SP.boxAt ST 0 rfl).1
      have n0 := cell_of_box (SP.boxAt ST 2 rfl).1
      have q0 := cell_of_box (SP.boxAt ST 3 rfl).1
      refine ⟨⟨x0, x1, x2, x3, x4, n0, q0⟩, ?_⟩
      refine wpAnyR_all (rs := [4, 13]) (by kernel_rfl) (by simp) (fun i2 hi2 => ?_)
      rcases (show i2 = 4 \/ i2 = 13 by simpa using hi2) with rfl | rfl
      ·clear hi2
       refine wpOp_plain rfl rfl ?_
       simp only [zz0, zz1, zz2]
       go_simp
       refine wpAnyR_all (rs := [13]) (by kernel_rfl) (by simp) (fun i2 hi2 => ?_)
       obtain rfl : i2 = 13 := by simpa using hi2
       clear hi2
       refine wpOp_plain rfl rfl ?_
       simp only [zz0, zz1, zz2]
       go_simp
       obtain ⟨Wk, kb, hW, hb, ST⟩ := SP.box ST (.cells #[.int .i64 x.op, .int .i64 x.n, .string x.s, .slice px x.kids.length cx, .int .i64 x.at_, .int .i64 y.op, .int .i64 y.n, .string y.s, .slice py y.kids.length cy, .int .i64 y.at_] 31)
       have o1 := cell_turned ((Turned.refl (fun _ => False) _).alloc (.cells #[.int .i64 x.op, .int .i64 x.n, .string x.s, .slice px x.kids.length cx, .int .i64 x.at_, .int .i64 y.op, .int .i64 y.n, .string y.s, .slice py y.kids.length cy, .int .i64 y.at_] 31)) id o1
       rw [<- hW] at o1
       rw [<- hW, <- hb]
       clear hW hb
       clear x0 x1 x2 x3 x4 n0 q0
       obtain ⟨x0, x1, x2, x3, x4⟩ := cellsFive (SP.boxAt ST 1 rfl).1
       have n0 := cell_of_box (SP.boxAt ST 3 rfl).1
       have q0 := cell_of_box (SP.boxAt ST 4 rfl).1
       refine ⟨⟨x0, x1, x2, x3, x4, n0, q0⟩, ?_⟩
       refine wpAnyR_all (rs := [14]) (by kernel_rfl) (by simp) (fun i2 hi2 => ?_)
       obtain rfl : i2 = 14 := by simpa using hi2
       clear hi2
       refine wpOp_plain rfl rfl ?_
       simp only [zz0, zz1, zz2]
       go_simp
       have hz := (SP.boxAt ST 1 rfl).1
       have fq := free_of_box hz
       refine wpAnyR_all (rs := [15]) (by kernel_rfl) (by simp) (fun i2 hi2 => ?_)
       obtain rfl : i2 = 15 := by simpa using hi2
       clear hi2
       refine wpOp_plain rfl rfl ?_
       simp only [zz0, zz1, zz2]
       go_simp
       refine wpAnyR_done (by kernel_rfl) ?_ _
       have ST := SP.adopt ST [(x, .slice px x.kids.length cx), (y, .slice py y.kids.length cy)] rfl (by simp) 2
       have ST := SP.put ST 0 rfl (five_turned _ _ (.int .i64 ro) (.int .i64 0) (.string ⟨#[]⟩) (.slice (some ⟨kb, 0, none⟩) 2 2) (.int .i64 x.at_)) (five_set hz)
       have ST := SP.dropK ST (K' := [([x, y], .slice (some ⟨kb, 0, none⟩) 2 2)]) (by simp)
       obtain ⟨Wz, hWz⟩ : ∃ Wz, Wz = (((((Wk.setCell ⟨eb, 0, none⟩ (.int .i64 ro)).setCell ⟨eb, 1, none⟩ (.int .i64 0)).setCell ⟨eb, 2, none⟩ (.string ⟨#[]⟩)).setCell ⟨eb, 3, none⟩ (.slice (some ⟨kb, 0, none⟩) 2 2)).setCell ⟨eb, 4, none⟩ (.int .i64 x.at_)) := ⟨_, rfl⟩
       rw [<- hWz] at ST ⊢
       clear hWz x0 x1 x2 x3 x4 n0 q0 hz fq o1
       have n0 := cell_of_box (SP.boxAt ST 2 rfl).1
       (first | rw [if_pos trivial] at h6 | rw [if_pos rfl] at h6)
       cases h6
       obtain ⟨x0, x1, x2, x3, x4⟩ := cellsFive (SP.boxAt ST 0 rfl).1
       have hz := (SP.boxAt ST 1 rfl).1
       have fq := free_of_box hz
       obtain ⟨r0, r1, r2, r3, r4⟩ := cellsFive hz
       go_wp2_with fail
       have SU := SP.put ST 1 rfl (five_turned _ _ (.int .i64 ro) (.int .i64 0) (.string ⟨#[]⟩) (.slice (some ⟨kb, 0, none⟩) 2 2) (.int .i64 x.at_)) (five_set hz)
       refine bodyPost_ret (results_ex rfl _ _ rb (.int .i64 ro) (.int .i64 0) (.string ⟨#[]⟩) (.slice (some ⟨kb, 0, none⟩) 2 2) (.int .i64 x.at_) rfl (five_set hz)) rfl ?_
       exact ⟨some ⟨kb, 0, none⟩, 2, rfl, SP.kidAt SU 0 rfl, SU.out.ps, SU.out.tur⟩
      ·clear hi2
       refine wpOp_plain rfl rfl ?_
       simp only [zz0, zz1, zz2]
       go_simp
       obtain ⟨Wk, kb, hW, hb, ST⟩ := SP.box ST (.cells #[.int .i64 x.op, .int .i64 x.n, .string x.s, .slice px x.kids.length cx, .int .i64 x.at_, .int .i64 y.op, .int .i64 y.n, .string y.s, .slice py y.kids.length cy, .int .i64 y.at_] 31)
       have o1 := cell_turned ((Turned.refl (fun _ => False) _).alloc (.cells #[.int .i64 x.op, .int .i64 x.n, .string x.s, .slice px x.kids.length cx, .int .i64 x.at_, .int .i64 y.op, .int .i64 y.n, .string y.s, .slice py y.kids.length cy, .int .i64 y.at_] 31)) id o1
       rw [<- hW] at o1
       rw [<- hW, <- hb]
       clear hW hb
       clear x0 x1 x2 x3 x4 n0 q0
       obtain ⟨x0, x1, x2, x3, x4⟩ := cellsFive (SP.boxAt ST 1 rfl).1
       have n0 := cell_of_box (SP.boxAt ST 3 rfl).1
       have q0 := cell_of_box (SP.boxAt ST 4 rfl).1
       refine ⟨⟨x0, x1, x2, x3, x4, n0, q0⟩, ?_⟩
       refine wpAnyR_all (rs := [4]) (by kernel_rfl) (by simp) (fun i2 hi2 => ?_)
       obtain rfl : i2 = 4 := by simpa using hi2
       clear hi2
       refine wpOp_plain rfl rfl ?_
       simp only [zz0, zz1, zz2]
       go_simp
       refine wpAnyR_all (rs := [14]) (by kernel_rfl) (by simp) (fun i2 hi2 => ?_)
       obtain rfl : i2 = 14 := by simpa using hi2
       clear hi2
       refine wpOp_plain rfl rfl ?_
       simp only [zz0, zz1, zz2]
       go_simp
       have hz := (SP.boxAt ST 1 rfl).1
       have fq := free_of_box hz
       refine wpAnyR_all (rs := [15]) (by kernel_rfl) (by simp) (fun i2 hi2 => ?_)
       obtain rfl : i2 = 15 := by simpa using hi2
       clear hi2
       refine wpOp_plain rfl rfl ?_
       simp only [zz0, zz1, zz2]
       go_simp
       refine wpAnyR_done (by kernel_rfl) ?_ _
       have ST := SP.adopt ST [(x, .slice px x.kids.length cx), (y, .slice py y.kids.length cy)] rfl (by simp) 2
       have ST := SP.put ST 0 rfl (five_turned _ _ (.int .i64 ro) (.int .i64 0) (.string ⟨#[]⟩) (.slice (some ⟨kb, 0, none⟩) 2 2) (.int .i64 x.at_)) (five_set hz)
       have ST := SP.dropK ST (K' := [([x, y], .slice (some ⟨kb, 0, none⟩) 2 2)]) (by simp)
       obtain ⟨Wz, hWz⟩ : ∃ Wz, Wz = (((((Wk.setCell ⟨eb, 0, none⟩ (.int .i64 ro)).setCell ⟨eb, 1, none⟩ (.int .i64 0)).setCell ⟨eb, 2, none⟩ (.string ⟨#[]⟩)).setCell ⟨eb, 3, none⟩ (.slice (some ⟨kb, 0, none⟩) 2 2)).setCell ⟨eb, 4, none⟩ (.int .i64 x.at_)) := ⟨_, rfl⟩
       rw [<- hWz] at ST ⊢
       clear hWz x0 x1 x2 x3 x4 n0 q0 hz fq o1
       have n0 := cell_of_box (SP.boxAt ST 2 rfl).1
       (first | rw [if_pos trivial] at h6 | rw [if_pos rfl] at h6)
       cases h6
       obtain ⟨x0, x1, x2, x3, x4⟩ := cellsFive (SP.boxAt ST 0 rfl).1
       have hz := (SP.boxAt ST 1 rfl).1
       have fq := free_of_box hz
       obtain ⟨r0, r1, r2, r3, r4⟩ := cellsFive hz
       go_wp2_with fail
       have SU := SP.put ST 1 rfl (five_turned _ _ (.int .i64 ro) (.int .i64 0) (.string ⟨#[]⟩) (.slice (some ⟨kb, 0, none⟩) 2 2) (.int .i64 x.at_)) (five_set hz)
       refine bodyPost_ret (results_ex rfl _ _ rb (.int .i64 ro) (.int .i64 0) (.string ⟨#[]⟩) (.slice (some ⟨kb, 0, none⟩) 2 2) (.int .i64 x.at_) rfl (five_set hz)) rfl ?_
       exact ⟨some ⟨kb, 0, none⟩, 2, rfl, SP.kidAt SU 0 rfl, SU.out.ps, SU.out.tur⟩
theorem level_step {B g cap : Nat} {ts : List Tok} {f : Nat} (IH : Hyp B g cap ts f) (m n : Nat) (z : Int) (k : Nat) (d : Int) (r : PR Ex) (w : World) (nf : Int) (hm : m <= f) (hz : z = n) (hn1 : 1 <= n) (hn7 : n <= 7) (hd0 : 0 <= d) (hd : d <= 30) (hr : runF ts m (.level n) k d = some r) (h : PS B g cap ts w k nf) :
  Calls Tryz.prog 57 #[.pointer (some ⟨B, 0, none⟩), .int .i64 z, .int .i64 d] w (XR B g cap ts nf w r) := by
 by_cases h3 : n = 3
 ·subst h3
  obtain rfl : z = 3 := hz
  exact level_three IH m k d r w nf hm hd0 hd hr h
 ·by_cases h7 : n = 7
  ·subst h7
   obtain rfl : z = 7 := hz
   exact level_seven IH m k d r w nf hm hd0 hd hr h
  ·exact level_loop IH m n z k d r w nf hm hz h3 h7 hn1 hn7 hd0 hd hr h
end Go.Proofs.YtjijdgkccfeeaaaGreatDoor
