/- Part 20 of the proof of card: ParTxE. Conditions: those of each theorem. -/
import Derived.Test.YtjijdgkccfeeaaaGreatDoorPt01
import Derived.Test.YtjijdgkccfeeaaaGreatDoorPt19
set_option maxRecDepth 20000
set_option maxHeartbeats 4000000
namespace Go.Proofs.YtjijdgkccfeeaaaGreatDoor
open Go Go.Proofs Go.RowKit
attribute [local go_sem] Oper.semAt_some
def rtCall : Nat -> List (Int × (ByteArray × Bool)) -> List (ByteArray × Bool)
 | _, [] => []
 | k, (op, t) :: r => (if 0 < k then [tx ⟨#[44]⟩] else []) ++ rtAt 0 op t :: rtCall (k + 1) r
def rtH (op n : Int) (s : ByteArray) (K : List (Int × (ByteArray × Bool))) : ByteArray × Bool :=
 if op = 1 then (textQ [nuT n], badNum n)
 else if op = 2 then (textQ [txT s], badText s)
 else if op = 3 then (s, badName s)
 else if op = 4 then joinT ((s, badName s) :: tx ⟨#[40]⟩ :: (rtCall 0 K ++ [tx ⟨#[41]⟩]))
 else match K with
  | [(p, a)] => if op = 5 then joinT [tx ⟨#[33]⟩, rtAt 3 p a] else if op = 6 then joinT [tx ⟨#[45]⟩, rtAt 7 p a] else (noB, true)
  | [(p, a), (q, b)] => match opRows.find? fun r => r.2.1 == op with
   | some r => joinT [rtAt (if r.2.2 = 4 then 5 else r.2.2) p a, tx r.1, rtAt (r.2.2 + 1) q b]
   | none => (noB, true)
  | [(p, a), (q, b), (r, c)] => if op = 20 then joinT [rtAt 1 p a, tx ⟨#[63]⟩, rtAt 0 q b, tx ⟨#[58]⟩, rtAt 0 r c] else (noB, true)
  | _ => (noB, true)
mutual
def rtX : Ex -> ByteArray × Bool
 | .mk op n s ks _ => rtH op n s (rtXs ks)
def rtXs : List Ex -> List (Int × (ByteArray × Bool))
 | [] => []
 | x :: xs => (x.op, rtX x) :: rtXs xs
end
theorem rtX_eq (x : Ex) : rtX x = rtH x.op x.n x.s (rtXs x.kids) := by cases x; rw [rtX]; rfl
theorem rtXs_map : ∀ l : List Ex, rtXs l = l.map fun x => (x.op, rtX x)
 | [] => rfl
 | x :: l => by rw [rtXs, rtXs_map l]; rfl
def AtHyp (x : Ex) : Prop := ∀ y ∈ x.kids, ∀ (need : Nat) (a : Value) (W : World), KidsAt W (fun _ => True) y.kids a ->
 Calls Tryz.prog 82 #[exA y a, (.int .i64 ((need : Int)))] W fun e w' => e = .returned (.agg #[.string (rtAt need y.op (rtX y)).1, .bool (rtAt need y.op (rtX y)).2]) /\ Turned (fun _ => False) W w'
def ShowR (x : Ex) (w : World) (e : Ending) (w' : World) : Prop := e = .returned (.agg #[.string (rtX x).1, .bool (rtX x).2]) /\ Turned (fun _ => False) w w'
def sgnCells : Array Value := (opRows.map fun r => Value.string r.1).toArray
theorem show_1 (x : Ex) (hop : x.op = 1) (hn : -9223372036854775808 <= x.n /\ x.n <= 9223372036854775807) (a : Value) (w : World) (hk : KidsAt w (fun _ => True) x.kids a) : Calls Tryz.prog 44 #[exA x a] w (ShowR x w) := by
 unfold ShowR
 have HRT : Hid (rtX x = (textQ [nuT x.n], badNum x.n)) := Lib.hid (by rw [rtX_eq, hop]; unfold rtH; rw [if_pos rfl])
 have HC := Lib.hid (fun W => txnum_any x.n hn W)
 have HOP := Lib.hid hop
 clear hn hop
 obtain ⟨pa, ca, rfl⟩ := hk.shape
 have S0 := St.start (T := fun W => KidsAt W (fun _ => True) x.kids (.slice pa x.kids.length ca)) hk (stays_kids _ _)
 have HKW := Lib.hid hk
 clear hk
 unfold exA
 go_enter Tryz.func44, Tryz.ntmps44
 go_upto_region 1 with fail
 obtain ⟨W1, b1, hW, hB, hbl, S1⟩ := St.box S0 (.cells #[.int .i64 x.op, .int .i64 x.n, .string x.s, .slice pa x.kids.length ca, .int .i64 x.at_] 31)
 have hz : W1.heap.size = b1 + 1 := by rw [hW, hB]; simp
 have hb1 : b1 = w.heap.size := hB
 rw [<- hW, <- hB]
 clear hW hB hbl S0
 obtain ⟨W2, b2, hW, hB, hbl, S2⟩ := St.box S1 txBox
 rw [hz] at hB
 have HGE : Hid (w.heap.size <= b2) := Lib.hid (by omega)
 have HN12 : Hid (¬ b1 = b2) := Lib.hid (by omega)
 rw [<- hW, <- hB]
 clear hW hB hbl S1 hz hb1
 go_upto_region 2 with fail
 obtain ⟨W3, b3, hW, hB, hbl, S3⟩ := St.box S2 (.cells sgnCells 9)
 have HN32 : Hid (¬ b3 = b2) := Lib.hid (by have := getElem?_lt (S2.out.lays.get 0 rfl); omega)
 unfold sgnCells at hW
 simp only [opRows, List.map_cons, List.map_nil] at hW
 rw [<- hW, <- hB]
 clear hW hB hbl S2
 obtain ⟨x0, x1, x2, x3, x4⟩ := St.cells5 S3 2 rfl
 rw [HOP.out] at x0
 go_wp2_with (go_at_call 80; refine (HC.out _).mono ?_; rintro e W5 ⟨rfl, ht⟩; have S5 := St.call S3 (below_turned ht); clear ht x0 x1 x2 x3 x4 S3; have hb2 := S5.out.lays.get 1 rfl; obtain ⟨z0, z1⟩ := cellsTx hb2; have fq := free_of_box hb2; have HB2 := Lib.hid hb2; clear hb2)
 refine bodyPost_ret (results_tx rfl _ _ b2 _ _ rfl (tx_set HB2.out)) rfl ?_
 rw [HRT.out]
 exact ⟨rfl, ((Turned.of_new (C := fun b => w.heap.size <= b) S5.out.bel).trans ((tx_turned _ _ _ _).mono fun b hb => by have := HGE.out; omega)).strip⟩
theorem show_2 (x : Ex) (hop : x.op = 2) (hn : x.s.size <= 100000) (a : Value) (w : World) (hk : KidsAt w (fun _ => True) x.kids a) : Calls Tryz.prog 44 #[exA x a] w (ShowR x w) := by
 unfold ShowR
 have HRT : Hid (rtX x = (textQ [txT x.s], badText x.s)) := Lib.hid (by rw [rtX_eq, hop]; unfold rtH; rw [if_neg (by decide), if_pos rfl])
 have HC := Lib.hid (fun W => txtext_any x.s hn W)
 have HOP := Lib.hid hop
 clear hn hop
 obtain ⟨pa, ca, rfl⟩ := hk.shape
 have S0 := St.start (T := fun W => KidsAt W (fun _ => True) x.kids (.slice pa x.kids.length ca)) hk (stays_kids _ _)
 have HKW := Lib.hid hk
 clear hk
 unfold exA
 go_enter Tryz.func44, Tryz.ntmps44
 go_upto_region 1 with fail
 obtain ⟨W1, b1, hW, hB, hbl, S1⟩ := St.box S0 (.cells #[.int .i64 x.op, .int .i64 x.n, .string x.s, .slice pa x.kids.length ca, .int .i64 x.at_] 31)
 have hz : W1.heap.size = b1 + 1 := by rw [hW, hB]; simp
 have hb1 : b1 = w.heap.size := hB
 rw [<- hW, <- hB]
 clear hW hB hbl S0
 obtain ⟨W2, b2, hW, hB, hbl, S2⟩ := St.box S1 txBox
 rw [hz] at hB
 have HGE : Hid (w.heap.size <= b2) := Lib.hid (by omega)
 have HN12 : Hid (¬ b1 = b2) := Lib.hid (by omega)
 rw [<- hW, <- hB]
 clear hW hB hbl S1 hz hb1
 go_upto_region 2 with fail
 obtain ⟨W3, b3, hW, hB, hbl, S3⟩ := St.box S2 (.cells sgnCells 9)
 have HN32 : Hid (¬ b3 = b2) := Lib.hid (by have := getElem?_lt (S2.out.lays.get 0 rfl); omega)
 unfold sgnCells at hW
 simp only [opRows, List.map_cons, List.map_nil] at hW
 rw [<- hW, <- hB]
 clear hW hB hbl S2
 obtain ⟨x0, x1, x2, x3, x4⟩ := St.cells5 S3 2 rfl
 rw [HOP.out] at x0
 go_wp2_with (go_at_call 81; refine (HC.out _).mono ?_; rintro e W5 ⟨rfl, ht⟩; have S5 := St.call S3 (below_turned ht); clear ht x0 x1 x2 x3 x4 S3; have hb2 := S5.out.lays.get 1 rfl; obtain ⟨z0, z1⟩ := cellsTx hb2; have fq := free_of_box hb2; have HB2 := Lib.hid hb2; clear hb2)
 refine bodyPost_ret (results_tx rfl _ _ b2 _ _ rfl (tx_set HB2.out)) rfl ?_
 rw [HRT.out]
 exact ⟨rfl, ((Turned.of_new (C := fun b => w.heap.size <= b) S5.out.bel).trans ((tx_turned _ _ _ _).mono fun b hb => by have := HGE.out; omega)).strip⟩
theorem show_3 (x : Ex) (hop : x.op = 3) (hn : x.s.size <= 100000) (a : Value) (w : World) (hk : KidsAt w (fun _ => True) x.kids a) : Calls Tryz.prog 44 #[exA x a] w (ShowR x w) := by
 unfold ShowR
 have HRT : Hid (rtX x = (x.s, badName x.s)) := Lib.hid (by rw [rtX_eq, hop]; unfold rtH; rw [if_neg (by decide), if_neg (by decide), if_pos rfl])
 have HC := Lib.hid (fun W => txname_any x.s hn W)
 have HOP := Lib.hid hop
 clear hn hop
 obtain ⟨pa, ca, rfl⟩ := hk.shape
 have S0 := St.start (T := fun W => KidsAt W (fun _ => True) x.kids (.slice pa x.kids.length ca)) hk (stays_kids _ _)
 have HKW := Lib.hid hk
 clear hk
 unfold exA
 go_enter Tryz.func44, Tryz.ntmps44
 go_upto_region 1 with fail
 obtain ⟨W1, b1, hW, hB, hbl, S1⟩ := St.box S0 (.cells #[.int .i64 x.op, .int .i64 x.n, .string x.s, .slice pa x.kids.length ca, .int .i64 x.at_] 31)
 have hz : W1.heap.size = b1 + 1 := by rw [hW, hB]; simp
 have hb1 : b1 = w.heap.size := hB
 rw [<- hW, <- hB]
 clear hW hB hbl S0
 obtain ⟨W2, b2, hW, hB, hbl, S2⟩ := St.box S1 txBox
 rw [hz] at hB
 have HGE : Hid (w.heap.size <= b2) := Lib.hid (by omega)
 have HN12 : Hid (¬ b1 = b2) := Lib.hid (by omega)
 rw [<- hW, <- hB]
 clear hW hB hbl S1 hz hb1
 go_upto_region 2 with fail
 obtain ⟨W3, b3, hW, hB, hbl, S3⟩ := St.box S2 (.cells sgnCells 9)
 have HN32 : Hid (¬ b3 = b2) := Lib.hid (by have := getElem?_lt (S2.out.lays.get 0 rfl); omega)
 unfold sgnCells at hW
 simp only [opRows, List.map_cons, List.map_nil] at hW
 rw [<- hW, <- hB]
 clear hW hB hbl S2
 obtain ⟨x0, x1, x2, x3, x4⟩ := St.cells5 S3 2 rfl
 rw [HOP.out] at x0
 go_wp2_with (go_at_call 78; refine (HC.out _).mono ?_; rintro e W5 ⟨rfl, ht⟩; have S5 := St.call S3 (below_turned ht); clear ht x0 x1 x2 x3 x4 S3; have hb2 := S5.out.lays.get 1 rfl; obtain ⟨z0, z1⟩ := cellsTx hb2; have fq := free_of_box hb2; have HB2 := Lib.hid hb2; clear hb2)
 refine bodyPost_ret (results_tx rfl _ _ b2 _ _ rfl (tx_set HB2.out)) rfl ?_
 rw [HRT.out]
 exact ⟨rfl, ((Turned.of_new (C := fun b => w.heap.size <= b) S5.out.bel).trans ((tx_turned _ _ _ _).mono fun b hb => by have := HGE.out; omega)).strip⟩
theorem show_5 (x : Ex) (hop : x.op = 5) (y0 : Ex) (hks : x.kids = [y0]) (HA : AtHyp x) (hz0 : ∀ need, (rtAt need y0.op (rtX y0)).1.size <= 1000000000) (a : Value) (w : World) (hk : KidsAt w (fun _ => True) x.kids a) : Calls Tryz.prog 44 #[exA x a] w (ShowR x w) := by
 unfold ShowR
 have HRT : Hid (rtX x = joinT [tx ⟨#[33]⟩, rtAt 3 y0.op (rtX y0)]) := Lib.hid (by rw [rtX_eq, hop, rtXs_map, hks]; unfold rtH; rw [if_neg (by decide), if_neg (by decide), if_neg (by decide), if_neg (by decide)]; rfl)
 have hl : x.kids.length = 1 := by rw [hks]; rfl
 have hy0 : x.kids[0]? = some y0 := by rw [hks]; rfl
 have HAT := Lib.hid HA
 have HL := Lib.hid hl
 have HOP := Lib.hid hop
 clear hop
 clear HA hks hl
 obtain ⟨pa, ca, rfl⟩ := hk.shape
 have S0 := St.start (T := fun W => KidsAt W (fun _ => True) x.kids (.slice pa x.kids.length ca)) hk (stays_kids _ _)
 have HKW := Lib.hid hk
 clear hk
 unfold exA
 go_enter Tryz.func44, Tryz.ntmps44
 go_upto_region 1 with fail
 obtain ⟨W1, b1, hW, hB, hbl, S1⟩ := St.box S0 (.cells #[.int .i64 x.op, .int .i64 x.n, .string x.s, .slice pa x.kids.length ca, .int .i64 x.at_] 31)
 have hz : W1.heap.size = b1 + 1 := by rw [hW, hB]; simp
 have hb1 : b1 = w.heap.size := hB
 rw [<- hW, <- hB]
 clear hW hB hbl S0
 obtain ⟨W2, b2, hW, hB, hbl, S2⟩ := St.box S1 txBox
 rw [hz] at hB
 have HGE : Hid (w.heap.size <= b2) := Lib.hid (by omega)
 have HN12 : Hid (¬ b1 = b2) := Lib.hid (by omega)
 rw [<- hW, <- hB]
 clear hW hB hbl S1 hz hb1
 go_upto_region 2 with fail
 obtain ⟨W3, b3, hW, hB, hbl, S3⟩ := St.box S2 (.cells sgnCells 9)
 have HN32 : Hid (¬ b3 = b2) := Lib.hid (by have := getElem?_lt (S2.out.lays.get 0 rfl); omega)
 unfold sgnCells at hW
 simp only [opRows, List.map_cons, List.map_nil] at hW
 rw [<- hW, <- hB]
 clear hW hB hbl S2
 obtain ⟨x0, x1, x2, x3, x4⟩ := St.cells5 S3 2 rfl
 obtain ⟨kb0, ka0, kk0, he0, ⟨k00, k01, k02, k03, k04⟩, HK0⟩ := kidsAt_get (i := 0) S3.out.tab hy0
 subst he0
 obtain ⟨py0, cy0, rfl⟩ := HK0.shape
 simp only [Nat.zero_mul, Nat.add_zero] at k00 k01 k02 k03 k04
 rw [HL.out] at x3
 rw [HOP.out] at x0
 go_upto_region 20 with fail
 obtain ⟨kbw, kaw, kkw, hew, ⟨c0, -, -, -, -⟩, -⟩ := kidsAt_get (i := 0) HKW.out hy0
 cases hew
 have HNK : Hid (¬ kb0 = b2) := Lib.hid (by have := cell_lt c0; have := HGE.out; omega)
 clear c0 HKW
 have hE0 : ∀ W, Below W3.heap.size W3 W -> Calls Tryz.prog 82 #[exA y0 (.slice py0 y0.kids.length cy0), .int .i64 3] W fun e w' => e = .returned (.agg #[.string (rtAt 3 y0.op (rtX y0)).1, .bool (rtAt 3 y0.op (rtX y0)).2]) /\ Turned (fun _ => False) W w' := fun W hb => HAT.out y0 (List.mem_of_getElem? hy0) 3 _ W (HK0.all (Turned.of_new hb))
 have hs0 := hz0 3
 obtain ⟨t0, ht0⟩ : ∃ t, t = rtAt 3 y0.op (rtX y0) := ⟨_, rfl⟩
 rw [<- ht0] at HRT hs0
 simp only [<- ht0] at hE0
 have HS0 := Lib.hid hs0
 have E0 := Lib.hid hE0
 unfold exA at E0
 clear ht0 hE0 hs0
 have HC : Hid (∀ W, Below W3.heap.size W3 W -> (W.cell? ⟨b1, 3, none⟩ = some (.slice (some ⟨kb0, ka0, none⟩) 1 ca) /\ W.cell? ⟨kb0, ka0, none⟩ = some (.int .i64 y0.op) /\ W.cell? ⟨kb0, ka0 + 1, none⟩ = some (.int .i64 y0.n) /\ W.cell? ⟨kb0, ka0 + 2, none⟩ = some (.string y0.s) /\ W.cell? ⟨kb0, ka0 + 3, none⟩ = some (.slice py0 y0.kids.length cy0) /\ W.cell? ⟨kb0, ka0 + 4, none⟩ = some (.int .i64 y0.at_))) := Lib.hid fun W hb => by
  obtain ⟨q0, -, -, q3, -⟩ := St.cells5 (St.call S3 hb) 2 rfl
  rw [HL.out] at q3
  have ht : Turned (fun _ => False) W3 W := Turned.of_new hb
  exact ⟨q3, cell_turned ht id k00, cell_turned ht id k01, cell_turned ht id k02, cell_turned ht id k03, cell_turned ht id k04⟩
 have HCS : Hid (∀ (W : World) (u v : Value), (W.cell? ⟨b1, 3, none⟩ = some (.slice (some ⟨kb0, ka0, none⟩) 1 ca) /\ W.cell? ⟨kb0, ka0, none⟩ = some (.int .i64 y0.op) /\ W.cell? ⟨kb0, ka0 + 1, none⟩ = some (.int .i64 y0.n) /\ W.cell? ⟨kb0, ka0 + 2, none⟩ = some (.string y0.s) /\ W.cell? ⟨kb0, ka0 + 3, none⟩ = some (.slice py0 y0.kids.length cy0) /\ W.cell? ⟨kb0, ka0 + 4, none⟩ = some (.int .i64 y0.at_)) -> (fun W : World => W.cell? ⟨b1, 3, none⟩ = some (.slice (some ⟨kb0, ka0, none⟩) 1 ca) /\ W.cell? ⟨kb0, ka0, none⟩ = some (.int .i64 y0.op) /\ W.cell? ⟨kb0, ka0 + 1, none⟩ = some (.int .i64 y0.n) /\ W.cell? ⟨kb0, ka0 + 2, none⟩ = some (.string y0.s) /\ W.cell? ⟨kb0, ka0 + 3, none⟩ = some (.slice py0 y0.kids.length cy0) /\ W.cell? ⟨kb0, ka0 + 4, none⟩ = some (.int .i64 y0.at_)) ((W.setCell ⟨b2, 0, none⟩ u).setCell ⟨b2, 1, none⟩ v)) := Lib.hid fun W u v h => by
  have hne1 := HN12.out
  have hnek := HNK.out
  have hne3 := HN32.out
  have ht := tx_turned W b2 u v
  obtain ⟨g0, g1, g2, g3, g4, g5⟩ := h
  exact ⟨cell_turned ht hne1 g0, cell_turned ht hnek g1, cell_turned ht hnek g2, cell_turned ht hnek g3, cell_turned ht hnek g4, cell_turned ht hnek g5⟩
 have HCB : Hid (∀ W, Below W3.heap.size W3 W -> W.heap[b2]? = some txBox) := Lib.hid fun W hb => (St.call S3 hb).out.lays.get 1 rfl
 have B0 := Lib.hid (Below.drew (Below.refl W3.heap.size W3))
 have HSG := Lib.hid (fun (s : ByteArray) (W : World) => sign1_any s W)
 have HJ := Lib.hid (fun (W : World) => tjoin_any [tx ⟨#[33]⟩, t0] (some ⟨W.heap.size, 0, none⟩) 2 (W.alloc (.cells #[.string ⟨#[33]⟩, .bool false, .string t0.1, .bool t0.2] 96)) (txs_new W 96 _ _ rfl _ rfl) (by simp) (fun q hq => by
  simp only [List.mem_cons, List.not_mem_nil, or_false] at hq
  rcases hq with rfl | rfl
  ·simp [tx, ByteArray.size]
  ·exact HS0.out))
 clear x0 x1 x2 x3 x4 k00 k01 k02 k03 k04 
 go_region_held3 (fun W => W.cell? ⟨b1, 3, none⟩ = some (.slice (some ⟨kb0, ka0, none⟩) 1 ca) /\ W.cell? ⟨kb0, ka0, none⟩ = some (.int .i64 y0.op) /\ W.cell? ⟨kb0, ka0 + 1, none⟩ = some (.int .i64 y0.n) /\ W.cell? ⟨kb0, ka0 + 2, none⟩ = some (.string y0.s) /\ W.cell? ⟨kb0, ka0 + 3, none⟩ = some (.slice py0 y0.kids.length cy0) /\ W.cell? ⟨kb0, ka0 + 4, none⟩ = some (.int .i64 y0.at_))
  (first | exact HC.out _ B0.out | exact HC.out _ B1.out | exact HC.out _ B2.out | exact HC.out _ B3.out | exact HC.out _ (B2.out.alloc B2.out.size _) | exact HCS.out _ _ _ (HC.out _ B3.out) | go_keep)
  (first | (have hq := B2; clear hq; go_at_call 43; refine (HJ.out _).mono ?_; rintro e U3 ⟨rfl, ht⟩; have B3 := Lib.hid (B2.out.trans ((below_turned (((Turned.refl _ _).alloc _).trans ht)).mono B2.out.size)); obtain ⟨z0, z1⟩ := cellsTx (HCB.out _ B3.out); have fq := free_of_box (HCB.out _ B3.out); clear ht) | (have hq := B1; clear hq; go_at_call 82; refine (E0.out _ B1.out).mono ?_; rintro e U2 ⟨rfl, ht⟩; have B2 := Lib.hid (B1.out.trans ((below_turned ht).mono B1.out.size)); clear ht) | (have hq := B0; clear hq; go_at_call 79; refine (HSG.out _ _).mono ?_; rintro e U1 ⟨rfl, ht⟩; have B1 := Lib.hid (B0.out.trans ((below_turned ht).mono B0.out.size)); clear ht))
 go_wp2_with fail
 refine bodyPost_ret (results_tx rfl _ _ b2 _ _ rfl (tx_set (HCB.out _ B3.out))) rfl ?_
 rw [HRT.out]
 exact ⟨rfl, (((Turned.of_new (C := fun b => w.heap.size <= b) S3.out.bel).trans (Turned.of_new B3.out)).trans ((tx_turned _ _ _ _).mono fun b hb => by have := HGE.out; omega)).strip⟩
theorem show_6 (x : Ex) (hop : x.op = 6) (y0 : Ex) (hks : x.kids = [y0]) (HA : AtHyp x) (hz0 : ∀ need, (rtAt need y0.op (rtX y0)).1.size <= 1000000000) (a : Value) (w : World) (hk : KidsAt w (fun _ => True) x.kids a) : Calls Tryz.prog 44 #[exA x a] w (ShowR x w) := by
 unfold ShowR
 have HRT : Hid (rtX x = joinT [tx ⟨#[45]⟩, rtAt 7 y0.op (rtX y0)]) := Lib.hid (by rw [rtX_eq, hop, rtXs_map, hks]; unfold rtH; rw [if_neg (by decide), if_neg (by decide), if_neg (by decide), if_neg (by decide)]; rfl)
 have hl : x.kids.length = 1 := by rw [hks]; rfl
 have hy0 : x.kids[0]? = some y0 := by rw [hks]; rfl
 have HAT := Lib.hid HA
 have HL := Lib.hid hl
 have HOP := Lib.hid hop
 clear hop
 clear HA hks hl
 obtain ⟨pa, ca, rfl⟩ := hk.shape
 have S0 := St.start (T := fun W => KidsAt W (fun _ => True) x.kids (.slice pa x.kids.length ca)) hk (stays_kids _ _)
 have HKW := Lib.hid hk
 clear hk
 unfold exA
 go_enter Tryz.func44, Tryz.ntmps44
 go_upto_region 1 with fail
 obtain ⟨W1, b1, hW, hB, hbl, S1⟩ := St.box S0 (.cells #[.int .i64 x.op, .int .i64 x.n, .string x.s, .slice pa x.kids.length ca, .int .i64 x.at_] 31)
 have hz : W1.heap.size = b1 + 1 := by rw [hW, hB]; simp
 have hb1 : b1 = w.heap.size := hB
 rw [<- hW, <- hB]
 clear hW hB hbl S0
 obtain ⟨W2, b2, hW, hB, hbl, S2⟩ := St.box S1 txBox
 rw [hz] at hB
 have HGE : Hid (w.heap.size <= b2) := Lib.hid (by omega)
 have HN12 : Hid (¬ b1 = b2) := Lib.hid (by omega)
 rw [<- hW, <- hB]
 clear hW hB hbl S1 hz hb1
 go_upto_region 2 with fail
 obtain ⟨W3, b3, hW, hB, hbl, S3⟩ := St.box S2 (.cells sgnCells 9)
 have HN32 : Hid (¬ b3 = b2) := Lib.hid (by have := getElem?_lt (S2.out.lays.get 0 rfl); omega)
 unfold sgnCells at hW
 simp only [opRows, List.map_cons, List.map_nil] at hW
 rw [<- hW, <- hB]
 clear hW hB hbl S2
 obtain ⟨x0, x1, x2, x3, x4⟩ := St.cells5 S3 2 rfl
 obtain ⟨kb0, ka0, kk0, he0, ⟨k00, k01, k02, k03, k04⟩, HK0⟩ := kidsAt_get (i := 0) S3.out.tab hy0
 subst he0
 obtain ⟨py0, cy0, rfl⟩ := HK0.shape
 simp only [Nat.zero_mul, Nat.add_zero] at k00 k01 k02 k03 k04
 rw [HL.out] at x3
 rw [HOP.out] at x0
 go_upto_region 21 with fail
 obtain ⟨kbw, kaw, kkw, hew, ⟨c0, -, -, -, -⟩, -⟩ := kidsAt_get (i := 0) HKW.out hy0
 cases hew
 have HNK : Hid (¬ kb0 = b2) := Lib.hid (by have := cell_lt c0; have := HGE.out; omega)
 clear c0 HKW
 have hE0 : ∀ W, Below W3.heap.size W3 W -> Calls Tryz.prog 82 #[exA y0 (.slice py0 y0.kids.length cy0), .int .i64 7] W fun e w' => e = .returned (.agg #[.string (rtAt 7 y0.op (rtX y0)).1, .bool (rtAt 7 y0.op (rtX y0)).2]) /\ Turned (fun _ => False) W w' := fun W hb => HAT.out y0 (List.mem_of_getElem? hy0) 7 _ W (HK0.all (Turned.of_new hb))
 have hs0 := hz0 7
 obtain ⟨t0, ht0⟩ : ∃ t, t = rtAt 7 y0.op (rtX y0) := ⟨_, rfl⟩
 rw [<- ht0] at HRT hs0
 simp only [<- ht0] at hE0
 have HS0 := Lib.hid hs0
 have E0 := Lib.hid hE0
 unfold exA at E0
 clear ht0 hE0 hs0
 have HC : Hid (∀ W, Below W3.heap.size W3 W -> (W.cell? ⟨b1, 3, none⟩ = some (.slice (some ⟨kb0, ka0, none⟩) 1 ca) /\ W.cell? ⟨kb0, ka0, none⟩ = some (.int .i64 y0.op) /\ W.cell? ⟨kb0, ka0 + 1, none⟩ = some (.int .i64 y0.n) /\ W.cell? ⟨kb0, ka0 + 2, none⟩ = some (.string y0.s) /\ W.cell? ⟨kb0, ka0 + 3, none⟩ = some (.slice py0 y0.kids.length cy0) /\ W.cell? ⟨kb0, ka0 + 4, none⟩ = some (.int .i64 y0.at_))) := Lib.hid fun W hb => by
  obtain ⟨q0, -, -, q3, -⟩ := St.cells5 (St.call S3 hb) 2 rfl
  rw [HL.out] at q3
  have ht : Turned (fun _ => False) W3 W := Turned.of_new hb
  exact ⟨q3, cell_turned ht id k00, cell_turned ht id k01, cell_turned ht id k02, cell_turned ht id k03, cell_turned ht id k04⟩
 have HCS : Hid (∀ (W : World) (u v : Value), (W.cell? ⟨b1, 3, none⟩ = some (.slice (some ⟨kb0, ka0, none⟩) 1 ca) /\ W.cell? ⟨kb0, ka0, none⟩ = some (.int .i64 y0.op) /\ W.cell? ⟨kb0, ka0 + 1, none⟩ = some (.int .i64 y0.n) /\ W.cell? ⟨kb0, ka0 + 2, none⟩ = some (.string y0.s) /\ W.cell? ⟨kb0, ka0 + 3, none⟩ = some (.slice py0 y0.kids.length cy0) /\ W.cell? ⟨kb0, ka0 + 4, none⟩ = some (.int .i64 y0.at_)) -> (fun W : World => W.cell? ⟨b1, 3, none⟩ = some (.slice (some ⟨kb0, ka0, none⟩) 1 ca) /\ W.cell? ⟨kb0, ka0, none⟩ = some (.int .i64 y0.op) /\ W.cell? ⟨kb0, ka0 + 1, none⟩ = some (.int .i64 y0.n) /\ W.cell? ⟨kb0, ka0 + 2, none⟩ = some (.string y0.s) /\ W.cell? ⟨kb0, ka0 + 3, none⟩ = some (.slice py0 y0.kids.length cy0) /\ W.cell? ⟨kb0, ka0 + 4, none⟩ = some (.int .i64 y0.at_)) ((W.setCell ⟨b2, 0, none⟩ u).setCell ⟨b2, 1, none⟩ v)) := Lib.hid fun W u v h => by
  have hne1 := HN12.out
  have hnek := HNK.out
  have hne3 := HN32.out
  have ht := tx_turned W b2 u v
  obtain ⟨g0, g1, g2, g3, g4, g5⟩ := h
  exact ⟨cell_turned ht hne1 g0, cell_turned ht hnek g1, cell_turned ht hnek g2, cell_turned ht hnek g3, cell_turned ht hnek g4, cell_turned ht hnek g5⟩
 have HCB : Hid (∀ W, Below W3.heap.size W3 W -> W.heap[b2]? = some txBox) := Lib.hid fun W hb => (St.call S3 hb).out.lays.get 1 rfl
 have B0 := Lib.hid (Below.drew (Below.refl W3.heap.size W3))
 have HSG := Lib.hid (fun (s : ByteArray) (W : World) => sign1_any s W)
 have HJ := Lib.hid (fun (W : World) => tjoin_any [tx ⟨#[45]⟩, t0] (some ⟨W.heap.size, 0, none⟩) 2 (W.alloc (.cells #[.string ⟨#[45]⟩, .bool false, .string t0.1, .bool t0.2] 96)) (txs_new W 96 _ _ rfl _ rfl) (by simp) (fun q hq => by
  simp only [List.mem_cons, List.not_mem_nil, or_false] at hq
  rcases hq with rfl | rfl
  ·simp [tx, ByteArray.size]
  ·exact HS0.out))
 clear x0 x1 x2 x3 x4 k00 k01 k02 k03 k04 
 go_region_held3 (fun W => W.cell? ⟨b1, 3, none⟩ = some (.slice (some ⟨kb0, ka0, none⟩) 1 ca) /\ W.cell? ⟨kb0, ka0, none⟩ = some (.int .i64 y0.op) /\ W.cell? ⟨kb0, ka0 + 1, none⟩ = some (.int .i64 y0.n) /\ W.cell? ⟨kb0, ka0 + 2, none⟩ = some (.string y0.s) /\ W.cell? ⟨kb0, ka0 + 3, none⟩ = some (.slice py0 y0.kids.length cy0) /\ W.cell? ⟨kb0, ka0 + 4, none⟩ = some (.int .i64 y0.at_))
  (first | exact HC.out _ B0.out | exact HC.out _ B1.out | exact HC.out _ B2.out | exact HC.out _ B3.out | exact HC.out _ (B2.out.alloc B2.out.size _) | exact HCS.out _ _ _ (HC.out _ B3.out) | go_keep)
  (first | (have hq := B2; clear hq; go_at_call 43; refine (HJ.out _).mono ?_; rintro e U3 ⟨rfl, ht⟩; have B3 := Lib.hid (B2.out.trans ((below_turned (((Turned.refl _ _).alloc _).trans ht)).mono B2.out.size)); obtain ⟨z0, z1⟩ := cellsTx (HCB.out _ B3.out); have fq := free_of_box (HCB.out _ B3.out); clear ht) | (have hq := B1; clear hq; go_at_call 82; refine (E0.out _ B1.out).mono ?_; rintro e U2 ⟨rfl, ht⟩; have B2 := Lib.hid (B1.out.trans ((below_turned ht).mono B1.out.size)); clear ht) | (have hq := B0; clear hq; go_at_call 79; refine (HSG.out _ _).mono ?_; rintro e U1 ⟨rfl, ht⟩; have B1 := Lib.hid (B0.out.trans ((below_turned ht).mono B0.out.size)); clear ht))
 go_wp2_with fail
 refine bodyPost_ret (results_tx rfl _ _ b2 _ _ rfl (tx_set (HCB.out _ B3.out))) rfl ?_
 rw [HRT.out]
 exact ⟨rfl, (((Turned.of_new (C := fun b => w.heap.size <= b) S3.out.bel).trans (Turned.of_new B3.out)).trans ((tx_turned _ _ _ _).mono fun b hb => by have := HGE.out; omega)).strip⟩
theorem show_if (x : Ex) (hop : x.op = 20) (y0 : Ex) (y1 : Ex) (y2 : Ex) (hks : x.kids = [y0, y1, y2]) (HA : AtHyp x) (hz0 : ∀ need, (rtAt need y0.op (rtX y0)).1.size <= 1000000000) (hz1 : ∀ need, (rtAt need y1.op (rtX y1)).1.size <= 1000000000) (hz2 : ∀ need, (rtAt need y2.op (rtX y2)).1.size <= 1000000000) (a : Value) (w : World) (hk : KidsAt w (fun _ => True) x.kids a) : Calls Tryz.prog 44 #[exA x a] w (ShowR x w) := by
 unfold ShowR
 have HRT : Hid (rtX x = joinT [rtAt 1 y0.op (rtX y0), tx ⟨#[63]⟩, rtAt 0 y1.op (rtX y1), tx ⟨#[58]⟩, rtAt 0 y2.op (rtX y2)]) := Lib.hid (by rw [rtX_eq, hop, rtXs_map, hks]; unfold rtH; rw [if_neg (by decide), if_neg (by decide), if_neg (by decide), if_neg (by decide)]; rfl)
 have hl : x.kids.length = 3 := by rw [hks]; rfl
 have hy0 : x.kids[0]? = some y0 := by rw [hks]; rfl
 have hy1 : x.kids[1]? = some y1 := by rw [hks]; rfl
 have hy2 : x.kids[2]? = some y2 := by rw [hks]; rfl
 have HAT := Lib.hid HA
 have HL := Lib.hid hl
 have HOP := Lib.hid hop
 clear hop
 clear HA hks hl
 obtain ⟨pa, ca, rfl⟩ := hk.shape
 have S0 := St.start (T := fun W => KidsAt W (fun _ => True) x.kids (.slice pa x.kids.length ca)) hk (stays_kids _ _)
 have HKW := Lib.hid hk
 clear hk
 unfold exA
 go_enter Tryz.func44, Tryz.ntmps44
 go_upto_region 1 with fail
 obtain ⟨W1, b1, hW, hB, hbl, S1⟩ := St.box S0 (.cells #[.int .i64 x.op, .int .i64 x.n, .string x.s, .slice pa x.kids.length ca, .int .i64 x.at_] 31)
 have hz : W1.heap.size = b1 + 1 := by rw [hW, hB]; simp
 have hb1 : b1 = w.heap.size := hB
 rw [<- hW, <- hB]
 clear hW hB hbl S0
 obtain ⟨W2, b2, hW, hB, hbl, S2⟩ := St.box S1 txBox
 rw [hz] at hB
 have HGE : Hid (w.heap.size <= b2) := Lib.hid (by omega)
 have HN12 : Hid (¬ b1 = b2) := Lib.hid (by omega)
 rw [<- hW, <- hB]
 clear hW hB hbl S1 hz hb1
 go_upto_region 2 with fail
 obtain ⟨W3, b3, hW, hB, hbl, S3⟩ := St.box S2 (.cells sgnCells 9)
 have HN32 : Hid (¬ b3 = b2) := Lib.hid (by have := getElem?_lt (S2.out.lays.get 0 rfl); omega)
 unfold sgnCells at hW
 simp only [opRows, List.map_cons, List.map_nil] at hW
 rw [<- hW, <- hB]
 clear hW hB hbl S2
 obtain ⟨x0, x1, x2, x3, x4⟩ := St.cells5 S3 2 rfl
 obtain ⟨kb0, ka0, kk0, he0, ⟨k00, k01, k02, k03, k04⟩, HK0⟩ := kidsAt_get (i := 0) S3.out.tab hy0
 obtain ⟨kb1, ka1, kk1, he1, ⟨k10, k11, k12, k13, k14⟩, HK1⟩ := kidsAt_get (i := 1) S3.out.tab hy1
 obtain ⟨kb2, ka2, kk2, he2, ⟨k20, k21, k22, k23, k24⟩, HK2⟩ := kidsAt_get (i := 2) S3.out.tab hy2
 subst he0
 cases he1
 cases he2
 obtain ⟨py0, cy0, rfl⟩ := HK0.shape
 obtain ⟨py1, cy1, rfl⟩ := HK1.shape
 obtain ⟨py2, cy2, rfl⟩ := HK2.shape
 simp only [Nat.zero_mul, Nat.add_zero, Nat.one_mul, Nat.reduceMul, Nat.add_assoc, Nat.reduceAdd] at k00 k01 k02 k03 k04 k10 k11 k12 k13 k14 k20 k21 k22 k23 k24
 rw [HL.out] at x3
 rw [HOP.out] at x0
 go_upto_region 23 with fail
 obtain ⟨kbw, kaw, kkw, hew, ⟨c0, -, -, -, -⟩, -⟩ := kidsAt_get (i := 0) HKW.out hy0
 cases hew
 have HNK : Hid (¬ kb0 = b2) := Lib.hid (by have := cell_lt c0; have := HGE.out; omega)
 clear c0 HKW
 have hE0 : ∀ W, Below W3.heap.size W3 W -> Calls Tryz.prog 82 #[exA y0 (.slice py0 y0.kids.length cy0), .int .i64 1] W fun e w' => e = .returned (.agg #[.string (rtAt 1 y0.op (rtX y0)).1, .bool (rtAt 1 y0.op (rtX y0)).2]) /\ Turned (fun _ => False) W w' := fun W hb => HAT.out y0 (List.mem_of_getElem? hy0) 1 _ W (HK0.all (Turned.of_new hb))
 have hs0 := hz0 1
 obtain ⟨t0, ht0⟩ : ∃ t, t = rtAt 1 y0.op (rtX y0) := ⟨_, rfl⟩
 rw [<- ht0] at HRT hs0
 simp only [<- ht0] at hE0
 have HS0 := Lib.hid hs0
 have E0 := Lib.hid hE0
 unfold exA at E0
 clear ht0 hE0 hs0
 have hE1 : ∀ W, Below W3.heap.size W3 W -> Calls Tryz.prog 82 #[exA y1 (.slice py1 y1.kids.length cy1), .int .i64 0] W fun e w' => e = .returned (.agg #[.string (rtAt 0 y1.op (rtX y1)).1, .bool (rtAt 0 y1.op (rtX y1)).2]) /\ Turned (fun _ => False) W w' := fun W hb => HAT.out y1 (List.mem_of_getElem? hy1) 0 _ W (HK1.all (Turned.of_new hb))
 have hs1 := hz1 0
 obtain ⟨t1, ht1⟩ : ∃ t, t = rtAt 0 y1.op (rtX y1) := ⟨_, rfl⟩
 rw [<- ht1] at HRT hs1
 simp only [<- ht1] at hE1
 have HS1 := Lib.hid hs1
 have E1 := Lib.hid hE1
 unfold exA at E1
 clear ht1 hE1 hs1
 have hE2 : ∀ W, Below W3.heap.size W3 W -> Calls Tryz.prog 82 #[exA y2 (.slice py2 y2.kids.length cy2), .int .i64 0] W fun e w' => e = .returned (.agg #[.string (rtAt 0 y2.op (rtX y2)).1, .bool (rtAt 0 y2.op (rtX y2)).2]) /\ Turned (fun _ => False) W w' := fun W hb => HAT.out y2 (List.mem_of_getElem? hy2) 0 _ W (HK2.all (Turned.of_new hb))
 have hs2 := hz2 0
 obtain ⟨t2, ht2⟩ : ∃ t, t = rtAt 0 y2.op (rtX y2) := ⟨_, rfl⟩
 rw [<- ht2] at HRT hs2
 simp only [<- ht2] at hE2
 have HS2 := Lib.hid hs2
 have E2 := Lib.hid hE2
 unfold exA at E2
 clear ht2 hE2 hs2
 have HC : Hid (∀ W, Below W3.heap.size W3 W -> (W.cell? ⟨b1, 3, none⟩ = some (.slice (some ⟨kb0, ka0, none⟩) 3 ca) /\ W.cell? ⟨kb0, ka0, none⟩ = some (.int .i64 y0.op) /\ W.cell? ⟨kb0, ka0 + 1, none⟩ = some (.int .i64 y0.n) /\ W.cell? ⟨kb0, ka0 + 2, none⟩ = some (.string y0.s) /\ W.cell? ⟨kb0, ka0 + 3, none⟩ = some (.slice py0 y0.kids.length cy0) /\ W.cell? ⟨kb0, ka0 + 4, none⟩ = some (.int .i64 y0.at_) /\ W.cell? ⟨kb0, ka0 + 5, none⟩ = some (.int .i64 y1.op) /\ W.cell? ⟨kb0, ka0 + 6, none⟩ = some (.int .i64 y1.n) /\ W.cell? ⟨kb0, ka0 + 7, none⟩ = some (.string y1.s) /\ W.cell? ⟨kb0, ka0 + 8, none⟩ = some (.slice py1 y1.kids.length cy1) /\ W.cell? ⟨kb0, ka0 + 9, none⟩ = some (.int .i64 y1.at_) /\ W.cell? ⟨kb0, ka0 + 10, none⟩ = some (.int .i64 y2.op) /\ W.cell? ⟨kb0, ka0 + 11, none⟩ = some (.int .i64 y2.n) /\ W.cell? ⟨kb0, ka0 + 12, none⟩ = some (.string y2.s) /\ W.cell? ⟨kb0, ka0 + 13, none⟩ = some (.slice py2 y2.kids.length cy2) /\ W.cell? ⟨kb0, ka0 + 14, none⟩ = some (.int .i64 y2.at_))) := Lib.hid fun W hb => by
  obtain ⟨q0, -, -, q3, -⟩ := St.cells5 (St.call S3 hb) 2 rfl
  rw [HL.out] at q3
  have ht : Turned (fun _ => False) W3 W := Turned.of_new hb
  exact ⟨q3, cell_turned ht id k00, cell_turned ht id k01, cell_turned ht id k02, cell_turned ht id k03, cell_turned ht id k04, cell_turned ht id k10, cell_turned ht id k11, cell_turned ht id k12, cell_turned ht id k13, cell_turned ht id k14, cell_turned ht id k20, cell_turned ht id k21, cell_turned ht id k22, cell_turned ht id k23, cell_turned ht id k24⟩
 have HCS : Hid (∀ (W : World) (u v : Value), (W.cell? ⟨b1, 3, none⟩ = some (.slice (some ⟨kb0, ka0, none⟩) 3 ca) /\ W.cell? ⟨kb0, ka0, none⟩ = some (.int .i64 y0.op) /\ W.cell? ⟨kb0, ka0 + 1, none⟩ = some (.int .i64 y0.n) /\ W.cell? ⟨kb0, ka0 + 2, none⟩ = some (.string y0.s) /\ W.cell? ⟨kb0, ka0 + 3, none⟩ = some (.slice py0 y0.kids.length cy0) /\ W.cell? ⟨kb0, ka0 + 4, none⟩ = some (.int .i64 y0.at_) /\ W.cell? ⟨kb0, ka0 + 5, none⟩ = some (.int .i64 y1.op) /\ W.cell? ⟨kb0, ka0 + 6, none⟩ = some (.int .i64 y1.n) /\ W.cell? ⟨kb0, ka0 + 7, none⟩ = some (.string y1.s) /\ W.cell? ⟨kb0, ka0 + 8, none⟩ = some (.slice py1 y1.kids.length cy1) /\ W.cell? ⟨kb0, ka0 + 9, none⟩ = some (.int .i64 y1.at_) /\ W.cell? ⟨kb0, ka0 + 10, none⟩ = some (.int .i64 y2.op) /\ W.cell? ⟨kb0, ka0 + 11, none⟩ = some (.int .i64 y2.n) /\ W.cell? ⟨kb0, ka0 + 12, none⟩ = some (.string y2.s) /\ W.cell? ⟨kb0, ka0 + 13, none⟩ = some (.slice py2 y2.kids.length cy2) /\ W.cell? ⟨kb0, ka0 + 14, none⟩ = some (.int .i64 y2.at_)) -> (fun W : World => W.cell? ⟨b1, 3, none⟩ = some (.slice (some ⟨kb0, ka0, none⟩) 3 ca) /\ W.cell? ⟨kb0, ka0, none⟩ = some (.int .i64 y0.op) /\ W.cell? ⟨kb0, ka0 + 1, none⟩ = some (.int .i64 y0.n) /\ W.cell? ⟨kb0, ka0 + 2, none⟩ = some (.string y0.s) /\ W.cell? ⟨kb0, ka0 + 3, none⟩ = some (.slice py0 y0.kids.length cy0) /\ W.cell? ⟨kb0, ka0 + 4, none⟩ = some (.int .i64 y0.at_) /\ W.cell? ⟨kb0, ka0 + 5, none⟩ = some (.int .i64 y1.op) /\ W.cell? ⟨kb0, ka0 + 6, none⟩ = some (.int .i64 y1.n) /\ W.cell? ⟨kb0, ka0 + 7, none⟩ = some (.string y1.s) /\ W.cell? ⟨kb0, ka0 + 8, none⟩ = some (.slice py1 y1.kids.length cy1) /\ W.cell? ⟨kb0, ka0 + 9, none⟩ = some (.int .i64 y1.at_) /\ W.cell? ⟨kb0, ka0 + 10, none⟩ = some (.int .i64 y2.op) /\ W.cell? ⟨kb0, ka0 + 11, none⟩ = some (.int .i64 y2.n) /\ W.cell? ⟨kb0, ka0 + 12, none⟩ = some (.string y2.s) /\ W.cell? ⟨kb0, ka0 + 13, none⟩ = some (.slice py2 y2.kids.length cy2) /\ W.cell? ⟨kb0, ka0 + 14, none⟩ = some (.int .i64 y2.at_)) ((W.setCell ⟨b2, 0, none⟩ u).setCell ⟨b2, 1, none⟩ v)) := Lib.hid fun W u v h => by
  have hne1 := HN12.out
  have hnek := HNK.out
  have hne3 := HN32.out
  have ht := tx_turned W b2 u v
  obtain ⟨g0, g1, g2, g3, g4, g5, g6, g7, g8, g9, g10, g11, g12, g13, g14, g15⟩ := h
  exact ⟨cell_turned ht hne1 g0, cell_turned ht hnek g1, cell_turned ht hnek g2, cell_turned ht hnek g3, cell_turned ht hnek g4, cell_turned ht hnek g5, cell_turned ht hnek g6, cell_turned ht hnek g7, cell_turned ht hnek g8, cell_turned ht hnek g9, cell_turned ht hnek g10, cell_turned ht hnek g11, cell_turned ht hnek g12, cell_turned ht hnek g13, cell_turned ht hnek g14, cell_turned ht hnek g15⟩
 have HCB : Hid (∀ W, Below W3.heap.size W3 W -> W.heap[b2]? = some txBox) := Lib.hid fun W hb => (St.call S3 hb).out.lays.get 1 rfl
 have B0 := Lib.hid (Below.drew (Below.refl W3.heap.size W3))
 have HSG := Lib.hid (fun (s : ByteArray) (W : World) => sign1_any s W)
 have HJ := Lib.hid (fun (W : World) => tjoin_any [t0, tx ⟨#[63]⟩, t1, tx ⟨#[58]⟩, t2] (some ⟨W.heap.size, 0, none⟩) 5 (W.alloc (.cells #[.string t0.1, .bool t0.2, .string ⟨#[63]⟩, .bool false, .string t1.1, .bool t1.2, .string ⟨#[58]⟩, .bool false, .string t2.1, .bool t2.2] 96)) (txs_new W 96 _ _ rfl _ rfl) (by simp) (fun q hq => by
  simp only [List.mem_cons, List.not_mem_nil, or_false] at hq
  rcases hq with rfl | rfl | rfl | rfl | rfl
  ·exact HS0.out
  ·simp [tx, ByteArray.size]
  ·exact HS1.out
  ·simp [tx, ByteArray.size]
  ·exact HS2.out))
 clear x0 x1 x2 x3 x4 k00 k01 k02 k03 k04 k10 k11 k12 k13 k14 k20 k21 k22 k23 k24 
 go_region_held3 (fun W => W.cell? ⟨b1, 3, none⟩ = some (.slice (some ⟨kb0, ka0, none⟩) 3 ca) /\ W.cell? ⟨kb0, ka0, none⟩ = some (.int .i64 y0.op) /\ W.cell? ⟨kb0, ka0 + 1, none⟩ = some (.int .i64 y0.n) /\ W.cell? ⟨kb0, ka0 + 2, none⟩ = some (.string y0.s) /\ W.cell? ⟨kb0, ka0 + 3, none⟩ = some (.slice py0 y0.kids.length cy0) /\ W.cell? ⟨kb0, ka0 + 4, none⟩ = some (.int .i64 y0.at_) /\ W.cell? ⟨kb0, ka0 + 5, none⟩ = some (.int .i64 y1.op) /\ W.cell? ⟨kb0, ka0 + 6, none⟩ = some (.int .i64 y1.n) /\ W.cell? ⟨kb0, ka0 + 7, none⟩ = some (.string y1.s) /\ W.cell? ⟨kb0, ka0 + 8, none⟩ = some (.slice py1 y1.kids.length cy1) /\ W.cell? ⟨kb0, ka0 + 9, none⟩ = some (.int .i64 y1.at_) /\ W.cell? ⟨kb0, ka0 + 10, none⟩ = some (.int .i64 y2.op) /\ W.cell? ⟨kb0, ka0 + 11, none⟩ = some (.int .i64 y2.n) /\ W.cell? ⟨kb0, ka0 + 12, none⟩ = some (.string y2.s) /\ W.cell? ⟨kb0, ka0 + 13, none⟩ = some (.slice py2 y2.kids.length cy2) /\ W.cell? ⟨kb0, ka0 + 14, none⟩ = some (.int .i64 y2.at_))
  (first | exact HC.out _ B0.out | exact HC.out _ B1.out | exact HC.out _ B2.out | exact HC.out _ B3.out | exact HC.out _ B4.out | exact HC.out _ B5.out | exact HC.out _ B6.out | exact HC.out _ (B5.out.alloc B5.out.size _) | exact HCS.out _ _ _ (HC.out _ B6.out) | go_keep)
  (first | (have hq := B5; clear hq; go_at_call 43; refine (HJ.out _).mono ?_; rintro e U6 ⟨rfl, ht⟩; have B6 := Lib.hid (B5.out.trans ((below_turned (((Turned.refl _ _).alloc _).trans ht)).mono B5.out.size)); obtain ⟨z0, z1⟩ := cellsTx (HCB.out _ B6.out); have fq := free_of_box (HCB.out _ B6.out); clear ht) | (have hq := B4; clear hq; go_at_call 82; refine (E2.out _ B4.out).mono ?_; rintro e U5 ⟨rfl, ht⟩; have B5 := Lib.hid (B4.out.trans ((below_turned ht).mono B4.out.size)); clear ht) | (have hq := B3; clear hq; go_at_call 79; refine (HSG.out _ _).mono ?_; rintro e U4 ⟨rfl, ht⟩; have B4 := Lib.hid (B3.out.trans ((below_turned ht).mono B3.out.size)); clear ht) | (have hq := B2; clear hq; go_at_call 82; refine (E1.out _ B2.out).mono ?_; rintro e U3 ⟨rfl, ht⟩; have B3 := Lib.hid (B2.out.trans ((below_turned ht).mono B2.out.size)); clear ht) | (have hq := B1; clear hq; go_at_call 79; refine (HSG.out _ _).mono ?_; rintro e U2 ⟨rfl, ht⟩; have B2 := Lib.hid (B1.out.trans ((below_turned ht).mono B1.out.size)); clear ht) | (have hq := B0; clear hq; go_at_call 82; refine (E0.out _ B0.out).mono ?_; rintro e U1 ⟨rfl, ht⟩; have B1 := Lib.hid (B0.out.trans ((below_turned ht).mono B0.out.size)); clear ht))
 go_wp2_with fail
 refine bodyPost_ret (results_tx rfl _ _ b2 _ _ rfl (tx_set (HCB.out _ B6.out))) rfl ?_
 rw [HRT.out]
 exact ⟨rfl, (((Turned.of_new (C := fun b => w.heap.size <= b) S3.out.bel).trans (Turned.of_new B6.out)).trans ((tx_turned _ _ _ _).mono fun b hb => by have := HGE.out; omega)).strip⟩
theorem row_facts {k : Nat} {r : ByteArray × Int × Nat} (h : opRows[k]? = some r) : k < 13 /\ r.2.1 = 7 + (k : Int) /\ lvlX r.2.1 = r.2.2 /\ (opRows.find? fun q => q.2.1 == r.2.1) = some r /\ r.2.2 <= 6 /\ r.1.size <= 2 /\ sgnCells[k]? = some (.string r.1) := by
 have hk : k < 13 := lt_of_some h
 rcases (by omega : k = 0 \/ k = 1 \/ k = 2 \/ k = 3 \/ k = 4 \/ k = 5 \/ k = 6 \/ k = 7 \/ k = 8 \/ k = 9 \/ k = 10 \/ k = 11 \/ k = 12) with rfl | rfl | rfl | rfl | rfl | rfl | rfl | rfl | rfl | rfl | rfl | rfl | rfl <;>
 ·simp only [opRows, List.getElem?_cons_zero, List.getElem?_cons_succ, Option.some.injEq] at h
  subst h
  exact ⟨by decide, by decide, by decide, by rfl, by decide, by decide, by rfl⟩
theorem show_cmp (x : Ex) (k : Nat) (r : ByteArray × Int × Nat) (hr : opRows[k]? = some r) (h4 : r.2.2 = 4) (hop : x.op = r.2.1) (y0 : Ex) (y1 : Ex) (hks : x.kids = [y0, y1]) (HA : AtHyp x) (hz0 : ∀ need, (rtAt need y0.op (rtX y0)).1.size <= 1000000000) (hz1 : ∀ need, (rtAt need y1.op (rtX y1)).1.size <= 1000000000) (a : Value) (w : World) (hk : KidsAt w (fun _ => True) x.kids a) : Calls Tryz.prog 44 #[exA x a] w (ShowR x w) := by
 unfold ShowR
 have HRT : Hid (rtX x = joinT [rtAt 5 y0.op (rtX y0), tx r.1, rtAt (4 + 1) y1.op (rtX y1)]) := Lib.hid (by rw [rtX_eq, hop, rtXs_map, hks]; have hf := row_facts hr; unfold rtH; rw [if_neg (by omega), if_neg (by omega), if_neg (by omega), if_neg (by omega)]; simp only [List.map_cons, List.map_nil]; rw [hf.2.2.2.1]; dsimp only; rw [if_pos h4, h4])
 have hl : x.kids.length = 2 := by rw [hks]; rfl
 have hy0 : x.kids[0]? = some y0 := by rw [hks]; rfl
 have hy1 : x.kids[1]? = some y1 := by rw [hks]; rfl
 have HAT := Lib.hid HA
 have HL := Lib.hid hl
 obtain ⟨hk13, hr1, hr2, hr3, hr4, hr5, hr6⟩ := row_facts hr
 obtain ⟨L, hL⟩ : ∃ L, L = r.2.2 := ⟨_, rfl⟩
 rw [<- hL] at hr2 hr4 h4
 rw [show (4 : Nat) + 1 = L + 1 by omega] at HRT
 have hx : x.op = 7 + (k : Int) := by rw [hop, hr1]
 have g1 : (x.op == 1) = false := by rw [hx]; simp; omega
 have g2 : (x.op == 2) = false := by rw [hx]; simp; omega
 have g3 : (x.op == 3) = false := by rw [hx]; simp; omega
 have g4 : (x.op == 4) = false := by rw [hx]; simp; omega
 have g5 : (x.op == 5) = false := by rw [hx]; simp; omega
 have g6 : (x.op == 6) = false := by rw [hx]; simp; omega
 have g20 : (x.op == 20) = false := by rw [hx]; simp; omega
 have g7 : ¬ x.op < 7 := by omega
 have g19 : ¬ (19 : Int) < x.op := by omega
 have hw7 : IntKind.i64.wrap (x.op - 7) = (k : Int) := (IntWalk.i64_in _ (by omega)).trans (by omega)
 have hk0 : (0 : Int) <= (k : Int) := by omega
 have hk1 : (k : Int) < 13 := by omega
 have hwL : IntKind.i64.wrap ((L : Int) + 1) = (L : Int) + 1 := IntWalk.i64_in _ (by omega)
 have hL4 : ((L : Int) == 4) = true := by simp; omega
 have HLV : Hid (∀ W, Calls Tryz.prog 83 #[.int .i64 x.op] W fun e w' => e = .returned (.int .i64 ((L : Int))) /\ Turned (fun _ => False) W w') := Lib.hid fun W => by have h := strength_any x.op W; rw [hop, hr2] at h; rw [hop]; exact h
 have HSK := Lib.hid hr6
 have HRS := Lib.hid hr5
 have HLE := Lib.hid h4
 clear hr hop hr1 hr2 hr3 hr4 hr5 hr6 hx hk13 h4 hL
 clear HA hks hl
 obtain ⟨pa, ca, rfl⟩ := hk.shape
 have S0 := St.start (T := fun W => KidsAt W (fun _ => True) x.kids (.slice pa x.kids.length ca)) hk (stays_kids _ _)
 have HKW := Lib.hid hk
 clear hk
 unfold exA
 go_enter Tryz.func44, Tryz.ntmps44
 go_upto_region 1 with fail
 obtain ⟨W1, b1, hW, hB, hbl, S1⟩ := St.box S0 (.cells #[.int .i64 x.op, .int .i64 x.n, .string x.s, .slice pa x.kids.length ca, .int .i64 x.at_] 31)
 have hz : W1.heap.size = b1 + 1 := by rw [hW, hB]; simp
 have hb1 : b1 = w.heap.size := hB
 rw [<- hW, <- hB]
 clear hW hB hbl S0
 obtain ⟨W2, b2, hW, hB, hbl, S2⟩ := St.box S1 txBox
 rw [hz] at hB
 have HGE : Hid (w.heap.size <= b2) := Lib.hid (by omega)
 have HN12 : Hid (¬ b1 = b2) := Lib.hid (by omega)
 rw [<- hW, <- hB]
 clear hW hB hbl S1 hz hb1
 go_upto_region 2 with fail
 obtain ⟨W3, b3, hW, hB, hbl, S3⟩ := St.box S2 (.cells sgnCells 9)
 have HN32 : Hid (¬ b3 = b2) := Lib.hid (by have := getElem?_lt (S2.out.lays.get 0 rfl); omega)
 unfold sgnCells at hW
 simp only [opRows, List.map_cons, List.map_nil] at hW
 rw [<- hW, <- hB]
 clear hW hB hbl S2
 obtain ⟨x0, x1, x2, x3, x4⟩ := St.cells5 S3 2 rfl
 obtain ⟨kb0, ka0, kk0, he0, ⟨k00, k01, k02, k03, k04⟩, HK0⟩ := kidsAt_get (i := 0) S3.out.tab hy0
 obtain ⟨kb1, ka1, kk1, he1, ⟨k10, k11, k12, k13, k14⟩, HK1⟩ := kidsAt_get (i := 1) S3.out.tab hy1
 subst he0
 cases he1
 obtain ⟨py0, cy0, rfl⟩ := HK0.shape
 obtain ⟨py1, cy1, rfl⟩ := HK1.shape
 simp only [Nat.zero_mul, Nat.add_zero, Nat.one_mul] at k00 k01 k02 k03 k04 k10 k11 k12 k13 k14
 simp only [Nat.add_assoc, Nat.reduceAdd] at k10 k11 k12 k13 k14
 rw [HL.out] at x3
 skip
 go_upto_region 30 with (go_at_call 83; refine (HLV.out _).mono ?_; rintro e W5 ⟨rfl, ht⟩; have HB5 := Lib.hid (below_turned ht); clear ht)
 obtain ⟨kbw, kaw, kkw, hew, ⟨c0, -, -, -, -⟩, -⟩ := kidsAt_get (i := 0) HKW.out hy0
 cases hew
 have HNK : Hid (¬ kb0 = b2) := Lib.hid (by have := cell_lt c0; have := HGE.out; omega)
 clear c0 HKW
 have hE0 : ∀ W, Below W3.heap.size W3 W -> Calls Tryz.prog 82 #[exA y0 (.slice py0 y0.kids.length cy0), .int .i64 5] W fun e w' => e = .returned (.agg #[.string (rtAt 5 y0.op (rtX y0)).1, .bool (rtAt 5 y0.op (rtX y0)).2]) /\ Turned (fun _ => False) W w' := fun W hb => HAT.out y0 (List.mem_of_getElem? hy0) 5 _ W (HK0.all (Turned.of_new hb))
 have hs0 := hz0 5
 obtain ⟨t0, ht0⟩ : ∃ t, t = rtAt 5 y0.op (rtX y0) := ⟨_, rfl⟩
 rw [<- ht0] at HRT hs0
 simp only [<- ht0] at hE0
 have HS0 := Lib.hid hs0
 have E0 := Lib.hid hE0
 unfold exA at E0
 clear ht0 hE0 hs0
 have hE1 : ∀ W, Below W3.heap.size W3 W -> Calls Tryz.prog 82 #[exA y1 (.slice py1 y1.kids.length cy1), (.int .i64 ((L : Int) + 1))] W fun e w' => e = .returned (.agg #[.string (rtAt (L + 1) y1.op (rtX y1)).1, .bool (rtAt (L + 1) y1.op (rtX y1)).2]) /\ Turned (fun _ => False) W w' := fun W hb => by have h := HAT.out y1 (List.mem_of_getElem? hy1) (L + 1) _ W (HK1.all (Turned.of_new hb)); rw [show (((L + 1) : Nat) : Int) = (L : Int) + 1 by omega] at h; exact h
 have hs1 := hz1 (L + 1)
 obtain ⟨t1, ht1⟩ : ∃ t, t = rtAt (L + 1) y1.op (rtX y1) := ⟨_, rfl⟩
 rw [<- ht1] at HRT hs1
 simp only [<- ht1] at hE1
 have HS1 := Lib.hid hs1
 have E1 := Lib.hid hE1
 unfold exA at E1
 clear ht1 hE1 hs1
 have HC : Hid (∀ W, Below W3.heap.size W3 W -> (W.cell? ⟨b1, 3, none⟩ = some (.slice (some ⟨kb0, ka0, none⟩) 2 ca) /\ W.cell? ⟨kb0, ka0, none⟩ = some (.int .i64 y0.op) /\ W.cell? ⟨kb0, ka0 + 1, none⟩ = some (.int .i64 y0.n) /\ W.cell? ⟨kb0, ka0 + 2, none⟩ = some (.string y0.s) /\ W.cell? ⟨kb0, ka0 + 3, none⟩ = some (.slice py0 y0.kids.length cy0) /\ W.cell? ⟨kb0, ka0 + 4, none⟩ = some (.int .i64 y0.at_) /\ W.cell? ⟨kb0, ka0 + 5, none⟩ = some (.int .i64 y1.op) /\ W.cell? ⟨kb0, ka0 + 6, none⟩ = some (.int .i64 y1.n) /\ W.cell? ⟨kb0, ka0 + 7, none⟩ = some (.string y1.s) /\ W.cell? ⟨kb0, ka0 + 8, none⟩ = some (.slice py1 y1.kids.length cy1) /\ W.cell? ⟨kb0, ka0 + 9, none⟩ = some (.int .i64 y1.at_) /\ W.cell? ⟨b1, 0, none⟩ = some (.int .i64 x.op) /\ W.cell? ⟨b3, k, none⟩ = some (.string r.1))) := Lib.hid fun W hb => by
  obtain ⟨q0, -, -, q3, -⟩ := St.cells5 (St.call S3 hb) 2 rfl
  rw [HL.out] at q3
  have ht : Turned (fun _ => False) W3 W := Turned.of_new hb
  have qs : W.cell? ⟨b3, k, none⟩ = some (.string r.1) := by simp only [World.cell?, (St.call S3 hb).out.lays.get 0 rfl]; exact HSK.out
  exact ⟨q3, cell_turned ht id k00, cell_turned ht id k01, cell_turned ht id k02, cell_turned ht id k03, cell_turned ht id k04, cell_turned ht id k10, cell_turned ht id k11, cell_turned ht id k12, cell_turned ht id k13, cell_turned ht id k14, q0, qs⟩
 have HCS : Hid (∀ (W : World) (u v : Value), (W.cell? ⟨b1, 3, none⟩ = some (.slice (some ⟨kb0, ka0, none⟩) 2 ca) /\ W.cell? ⟨kb0, ka0, none⟩ = some (.int .i64 y0.op) /\ W.cell? ⟨kb0, ka0 + 1, none⟩ = some (.int .i64 y0.n) /\ W.cell? ⟨kb0, ka0 + 2, none⟩ = some (.string y0.s) /\ W.cell? ⟨kb0, ka0 + 3, none⟩ = some (.slice py0 y0.kids.length cy0) /\ W.cell? ⟨kb0, ka0 + 4, none⟩ = some (.int .i64 y0.at_) /\ W.cell? ⟨kb0, ka0 + 5, none⟩ = some (.int .i64 y1.op) /\ W.cell? ⟨kb0, ka0 + 6, none⟩ = some (.int .i64 y1.n) /\ W.cell? ⟨kb0, ka0 + 7, none⟩ = some (.string y1.s) /\ W.cell? ⟨kb0, ka0 + 8, none⟩ = some (.slice py1 y1.kids.length cy1) /\ W.cell? ⟨kb0, ka0 + 9, none⟩ = some (.int .i64 y1.at_) /\ W.cell? ⟨b1, 0, none⟩ = some (.int .i64 x.op) /\ W.cell? ⟨b3, k, none⟩ = some (.string r.1)) -> (fun W : World => W.cell? ⟨b1, 3, none⟩ = some (.slice (some ⟨kb0, ka0, none⟩) 2 ca) /\ W.cell? ⟨kb0, ka0, none⟩ = some (.int .i64 y0.op) /\ W.cell? ⟨kb0, ka0 + 1, none⟩ = some (.int .i64 y0.n) /\ W.cell? ⟨kb0, ka0 + 2, none⟩ = some (.string y0.s) /\ W.cell? ⟨kb0, ka0 + 3, none⟩ = some (.slice py0 y0.kids.length cy0) /\ W.cell? ⟨kb0, ka0 + 4, none⟩ = some (.int .i64 y0.at_) /\ W.cell? ⟨kb0, ka0 + 5, none⟩ = some (.int .i64 y1.op) /\ W.cell? ⟨kb0, ka0 + 6, none⟩ = some (.int .i64 y1.n) /\ W.cell? ⟨kb0, ka0 + 7, none⟩ = some (.string y1.s) /\ W.cell? ⟨kb0, ka0 + 8, none⟩ = some (.slice py1 y1.kids.length cy1) /\ W.cell? ⟨kb0, ka0 + 9, none⟩ = some (.int .i64 y1.at_) /\ W.cell? ⟨b1, 0, none⟩ = some (.int .i64 x.op) /\ W.cell? ⟨b3, k, none⟩ = some (.string r.1)) ((W.setCell ⟨b2, 0, none⟩ u).setCell ⟨b2, 1, none⟩ v)) := Lib.hid fun W u v h => by
  have hne1 := HN12.out
  have hnek := HNK.out
  have hne3 := HN32.out
  have ht := tx_turned W b2 u v
  obtain ⟨g0, g1, g2, g3, g4, g5, g6, g7, g8, g9, g10, g11, g12⟩ := h
  exact ⟨cell_turned ht hne1 g0, cell_turned ht hnek g1, cell_turned ht hnek g2, cell_turned ht hnek g3, cell_turned ht hnek g4, cell_turned ht hnek g5, cell_turned ht hnek g6, cell_turned ht hnek g7, cell_turned ht hnek g8, cell_turned ht hnek g9, cell_turned ht hnek g10, cell_turned ht hne1 g11, cell_turned ht hne3 g12⟩
 have HCB : Hid (∀ W, Below W3.heap.size W3 W -> W.heap[b2]? = some txBox) := Lib.hid fun W hb => (St.call S3 hb).out.lays.get 1 rfl
 have B0 := Lib.hid (Below.drew HB5.out)
 have HSG := Lib.hid (fun (s : ByteArray) (W : World) => sign1_any s W)
 have HJ := Lib.hid (fun (W : World) => tjoin_any [t0, tx r.1, t1] (some ⟨W.heap.size, 0, none⟩) 3 (W.alloc (.cells #[.string t0.1, .bool t0.2, .string r.1, .bool false, .string t1.1, .bool t1.2] 96)) (txs_new W 96 _ _ rfl _ rfl) (by simp) (fun q hq => by
  simp only [List.mem_cons, List.not_mem_nil, or_false] at hq
  rcases hq with rfl | rfl | rfl
  ·exact HS0.out
  ·show r.1.size <= _; have := HRS.out; omega
  ·exact HS1.out))
 clear x0 x1 x2 x3 x4 k00 k01 k02 k03 k04 k10 k11 k12 k13 k14 
 go_region_held3 (fun W => W.cell? ⟨b1, 3, none⟩ = some (.slice (some ⟨kb0, ka0, none⟩) 2 ca) /\ W.cell? ⟨kb0, ka0, none⟩ = some (.int .i64 y0.op) /\ W.cell? ⟨kb0, ka0 + 1, none⟩ = some (.int .i64 y0.n) /\ W.cell? ⟨kb0, ka0 + 2, none⟩ = some (.string y0.s) /\ W.cell? ⟨kb0, ka0 + 3, none⟩ = some (.slice py0 y0.kids.length cy0) /\ W.cell? ⟨kb0, ka0 + 4, none⟩ = some (.int .i64 y0.at_) /\ W.cell? ⟨kb0, ka0 + 5, none⟩ = some (.int .i64 y1.op) /\ W.cell? ⟨kb0, ka0 + 6, none⟩ = some (.int .i64 y1.n) /\ W.cell? ⟨kb0, ka0 + 7, none⟩ = some (.string y1.s) /\ W.cell? ⟨kb0, ka0 + 8, none⟩ = some (.slice py1 y1.kids.length cy1) /\ W.cell? ⟨kb0, ka0 + 9, none⟩ = some (.int .i64 y1.at_) /\ W.cell? ⟨b1, 0, none⟩ = some (.int .i64 x.op) /\ W.cell? ⟨b3, k, none⟩ = some (.string r.1))
  (first | exact HC.out _ B0.out | exact HC.out _ B1.out | exact HC.out _ B2.out | exact HC.out _ B3.out | exact HC.out _ B4.out | exact HC.out _ (B3.out.alloc B3.out.size _) | exact HCS.out _ _ _ (HC.out _ B4.out) | go_keep)
  (first | (have hq := B3; clear hq; go_at_call 43; refine (HJ.out _).mono ?_; rintro e U4 ⟨rfl, ht⟩; have B4 := Lib.hid (B3.out.trans ((below_turned (((Turned.refl _ _).alloc _).trans ht)).mono B3.out.size)); obtain ⟨z0, z1⟩ := cellsTx (HCB.out _ B4.out); have fq := free_of_box (HCB.out _ B4.out); clear ht) | (have hq := B2; clear hq; go_at_call 82; refine (E1.out _ B2.out).mono ?_; rintro e U3 ⟨rfl, ht⟩; have B3 := Lib.hid (B2.out.trans ((below_turned ht).mono B2.out.size)); clear ht) | (have hq := B1; clear hq; go_at_call 79; refine (HSG.out _ _).mono ?_; rintro e U2 ⟨rfl, ht⟩; have B2 := Lib.hid (B1.out.trans ((below_turned ht).mono B1.out.size)); clear ht) | (have hq := B0; clear hq; go_at_call 82; refine (E0.out _ B0.out).mono ?_; rintro e U1 ⟨rfl, ht⟩; have B1 := Lib.hid (B0.out.trans ((below_turned ht).mono B0.out.size)); clear ht))
 go_wp2_with fail
 refine bodyPost_ret (results_tx rfl _ _ b2 _ _ rfl (tx_set (HCB.out _ B4.out))) rfl ?_
 rw [HRT.out]
 exact ⟨rfl, (((Turned.of_new (C := fun b => w.heap.size <= b) S3.out.bel).trans (Turned.of_new B4.out)).trans ((tx_turned _ _ _ _).mono fun b hb => by have := HGE.out; omega)).strip⟩
theorem show_bin (x : Ex) (k : Nat) (r : ByteArray × Int × Nat) (hr : opRows[k]? = some r) (h4 : r.2.2 ≠ 4) (hop : x.op = r.2.1) (y0 : Ex) (y1 : Ex) (hks : x.kids = [y0, y1]) (HA : AtHyp x) (hz0 : ∀ need, (rtAt need y0.op (rtX y0)).1.size <= 1000000000) (hz1 : ∀ need, (rtAt need y1.op (rtX y1)).1.size <= 1000000000) (a : Value) (w : World) (hk : KidsAt w (fun _ => True) x.kids a) : Calls Tryz.prog 44 #[exA x a] w (ShowR x w) := by
 unfold ShowR
 have HRT : Hid (rtX x = joinT [rtAt r.2.2 y0.op (rtX y0), tx r.1, rtAt (r.2.2 + 1) y1.op (rtX y1)]) := Lib.hid (by rw [rtX_eq, hop, rtXs_map, hks]; have hf := row_facts hr; unfold rtH; rw [if_neg (by omega), if_neg (by omega), if_neg (by omega), if_neg (by omega)]; simp only [List.map_cons, List.map_nil]; rw [hf.2.2.2.1]; dsimp only; rw [if_neg h4])
 have hl : x.kids.length = 2 := by rw [hks]; rfl
 have hy0 : x.kids[0]? = some y0 := by rw [hks]; rfl
 have hy1 : x.kids[1]? = some y1 := by rw [hks]; rfl
 have HAT := Lib.hid HA
 have HL := Lib.hid hl
 obtain ⟨hk13, hr1, hr2, hr3, hr4, hr5, hr6⟩ := row_facts hr
 obtain ⟨L, hL⟩ : ∃ L, L = r.2.2 := ⟨_, rfl⟩
 rw [<- hL] at hr2 hr4 h4
 rw [<- hL] at HRT
 have hx : x.op = 7 + (k : Int) := by rw [hop, hr1]
 have g1 : (x.op == 1) = false := by rw [hx]; simp; omega
 have g2 : (x.op == 2) = false := by rw [hx]; simp; omega
 have g3 : (x.op == 3) = false := by rw [hx]; simp; omega
 have g4 : (x.op == 4) = false := by rw [hx]; simp; omega
 have g5 : (x.op == 5) = false := by rw [hx]; simp; omega
 have g6 : (x.op == 6) = false := by rw [hx]; simp; omega
 have g20 : (x.op == 20) = false := by rw [hx]; simp; omega
 have g7 : ¬ x.op < 7 := by omega
 have g19 : ¬ (19 : Int) < x.op := by omega
 have hw7 : IntKind.i64.wrap (x.op - 7) = (k : Int) := (IntWalk.i64_in _ (by omega)).trans (by omega)
 have hk0 : (0 : Int) <= (k : Int) := by omega
 have hk1 : (k : Int) < 13 := by omega
 have hwL : IntKind.i64.wrap ((L : Int) + 1) = (L : Int) + 1 := IntWalk.i64_in _ (by omega)
 have hL4 : ((L : Int) == 4) = false := by simp; omega
 have HLV : Hid (∀ W, Calls Tryz.prog 83 #[.int .i64 x.op] W fun e w' => e = .returned (.int .i64 ((L : Int))) /\ Turned (fun _ => False) W w') := Lib.hid fun W => by have h := strength_any x.op W; rw [hop, hr2] at h; rw [hop]; exact h
 have HSK := Lib.hid hr6
 have HRS := Lib.hid hr5
 have HLE := Lib.hid h4
 clear hr hop hr1 hr2 hr3 hr4 hr5 hr6 hx hk13 h4 hL
 clear HA hks hl
 obtain ⟨pa, ca, rfl⟩ := hk.shape
 have S0 := St.start (T := fun W => KidsAt W (fun _ => True) x.kids (.slice pa x.kids.length ca)) hk (stays_kids _ _)
 have HKW := Lib.hid hk
 clear hk
 unfold exA
 go_enter Tryz.func44, Tryz.ntmps44
 go_upto_region 1 with fail
 obtain ⟨W1, b1, hW, hB, hbl, S1⟩ := St.box S0 (.cells #[.int .i64 x.op, .int .i64 x.n, .string x.s, .slice pa x.kids.length ca, .int .i64 x.at_] 31)
 have hz : W1.heap.size = b1 + 1 := by rw [hW, hB]; simp
 have hb1 : b1 = w.heap.size := hB
 rw [<- hW, <- hB]
 clear hW hB hbl S0
 obtain ⟨W2, b2, hW, hB, hbl, S2⟩ := St.box S1 txBox
 rw [hz] at hB
 have HGE : Hid (w.heap.size <= b2) := Lib.hid (by omega)
 have HN12 : Hid (¬ b1 = b2) := Lib.hid (by omega)
 rw [<- hW, <- hB]
 clear hW hB hbl S1 hz hb1
 go_upto_region 2 with fail
 obtain ⟨W3, b3, hW, hB, hbl, S3⟩ := St.box S2 (.cells sgnCells 9)
 have HN32 : Hid (¬ b3 = b2) := Lib.hid (by have := getElem?_lt (S2.out.lays.get 0 rfl); omega)
 unfold sgnCells at hW
 simp only [opRows, List.map_cons, List.map_nil] at hW
 rw [<- hW, <- hB]
 clear hW hB hbl S2
 obtain ⟨x0, x1, x2, x3, x4⟩ := St.cells5 S3 2 rfl
 obtain ⟨kb0, ka0, kk0, he0, ⟨k00, k01, k02, k03, k04⟩, HK0⟩ := kidsAt_get (i := 0) S3.out.tab hy0
 obtain ⟨kb1, ka1, kk1, he1, ⟨k10, k11, k12, k13, k14⟩, HK1⟩ := kidsAt_get (i := 1) S3.out.tab hy1
 subst he0
 cases he1
 obtain ⟨py0, cy0, rfl⟩ := HK0.shape
 obtain ⟨py1, cy1, rfl⟩ := HK1.shape
 simp only [Nat.zero_mul, Nat.add_zero, Nat.one_mul] at k00 k01 k02 k03 k04 k10 k11 k12 k13 k14
 simp only [Nat.add_assoc, Nat.reduceAdd] at k10 k11 k12 k13 k14
 rw [HL.out] at x3
 skip
 go_upto_region 30 with (go_at_call 83; refine (HLV.out _).mono ?_; rintro e W5 ⟨rfl, ht⟩; have HB5 := Lib.hid (below_turned ht); clear ht)
 obtain ⟨kbw, kaw, kkw, hew, ⟨c0, -, -, -, -⟩, -⟩ := kidsAt_get (i := 0) HKW.out hy0
 cases hew
 have HNK : Hid (¬ kb0 = b2) := Lib.hid (by have := cell_lt c0; have := HGE.out; omega)
 clear c0 HKW
 have hE0 : ∀ W, Below W3.heap.size W3 W -> Calls Tryz.prog 82 #[exA y0 (.slice py0 y0.kids.length cy0), (.int .i64 ((L : Int)))] W fun e w' => e = .returned (.agg #[.string (rtAt L y0.op (rtX y0)).1, .bool (rtAt L y0.op (rtX y0)).2]) /\ Turned (fun _ => False) W w' := fun W hb => HAT.out y0 (List.mem_of_getElem? hy0) L _ W (HK0.all (Turned.of_new hb))
 have hs0 := hz0 L
 obtain ⟨t0, ht0⟩ : ∃ t, t = rtAt L y0.op (rtX y0) := ⟨_, rfl⟩
 rw [<- ht0] at HRT hs0
 simp only [<- ht0] at hE0
 have HS0 := Lib.hid hs0
 have E0 := Lib.hid hE0
 unfold exA at E0
 clear ht0 hE0 hs0
 have hE1 : ∀ W, Below W3.heap.size W3 W -> Calls Tryz.prog 82 #[exA y1 (.slice py1 y1.kids.length cy1), (.int .i64 ((L : Int) + 1))] W fun e w' => e = .returned (.agg #[.string (rtAt (L + 1) y1.op (rtX y1)).1, .bool (rtAt (L + 1) y1.op (rtX y1)).2]) /\ Turned (fun _ => False) W w' := fun W hb => by have h := HAT.out y1 (List.mem_of_getElem? hy1) (L + 1) _ W (HK1.all (Turned.of_new hb)); rw [show (((L + 1) : Nat) : Int) = (L : Int) + 1 by omega] at h; exact h
 have hs1 := hz1 (L + 1)
 obtain ⟨t1, ht1⟩ : ∃ t, t = rtAt (L + 1) y1.op (rtX y1) := ⟨_, rfl⟩
 rw [<- ht1] at HRT hs1
 simp only [<- ht1] at hE1
 have HS1 := Lib.hid hs1
 have E1 := Lib.hid hE1
 unfold exA at E1
 clear ht1 hE1 hs1
 have HC : Hid (∀ W, Below W3.heap.size W3 W -> (W.cell? ⟨b1, 3, none⟩ = some (.slice (some ⟨kb0, ka0, none⟩) 2 ca) /\ W.cell? ⟨kb0, ka0, none⟩ = some (.int .i64 y0.op) /\ W.cell? ⟨kb0, ka0 + 1, none⟩ = some (.int .i64 y0.n) /\ W.cell? ⟨kb0, ka0 + 2, none⟩ = some (.string y0.s) /\ W.cell? ⟨kb0, ka0 + 3, none⟩ = some (.slice py0 y0.kids.length cy0) /\ W.cell? ⟨kb0, ka0 + 4, none⟩ = some (.int .i64 y0.at_) /\ W.cell? ⟨kb0, ka0 + 5, none⟩ = some (.int .i64 y1.op) /\ W.cell? ⟨kb0, ka0 + 6, none⟩ = some (.int .i64 y1.n) /\ W.cell? ⟨kb0, ka0 + 7, none⟩ = some (.string y1.s) /\ W.cell? ⟨kb0, ka0 + 8, none⟩ = some (.slice py1 y1.kids.length cy1) /\ W.cell? ⟨kb0, ka0 + 9, none⟩ = some (.int .i64 y1.at_) /\ W.cell? ⟨b1, 0, none⟩ = some (.int .i64 x.op) /\ W.cell? ⟨b3, k, none⟩ = some (.string r.1))) := Lib.hid fun W hb => by
  obtain ⟨q0, -, -, q3, -⟩ := St.cells5 (St.call S3 hb) 2 rfl
  rw [HL.out] at q3
  have ht : Turned (fun _ => False) W3 W := Turned.of_new hb
  have qs : W.cell? ⟨b3, k, none⟩ = some (.string r.1) := by simp only [World.cell?, (St.call S3 hb).out.lays.get 0 rfl]; exact HSK.out
  exact ⟨q3, cell_turned ht id k00, cell_turned ht id k01, cell_turned ht id k02, cell_turned ht id k03, cell_turned ht id k04, cell_turned ht id k10, cell_turned ht id k11, cell_turned ht id k12, cell_turned ht id k13, cell_turned ht id k14, q0, qs⟩
 have HCS : Hid (∀ (W : World) (u v : Value), (W.cell? ⟨b1, 3, none⟩ = some (.slice (some ⟨kb0, ka0, none⟩) 2 ca) /\ W.cell? ⟨kb0, ka0, none⟩ = some (.int .i64 y0.op) /\ W.cell? ⟨kb0, ka0 + 1, none⟩ = some (.int .i64 y0.n) /\ W.cell? ⟨kb0, ka0 + 2, none⟩ = some (.string y0.s) /\ W.cell? ⟨kb0, ka0 + 3, none⟩ = some (.slice py0 y0.kids.length cy0) /\ W.cell? ⟨kb0, ka0 + 4, none⟩ = some (.int .i64 y0.at_) /\ W.cell? ⟨kb0, ka0 + 5, none⟩ = some (.int .i64 y1.op) /\ W.cell? ⟨kb0, ka0 + 6, none⟩ = some (.int .i64 y1.n) /\ W.cell? ⟨kb0, ka0 + 7, none⟩ = some (.string y1.s) /\ W.cell? ⟨kb0, ka0 + 8, none⟩ = some (.slice py1 y1.kids.length cy1) /\ W.cell? ⟨kb0, ka0 + 9, none⟩ = some (.int .i64 y1.at_) /\ W.cell? ⟨b1, 0, none⟩ = some (.int .i64 x.op) /\ W.cell? ⟨b3, k, none⟩ = some (.string r.1)) -> (fun W : World => W.cell? ⟨b1, 3, none⟩ = some (.slice (some ⟨kb0, ka0, none⟩) 2 ca) /\ W.cell? ⟨kb0, ka0, none⟩ = some (.int .i64 y0.op) /\ W.cell? ⟨kb0, ka0 + 1, none⟩ = some (.int .i64 y0.n) /\ W.cell? ⟨kb0, ka0 + 2, none⟩ = some (.string y0.s) /\ W.cell? ⟨kb0, ka0 + 3, none⟩ = some (.slice py0 y0.kids.length cy0) /\ W.cell? ⟨kb0, ka0 + 4, none⟩ = some (.int .i64 y0.at_) /\ W.cell? ⟨kb0, ka0 + 5, none⟩ = some (.int .i64 y1.op) /\ W.cell? ⟨kb0, ka0 + 6, none⟩ = some (.int .i64 y1.n) /\ W.cell? ⟨kb0, ka0 + 7, none⟩ = some (.string y1.s) /\ W.cell? ⟨kb0, ka0 + 8, none⟩ = some (.slice py1 y1.kids.length cy1) /\ W.cell? ⟨kb0, ka0 + 9, none⟩ = some (.int .i64 y1.at_) /\ W.cell? ⟨b1, 0, none⟩ = some (.int .i64 x.op) /\ W.cell? ⟨b3, k, none⟩ = some (.string r.1)) ((W.setCell ⟨b2, 0, none⟩ u).setCell ⟨b2, 1, none⟩ v)) := Lib.hid fun W u v h => by
  have hne1 := HN12.out
  have hnek := HNK.out
  have hne3 := HN32.out
  have ht := tx_turned W b2 u v
  obtain ⟨g0, g1, g2, g3, g4, g5, g6, g7, g8, g9, g10, g11, g12⟩ := h
  exact ⟨cell_turned ht hne1 g0, cell_turned ht hnek g1, cell_turned ht hnek g2, cell_turned ht hnek g3, cell_turned ht hnek g4, cell_turned ht hnek g5, cell_turned ht hnek g6, cell_turned ht hnek g7, cell_turned ht hnek g8, cell_turned ht hnek g9, cell_turned ht hnek g10, cell_turned ht hne1 g11, cell_turned ht hne3 g12⟩
 have HCB : Hid (∀ W, Below W3.heap.size W3 W -> W.heap[b2]? = some txBox) := Lib.hid fun W hb => (St.call S3 hb).out.lays.get 1 rfl
 have B0 := Lib.hid (Below.drew HB5.out)
 have HSG := Lib.hid (fun (s : ByteArray) (W : World) => sign1_any s W)
 have HJ := Lib.hid (fun (W : World) => tjoin_any [t0, tx r.1, t1] (some ⟨W.heap.size, 0, none⟩) 3 (W.alloc (.cells #[.string t0.1, .bool t0.2, .string r.1, .bool false, .string t1.1, .bool t1.2] 96)) (txs_new W 96 _ _ rfl _ rfl) (by simp) (fun q hq => by
  simp only [List.mem_cons, List.not_mem_nil, or_false] at hq
  rcases hq with rfl | rfl | rfl
  ·exact HS0.out
  ·show r.1.size <= _; have := HRS.out; omega
  ·exact HS1.out))
 clear x0 x1 x2 x3 x4 k00 k01 k02 k03 k04 k10 k11 k12 k13 k14 
 go_region_held3 (fun W => W.cell? ⟨b1, 3, none⟩ = some (.slice (some ⟨kb0, ka0, none⟩) 2 ca) /\ W.cell? ⟨kb0, ka0, none⟩ = some (.int .i64 y0.op) /\ W.cell? ⟨kb0, ka0 + 1, none⟩ = some (.int .i64 y0.n) /\ W.cell? ⟨kb0, ka0 + 2, none⟩ = some (.string y0.s) /\ W.cell? ⟨kb0, ka0 + 3, none⟩ = some (.slice py0 y0.kids.length cy0) /\ W.cell? ⟨kb0, ka0 + 4, none⟩ = some (.int .i64 y0.at_) /\ W.cell? ⟨kb0, ka0 + 5, none⟩ = some (.int .i64 y1.op) /\ W.cell? ⟨kb0, ka0 + 6, none⟩ = some (.int .i64 y1.n) /\ W.cell? ⟨kb0, ka0 + 7, none⟩ = some (.string y1.s) /\ W.cell? ⟨kb0, ka0 + 8, none⟩ = some (.slice py1 y1.kids.length cy1) /\ W.cell? ⟨kb0, ka0 + 9, none⟩ = some (.int .i64 y1.at_) /\ W.cell? ⟨b1, 0, none⟩ = some (.int .i64 x.op) /\ W.cell? ⟨b3, k, none⟩ = some (.string r.1))
  (first | exact HC.out _ B0.out | exact HC.out _ B1.out | exact HC.out _ B2.out | exact HC.out _ B3.out | exact HC.out _ B4.out | exact HC.out _ (B3.out.alloc B3.out.size _) | exact HCS.out _ _ _ (HC.out _ B4.out) | go_keep)
  (first | (have hq := B3; clear hq; go_at_call 43; refine (HJ.out _).mono ?_; rintro e U4 ⟨rfl, ht⟩; have B4 := Lib.hid (B3.out.trans ((below_turned (((Turned.refl _ _).alloc _).trans ht)).mono B3.out.size)); obtain ⟨z0, z1⟩ := cellsTx (HCB.out _ B4.out); have fq := free_of_box (HCB.out _ B4.out); clear ht) | (have hq := B2; clear hq; go_at_call 82; refine (E1.out _ B2.out).mono ?_; rintro e U3 ⟨rfl, ht⟩; have B3 := Lib.hid (B2.out.trans ((below_turned ht).mono B2.out.size)); clear ht) | (have hq := B1; clear hq; go_at_call 79; refine (HSG.out _ _).mono ?_; rintro e U2 ⟨rfl, ht⟩; have B2 := Lib.hid (B1.out.trans ((below_turned ht).mono B1.out.size)); clear ht) | (have hq := B0; clear hq; go_at_call 82; refine (E0.out _ B0.out).mono ?_; rintro e U1 ⟨rfl, ht⟩; have B1 := Lib.hid (B0.out.trans ((below_turned ht).mono B0.out.size)); clear ht))
 go_wp2_with fail
 refine bodyPost_ret (results_tx rfl _ _ b2 _ _ rfl (tx_set (HCB.out _ B4.out))) rfl ?_
 rw [HRT.out]
 exact ⟨rfl, (((Turned.of_new (C := fun b => w.heap.size <= b) S3.out.bel).trans (Turned.of_new B4.out)).trans ((tx_turned _ _ _ _).mono fun b hb => by have := HGE.out; omega)).strip⟩
theorem rtH_bad {op n : Int} {s : ByteArray} {K : List (Int × (ByteArray × Bool))} (h1 : op ≠ 1) (h2 : op ≠ 2) (h3 : op ≠ 3) (h4 : op ≠ 4) (hu : ¬ ((op = 5 \/ op = 6) /\ K.length = 1)) (hi : ¬ (op = 20 /\ K.length = 3)) (hb : ¬ (7 <= op /\ op <= 19 /\ K.length = 2)) : rtH op n s K = (noB, true) := by
 unfold rtH
 rw [if_neg h1, if_neg h2, if_neg h3, if_neg h4]
 match K with
 | [] => rfl
 | [(p, a)] =>
  have h5 : op ≠ 5 := fun h => hu ⟨.inl h, rfl⟩
  have h6 : op ≠ 6 := fun h => hu ⟨.inr h, rfl⟩
  simp [h5, h6]
 | [(p, a), (q, b)] =>
  have h7 : ¬ (7 <= op /\ op <= 19) := fun h => hb ⟨h.1, h.2, rfl⟩
  dsimp only
  rw [List.find?_eq_none.2]
  intro r hr
  simp only [opRows, List.mem_cons, List.not_mem_nil, or_false] at hr
  rcases hr with rfl | rfl | rfl | rfl | rfl | rfl | rfl | rfl | rfl | rfl | rfl | rfl | rfl <;> simp <;> omega
 | [(p, a), (q, b), (r, c)] =>
  have h20 : op ≠ 20 := fun h => hi ⟨h, rfl⟩
  simp [h20]
 | _ :: _ :: _ :: _ :: _ => rfl
theorem show_bad (x : Ex) (h1 : x.op ≠ 1) (h2 : x.op ≠ 2) (h3 : x.op ≠ 3) (h4 : x.op ≠ 4) (hu : ¬ ((x.op = 5 \/ x.op = 6) /\ x.kids.length = 1)) (hi : ¬ (x.op = 20 /\ x.kids.length = 3)) (hb : ¬ (7 <= x.op /\ x.op <= 19 /\ x.kids.length = 2)) (a : Value) (w : World) (hk : KidsAt w (fun _ => True) x.kids a) : Calls Tryz.prog 44 #[exA x a] w (ShowR x w) := by
 unfold ShowR
 have HRT : Hid (rtX x = (noB, true)) := Lib.hid (by rw [rtX_eq, rtXs_map]; exact rtH_bad h1 h2 h3 h4 (by rw [List.length_map]; exact hu) (by rw [List.length_map]; exact hi) (by rw [List.length_map]; exact hb))
 have g1 : (x.op == 1) = false := by simpa using h1
 have g2 : (x.op == 2) = false := by simpa using h2
 have g3 : (x.op == 3) = false := by simpa using h3
 have g4 : (x.op == 4) = false := by simpa using h4
 have HU := Lib.hid hu
 have HI := Lib.hid hi
 have HBB := Lib.hid hb
 clear h1 h2 h3 h4 hu hi hb
 obtain ⟨pa, ca, rfl⟩ := hk.shape
 have S0 := St.start (T := fun W => KidsAt W (fun _ => True) x.kids (.slice pa x.kids.length ca)) hk (stays_kids _ _)
 have HKW := Lib.hid hk
 clear hk
 unfold exA
 go_enter Tryz.func44, Tryz.ntmps44
 go_upto_region 1 with fail
 obtain ⟨W1, b1, hW, hB, hbl, S1⟩ := St.box S0 (.cells #[.int .i64 x.op, .int .i64 x.n, .string x.s, .slice pa x.kids.length ca, .int .i64 x.at_] 31)
 have hz : W1.heap.size = b1 + 1 := by rw [hW, hB]; simp
 have hb1 : b1 = w.heap.size := hB
 rw [<- hW, <- hB]
 clear hW hB hbl S0
 obtain ⟨W2, b2, hW, hB, hbl, S2⟩ := St.box S1 txBox
 rw [hz] at hB
 have HGE : Hid (w.heap.size <= b2) := Lib.hid (by omega)
 have HN12 : Hid (¬ b1 = b2) := Lib.hid (by omega)
 rw [<- hW, <- hB]
 clear hW hB hbl S1 hz hb1
 go_upto_region 2 with fail
 obtain ⟨W3, b3, hW, hB, hbl, S3⟩ := St.box S2 (.cells sgnCells 9)
 have HN32 : Hid (¬ b3 = b2) := Lib.hid (by have := getElem?_lt (S2.out.lays.get 0 rfl); omega)
 unfold sgnCells at hW
 simp only [opRows, List.map_cons, List.map_nil] at hW
 rw [<- hW, <- hB]
 clear hW hB hbl S2
 obtain ⟨x0, x1, x2, x3, x4⟩ := St.cells5 S3 2 rfl
 clear HKW
 have hb2 := S3.out.lays.get 1 rfl
 obtain ⟨z0, z1⟩ := cellsTx hb2
 have fq := free_of_box hb2
 have HB2 := Lib.hid hb2
 clear hb2
 by_cases h56 : x.op = 5 \/ x.op = 6
 ·have hl : ((x.kids.length : Int) == 1) = false := by
   have hk1 : ¬ x.kids.length = 1 := fun h => HU.out ⟨h56, h⟩
   simp; omega
  have g20 : (x.op == 20) = false := by simp; omega
  have g7 : x.op < 7 := by omega
  rcases h56 with h | h
  ·have g5 : (x.op == 5) = true := by simpa using h
   clear h HU HI HBB
   go_wp2_with fail
   refine bodyPost_ret (results_tx rfl _ _ b2 _ _ rfl (tx_set HB2.out)) rfl ?_
   rw [HRT.out]
   exact ⟨rfl, ((Turned.of_new (C := fun b => w.heap.size <= b) S3.out.bel).trans ((tx_turned _ _ _ _).mono fun b hb => by have := HGE.out; omega)).strip⟩
  ·have g5 : (x.op == 5) = false := by simp; omega
   have g6 : (x.op == 6) = true := by simpa using h
   clear h HU HI HBB
   go_wp2_with fail
   refine bodyPost_ret (results_tx rfl _ _ b2 _ _ rfl (tx_set HB2.out)) rfl ?_
   rw [HRT.out]
   exact ⟨rfl, ((Turned.of_new (C := fun b => w.heap.size <= b) S3.out.bel).trans ((tx_turned _ _ _ _).mono fun b hb => by have := HGE.out; omega)).strip⟩
 have g5 : (x.op == 5) = false := by simp; omega
 have g6 : (x.op == 6) = false := by simp; omega
 by_cases h20 : x.op = 20
 ·have hl : ((x.kids.length : Int) == 3) = false := by
   have hk3 : ¬ x.kids.length = 3 := fun h => HI.out ⟨h20, h⟩
   simp; omega
  have g20 : (x.op == 20) = true := by simpa using h20
  have g7 : ¬ x.op < 7 := by omega
  have g19 : (19 : Int) < x.op := by omega
  clear h20 h56 HU HI HBB
  go_wp2_with fail
  refine bodyPost_ret (results_tx rfl _ _ b2 _ _ rfl (tx_set HB2.out)) rfl ?_
  rw [HRT.out]
  exact ⟨rfl, ((Turned.of_new (C := fun b => w.heap.size <= b) S3.out.bel).trans ((tx_turned _ _ _ _).mono fun b hb => by have := HGE.out; omega)).strip⟩
 have g20 : (x.op == 20) = false := by simpa using h20
 by_cases g7 : x.op < 7
 ·clear h20 h56 HU HI HBB
  go_wp2_with fail
  refine bodyPost_ret (results_tx rfl _ _ b2 _ _ rfl (tx_set HB2.out)) rfl ?_
  rw [HRT.out]
  exact ⟨rfl, ((Turned.of_new (C := fun b => w.heap.size <= b) S3.out.bel).trans ((tx_turned _ _ _ _).mono fun b hb => by have := HGE.out; omega)).strip⟩
 by_cases g19 : (19 : Int) < x.op
 ·clear h20 h56 HU HI HBB
  go_wp2_with fail
  refine bodyPost_ret (results_tx rfl _ _ b2 _ _ rfl (tx_set HB2.out)) rfl ?_
  rw [HRT.out]
  exact ⟨rfl, ((Turned.of_new (C := fun b => w.heap.size <= b) S3.out.bel).trans ((tx_turned _ _ _ _).mono fun b hb => by have := HGE.out; omega)).strip⟩
 have hl : ((x.kids.length : Int) != 2) = true := by
  have hk2 : ¬ x.kids.length = 2 := fun h => HBB.out ⟨by omega, by omega, h⟩
  simp; omega
 clear h20 h56 HU HI HBB
 go_wp2_with fail
 refine bodyPost_ret (results_tx rfl _ _ b2 _ _ rfl (tx_set HB2.out)) rfl ?_
 rw [HRT.out]
 exact ⟨rfl, ((Turned.of_new (C := fun b => w.heap.size <= b) S3.out.bel).trans ((tx_turned _ _ _ _).mono fun b hb => by have := HGE.out; omega)).strip⟩
end Go.Proofs.YtjijdgkccfeeaaaGreatDoor
