/- Part 21 of the proof of card: ParTxF, ParTxG, ParTxH, ParTxI, ParTxJ, ParTxK. Conditions: those of each theorem. -/
import Derived.Test.YtjijdgkccfeeaaaGreatDoorPt01
import Derived.Test.YtjijdgkccfeeaaaGreatDoorPt20
set_option maxRecDepth 20000
set_option maxHeartbeats 4000000
namespace Go.Proofs.YtjijdgkccfeeaaaGreatDoor
open Go Go.Proofs Go.RowKit
attribute [local go_sem] Oper.semAt_some
theorem infoText : (Tryz.prog.info? 96).map (fun i => (i.zero, i.size, i.bytes)) = some (some (.agg #[.string ⟨#[]⟩, .bool false]), 2, 24) := by kernel_rfl
structure TG (M W : World) (v : Value) (l : List (ByteArray × Bool)) : Prop where
 bel : Below M.heap.size M W
 own : W.ownsRow M.heap.size 96 2 v l.length (l.flatMap txV)
section
variable {M W W' : World} {v : Value} {l : List (ByteArray × Bool)}
theorem TG.call (h : TG M W v l) (ht : Turned (fun _ => False) W W') : TG M W' v l :=
 ⟨h.bel.trans ((below_turned ht).mono h.bel.size), ownsRow_turned' ht (fun _ _ => id) h.own⟩
theorem TG.shape (h : TG M W v l) : ∃ p c, v = .slice p l.length c := by
 rcases h.own.2 with ⟨h1, h2⟩ | ⟨g, cap, cur, h1, -⟩
 ·exact ⟨none, 0, by rw [h1, h2]⟩
 ·exact ⟨_, cap, h1⟩
theorem TG.at {p : Option Addr} {n c : Nat} (h : TG M W (.slice p n c) l) : TxsAt W l p := by
 intro i q hq
 have hlt := lt_of_some hq
 rcases h.own.2 with ⟨h1, h2⟩ | ⟨g, cap, cur, h1, -, -, -, -, -, -⟩
 ·omega
 ·cases h1
  have hc := World.ownsRow.cells h.own (g := g) rfl
  have key : ∀ j, j < 2 -> W.cell? ⟨g, 0 + i * 2 + j, none⟩ = (txV q)[j]? := fun j hj => by
   have h2 := flatMap_at txV 2 (fun _ => rfl) l i j hlt hj
   rw [List.getElem?_eq_getElem hlt] at hq
   cases hq
   have h3 : ∃ u, (txV l[i])[j]? = some u := by
    rcases (by omega : j = 0 \/ j = 1) with rfl | rfl <;> exact ⟨_, rfl⟩
   obtain ⟨u, hu⟩ := h3
   rw [hu] at h2 ⊢
   have h4 := hc _ u h2
   rw [Addr.add_lit] at h4
   rw [Nat.add_assoc]
   exact h4
  exact ⟨g, 0, rfl, key 0 (by omega), key 1 (by omega)⟩
theorem TG.new (M : World) (l : List (ByteArray × Bool)) (cs : Array Value) (hcs : cs.toList = l.flatMap txV) (hl : l.length <= 100) : TG M (M.alloc (.cells cs 96)) (.slice (some ⟨M.heap.size, 0, none⟩) l.length l.length) l := by
 refine ⟨(Below.refl _ _).alloc (Nat.le_refl _) _, ?_⟩
 have hsz : cs.size = l.length * 2 := by
  rw [<- Array.length_toList, hcs]
  clear hcs hl
  induction l with
  | nil => rfl
  | cons q l ih => rw [List.flatMap_cons, List.length_append, ih, List.length_cons]; show 2 + _ = _; omega
 have := World.ownsRow_lit (base := M.heap.size) (e := 96) (size := 2) M cs l.length (Nat.le_refl _) (by unfold maxLen; omega) hsz
 rw [hcs] at this
 exact this
theorem TG.none (M : World) : TG M M (.slice none 0 0) [] := ⟨Below.refl _ _, World.ownsRow_nil _ _ _ _⟩
theorem wpList_push (h : Hid (TG M W v l)) (q : ByteArray × Bool) (hl : l.length <= 1000000) {ops : Array Oper} {rest : List Oper} {o : Oper} {a : Act} {Q : Exit -> Act -> World -> Prop}
  (hg : o.guard = none) (s x : Operand) (hop : o.op = Op.call { callee := Callee.builtin Builtin.append, args := #[s, x], argTypes := #[94, 94] }) (hs : a.eval s = v) (hx : a.eval x = .slice (some ⟨W.heap.size, 0, none⟩) 1 1)
  (hK : ∀ g cap W4, Hid (TG M W4 (.slice (some ⟨g, 0, none⟩) (l.length + 1) cap) (l ++ [q])) -> wpList Tryz.prog ops Q rest (a.put o.dst (.slice (some ⟨g, 0, none⟩) (l.length + 1) cap)) W4) :
  wpList Tryz.prog ops Q (o :: rest) a (W.alloc (.cells #[.string q.1, .bool q.2] 96)) := by
 obtain ⟨i0, hif, hz0, hz1, hz2⟩ := info_parts infoText
 have hb := h.out.bel.size
 refine wpList_append_exact _ hg s x 94 hop M.heap.size 96 i0 (.agg #[.string ⟨#[]⟩, .bool false]) 2 24 Tryz.underlying94 hif hz0 hz1 hz2 rfl (by decide) v l.length (l.flatMap txV) hs (h.out.own.alloc _) ⟨W.heap.size, 0, none⟩ 1 1 [.string q.1, .bool q.2] hx rfl (cells_list W [.string q.1, .bool q.2] 96) (by intro u hu; simp at hu; rcases hu with rfl | rfl <;> rfl) (by unfold maxLen; omega) (by omega) (by simp; omega) ?_
 intro v' w4 hown' hgrow hex
 obtain ⟨g, cap, rfl⟩ := ownsRow_succ hown'
 refine hK g cap w4 (Lib.hid ⟨?_, ?_⟩)
 ·exact ((h.out.bel.alloc hb _).grown hgrow (by simp; omega) fun k hk => (ownsRow_block h.out.own k hk).1)
 ·rw [List.length_append, List.flatMap_append]
  simpa [txV] using hown'
end
theorem rtCall_snoc (q : Int × (ByteArray × Bool)) : ∀ (l : List (Int × (ByteArray × Bool))) (j : Nat), rtCall j (l ++ [q]) = rtCall j l ++ ((if 0 < j + l.length then [tx ⟨#[44]⟩] else []) ++ [rtAt 0 q.1 q.2])
 | [], j => by obtain ⟨a, b⟩ := q; simp [rtCall]
 | (a, b) :: l, j => by
  rw [List.cons_append, rtCall, rtCall_snoc q l (j + 1), rtCall, List.append_assoc]
  simp only [List.length_cons, List.cons_append]
  rw [show j + 1 + l.length = j + (l.length + 1) by omega]
theorem rtCall_len : ∀ (l : List (Int × (ByteArray × Bool))) (j : Nat), (rtCall j l).length <= 2 * l.length
 | [], _ => by simp [rtCall]
 | (a, b) :: l, j => by
  have := rtCall_len l (j + 1)
  rw [rtCall, List.length_append, List.length_cons, List.length_cons]
  split <;> simp <;> omega
theorem rtCall_mem {q : ByteArray × Bool} : ∀ (l : List (Int × (ByteArray × Bool))) (j : Nat), q ∈ rtCall j l -> q = tx ⟨#[44]⟩ \/ ∃ p ∈ l, q = rtAt 0 p.1 p.2
 | [], _, h => by simp [rtCall] at h
 | (a, b) :: l, j, h => by
  rw [rtCall, List.mem_append, List.mem_cons] at h
  rcases h with h | h | h
  ·split at h
   ·exact .inl (by simpa using h)
   ·cases h
  ·exact .inr ⟨_, List.mem_cons_self .., h⟩
  ·rcases rtCall_mem l (j + 1) h with h | ⟨p, hp, h⟩
   ·exact .inl h
   ·exact .inr ⟨p, List.mem_cons_of_mem _ hp, h⟩
theorem show_call (x : Ex) (hop : x.op = 4) (hn : x.s.size <= 100000) (hkl : x.kids.length <= 100000) (HA : AtHyp x) (hz : ∀ y ∈ x.kids, (rtAt 0 y.op (rtX y)).1.size <= 1000000000) (a : Value) (w : World) (hk : KidsAt w (fun _ => True) x.kids a) : Calls Tryz.prog 44 #[exA x a] w (ShowR x w) := by
 unfold ShowR
 have HRT : Hid (rtX x = joinT ((x.s, badName x.s) :: tx ⟨#[40]⟩ :: (rtCall 0 (rtXs x.kids) ++ [tx ⟨#[41]⟩]))) := Lib.hid (by rw [rtX_eq, hop]; unfold rtH; rw [if_neg (by decide), if_neg (by decide), if_neg (by decide), if_pos rfl])
 have HNM := Lib.hid (fun W => txname_any x.s hn W)
 have HSG := Lib.hid (fun (s : ByteArray) (W : World) => sign1_any s W)
 have HOP := Lib.hid hop
 have HAT := Lib.hid HA
 have HZ := Lib.hid hz
 have HSN := Lib.hid hn
 clear hn hop HA hz
 obtain ⟨pa, ca, rfl⟩ := hk.shape
 have S0 := St.start (T := fun W => KidsAt W (fun _ => True) x.kids (.slice pa x.kids.length ca)) hk (stays_kids _ _)
 have HKW := Lib.hid hk
 clear hk
 unfold exA
 go_enter Tryz.func44, Tryz.ntmps44
 go_upto_region 1 with fail
 obtain ⟨W1, b1, hW, hB, hbl, S1⟩ := St.box S0 (.cells #[.int .i64 x.op, .int .i64 x.n, .string x.s, .slice pa x.kids.length ca, .int .i64 x.at_] 31)
 have hz : W1.heap.size = b1 + 1 := by rw [hW, hB]; simp
 have hb1 : b1 = w.heap.size := hB
 rw [<- hW, <- hB]
 clear hW hB hbl S0
 obtain ⟨W2, b2, hW, hB, hbl, S2⟩ := St.box S1 txBox
 rw [hz] at hB
 have HGE : Hid (w.heap.size <= b2) := Lib.hid (by omega)
 have HN12 : Hid (¬ b1 = b2) := Lib.hid (by omega)
 rw [<- hW, <- hB]
 clear hW hB hbl S1 hz hb1
 go_upto_region 2 with fail
 obtain ⟨W3, b3, hW, hB, hbl, S3⟩ := St.box S2 (.cells sgnCells 9)
 have HN32 : Hid (¬ b3 = b2) := Lib.hid (by have := getElem?_lt (S2.out.lays.get 0 rfl); omega)
 unfold sgnCells at hW
 simp only [opRows, List.map_cons, List.map_nil] at hW
 rw [<- hW, <- hB]
 clear hW hB hbl S2
 obtain ⟨x0, x1, x2, x3, x4⟩ := St.cells5 S3 2 rfl
 rw [HOP.out] at x0
 clear HKW
 go_upto_region 10 with fail
 go_upto_region 11 with (first | (go_at_call 79; refine (HSG.out _ _).mono ?_; rintro e U2 ⟨rfl, ht⟩; have B2 := Lib.hid (B1.out.trans ((below_turned ht).mono B1.out.size)); clear ht) | (go_at_call 78; refine (HNM.out _).mono ?_; rintro e U1 ⟨rfl, ht⟩; have B1 := Lib.hid (below_turned ht); clear ht x0 x1 x2 x3 x4))
 have S5 := St.call S3 B2.out
 have T5 : Hid (TG U2 (U2.alloc (.cells #[.string x.s, .bool (badName x.s), .string ⟨#[40]⟩, .bool false] 96)) (.slice (some ⟨U2.heap.size, 0, none⟩) 2 2) ([(x.s, badName x.s), tx ⟨#[40]⟩] ++ rtCall 0 ((rtXs x.kids).take 0))) := Lib.hid (TG.new U2 [(x.s, badName x.s), tx ⟨#[40]⟩] _ rfl (by simp))
 clear S3 B1 B2
 go_upto_region 12 with fail
 go_loopw [4, 5] (fun u i wr => ∃ (k : Nat) (v : Value), v = u /\ i = (.int .i64 k) /\ k <= x.kids.length /\ Hid (TG U2 wr v ([(x.s, badName x.s), tx ⟨#[40]⟩] ++ rtCall 0 ((rtXs x.kids).take k)))) (fun _ i _ => x.kids.length - (intOf i).toNat)
 case atStart => exact ⟨0, _, rfl, rfl, by omega, T5⟩
 case round =>
  clear T5
  obtain ⟨k, v, rfl, rfl, hk, T6⟩ := hrel
  have S6 := St.call S5 T6.out.bel
  obtain ⟨x0, x1, x2, x3, x4⟩ := St.cells5 S6 2 rfl
  have hXl : (rtXs x.kids).length = x.kids.length := by rw [rtXs_map, List.length_map]
  have hLl : ([(x.s, badName x.s), tx ⟨#[40]⟩] ++ rtCall 0 ((rtXs x.kids).take k)).length <= 300000 := by
   have := rtCall_len ((rtXs x.kids).take k) 0
   rw [List.length_take] at this
   simp only [List.length_append, List.length_cons, List.length_nil]
   omega
  by_cases hlt : k < x.kids.length
  ·obtain ⟨y, hy⟩ := some_of_lt hlt
   have hkk : (k : Int) < (x.kids.length : Int) := by omega
   have hyX : (rtXs x.kids)[k]? = some (y.op, rtX y) := by rw [rtXs_map, List.getElem?_map, hy]; rfl
   have HST : Hid ((([(x.s, badName x.s), tx ⟨#[40]⟩] ++ rtCall 0 ((rtXs x.kids).take k)) ++ (if 0 < k then [tx ⟨#[44]⟩] else [])) ++ [rtAt 0 y.op (rtX y)] = [(x.s, badName x.s), tx ⟨#[40]⟩] ++ rtCall 0 ((rtXs x.kids).take (k + 1))) := Lib.hid (by
    rw [List.take_add_one, hyX, Option.toList_some, rtCall_snoc, List.length_take, Nat.zero_add, Nat.min_eq_left (by omega)]
    simp only [List.append_assoc])
   generalize [(x.s, badName x.s), tx ⟨#[40]⟩] ++ rtCall 0 ((rtXs x.kids).take k) = L at T6 hLl HST
   clear hyX hXl S6
   by_cases h0 : k = 0
   ·have hk0 : ¬ (0 : Int) < (k : Int) := by omega
    rw [if_neg (by omega), List.append_nil] at HST
    go_upto_region 16 with fail
    clear x0 x1 x2 x3 x4 h0
    have S7 := St.call S5 T6.out.bel
    obtain ⟨x0, x1, x2, x3, x4⟩ := St.cells5 S7 2 rfl
    obtain ⟨kb, ka, kk, rfl, ⟨c0, c1, c2, c3, c4⟩, HK⟩ := kidsAt_get (i := k) S7.out.tab hy
    obtain ⟨py, cy, rfl⟩ := HK.shape
    have HC : Hid (Calls Tryz.prog 82 #[exA y (.slice py y.kids.length cy), .int .i64 0] wr fun e w' => e = .returned (.agg #[.string (rtAt 0 y.op (rtX y)).1, .bool (rtAt 0 y.op (rtX y)).2]) /\ Turned (fun _ => False) wr w') := Lib.hid (HAT.out y (List.mem_of_getElem? hy) 0 _ wr HK)
    generalize rtAt 0 y.op (rtX y) = t at HC HST
    unfold exA at HC
    clear S7 hy HK
    go_upto_region 13 with (first | (go_at_call 82; refine HC.out.mono ?_; rintro e W8 ⟨rfl, ht⟩; have T8 := Lib.hid (T6.out.call ht); clear ht x0 x1 x2 x3 x4 c0 c1 c2 c3 c4) | (at_builtin; refine wpList_push T8 t (by first | omega | (rw [List.length_append]; show L.length + 1 <= _; omega)) rfl _ _ rfl rfl rfl ?_; intro g2 cap2 W9 T9))
    go_wp2_with fail
    go_roundw
    case rel => exact ⟨k + 1, _, rfl, by go_num, by omega, by rw [<- HST.out]; first | exact T9 | (rw [List.length_append] at T9; exact T9)⟩
    case measure => simp [intOf]; omega
   ·have hk0 : (0 : Int) < (k : Int) := by omega
    rw [if_pos (by omega)] at HST
    go_upto_region 16 with (first | (go_at_call 79; refine (HSG.out _ _).mono ?_; rintro e Wc ⟨rfl, ht⟩; have Tc := Lib.hid (T6.out.call ht); clear ht x0 x1 x2 x3 x4) | (at_builtin; refine wpList_push Tc (tx ⟨#[44]⟩) (by omega) rfl _ _ rfl rfl rfl ?_; intro g1 cap1 Wd T7))
    clear h0 Tc T6
    have S7 := St.call S5 T7.out.bel
    obtain ⟨x0, x1, x2, x3, x4⟩ := St.cells5 S7 2 rfl
    obtain ⟨kb, ka, kk, rfl, ⟨c0, c1, c2, c3, c4⟩, HK⟩ := kidsAt_get (i := k) S7.out.tab hy
    obtain ⟨py, cy, rfl⟩ := HK.shape
    have HC : Hid (Calls Tryz.prog 82 #[exA y (.slice py y.kids.length cy), .int .i64 0] Wd fun e w' => e = .returned (.agg #[.string (rtAt 0 y.op (rtX y)).1, .bool (rtAt 0 y.op (rtX y)).2]) /\ Turned (fun _ => False) Wd w') := Lib.hid (HAT.out y (List.mem_of_getElem? hy) 0 _ Wd HK)
    generalize rtAt 0 y.op (rtX y) = t at HC HST
    unfold exA at HC
    clear S7 hy HK
    go_upto_region 13 with (first | (go_at_call 82; refine HC.out.mono ?_; rintro e W8 ⟨rfl, ht⟩; have T8 := Lib.hid (T7.out.call ht); clear ht x0 x1 x2 x3 x4 c0 c1 c2 c3 c4) | (at_builtin; refine wpList_push T8 t (by first | omega | (rw [List.length_append]; show L.length + 1 <= _; omega)) rfl _ _ rfl rfl rfl ?_; intro g2 cap2 W9 T9))
    go_wp2_with fail
    go_roundw
    case rel => exact ⟨k + 1, _, rfl, by go_num, by omega, by rw [<- HST.out]; first | exact T9 | (rw [List.length_append] at T9; exact T9)⟩
    case measure => simp [intOf]; omega
  ·obtain rfl : k = x.kids.length := by omega
   have HF : Hid (([(x.s, badName x.s), tx ⟨#[40]⟩] ++ rtCall 0 ((rtXs x.kids).take x.kids.length)) ++ [tx ⟨#[41]⟩] = ((x.s, badName x.s) :: tx ⟨#[40]⟩ :: (rtCall 0 (rtXs x.kids) ++ [tx ⟨#[41]⟩]))) := Lib.hid (by
    rw [List.take_of_length_le (by omega)]; rfl)
   have HSZ : Hid (∀ q ∈ ([(x.s, badName x.s), tx ⟨#[40]⟩] ++ rtCall 0 ((rtXs x.kids).take x.kids.length)) ++ [tx ⟨#[41]⟩], q.1.size <= 1000000000) := Lib.hid fun q hq => by
    rw [HF.out, List.mem_cons, List.mem_cons, List.mem_append, List.mem_singleton] at hq
    rcases hq with rfl | rfl | hq | rfl
    ·have := HSN.out; show x.s.size <= _; omega
    ·simp [tx, ByteArray.size]
    ·rcases rtCall_mem _ _ hq with rfl | ⟨p, hp, rfl⟩
     ·simp [tx, ByteArray.size]
     ·rw [rtXs_map] at hp
      obtain ⟨y, hy, rfl⟩ := List.mem_map.1 hp
      exact HZ.out y hy
    ·simp [tx, ByteArray.size]
   have HR2 := Lib.hid (HRT.out.trans (congrArg joinT HF.out.symm))
   clear HF hXl S6 HRT
   generalize [(x.s, badName x.s), tx ⟨#[40]⟩] ++ rtCall 0 ((rtXs x.kids).take x.kids.length) = L at T6 hLl HSZ HR2
   have hkk : ¬ (x.kids.length : Int) < (x.kids.length : Int) := by omega
   go_wp2_with (first | (go_at_call 43; refine HJ.out.mono ?_; rintro e WA ⟨rfl, ht⟩; have TA := Lib.hid (T9.out.call ht); clear ht HJ T9; have S9 := St.call S5 TA.out.bel; have hb2 := S9.out.lays.get 1 rfl; obtain ⟨z0, z1⟩ := cellsTx hb2; have fq := free_of_box hb2; have HB2 := Lib.hid hb2; clear hb2) | (go_at_call 79; refine (HSG.out _ _).mono ?_; rintro e Wc ⟨rfl, ht⟩; have Tc := Lib.hid (T6.out.call ht); clear ht x0 x1 x2 x3 x4) | (at_builtin; refine wpList_push Tc (tx ⟨#[41]⟩) (by omega) rfl _ _ rfl rfl rfl ?_; intro g1 cap1 Wd T9; have HJ : Hid (Calls Tryz.prog 43 #[.slice (some ⟨g1, 0, none⟩) (L.length + 1) cap1] Wd fun e w' => e = .returned (.agg #[.string (joinT (L ++ [tx ⟨#[41]⟩])).1, .bool (joinT (L ++ [tx ⟨#[41]⟩])).2]) /\ Turned (fun _ => False) Wd w') := Lib.hid (by have h := tjoin_any (L ++ [tx ⟨#[41]⟩]) (some ⟨g1, 0, none⟩) cap1 Wd T9.out.at (by rw [List.length_append]; show L.length + 1 <= _; omega) HSZ.out; rw [List.length_append] at h; exact h)))
   refine bodyPost_ret (results_tx rfl _ _ b2 _ _ rfl (tx_set HB2.out)) rfl ?_
   rw [HR2.out]
   exact ⟨rfl, ((Turned.of_new (C := fun b => w.heap.size <= b) S9.out.bel).trans ((tx_turned _ _ _ _).mono fun b hb => by have := HGE.out; omega)).strip⟩
mutual
def SzX : Ex -> Prop
 | .mk op n s ks _ => (-9223372036854775808 <= n /\ n <= 9223372036854775807) /\ s.size <= 100000 /\ ks.length <= 100000 /\ (rtH op n s (rtXs ks)).1.size <= 1000000000 /\ (∀ need, (rtAt need op (rtH op n s (rtXs ks))).1.size <= 1000000000) /\ SzXs ks
def SzXs : List Ex -> Prop
 | [] => True
 | x :: xs => SzX x /\ SzXs xs
end
theorem SzX_of {x : Ex} (h : SzX x) : (-9223372036854775808 <= x.n /\ x.n <= 9223372036854775807) /\ x.s.size <= 100000 /\ x.kids.length <= 100000 /\ (rtX x).1.size <= 1000000000 /\ (∀ need, (rtAt need x.op (rtX x)).1.size <= 1000000000) /\ SzXs x.kids := by
 obtain ⟨op, n, s, ks, at_⟩ := x
 rw [SzX] at h
 rw [rtX]
 exact h
theorem SzXs_mem : ∀ {l : List Ex} {x : Ex}, SzXs l -> x ∈ l -> SzX x
 | y :: l, x, h, hx => by
  rw [SzXs] at h
  rcases List.mem_cons.1 hx with rfl | hx
  ·exact h.1
  ·exact SzXs_mem h.2 hx
theorem op_row {op : Int} (h1 : 7 <= op) (h2 : op <= 19) : ∃ (k : Nat) (r : ByteArray × Int × Nat), opRows[k]? = some r /\ op = r.2.1 := by
 rcases (by omega : op = 7 \/ op = 8 \/ op = 9 \/ op = 10 \/ op = 11 \/ op = 12 \/ op = 13 \/ op = 14 \/ op = 15 \/ op = 16 \/ op = 17 \/ op = 18 \/ op = 19) with rfl | rfl | rfl | rfl | rfl | rfl | rfl | rfl | rfl | rfl | rfl | rfl | rfl
 ·exact ⟨0, _, rfl, rfl⟩
 ·exact ⟨1, _, rfl, rfl⟩
 ·exact ⟨2, _, rfl, rfl⟩
 ·exact ⟨3, _, rfl, rfl⟩
 ·exact ⟨4, _, rfl, rfl⟩
 ·exact ⟨5, _, rfl, rfl⟩
 ·exact ⟨6, _, rfl, rfl⟩
 ·exact ⟨7, _, rfl, rfl⟩
 ·exact ⟨8, _, rfl, rfl⟩
 ·exact ⟨9, _, rfl, rfl⟩
 ·exact ⟨10, _, rfl, rfl⟩
 ·exact ⟨11, _, rfl, rfl⟩
 ·exact ⟨12, _, rfl, rfl⟩
theorem show_any : ∀ (m : Nat) (x : Ex), SizeOf.sizeOf x <= m -> SzX x -> ∀ (a : Value) (w : World), KidsAt w (fun _ => True) x.kids a -> Calls Tryz.prog 44 #[exA x a] w (ShowR x w)
 | 0, x, hm => by cases x; simp at hm
 | m + 1, x, hm => by
  intro hs a w hk
  obtain ⟨hn, hss, hkl, -, -, hks⟩ := SzX_of hs
  have hlt : ∀ y ∈ x.kids, SizeOf.sizeOf y <= m := fun y hy => by
   have h1 := List.sizeOf_lt_of_mem hy
   obtain ⟨p, n, s, ks, at_⟩ := x
   simp only [Ex.mk.sizeOf_spec] at hm
   simp only [Ex.kids] at h1
   omega
  have HA : AtHyp x := fun y hy need b W hb => at_of y (rtX y) (SzX_of (SzXs_mem hks hy)).2.2.2.1 need b W hb fun W hW => show_any m y (hlt y hy) (SzXs_mem hks hy) b W hW
  have HZ : ∀ y ∈ x.kids, ∀ need, (rtAt need y.op (rtX y)).1.size <= 1000000000 := fun y hy => (SzX_of (SzXs_mem hks hy)).2.2.2.2.1
  by_cases h1 : x.op = 1
  ·exact show_1 x h1 hn a w hk
  by_cases h2 : x.op = 2
  ·exact show_2 x h2 hss a w hk
  by_cases h3 : x.op = 3
  ·exact show_3 x h3 hss a w hk
  by_cases h4 : x.op = 4
  ·exact show_call x h4 hss hkl HA (fun y hy => HZ y hy 0) a w hk
  by_cases hu : (x.op = 5 \/ x.op = 6) /\ x.kids.length = 1
  ·obtain ⟨hop, hl⟩ := hu
   obtain ⟨y0, hy⟩ := List.length_eq_one_iff.1 hl
   rcases hop with hop | hop
   ·exact show_5 x hop y0 hy HA (HZ y0 (by rw [hy]; simp)) a w hk
   ·exact show_6 x hop y0 hy HA (HZ y0 (by rw [hy]; simp)) a w hk
  by_cases hi : x.op = 20 /\ x.kids.length = 3
  ·obtain ⟨hop, hl⟩ := hi
   obtain ⟨y0, y1, y2, hy⟩ := list_three hl
   exact show_if x hop y0 y1 y2 hy HA (HZ y0 (by rw [hy]; simp)) (HZ y1 (by rw [hy]; simp)) (HZ y2 (by rw [hy]; simp)) a w hk
  by_cases hb : 7 <= x.op /\ x.op <= 19 /\ x.kids.length = 2
  ·obtain ⟨ho1, ho2, hl⟩ := hb
   obtain ⟨y0, y1, hy⟩ := list_two hl
   obtain ⟨k, r, hr, hop⟩ := op_row ho1 ho2
   by_cases h44 : r.2.2 = 4
   ·exact show_cmp x k r hr h44 hop y0 y1 hy HA (HZ y0 (by rw [hy]; simp)) (HZ y1 (by rw [hy]; simp)) a w hk
   ·exact show_bin x k r hr h44 hop y0 y1 hy HA (HZ y0 (by rw [hy]; simp)) (HZ y1 (by rw [hy]; simp)) a w hk
  exact show_bad x h1 h2 h3 h4 hu hi hb a w hk
def rtArg (a : Ar) : List (ByteArray × Bool) :=
 if a.kind = 1 then [(a.s, badName a.s)]
 else if a.kind = 2 then
  if a.n < 0 then [tx ⟨#[45]⟩, (textQ [nuT (IntKind.i64.wrap (-(a.n + 1) + 1))], badNum (IntKind.i64.wrap (-(a.n + 1) + 1)))] ++ (if a.n < -999999999999999 then [(noB, true)] else [])
  else [(textQ [nuT a.n], badNum a.n)]
 else if a.kind = 3 then [(textQ [txT a.s], badText a.s)]
 else if a.kind = 4 then [tx ⟨#[45, 62]⟩]
 else if a.kind = 5 then [tx ⟨#[40]⟩, rtX a.e, tx ⟨#[41]⟩]
 else [(noB, true)]
mutual
def rtF : Fm -> ByteArray × Bool
 | .mk w zs fs _ => joinT (((w, badName w) :: zs.flatMap rtArg) ++ (if fs.length = 0 then [tx ⟨#[59]⟩] else tx ⟨#[123]⟩ :: (rtFs fs ++ [tx ⟨#[125]⟩])))
def rtFs : List Fm -> List (ByteArray × Bool)
 | [] => []
 | f :: fs => rtF f :: rtFs fs
end
theorem rtF_eq (f : Fm) : rtF f = joinT (((f.word, badName f.word) :: f.args.flatMap rtArg) ++ (if f.body.length = 0 then [tx ⟨#[59]⟩] else tx ⟨#[123]⟩ :: (rtFs f.body ++ [tx ⟨#[125]⟩]))) := by cases f; rw [rtF]; rfl
theorem rtFs_map : ∀ l : List Fm, rtFs l = l.map rtF
 | [] => rfl
 | x :: l => by rw [rtFs, rtFs_map l]; rfl
theorem rtArg_len (a : Ar) : (rtArg a).length <= 3 := by
 unfold rtArg
 repeat' split
 all_goals simp
theorem rtArgs_len (l : List Ar) : (l.flatMap rtArg).length <= 3 * l.length := by
 induction l with
 | nil => simp
 | cons a l ih =>
  rw [List.flatMap_cons, List.length_append, List.length_cons]
  have := rtArg_len a
  omega
section
variable {M W W' : World} {v : Value} {l : List (ByteArray × Bool)}
theorem txV_len : ∀ qs : List (ByteArray × Bool), (qs.flatMap txV).length = qs.length * 2
 | [] => rfl
 | q :: qs => by rw [List.flatMap_cons, List.length_append, txV_len qs, List.length_cons]; show 2 + _ = _; omega
theorem txV_one : ∀ (qs : List (ByteArray × Bool)) (u : Value), u ∈ qs.flatMap txV -> u.oneCell' = true
 | q :: qs, u, h => by
  rw [List.flatMap_cons, List.mem_append] at h
  rcases h with h | h
  ·simp [txV] at h
   rcases h with rfl | rfl <;> rfl
  ·exact txV_one qs u h
theorem TG.grown (h : Hid (TG M W v l)) {o : Obj} {W4 : World} {v' : Value} {qs : List (ByteArray × Bool)} (hgrow : (W.alloc o).grownBy W4 v.ownBlock) (hown : W4.ownsRow M.heap.size 96 2 v' (l.length + qs.length) (l.flatMap txV ++ qs.flatMap txV)) : TG M W4 v' (l ++ qs) := by
 have hb := h.out.bel.size
 refine ⟨((h.out.bel.alloc hb _).grown hgrow (by simp; omega) fun k hk => (ownsRow_block h.out.own k hk).1), ?_⟩
 rw [List.length_append, List.flatMap_append]
 exact hown
theorem wpList_pushL (h : Hid (TG M W v l)) (qs : List (ByteArray × Bool)) (cs : Array Value) (hcs : cs.toList = qs.flatMap txV) (n : Nat) (hn : n = qs.length) (hn0 : 0 < n) (hl : l.length + n <= 1000000) {ops : Array Oper} {rest : List Oper} {o : Oper} {a : Act} {Q : Exit -> Act -> World -> Prop}
  (hg : o.guard = none) (s x : Operand) (hop : o.op = Op.call { callee := Callee.builtin Builtin.append, args := #[s, x], argTypes := #[94, 94] }) (hs : a.eval s = v) (c : Nat) (hx : a.eval x = .slice (some ⟨W.heap.size, 0, none⟩) n c)
  (hK : ∀ g cap W4, Hid (TG M W4 (.slice (some ⟨g, 0, none⟩) (l.length + n) cap) (l ++ qs)) -> (W.alloc (.cells cs 96)).grownBy W4 v.ownBlock -> wpList Tryz.prog ops Q rest (a.put o.dst (.slice (some ⟨g, 0, none⟩) (l.length + n) cap)) W4) :
  wpList Tryz.prog ops Q (o :: rest) a (W.alloc (.cells cs 96)) := by
 obtain ⟨i0, hif, hz0, hz1, hz2⟩ := info_parts infoText
 have hb := h.out.bel.size
 subst hn
 refine wpList_append_exact _ hg s x 94 hop M.heap.size 96 i0 (.agg #[.string ⟨#[]⟩, .bool false]) 2 24 Tryz.underlying94 hif hz0 hz1 hz2 rfl (by decide) v l.length (l.flatMap txV) hs (h.out.own.alloc _) ⟨W.heap.size, 0, none⟩ qs.length c (qs.flatMap txV) hx (txV_len qs) (fun j u hj => by have := cells_list W (qs.flatMap txV) 96 j u hj; rw [<- hcs] at this; simpa using this) (txV_one qs) (by unfold maxLen; omega) (by omega) (by simp; omega) ?_
 intro v' w4 hown' hgrow hex
 obtain ⟨k, hk⟩ : ∃ k, l.length + qs.length = k + 1 := ⟨l.length + qs.length - 1, by omega⟩
 have hT := TG.grown h hgrow hown'
 rw [hk] at hown'
 obtain ⟨g, cap, rfl⟩ := ownsRow_succ hown'
 have := hK g cap w4 (by rw [hk]; exact Lib.hid hT) hgrow
 rw [hk] at this
 exact this
end
def ShowF (f : Fm) (w : World) (e : Ending) (w' : World) : Prop := e = .returned (.agg #[.string (rtF f).1, .bool (rtF f).2]) /\ Turned (fun _ => False) w w'
section
variable {M W W' : World} {v : Value} {l : List (ByteArray × Bool)}
theorem step_pushL (h : Hid (TG M W v l)) (qs : List (ByteArray × Bool)) (cs : Array Value) (hcs : cs.toList = qs.flatMap txV) (n : Nat) (hn : n = qs.length) (hn0 : 0 < n) (hl : l.length + n <= 1000000) {ops : Array Oper} {o : Oper} {a : Act} {Q : Exit -> Act -> World -> Prop} {K : Act -> World -> Prop} {E : Prop}
  (hg : o.guard = none) (s x : Operand) (hop : o.op = Op.call { callee := Callee.builtin Builtin.append, args := #[s, x], argTypes := #[94, 94] }) (hs : a.eval s = v) (c : Nat) (hx : a.eval x = .slice (some ⟨W.heap.size, 0, none⟩) n c)
  (hK : ∀ g cap W4, Hid (TG M W4 (.slice (some ⟨g, 0, none⟩) (l.length + n) cap) (l ++ qs)) -> (W.alloc (.cells cs 96)).grownBy W4 v.ownBlock -> K (a.put o.dst (.slice (some ⟨g, 0, none⟩) (l.length + n) cap)) W4) :
  if Region.wanted o (yielded ops a.tmps) = true then Oper.wp Tryz.prog o a (W.alloc (.cells cs 96)) K Q else E := by
 rw [if_pos (by simp [Region.wanted, hg])]
 obtain ⟨i0, hif, hz0, hz1, hz2⟩ := info_parts infoText
 have hb := h.out.bel.size
 subst hn
 obtain ⟨v', w4, hrun, hown', hgrow, hex⟩ := run_append_exact (P := Tryz.prog) (W.alloc (.cells cs 96)) M.heap.size 94 o.type 96 i0 (.agg #[.string ⟨#[]⟩, .bool false]) 2 24 Tryz.underlying94 hif hz0 hz1 hz2 rfl (by decide) v l.length (l.flatMap txV) (h.out.own.alloc _) ⟨W.heap.size, 0, none⟩ qs.length c (qs.flatMap txV) (txV_len qs) (fun j u hj => by have := cells_list W (qs.flatMap txV) 96 j u hj; rw [<- hcs] at this; simpa using this) (txV_one qs) (by unfold maxLen; omega) (by omega) (by simp; omega)
 unfold Oper.wp
 simp [execOp, hop, resolve, invoke, builtin, hs, hx, hrun, Result.andThen]
 obtain ⟨k, hk⟩ : ∃ k, l.length + qs.length = k + 1 := ⟨l.length + qs.length - 1, by omega⟩
 have hT := TG.grown h hgrow hown'
 rw [hk] at hown'
 obtain ⟨g, cap, rfl⟩ := ownsRow_succ hown'
 have := hK g cap w4 (by rw [hk]; exact Lib.hid hT) hgrow
 rw [hk] at this
 exact this
end
theorem St.cells9 {T : World -> Prop} {w W : World} {L : List (Nat × Obj)} (h : Hid (St T w W L)) (i : Nat) {b t : Nat} {a0 a1 a2 a3 a4 a5 a6 a7 a8 : Value} (hi : L[i]? = some (b, .cells #[a0, a1, a2, a3, a4, a5, a6, a7, a8] t (0, 0))) : W.cell? ⟨b, 0, none⟩ = some a0 /\ W.cell? ⟨b, 1, none⟩ = some a1 /\ W.cell? ⟨b, 2, none⟩ = some a2 /\ W.cell? ⟨b, 3, none⟩ = some a3 /\ W.cell? ⟨b, 4, none⟩ = some a4 /\ W.cell? ⟨b, 5, none⟩ = some a5 /\ W.cell? ⟨b, 6, none⟩ = some a6 /\ W.cell? ⟨b, 7, none⟩ = some a7 /\ W.cell? ⟨b, 8, none⟩ = some a8 := by
 simp [World.cell?, h.out.lays.get i hi]
theorem sform_step (f : Fm) (hw : f.word.size <= 100000) (hal : f.args.length <= 100000) (hbl : f.body.length <= 100000) (hA : ∀ a ∈ f.args, (-9223372036854775808 <= a.n /\ a.n <= 9223372036854775807) /\ a.s.size <= 100000 /\ SzX a.e /\ ∀ q ∈ rtArg a, q.1.size <= 1000000000) (hB : ∀ g ∈ f.body, (rtF g).1.size <= 1000000000) (pa pb : Option Addr) (ca cb : Nat) (w : World) (hka : ArgsAt w (fun _ => True) f.args (.slice pa f.args.length ca)) (hkb : FormsAt w (fun _ => True) f.body (.slice pb f.body.length cb))
  (HF : ∀ g ∈ f.body, ∀ (a b : Value) (W : World), ArgsAt W (fun _ => True) g.args a -> FormsAt W (fun _ => True) g.body b -> Calls Tryz.prog 42 #[fmA g a b] W (ShowF g W)) : Calls Tryz.prog 42 #[fmA f (.slice pa f.args.length ca) (.slice pb f.body.length cb)] w (ShowF f w) := by
 have HRT := Lib.hid (rtF_eq f)
 have HNM := Lib.hid (fun W => txname_any f.word hw W)
 have HSG := Lib.hid (fun (s : ByteArray) (W : World) => sign1_any s W)
 have HAS := Lib.hid hA
 have HBS := Lib.hid hB
 have HFF := Lib.hid HF
 have S0 := St.start (T := fun W => ArgsAt W (fun _ => True) f.args (.slice pa f.args.length ca) /\ FormsAt W (fun _ => True) f.body (.slice pb f.body.length cb)) ⟨hka, hkb⟩ (fun A B h hb => ⟨h.1.all (Turned.of_new hb), h.2.all (Turned.of_new hb)⟩)
 have HAL := Lib.hid hal
 have HBL := Lib.hid hbl
 have HW := Lib.hid hw
 clear hw hal hbl hA hB hka hkb HF
 unfold fmA ShowF
 go_enter Tryz.func42, Tryz.ntmps42
 go_upto_region 1 with fail
 obtain ⟨W1, b1, hW, hB, hbl, S1⟩ := St.box S0 (.cells #[.string f.word, .slice pa f.args.length ca, .slice pb f.body.length cb, .int .i64 f.at_] 45)
 have hz : W1.heap.size = b1 + 1 := by rw [hW, hB]; simp
 have hb1 : b1 = w.heap.size := hB
 rw [<- hW, <- hB]
 clear hW hB hbl S0
 obtain ⟨W2, b2, hW, hB, hbl, S2⟩ := St.box S1 txBox
 rw [hz] at hB
 have HGE : Hid (w.heap.size <= b2) := Lib.hid (by omega)
 rw [<- hW, <- hB]
 clear hW hB hbl S1 hz hb1
 obtain ⟨x0, x1, x2, x3⟩ := St.cells4 S2 1 rfl
 go_upto_region 2 with (go_at_call 78; refine (HNM.out _).mono ?_; rintro e U1 ⟨rfl, ht⟩; have S5 := St.call S2 (below_turned ht); clear ht x0 x1 x2 x3)
 have T5 : Hid (TG U1 (U1.alloc (.cells #[.string f.word, .bool (badName f.word)] 96)) (.slice (some ⟨U1.heap.size, 0, none⟩) 1 1) ([(f.word, badName f.word)] ++ (f.args.take 0).flatMap rtArg)) := Lib.hid (TG.new U1 [(f.word, badName f.word)] _ rfl (by simp))
 clear S2
 go_upto_region 3 with fail
 go_loopw [3, 4] (fun u i wr => ∃ (k : Nat) (v : Value), v = u /\ i = (.int .i64 k) /\ k <= f.args.length /\ Hid (TG U1 wr v ([(f.word, badName f.word)] ++ (f.args.take k).flatMap rtArg))) (fun _ i _ => f.args.length - (intOf i).toNat)
 case atStart => exact ⟨0, _, rfl, rfl, by omega, T5⟩
 case round =>
  clear T5
  obtain ⟨k, v, rfl, rfl, hk, T6⟩ := hrel
  have S6 := St.call S5 T6.out.bel
  obtain ⟨x0, x1, x2, x3⟩ := St.cells4 S6 1 rfl
  have hal := HAL.out
  have hLl : ([(f.word, badName f.word)] ++ (f.args.take k).flatMap rtArg).length <= 400000 := by
   have := rtArgs_len (f.args.take k)
   rw [List.length_take] at this
   simp only [List.length_append, List.length_cons, List.length_nil]
   omega
  by_cases hlt : k < f.args.length
  ·obtain ⟨y, hy⟩ := some_of_lt hlt
   have hkk : (k : Int) < (f.args.length : Int) := by omega
   have HST : Hid (([(f.word, badName f.word)] ++ (f.args.take k).flatMap rtArg) ++ rtArg y = [(f.word, badName f.word)] ++ (f.args.take (k + 1)).flatMap rtArg) := Lib.hid (by
    rw [List.take_add_one, hy, Option.toList_some, List.flatMap_append, List.append_assoc]; simp)
   generalize [(f.word, badName f.word)] ++ (f.args.take k).flatMap rtArg = L at T6 hLl HST
   obtain ⟨ab, aa, ak, rfl, ⟨a0, a1, a2, a3, a4, a5, a6, a7, a8⟩, HK⟩ := argsAt_get (i := k) S6.out.tab.1 hy
   obtain ⟨pk, ck, rfl⟩ := HK.shape
   obtain ⟨hn, hs, hx, -⟩ := HAS.out y (List.mem_of_getElem? hy)
   clear hy
   go_upto_region 6 with fail
   obtain ⟨Wb, b5, hW, hB, hbl, S7⟩ := St.box S6 (.cells #[.int .i64 y.kind, .int .i64 y.n, .string y.s, .int .i64 y.e.op, .int .i64 y.e.n, .string y.e.s, .slice pk y.e.kids.length ck, .int .i64 y.e.at_, .int .i64 y.at_] 48)
   have HOB : Hid (∀ g, v.ownBlock = some g -> g < b5) := Lib.hid fun g hg => by rw [hB]; exact (ownsRow_block T6.out.own g hg).2
   have T7 : Hid (TG U1 Wb v L) := Lib.hid (T6.out.call (by rw [hW]; exact (Turned.refl _ _).alloc _))
   have HKB : Hid (KidsAt Wb (fun _ => True) y.e.kids (.slice pk y.e.kids.length ck)) := Lib.hid (HK.all (by rw [hW]; exact (Turned.refl _ _).alloc _))
   rw [<- hW, <- hB]
   clear hW hB hbl S6 T6 HK x0 x1 x2 x3 a0 a1 a2 a3 a4 a5 a6 a7 a8
   obtain ⟨c0, c1, c2, c3, c4, c5, c6, c7, c8⟩ := St.cells9 S7 0 rfl
   by_cases h1 : y.kind = 1
   ·skip
    have HQ : Hid (rtArg y = [(y.s, badName y.s)]) := Lib.hid (by unfold rtArg; rw [if_pos h1])
    have e1 : (y.kind == 1) = true := by simpa using h1
    clear h1
    go_upto_region 4 with (first | (go_at_call 78; refine (txname_any y.s hs _).mono ?_; rintro e W8 ⟨rfl, ht⟩; have T8 := Lib.hid (T7.out.call ht); clear ht c0 c1 c2 c3 c4 c5 c6 c7 c8) | (at_builtin; refine wpList_pushL T8 [(y.s, badName y.s)] _ rfl 1 rfl (by decide) (by omega) rfl _ _ rfl rfl 1 rfl ?_; intro g2 cap2 W9 T9 _))
    go_wp2_with fail
    go_roundw
    case rel => exact ⟨k + 1, _, rfl, by go_num, by omega, by rw [<- HST.out, HQ.out]; exact T9⟩
    case measure => simp [intOf]; omega
   by_cases h2 : y.kind = 2
   ·skip
    have e1 : (y.kind == 1) = false := by simpa using h1
    have e2 : (y.kind == 2) = true := by simpa using h2
    have HK2 := Lib.hid h2
    by_cases hng : y.n < 0
    ·obtain ⟨p, hp⟩ : ∃ p, p = y.n + 1 := ⟨_, rfl⟩
     obtain ⟨q, hq⟩ : ∃ q, q = -p := ⟨_, rfl⟩
     obtain ⟨nn, hnn⟩ : ∃ nn, nn = IntKind.i64.wrap (q + 1) := ⟨_, rfl⟩
     have w1 : IntKind.i64.wrap (y.n + 1) = p := by rw [hp]; exact IntWalk.i64_in _ (by omega)
     have w2 : IntKind.i64.wrap (-p) = q := by rw [hq]; exact IntWalk.i64_in _ (by omega)
     have w3 : IntKind.i64.wrap (q + 1) = nn := hnn.symm
     have hnr : -9223372036854775808 <= nn /\ nn <= 9223372036854775807 := by
      by_cases hbig : q = 9223372036854775807
      ·rw [hnn, hbig]; decide
      ·rw [hnn, IntWalk.i64_in _ (by omega)]; omega
     have HRG : Hid (rtArg y = [tx ⟨#[45]⟩, (textQ [nuT nn], badNum nn)] ++ (if y.n < -999999999999999 then [(noB, true)] else [])) := Lib.hid (by unfold rtArg; rw [if_neg h1, if_pos h2, if_pos hng, hnn, hq, hp])
     have HNN := Lib.hid (fun W => txnum_any nn hnr W)
     have HC : Hid (∀ W, Turned (fun _ => False) Wb W -> W.cell? ⟨b5, 1, none⟩ = some (.int .i64 y.n)) := Lib.hid fun W ht => cell_turned ht id c1
     clear h1 h2 hp hq hnn hnr
     go_upto_region 12 with fail
     clear c0 c1 c2 c3 c4 c5 c6 c7 c8
     have B0 : Hid (Turned (fun _ => False) Wb Wb.drew) := Lib.hid (Turned.of_new (Below.drew (Below.refl Wb.heap.size Wb)))
     go_region_held3 (fun W => W.cell? ⟨b5, 1, none⟩ = some (.int .i64 y.n))
      (first | exact HG.out | exact HC.out _ B0.out | exact HC.out _ B1.out | exact HC.out _ B2.out | exact HC.out _ (B2.out.alloc _) | go_keep)
      (first | (have hq := B2; clear hq; refine step_pushL (Lib.hid (T7.out.call B2.out)) [tx ⟨#[45]⟩, (textQ [nuT nn], badNum nn)] _ rfl 2 rfl (by decide) (by omega) rfl _ _ rfl rfl 2 rfl ?_; intro g2 cap2 W9 T9 hgr; have HG := Lib.hid (hgr.cell (HC.out _ (B2.out.alloc _)) (fun he => Nat.lt_irrefl _ (HOB.out b5 he.symm))); clear hgr) | (have hq := B1; clear hq; go_at_call 80; refine (HNN.out _).mono ?_; rintro e U3 ⟨rfl, ht⟩; have B2 := Lib.hid (B1.out.trans ht); clear ht) | (have hq := B0; clear hq; go_at_call 79; refine (HSG.out _ _).mono ?_; rintro e U2 ⟨rfl, ht⟩; have B1 := Lib.hid (B0.out.trans ht); clear ht))
     have c1 := HG.out
     clear HG
     by_cases hlo : y.n < -999999999999999
     ·have HQ : Hid (rtArg y = [tx ⟨#[45]⟩, (textQ [nuT nn], badNum nn)] ++ [(noB, true)]) := Lib.hid (by rw [HRG.out, if_pos hlo])
      go_upto_region 4 with (at_builtin; refine wpList_pushL T9 [(noB, true)] _ rfl 1 rfl (by decide) (by simp; omega) rfl _ _ rfl rfl 1 rfl ?_; intro g3 cap3 W10 T10 _)
      go_wp2_with fail
      go_roundw
      case rel => exact ⟨k + 1, _, rfl, by go_num, by omega, by rw [<- HST.out, HQ.out, <- List.append_assoc]; first | exact T10 | (rw [List.length_append] at T10; exact T10)⟩
      case measure => simp [intOf]; omega
     ·have HQ : Hid (rtArg y = [tx ⟨#[45]⟩, (textQ [nuT nn], badNum nn)]) := Lib.hid (by rw [HRG.out, if_neg hlo, List.append_nil])
      go_upto_region 4 with fail
      go_wp2_with fail
      go_roundw
      case rel => exact ⟨k + 1, _, rfl, by go_num, by omega, by rw [<- HST.out, HQ.out]; first | exact T9 | (rw [List.length_append] at T9; exact T9)⟩
      case measure => simp [intOf]; omega
    ·have HQ : Hid (rtArg y = [(textQ [nuT y.n], badNum y.n)]) := Lib.hid (by unfold rtArg; rw [if_neg h1, if_pos h2, if_neg hng])
     clear h1 h2
     go_upto_region 4 with (first | (go_at_call 80; refine (txnum_any y.n hn _).mono ?_; rintro e W8 ⟨rfl, ht⟩; have T8 := Lib.hid (T7.out.call ht); clear ht c0 c1 c2 c3 c4 c5 c6 c7 c8) | (at_builtin; refine wpList_pushL T8 [(textQ [nuT y.n], badNum y.n)] _ rfl 1 rfl (by decide) (by omega) rfl _ _ rfl rfl 1 rfl ?_; intro g2 cap2 W9 T9 _))
     go_wp2_with fail
     go_roundw
     case rel => exact ⟨k + 1, _, rfl, by go_num, by omega, by rw [<- HST.out, HQ.out]; first | exact T9 | (rw [List.length_append] at T9; exact T9)⟩
     case measure => simp [intOf]; omega
   by_cases h3 : y.kind = 3
   ·skip
    have HQ : Hid (rtArg y = [(textQ [txT y.s], badText y.s)]) := Lib.hid (by unfold rtArg; rw [if_neg h1, if_neg h2, if_pos h3])
    have e1 : (y.kind == 1) = false := by simpa using h1
    have e2 : (y.kind == 2) = false := by simpa using h2
    have e3 : (y.kind == 3) = true := by simpa using h3
    clear h1 h2 h3
    go_upto_region 4 with (first | (go_at_call 81; refine (txtext_any y.s hs _).mono ?_; rintro e W8 ⟨rfl, ht⟩; have T8 := Lib.hid (T7.out.call ht); clear ht c0 c1 c2 c3 c4 c5 c6 c7 c8) | (at_builtin; refine wpList_pushL T8 [(textQ [txT y.s], badText y.s)] _ rfl 1 rfl (by decide) (by omega) rfl _ _ rfl rfl 1 rfl ?_; intro g2 cap2 W9 T9 _))
    go_wp2_with fail
    go_roundw
    case rel => exact ⟨k + 1, _, rfl, by go_num, by omega, by rw [<- HST.out, HQ.out]; exact T9⟩
    case measure => simp [intOf]; omega
   by_cases h4 : y.kind = 4
   ·skip
    have HQ : Hid (rtArg y = [tx ⟨#[45, 62]⟩]) := Lib.hid (by unfold rtArg; rw [if_neg h1, if_neg h2, if_neg h3, if_pos h4])
    have e1 : (y.kind == 1) = false := by simpa using h1
    have e2 : (y.kind == 2) = false := by simpa using h2
    have e3 : (y.kind == 3) = false := by simpa using h3
    have e4 : (y.kind == 4) = true := by simpa using h4
    clear h1 h2 h3 h4
    go_upto_region 4 with (first | (go_at_call 79; refine (HSG.out _ _).mono ?_; rintro e W8 ⟨rfl, ht⟩; have T8 := Lib.hid (T7.out.call ht); clear ht c0 c1 c2 c3 c4 c5 c6 c7 c8) | (at_builtin; refine wpList_pushL T8 [tx ⟨#[45, 62]⟩] _ rfl 1 rfl (by decide) (by omega) rfl _ _ rfl rfl 1 rfl ?_; intro g2 cap2 W9 T9 _))
    go_wp2_with fail
    go_roundw
    case rel => exact ⟨k + 1, _, rfl, by go_num, by omega, by rw [<- HST.out, HQ.out]; exact T9⟩
    case measure => simp [intOf]; omega
   by_cases h5 : y.kind = 5
   ·skip
    have HQ : Hid (rtArg y = [tx ⟨#[40]⟩, rtX y.e, tx ⟨#[41]⟩]) := Lib.hid (by unfold rtArg; rw [if_neg h1, if_neg h2, if_neg h3, if_neg h4, if_pos h5])
    have e1 : (y.kind == 1) = false := by simpa using h1
    have e2 : (y.kind == 2) = false := by simpa using h2
    have e3 : (y.kind == 3) = false := by simpa using h3
    have e4 : (y.kind == 4) = false := by simpa using h4
    have e5 : (y.kind == 5) = true := by simpa using h5
    clear h1 h2 h3 h4 h5
    have HC : Hid (∀ W, Turned (fun _ => False) Wb W -> (W.cell? ⟨b5, 3, none⟩ = some (.int .i64 y.e.op) /\ W.cell? ⟨b5, 4, none⟩ = some (.int .i64 y.e.n) /\ W.cell? ⟨b5, 5, none⟩ = some (.string y.e.s) /\ W.cell? ⟨b5, 6, none⟩ = some (.slice pk y.e.kids.length ck) /\ W.cell? ⟨b5, 7, none⟩ = some (.int .i64 y.e.at_))) := Lib.hid fun W ht => ⟨cell_turned ht id c3, cell_turned ht id c4, cell_turned ht id c5, cell_turned ht id c6, cell_turned ht id c7⟩
    have HCG : Hid (∀ (W W4 : World) (o : Obj), Turned (fun _ => False) Wb W -> (W.alloc o).grownBy W4 v.ownBlock -> (W4.cell? ⟨b5, 3, none⟩ = some (.int .i64 y.e.op) /\ W4.cell? ⟨b5, 4, none⟩ = some (.int .i64 y.e.n) /\ W4.cell? ⟨b5, 5, none⟩ = some (.string y.e.s) /\ W4.cell? ⟨b5, 6, none⟩ = some (.slice pk y.e.kids.length ck) /\ W4.cell? ⟨b5, 7, none⟩ = some (.int .i64 y.e.at_))) := Lib.hid fun W W4 o ht hgr => by
     obtain ⟨q0, q1, q2, q3, q4⟩ := HC.out _ (ht.alloc o)
     have hne : some b5 ≠ v.ownBlock := fun he => Nat.lt_irrefl _ (HOB.out b5 he.symm)
     exact ⟨hgr.cell q0 hne, hgr.cell q1 hne, hgr.cell q2 hne, hgr.cell q3 hne, hgr.cell q4 hne⟩
    have HSH : Hid (∀ W, Turned (fun _ => False) Wb W -> Calls Tryz.prog 44 #[exA y.e (.slice pk y.e.kids.length ck)] W (ShowR y.e W)) := Lib.hid fun W ht => show_any _ y.e (Nat.le_refl _) hx _ W (HKB.out.all ht)
    unfold exA ShowR at HSH
    generalize rtX y.e = t at HSH HQ
    go_upto_region 21 with fail
    clear c0 c1 c2 c3 c4 c5 c6 c7 c8
    have B0 : Hid (Turned (fun _ => False) Wb Wb.drew) := Lib.hid (Turned.of_new (Below.drew (Below.refl Wb.heap.size Wb)))
    go_region_held3 (fun W => W.cell? ⟨b5, 3, none⟩ = some (.int .i64 y.e.op) /\ W.cell? ⟨b5, 4, none⟩ = some (.int .i64 y.e.n) /\ W.cell? ⟨b5, 5, none⟩ = some (.string y.e.s) /\ W.cell? ⟨b5, 6, none⟩ = some (.slice pk y.e.kids.length ck) /\ W.cell? ⟨b5, 7, none⟩ = some (.int .i64 y.e.at_))
     (first | exact HG.out | exact HC.out _ B0.out | exact HC.out _ B1.out | exact HC.out _ B2.out | exact HC.out _ B3.out | exact HC.out _ (B3.out.alloc _) | go_keep)
     (first | (have hq := B3; clear hq; refine step_pushL (Lib.hid (T7.out.call B3.out)) [tx ⟨#[40]⟩, t, tx ⟨#[41]⟩] _ rfl 3 rfl (by decide) (by omega) rfl _ _ rfl rfl 3 rfl ?_; intro g2 cap2 W9 T9 hgr; have HG := Lib.hid (HCG.out _ _ _ B3.out hgr); clear hgr) | (have hq := B2; clear hq; go_at_call 79; refine (HSG.out _ _).mono ?_; rintro e U4 ⟨rfl, ht⟩; have B3 := Lib.hid (B2.out.trans ht); clear ht) | (have hq := B1; clear hq; go_at_call 44; refine (HSH.out _ B1.out).mono ?_; rintro e U3 ⟨rfl, ht⟩; have B2 := Lib.hid (B1.out.trans ht); clear ht) | (have hq := B0; clear hq; go_at_call 79; refine (HSG.out _ _).mono ?_; rintro e U2 ⟨rfl, ht⟩; have B1 := Lib.hid (B0.out.trans ht); clear ht))
    go_upto_region 4 with fail
    go_wp2_with fail
    go_roundw
    case rel => exact ⟨k + 1, _, rfl, by go_num, by omega, by rw [<- HST.out, HQ.out]; first | exact T9 | (rw [List.length_append] at T9; exact T9)⟩
    case measure => simp [intOf]; omega
   ·skip
    have HQ : Hid (rtArg y = [(noB, true)]) := Lib.hid (by unfold rtArg; rw [if_neg h1, if_neg h2, if_neg h3, if_neg h4, if_neg h5])
    have e1 : (y.kind == 1) = false := by simpa using h1
    have e2 : (y.kind == 2) = false := by simpa using h2
    have e3 : (y.kind == 3) = false := by simpa using h3
    have e4 : (y.kind == 4) = false := by simpa using h4
    have e5 : (y.kind == 5) = false := by simpa using h5
    clear h1 h2 h3 h4 h5
    go_upto_region 4 with (first | (at_builtin; refine wpList_pushL T7 [(noB, true)] _ rfl 1 rfl (by decide) (by omega) rfl _ _ rfl rfl 1 rfl ?_; intro g2 cap2 W9 T9 _))
    go_wp2_with fail
    go_roundw
    case rel => exact ⟨k + 1, _, rfl, by go_num, by omega, by rw [<- HST.out, HQ.out]; exact T9⟩
    case measure => simp [intOf]; omega
  ·obtain rfl : k = f.args.length := by omega
   have HLL : Hid ([(f.word, badName f.word)] ++ (f.args.take f.args.length).flatMap rtArg = (f.word, badName f.word) :: f.args.flatMap rtArg) := Lib.hid (by rw [List.take_length]; rfl)
   have HSZ : Hid (∀ q ∈ [(f.word, badName f.word)] ++ (f.args.take f.args.length).flatMap rtArg, q.1.size <= 1000000000) := Lib.hid fun q hq => by
    rw [HLL.out, List.mem_cons, List.mem_flatMap] at hq
    rcases hq with rfl | ⟨a, ha, hq⟩
    ·have := HW.out; show f.word.size <= _; omega
    ·exact (HAS.out a ha).2.2.2 q hq
   have HR2 : Hid (rtF f = joinT (([(f.word, badName f.word)] ++ (f.args.take f.args.length).flatMap rtArg) ++ (if f.body.length = 0 then [tx ⟨#[59]⟩] else tx ⟨#[123]⟩ :: (rtFs f.body ++ [tx ⟨#[125]⟩])))) := Lib.hid (HRT.out.trans (by rw [HLL.out]))
   clear HLL S6 HRT hal
   generalize [(f.word, badName f.word)] ++ (f.args.take f.args.length).flatMap rtArg = L at T6 hLl HSZ HR2
   have hkk : ¬ (f.args.length : Int) < (f.args.length : Int) := by omega
   by_cases hb0 : f.body.length = 0
   ·have e0 : ((f.body.length : Int) == 0) = true := by simp [hb0]
    have HR3 : Hid (rtF f = joinT (L ++ [tx ⟨#[59]⟩])) := Lib.hid (by rw [HR2.out, if_pos hb0])
    have HSZ2 : Hid (∀ q ∈ L ++ [tx ⟨#[59]⟩], q.1.size <= 1000000000) := Lib.hid fun q hq => by
     rcases List.mem_append.1 hq with hq | hq
     ·exact HSZ.out q hq
     ·obtain rfl : q = tx ⟨#[59]⟩ := by simpa using hq
      simp [tx, ByteArray.size]
    clear hb0 HR2 hlt hk
    go_wp2_with (first | (go_at_call 43; refine HJ.out.mono ?_; rintro e WA ⟨rfl, ht⟩; have TA := Lib.hid (T9.out.call ht); clear ht HJ T9; have S9 := St.call S5 TA.out.bel; have hb2 := S9.out.lays.get 0 rfl; obtain ⟨z0, z1⟩ := cellsTx hb2; have fq := free_of_box hb2; have HB2 := Lib.hid hb2; clear hb2) | (go_at_call 79; refine (HSG.out _ _).mono ?_; rintro e Wc ⟨rfl, ht⟩; have Tc := Lib.hid (T6.out.call ht); clear ht x0 x1 x2 x3) | (at_builtin; refine wpList_push Tc (tx ⟨#[59]⟩) (by omega) rfl _ _ rfl rfl rfl ?_; intro g1 cap1 Wd T9; have HJ : Hid (Calls Tryz.prog 43 #[.slice (some ⟨g1, 0, none⟩) (L.length + 1) cap1] Wd fun e w' => e = .returned (.agg #[.string (joinT (L ++ [tx ⟨#[59]⟩])).1, .bool (joinT (L ++ [tx ⟨#[59]⟩])).2]) /\ Turned (fun _ => False) Wd w') := Lib.hid (by have h := tjoin_any (L ++ [tx ⟨#[59]⟩]) (some ⟨g1, 0, none⟩) cap1 Wd T9.out.at (by rw [List.length_append]; show L.length + 1 <= _; omega) HSZ2.out; rw [List.length_append] at h; exact h)))
    refine bodyPost_ret (results_tx rfl _ _ b2 _ _ rfl (tx_set HB2.out)) rfl ?_
    rw [HR3.out]
    exact ⟨rfl, ((Turned.of_new (C := fun b => w.heap.size <= b) S9.out.bel).trans ((tx_turned _ _ _ _).mono fun b hb => by have := HGE.out; omega)).strip⟩
   ·have e0 : ((f.body.length : Int) == 0) = false := beq_eq_false_iff_ne.2 (by omega)
    have HR3 : Hid (rtF f = joinT (((L ++ [tx ⟨#[123]⟩]) ++ rtFs f.body) ++ [tx ⟨#[125]⟩])) := Lib.hid (by rw [HR2.out, if_neg hb0]; simp only [List.append_assoc, List.cons_append, List.nil_append])
    clear hb0 HR2 hlt hk
    go_upto_region 25 with (first | (go_at_call 79; refine (HSG.out _ _).mono ?_; rintro e Wc ⟨rfl, ht⟩; have Tc := Lib.hid (T6.out.call ht); clear ht x0 x1 x2 x3) | (at_builtin; refine wpList_push Tc (tx ⟨#[123]⟩) (by omega) rfl _ _ rfl rfl rfl ?_; intro g1 cap1 Wd T7))
    clear Tc T6
    have T8 : Hid (TG U1 Wd (.slice (some ⟨g1, 0, none⟩) (L.length + 1) cap1) ((L ++ [tx ⟨#[123]⟩]) ++ rtFs (f.body.take 0))) := Lib.hid (by rw [List.take_zero, rtFs, List.append_nil]; exact T7.out)
    have hL2 : (L ++ [tx ⟨#[123]⟩]).length <= 400001 := by rw [List.length_append]; show L.length + 1 <= _; omega
    have HSZ2 : Hid (∀ q ∈ L ++ [tx ⟨#[123]⟩], q.1.size <= 1000000000) := Lib.hid fun q hq => by
     rcases List.mem_append.1 hq with hq | hq
     ·exact HSZ.out q hq
     ·obtain rfl : q = tx ⟨#[123]⟩ := by simpa using hq
      simp [tx, ByteArray.size]
    clear T7
    go_upto_region 26 with fail
    have hst : (Value.slice (some ⟨g1, 0, none⟩) (L.length + 1) cap1) = (Value.slice (some ⟨g1, 0, none⟩) (L.length + 1) cap1) := rfl
    clear hst
    go_loopw [3, 6] (fun u i wr => ∃ (k : Nat) (v : Value), v = u /\ i = (.int .i64 k) /\ k <= f.body.length /\ Hid (TG U1 wr v ((L ++ [tx ⟨#[123]⟩]) ++ rtFs (f.body.take k)))) (fun _ i _ => f.body.length - (intOf i).toNat)
    case atStart => exact ⟨0, _, rfl, rfl, by omega, T8⟩
    case round =>
     clear T8
     obtain ⟨k2, v2, rfl, rfl, hk2, T6⟩ := hrel
     have S6 := St.call S5 T6.out.bel
     obtain ⟨x0, x1, x2, x3⟩ := St.cells4 S6 1 rfl
     have hbl := HBL.out
     have hLL : ((L ++ [tx ⟨#[123]⟩]) ++ rtFs (f.body.take k2)).length <= 600000 := by
      rw [List.length_append, rtFs_map, List.length_map, List.length_take]
      omega
     by_cases hlt2 : k2 < f.body.length
     ·obtain ⟨y, hy⟩ := some_of_lt hlt2
      have hkk2 : (k2 : Int) < (f.body.length : Int) := by omega
      have HST : Hid (((L ++ [tx ⟨#[123]⟩]) ++ rtFs (f.body.take k2)) ++ [rtF y] = (L ++ [tx ⟨#[123]⟩]) ++ rtFs (f.body.take (k2 + 1))) := Lib.hid (by
       rw [List.take_add_one, hy, Option.toList_some, rtFs_map, rtFs_map, List.map_append, List.append_assoc]; rfl)
      generalize (L ++ [tx ⟨#[123]⟩]) ++ rtFs (f.body.take k2) = L2 at T6 hLL HST
      obtain ⟨fb, fa, fk, fm, rfl, ⟨y0, y1, y2, y3⟩, HKA, HKB⟩ := formsAt_get (i := k2) S6.out.tab.2 hy
      obtain ⟨pk, ck, rfl⟩ := HKA.shape
      obtain ⟨pm, cm, rfl⟩ := HKB.shape
      have HC := Lib.hid (HFF.out y (List.mem_of_getElem? hy) _ _ _ HKA HKB)
      unfold fmA ShowF at HC
      generalize rtF y = t at HC HST
      clear hy HKA HKB S6
      go_upto_region 27 with (first | (go_at_call 42; refine HC.out.mono ?_; rintro e W8 ⟨rfl, ht⟩; have T7 := Lib.hid (T6.out.call ht); clear ht x0 x1 x2 x3 y0 y1 y2 y3) | (at_builtin; refine wpList_push T7 t (by omega) rfl _ _ rfl rfl rfl ?_; intro g2 cap2 W9 T9))
      go_wp2_with fail
      go_roundw
      case rel => exact ⟨k2 + 1, _, rfl, by go_num, by omega, by rw [<- HST.out]; exact T9⟩
      case measure => simp [intOf]; omega
     ·obtain rfl : k2 = f.body.length := by omega
      have HSZ3 : Hid (∀ q ∈ ((L ++ [tx ⟨#[123]⟩]) ++ rtFs (f.body.take f.body.length)) ++ [tx ⟨#[125]⟩], q.1.size <= 1000000000) := Lib.hid fun q hq => by
       rw [List.take_length, rtFs_map] at hq
       rcases List.mem_append.1 hq with hq | hq
       ·rcases List.mem_append.1 hq with hq | hq
        ·exact HSZ2.out q hq
        ·obtain ⟨g, hg, rfl⟩ := List.mem_map.1 hq
         exact HBS.out g hg
       ·obtain rfl : q = tx ⟨#[125]⟩ := by simpa using hq
        simp [tx, ByteArray.size]
      have HR4 : Hid (rtF f = joinT (((L ++ [tx ⟨#[123]⟩]) ++ rtFs (f.body.take f.body.length)) ++ [tx ⟨#[125]⟩])) := Lib.hid (by rw [HR3.out, List.take_length])
      clear HR3 S6 hbl hlt2 hk2
      generalize (L ++ [tx ⟨#[123]⟩]) ++ rtFs (f.body.take f.body.length) = L2 at T6 hLL HSZ3 HR4
      have hkk2 : ¬ (f.body.length : Int) < (f.body.length : Int) := by omega
      go_wp2_with (first | (go_at_call 43; refine HJ.out.mono ?_; rintro e WA ⟨rfl, ht⟩; have TA := Lib.hid (T9.out.call ht); clear ht HJ T9; have S9 := St.call S5 TA.out.bel; have hb2 := S9.out.lays.get 0 rfl; obtain ⟨z0, z1⟩ := cellsTx hb2; have fq := free_of_box hb2; have HB2 := Lib.hid hb2; clear hb2) | (go_at_call 79; refine (HSG.out _ _).mono ?_; rintro e Wc ⟨rfl, ht⟩; have Tc := Lib.hid (T6.out.call ht); clear ht x0 x1 x2 x3) | (at_builtin; refine wpList_push Tc (tx ⟨#[125]⟩) (by omega) rfl _ _ rfl rfl rfl ?_; intro g1 cap1 Wd T9; have HJ : Hid (Calls Tryz.prog 43 #[.slice (some ⟨g1, 0, none⟩) (L2.length + 1) cap1] Wd fun e w' => e = .returned (.agg #[.string (joinT (L2 ++ [tx ⟨#[125]⟩])).1, .bool (joinT (L2 ++ [tx ⟨#[125]⟩])).2]) /\ Turned (fun _ => False) Wd w') := Lib.hid (by have h := tjoin_any (L2 ++ [tx ⟨#[125]⟩]) (some ⟨g1, 0, none⟩) cap1 Wd T9.out.at (by rw [List.length_append]; show L2.length + 1 <= _; omega) HSZ3.out; rw [List.length_append] at h; exact h)))
      refine bodyPost_ret (results_tx rfl _ _ b2 _ _ rfl (tx_set HB2.out)) rfl ?_
      rw [HR4.out]
      exact ⟨rfl, ((Turned.of_new (C := fun b => w.heap.size <= b) S9.out.bel).trans ((tx_turned _ _ _ _).mono fun b hb => by have := HGE.out; omega)).strip⟩
mutual
def SzF : Fm -> Prop
 | .mk w zs fs _ => w.size <= 100000 /\ zs.length <= 100000 /\ fs.length <= 100000 /\ (∀ a ∈ zs, (-9223372036854775808 <= a.n /\ a.n <= 9223372036854775807) /\ a.s.size <= 100000 /\ SzX a.e /\ ∀ q ∈ rtArg a, q.1.size <= 1000000000) /\ SzFs fs
def SzFs : List Fm -> Prop
 | [] => True
 | f :: fs => (SzF f /\ (rtF f).1.size <= 1000000000) /\ SzFs fs
end
theorem SzF_of {f : Fm} (h : SzF f) : f.word.size <= 100000 /\ f.args.length <= 100000 /\ f.body.length <= 100000 /\ (∀ a ∈ f.args, (-9223372036854775808 <= a.n /\ a.n <= 9223372036854775807) /\ a.s.size <= 100000 /\ SzX a.e /\ ∀ q ∈ rtArg a, q.1.size <= 1000000000) /\ SzFs f.body := by
 obtain ⟨w, zs, fs, at_⟩ := f
 rw [SzF] at h
 exact h
theorem SzFs_mem : ∀ {l : List Fm} {f : Fm}, SzFs l -> f ∈ l -> SzF f /\ (rtF f).1.size <= 1000000000
 | y :: l, f, h, hf => by
  rw [SzFs] at h
  rcases List.mem_cons.1 hf with rfl | hf
  ·exact h.1
  ·exact SzFs_mem h.2 hf
theorem sform_any : ∀ (m : Nat) (f : Fm), SizeOf.sizeOf f <= m -> SzF f -> ∀ (a b : Value) (w : World), ArgsAt w (fun _ => True) f.args a -> FormsAt w (fun _ => True) f.body b -> Calls Tryz.prog 42 #[fmA f a b] w (ShowF f w)
 | 0, f, hm => by cases f; simp at hm
 | m + 1, f, hm => by
  intro hs a b w ha hb
  obtain ⟨h1, h2, h3, h4, h5⟩ := SzF_of hs
  obtain ⟨pa, ca, rfl⟩ := ha.shape
  obtain ⟨pb, cb, rfl⟩ := hb.shape
  have hlt : ∀ g ∈ f.body, SizeOf.sizeOf g <= m := fun g hg => by
   have h1 := List.sizeOf_lt_of_mem hg
   obtain ⟨w, zs, fs, at_⟩ := f
   simp only [Fm.mk.sizeOf_spec] at hm
   simp only [Fm.body] at h1
   omega
  exact sform_step f h1 h2 h3 h4 (fun g hg => (SzFs_mem h5 hg).2) pa pb ca cb w ha hb fun g hg a b W hA hB => sform_any m g (hlt g hg) (SzFs_mem h5 hg).1 a b W hA hB
end Go.Proofs.YtjijdgkccfeeaaaGreatDoor
