/- Part 21 of the proof of lawSum.card: QryLawB. Conditions: those of each theorem. -/
import Derived.Deep.DeepCutAuto
import Derived.Test.YthejfklieedjmaaGreatDoorQs01
import Derived.Test.YthejfklieedjmaaGreatDoorQs20
set_option linter.unusedSimpArgs false
set_option maxRecDepth 20000
set_option maxHeartbeats 64000000
namespace Go.Proofs.YthejfklieedjmaaGreatDoor
open Go Go.Proofs Go.RowKit
attribute [local go_sem] Oper.semAt_some
attribute [local go_sem ↓] run_eql_rat' run_neq_rat'
theorem wish_form {W : World} {x : Ex} {e : Ending} (h : WishR W (ofP x [3, 4]) e) : ∃ (a : Ws) (p : Option Addr) (c : Nat) (ec : Int), e = .returned (.tuple #[.agg #[.int .i64 a.kind, .slice p a.parts.length c, .int .i64 a.gauge, .int .i64 a.other, .int .i64 a.lag, .int .i64 a.from_, .int .i64 a.to_, .bool a.level.neg, .string a.level.num, .string a.level.den, .bool a.level2.neg, .string a.level2.num, .string a.level2.den], .int .i64 ec]) /\ PtsAt W a.parts (.slice p a.parts.length c) /\ (ec = 0 -> ofP x [3, 4] = .ok (.wish a)) := by
 rcases of_cases x [3, 4] with ⟨q, hq⟩ | ⟨a, c, b, hc, hr, -⟩
 ·rw [hq] at h
  cases q with
  | wish w =>
   obtain ⟨s, rfl, hp⟩ := h
   obtain ⟨p, c, rfl, h2⟩ := id hp
   exact ⟨w, p, c, 0, rfl, ⟨p, c, rfl, h2⟩, fun _ => hq⟩
  | num _ => exact h.elim
  | tick _ => exact h.elim
  | sum _ => exact h.elim
 ·exact ⟨noWs, none, 0, c, (by rcases hr with hr | hr <;> rw [hr] at h <;> exact h), pts_nil W, fun h0 => absurd h0 hc⟩
theorem num_form (x : Ex) : ∃ (u : Rv) (ec : Int), numR (ofP x [1]) = .tuple #[ratV u, .int .i64 ec] /\ (ec = 0 -> ofP x [1] = .ok (.num u)) := by
 rcases of_cases x [1] with ⟨q, hq⟩ | ⟨a, c, b, hc, hr, -⟩
 ·obtain ⟨c, rfl, -, -⟩ := of_num hq
  exact ⟨c, 0, by rw [hq]; rfl, fun _ => hq⟩
 ·exact ⟨zeroR, c, by rcases hr with hr | hr <;> rw [hr] <;> rfl, fun h0 => absurd h0 hc⟩
theorem RvOK.zero_of {k : Nat} {u : Rv} (h : RvOK k u) (h0 : qR u = 0) : u = zeroR := by
 obtain ⟨q, rfl, -⟩ := h
 rw [qR_repR] at h0
 subst h0
 rfl
theorem new_list {w Y0 : World} (h : Turned (fun _ => False) w Y0) : ∃ Y1, Y1 = Y0.alloc (.cells #[] 51) /\ Hid (Y1.heap[Y0.heap.size]? = some (.cells #[] 51 (0, 0))) /\ Hid (Y1.heap.size = Y0.heap.size + 1) /\ Hid (w.heap.size <= Y0.heap.size) /\ Hid (Turned (fun _ => False) w Y1) :=
 ⟨_, rfl, Lib.hid (World.alloc_heap_new _ _), Lib.hid (by simp), Lib.hid h.size, Lib.hid (h.alloc _)⟩
section
variable {P : Program} {ops : Array Oper} {Q : Exit -> Act -> World -> Prop} {R : World -> Prop} {G fuel : Nat} {listed : Array Bool} {a : Act} {w : World}
def stp (P : Program) (ops : Array Oper) (Q : Exit -> Act -> World -> Prop) (o : Oper) (a : Act) (w : World) (K : Act -> World -> Prop) : Prop := if Region.wanted o (yielded ops a.tmps) = true then Oper.wp P o a w K Q else K (a.put o.dst undef) w
theorem hv2m (i j : Nat) (Rel : Value -> Value -> World -> Prop) {o p : Oper} (d e : Nat)
  (hA : ∀ K : Act -> World -> Prop, Shut (∀ a' x w1, a' = a.put o.dst x -> R w1 -> (∀ K2 : Act -> World -> Prop, Shut (∀ a2 y w2, a2 = a'.put p.dst y -> R w2 -> Rel x y w2 -> K2 a2 w2) -> stp P ops Q p a' w1 K2) -> K a' w1) -> stp P ops Q o a w K)
  (hB : ∀ K : Act -> World -> Prop, Shut (∀ a' y w1, a' = a.put p.dst y -> R w1 -> (∀ K2 : Act -> World -> Prop, Shut (∀ a2 x w2, a2 = a'.put o.dst x -> R w2 -> Rel x y w2 -> K2 a2 w2) -> stp P ops Q o a' w1 K2) -> K a' w1) -> stp P ops Q p a w K)
  (hC : ∀ x y w2, R w2 -> Rel x y w2 -> anyT P ops Q R G fuel ((listed.setIfInBounds i true).setIfInBounds j true) ((a.put o.dst x).put p.dst y) w2)
  (ho : ops[i]? = some o := by rfl) (hp : ops[j]? = some p := by rfl) (hr : Region.ready .any ops listed = [i, j] := by as_aux_lemma => kernel_rfl)
  (hi : Region.ready .any ops (listed.setIfInBounds i true) = [j] := by as_aux_lemma => kernel_rfl) (hj : Region.ready .any ops (listed.setIfInBounds j true) = [i] := by as_aux_lemma => kernel_rfl) (h1 : o.dst = some d := by rfl) (h2 : p.dst = some e := by rfl) (hde : d ≠ e := by decide) (hij : i ≠ j := by decide) : anyT P ops Q R G (fuel + 2) listed a w := by
 refine hv2 i j (fun K hK => hA K fun a' x w1 e1 hR h => hK.out a' w1 hR ?_) (fun K hK => hB K fun a' y w1 e1 hR h => hK.out a' w1 hR ?_) ho hp hr
 ·refine hv j (fun K2 hK2 => h K2 fun a2 y w2 e2 hR2 hrel => hK2.out a2 w2 hR2 ?_) hp hi
  rw [e2, e1]
  exact hC x y w2 hR2 hrel
 ·refine hv i (fun K2 hK2 => h K2 fun a2 x w2 e2 hR2 hrel => hK2.out a2 w2 hR2 ?_) ho hj
  rw [e2, e1]
  have h3 := hC x y w2 hR2 hrel
  rw [Array.setIfInBounds_comm _ _ hij] at h3
  have hc : (a.put o.dst x).put p.dst y = (a.put p.dst y).put o.dst x := by
   rw [h1, h2]
   simp only [Act.put]
   rw [Array.setIfInBounds_comm _ _ hde]
  rw [hc] at h3
  exact h3
end
section
variable {P : Program} {ops : Array Oper} {Q : Exit -> Act -> World -> Prop} {R : World -> Prop} {G fuel : Nat} {listed : Array Bool} {a : Act} {w : World}
theorem tkx (i : Nat) (v : Value) {oi : Oper} (hR : Hid (R w)) (hy : ∀ V, R V -> (execOp a.eval oi).run P V = .ok (.value v) V) (h : anyT P ops Q R G fuel (listed.setIfInBounds i true) (a.put oi.dst v) w) (hi : ops[i]? = some oi := by rfl) (hs : Region.noSelect ops = true := by as_aux_lemma => kernel_rfl)
  (hf : (Region.free .any ops listed i && (Region.ready .any ops listed).contains i && !(G == i)) = true := by as_aux_lemma => kernel_rfl) (hQ : ∀ c a w, Q (.panic c) (a.put oi.dst v) w -> Q (.panic c) a w := by exact fun _ _ _ h => h) (hw : Region.wanted oi (yielded ops a.tmps) = true := by kernel_rfl) : anyT P ops Q R G (fuel + 1) listed a w :=
 tk i v hR hy h hi hs hf hQ hw
theorem hvx (i : Nat) {o : Oper} (h : ∀ K' : Act -> World -> Prop, Shut (∀ a w, R w -> anyT P ops Q R G fuel (listed.setIfInBounds i true) a w -> K' a w) -> if Region.wanted o (yielded ops a.tmps) = true then Oper.wp P o a w K' Q else K' (a.put o.dst undef) w) (ho : ops[i]? = some o := by rfl) (hr : Region.ready .any ops listed = [i] := by as_aux_lemma => kernel_rfl) : anyT P ops Q R G (fuel + 1) listed a w := hv i h ho hr
theorem hvOpx (i : Nat) (h : wpOp P ops Q i (fun a' w' => R w' /\ (True -> True) /\ anyT P ops Q R G fuel (listed.setIfInBounds i true) a' w') a w) (hr : Region.ready .any ops listed = [i] := by as_aux_lemma => kernel_rfl) : anyT P ops Q R G (fuel + 1) listed a w := hvOp i h hr
end
def pick3 (s z n : Ex) : Nat -> Ex
 | 0 => s
 | 1 => z
 | _ => n
structure SumOK (s z n : Ex) (a b : Ws) (c : Rv) : Prop where
 na : nodes s <= 40
 nb : nodes z <= 40
 nc : nodes n <= 40
 ha : ofP s [3, 4] = .ok (.wish a)
 hb : ofP z [3, 4] = .ok (.wish b)
 hc : ofP n [1] = .ok (.num c)
 ka : a.kind = 1
 kb : b.kind = 1
 la : a.parts.length <= 20
 lb : b.parts.length <= 20
 sa : SmX s
 sb : SmX z
 sc : SmX n
theorem SumOK.sz {s z n : Ex} {a b : Ws} {c : Rv} (h : SumOK s z n a b c) : (a.parts ≠ [] /\ ∀ p ∈ a.parts, SzR p.coef 2000000) /\ (b.parts ≠ [] /\ ∀ p ∈ b.parts, SzR p.coef 2000000) /\ RvOK 640 c /\ SzR c 2000000 := by
 obtain ⟨t1, v1, -, -, n1⟩ := of_sum h.ha h.ka
 obtain ⟨t2, v2, -, -, n2⟩ := of_sum h.hb h.kb
 obtain ⟨c', h1, t3, v3⟩ := of_num h.hc
 cases h1
 have z1 := value_size t1 v1
 have z2 := value_size t2 v2
 have z3 : RvOK (16 * nodes n) c := value_size t3 v3
 have i1 := h.na
 have i2 := h.nb
 have i3 := h.nc
 exact ⟨⟨n1, fun p hp => (z1.2.2 p hp).sz (by omega)⟩, ⟨n2, fun p hp => (z2.2.2 p hp).sz (by omega)⟩, z3.mono (by omega), z3.sz (by omega)⟩
theorem two_nodes (op : Int) (x y : Ex) : nodes (twoX op x y) = 1 + (nodes x + nodes y) := by unfold twoX; rw [nodes, nodesL, nodesL, nodesL]; omega
theorem two_sm {op : Int} {x y : Ex} (hx : SmX x) (hy : SmX y) : SmX (twoX op x y) := by
 unfold twoX
 rw [SmX, SmXs, SmXs, SmXs]
 exact ⟨Nat.zero_le _, by simp, hx, hy, trivial⟩
theorem sumUp_any (s z n : Ex) (us uz un : Value) (W : World) (hT : TabOK W) (hsan : ∀ V, Turned (fun _ => False) W V -> Calls Tryz.prog 5 #[] V fun e w' => e = .returned (.bool true) /\ Turned (fun _ => False) V w')
  (ks : KidsAt W (fun _ => True) s.kids us) (kz : KidsAt W (fun _ => True) z.kids uz) (kn : KidsAt W (fun _ => True) n.kids un) (ss : nodes s <= 100000 -> SmX s) (sz : nodes z <= 100000 -> SmX z) (sn : nodes n <= 100000 -> SmX n) :
  Calls Tryz.prog 4 #[exA s us, exA z uz, exA n un] W fun e w' => e = .returned (.bool true) /\ Turned (fun _ => False) W w' := by
 have HS := Lib.hid hsan
 have HKS := Lib.hid ks
 have HKZ := Lib.hid kz
 have HKN := Lib.hid kn
 have HSM := Lib.hid (And.intro ss (And.intro sz sn))
 have HTB := Lib.hid hT
 unfold exA
 obtain ⟨W0, hW0⟩ : ∃ W0, W0 = ((W.alloc (.cells #[.int .i64 s.op, .int .i64 s.n, .string s.s, us, .int .i64 s.at_] 42)).alloc (.cells #[.int .i64 z.op, .int .i64 z.n, .string z.s, uz, .int .i64 z.at_] 42)).alloc (.cells #[.int .i64 n.op, .int .i64 n.n, .string n.s, un, .int .i64 n.at_] 42) := ⟨_, rfl⟩
 have h3 := new3 W (.cells #[.int .i64 s.op, .int .i64 s.n, .string s.s, us, .int .i64 s.at_] 42) (.cells #[.int .i64 z.op, .int .i64 z.n, .string z.s, uz, .int .i64 z.at_] 42) (.cells #[.int .i64 n.op, .int .i64 n.n, .string n.s, un, .int .i64 n.at_] 42)
 rw [<- hW0] at h3
 have H3 := Lib.hid h3
 have HN0 := Lib.hid (show W0.heap.size = W.heap.size + 3 by rw [hW0]; simp)
 have T0 := Lib.hid (show Turned (fun _ => False) W W0 by rw [hW0]; exact (((Turned.refl _ W).alloc _).alloc _).alloc _)
 obtain ⟨⟨a0, a1, a2, a3, a4⟩, -⟩ := five_box h3.1
 obtain ⟨⟨b0, b1, b2, b3, b4⟩, -⟩ := five_box h3.2.1
 obtain ⟨⟨c0, c1, c2, c3, c4⟩, -⟩ := five_box h3.2.2
 have HW0 := Lib.hid hW0
 clear hW0 h3 ks kz kn ss sz sn hT hsan
 go_enter Tryz.func4, Tryz.ntmps4
 go_upto_region 1 with fail
 rw [<- HW0.out]
 go_wp2_with fail
 clear a0 a1 a2 a3 a4 b0 b1 b2 b3 b4 c0 c1 c2 c3 c4
 obtain ⟨W1, hW1⟩ : ∃ W1, W1 = W0.alloc (.cells #[.int .i64 s.op, .int .i64 s.n, .string s.s, us, .int .i64 s.at_, .int .i64 z.op, .int .i64 z.n, .string z.s, uz, .int .i64 z.at_, .int .i64 n.op, .int .i64 n.n, .string n.s, un, .int .i64 n.at_] 42) := ⟨_, rfl⟩
 have HB := Lib.hid (show W1.heap[W0.heap.size]? = some (.cells #[.int .i64 s.op, .int .i64 s.n, .string s.s, us, .int .i64 s.at_, .int .i64 z.op, .int .i64 z.n, .string z.s, uz, .int .i64 z.at_, .int .i64 n.op, .int .i64 n.n, .string n.s, un, .int .i64 n.at_] 42 (0, 0)) by rw [hW1]; exact World.alloc_heap_new _ _)
 have T01 := Lib.hid (show Turned (fun _ => False) W0 W1 by rw [hW1]; exact (Turned.refl _ _).alloc _)
 have T1 := Lib.hid (show Turned (fun _ => False) W W1 by rw [hW1]; exact T0.out.alloc _)
 have HL : Hid (∀ k, k < 3 -> ∃ u, KidsAt W1 (fun _ => True) (pick3 s z n k).kids u /\ W1.cell? ⟨W0.heap.size, k * 5, none⟩ = some (.int .i64 ((pick3 s z n k).op)) /\ W1.cell? ⟨W0.heap.size, k * 5 + 1, none⟩ = some (.int .i64 ((pick3 s z n k).n)) /\ W1.cell? ⟨W0.heap.size, k * 5 + 2, none⟩ = some (.string (pick3 s z n k).s) /\ W1.cell? ⟨W0.heap.size, k * 5 + 3, none⟩ = some u /\ W1.cell? ⟨W0.heap.size, k * 5 + 4, none⟩ = some (.int .i64 ((pick3 s z n k).at_))) := Lib.hid fun k hk => by
  match k, hk with
  | 0, _ => exact ⟨us, HKS.out.all T1.out, by simp [World.cell?, HB.out, pick3]⟩
  | 1, _ => exact ⟨uz, HKZ.out.all T1.out, by simp [World.cell?, HB.out, pick3]⟩
  | 2, _ => exact ⟨un, HKN.out.all T1.out, by simp [World.cell?, HB.out, pick3]⟩
 rw [<- hW1]
 clear hW1
 go_loopw [8, 9, 31] (fun v8 v9 i wr => ∃ k : Nat, k <= 3 /\ i = (.int .i64 k) /\ Hid (Turned (fun _ => False) W1 wr /\ ∀ j, j < k -> nodes (pick3 s z n j) <= 40)) (fun _ _ i _ => 3 - (intOf i).toNat)
 case atStart => exact ⟨0, Nat.zero_le _, rfl, Lib.hid ⟨Turned.refl _ _, fun j hj => absurd hj (Nat.not_lt_zero _)⟩⟩
 case round =>
  obtain ⟨k, hk, rfl, HH⟩ := hrel
  by_cases hlt : k < 3
  ·obtain ⟨u, hu, d0, d1, d2, d3, d4⟩ := HL.out k hlt
   have hn0 := HH.out.2
   obtain ⟨x, hx⟩ : ∃ x, pick3 s z n k = x := ⟨_, rfl⟩
   have HX := Lib.hid hx
   rw [hx] at hu d0 d1 d2 d4
   obtain ⟨pu, cv, rfl⟩ := hu.shape
   have g0 := cellT HH.out.1 id d0
   have g1 := cellT HH.out.1 id d1
   have g2 := cellT HH.out.1 id d2
   have g3 := cellT HH.out.1 id d3
   have g4 := cellT HH.out.1 id d4
   have HF := Lib.hid (fun V (t : Turned (fun _ => False) W1 V) => few_nodes x 40 _ V (by decide) (by decide) (hu.all t))
   unfold exA at HF
   have hk0 : (0 : Int) <= k := by omega
   have hk1 : (k : Int) < 3 := by omega
   clear hu d0 d1 d2 d3 d4 hx hn0
   obtain ⟨b, hb⟩ : ∃ b, decide (cntE x 40 <= 40) = b := ⟨_, rfl⟩
   rw [hb] at HF
   have HBB := Lib.hid hb
   clear hb
   cases b with
   | false =>
    go_wp2_with (first | (go_at_call 9; refine (HF.out _ (HH.out.1.alloc _)).mono ?_; rintro e9 W9 ⟨rfl, ht⟩; have T9 := Lib.hid ((HH.out.1.alloc _).trans ht); clear ht) | (go_at_call 5; refine (HS.out _ (T1.out.trans T9.out)).mono ?_; rintro e8 W8 ⟨rfl, ht⟩; have T8 := Lib.hid ((T1.out.trans T9.out).trans ht); clear ht))
    go_ret
    exact ⟨rfl, T8.out⟩
   | true =>
    go_wp2_with (go_at_call 9; refine (HF.out _ (HH.out.1.alloc _)).mono ?_; rintro e9 W9 ⟨rfl, ht⟩; have T9 := Lib.hid ((HH.out.1.alloc _).trans ht); clear ht)
    refine ⟨⟨k + 1, by omega, by go_num, Lib.hid ⟨T9.out, fun j hj => ?_⟩⟩, by simp [intOf]; omega⟩
    rcases Nat.lt_succ_iff_lt_or_eq.1 hj with h | rfl
    ·exact HH.out.2 j h
    ·rw [HX.out]
     have := cnt_nodes x 40 (by decide) (of_decide_eq_true HBB.out)
     omega
  ·obtain rfl : k = 3 := by omega
   have ns := HH.out.2 0 (by decide)
   have nz := HH.out.2 1 (by decide)
   have nn := HH.out.2 2 (by decide)
   simp only [pick3] at ns nz nn
   have TR := Lib.hid (T1.out.trans HH.out.1)
   have H3R := Lib.hid (And.intro (keepB HH.out.1 (keepB T01.out H3.out.1)) (And.intro (keepB HH.out.1 (keepB T01.out H3.out.2.1)) (keepB HH.out.1 (keepB T01.out H3.out.2.2))))
   have HQS := Lib.hid (fun V (t : Turned (fun _ => False) W V) => jWish_any s (HSM.out.1 (by omega)) (by omega) us V (HTB.out.turned t) (HKS.out.all t))
   have HQZ := Lib.hid (fun V (t : Turned (fun _ => False) W V) => jWish_any z (HSM.out.2.1 (by omega)) (by omega) uz V (HTB.out.turned t) (HKZ.out.all t))
   have HQN := Lib.hid (fun V (t : Turned (fun _ => False) W V) => jNumber_any n (HSM.out.2.2 (by omega)) (by omega) un V (HTB.out.turned t) (HKN.out.all t))
   have HNN := Lib.hid (And.intro ns (And.intro nz nn))
   obtain ⟨cu, cc, hnum, hcc⟩ := num_form n
   rw [hnum] at HQN
   have HCC := Lib.hid hcc
   unfold exA at HQS HQZ HQN
   clear ns nz nn hnum hcc HL HB
   obtain ⟨⟨a0, a1, a2, a3, a4⟩, -⟩ := five_box H3R.out.1
   obtain ⟨⟨b0, b1, b2, b3, b4⟩, -⟩ := five_box H3R.out.2.1
   obtain ⟨⟨c0, c1, c2, c3, c4⟩, -⟩ := five_box H3R.out.2.2
   go_upto_region 9 with (go_at_call 10; refine (HQS.out _ TR.out).mono ?_; rintro e9 W9 ⟨hw, ht⟩; obtain ⟨a, pa, ca, ea, rfl, hpa, hea⟩ := wish_form hw; have T9 := Lib.hid (ht.alloc (.cells #[.int .i64 a.kind, .slice pa a.parts.length ca, .int .i64 a.gauge, .int .i64 a.other, .int .i64 a.lag, .int .i64 a.from_, .int .i64 a.to_, .bool a.level.neg, .string a.level.num, .string a.level.den, .bool a.level2.neg, .string a.level2.num, .string a.level2.den] 33)); have HPA := Lib.hid hpa; have HEA := Lib.hid hea; clear hw ht hpa hea)
   obtain ⟨V1, hV1⟩ : ∃ V1, V1 = W9.alloc (.cells #[.int .i64 a.kind, .slice pa a.parts.length ca, .int .i64 a.gauge, .int .i64 a.other, .int .i64 a.lag, .int .i64 a.from_, .int .i64 a.to_, .bool a.level.neg, .string a.level.num, .string a.level.den, .bool a.level2.neg, .string a.level2.num, .string a.level2.den] 33) := ⟨_, rfl⟩
   have HPA1 := Lib.hid (show PtsAt V1 a.parts (.slice pa a.parts.length ca) by rw [hV1]; exact HPA.out.turned ((Turned.refl _ _).alloc _))
   have HA1 := Lib.hid (show V1.heap[W9.heap.size]? = some (.cells #[.int .i64 a.kind, .slice pa a.parts.length ca, .int .i64 a.gauge, .int .i64 a.other, .int .i64 a.lag, .int .i64 a.from_, .int .i64 a.to_, .bool a.level.neg, .string a.level.num, .string a.level.den, .bool a.level2.neg, .string a.level2.num, .string a.level2.den] 33 (0, 0)) by rw [hV1]; exact World.alloc_heap_new _ _)
   rw [<- hV1] at T9 ⊢
   clear hV1 HPA a0 a1 a2 a3 a4 b0 b1 b2 b3 b4 c0 c1 c2 c3 c4
   obtain ⟨ba, hba⟩ : ∃ ba, ba = W9.heap.size := ⟨_, rfl⟩
   rw [<- hba] at HA1 ⊢
   clear hba
   obtain ⟨⟨b0, b1, b2, b3, b4⟩, -⟩ := five_box (keepB T9.out H3R.out.2.1)
   go_upto_region 10 with (go_at_call 10; refine (HQZ.out _ (TR.out.trans T9.out)).mono ?_; rintro e8 W8 ⟨hw, ht⟩; obtain ⟨b, pb, cb, eb, rfl, hpb, heb⟩ := wish_form hw; have T8 := Lib.hid (ht.alloc (.cells #[.int .i64 b.kind, .slice pb b.parts.length cb, .int .i64 b.gauge, .int .i64 b.other, .int .i64 b.lag, .int .i64 b.from_, .int .i64 b.to_, .bool b.level.neg, .string b.level.num, .string b.level.den, .bool b.level2.neg, .string b.level2.num, .string b.level2.den] 33)); have HPB := Lib.hid hpb; have HEB := Lib.hid heb; clear hw ht hpb heb)
   obtain ⟨V2, hV2⟩ : ∃ V2, V2 = W8.alloc (.cells #[.int .i64 b.kind, .slice pb b.parts.length cb, .int .i64 b.gauge, .int .i64 b.other, .int .i64 b.lag, .int .i64 b.from_, .int .i64 b.to_, .bool b.level.neg, .string b.level.num, .string b.level.den, .bool b.level2.neg, .string b.level2.num, .string b.level2.den] 33) := ⟨_, rfl⟩
   have HPB1 := Lib.hid (show PtsAt V2 b.parts (.slice pb b.parts.length cb) by rw [hV2]; exact HPB.out.turned ((Turned.refl _ _).alloc _))
   have HB1 := Lib.hid (show V2.heap[W8.heap.size]? = some (.cells #[.int .i64 b.kind, .slice pb b.parts.length cb, .int .i64 b.gauge, .int .i64 b.other, .int .i64 b.lag, .int .i64 b.from_, .int .i64 b.to_, .bool b.level.neg, .string b.level.num, .string b.level.den, .bool b.level2.neg, .string b.level2.num, .string b.level2.den] 33 (0, 0)) by rw [hV2]; exact World.alloc_heap_new _ _)
   rw [<- hV2] at T8 ⊢
   clear hV2 HPB b0 b1 b2 b3 b4
   obtain ⟨bb, hbb⟩ : ∃ bb, bb = W8.heap.size := ⟨_, rfl⟩
   rw [<- hbb] at HB1 ⊢
   clear hbb
   obtain ⟨⟨c0, c1, c2, c3, c4⟩, -⟩ := five_box (keepB (T9.out.trans T8.out) H3R.out.2.2)
   obtain ⟨un_, ux, ud⟩ := cu
   go_upto_region 11 with (go_at_call 11; refine (HQN.out _ (TR.out.trans (T9.out.trans T8.out))).mono ?_; rintro e7 W7 ⟨rfl, ht⟩; have T7 := Lib.hid (ht.alloc (.cells #[.bool un_, .string ux, .string ud] 31)); clear ht)
   obtain ⟨V3, hV3⟩ : ∃ V3, V3 = W7.alloc (.cells #[.bool un_, .string ux, .string ud] 31) := ⟨_, rfl⟩
   have HC1 := Lib.hid (show V3.heap[W7.heap.size]? = some (.cells #[.bool un_, .string ux, .string ud] 31 (0, 0)) by rw [hV3]; exact World.alloc_heap_new _ _)
   rw [<- hV3] at T7 ⊢
   clear hV3 c0 c1 c2 c3 c4
   obtain ⟨bc, hbc⟩ : ∃ bc, bc = W7.heap.size := ⟨_, rfl⟩
   rw [<- hbc] at HC1 ⊢
   clear hbc
   have TV := Lib.hid (TR.out.trans (T9.out.trans (T8.out.trans T7.out)))
   have HBX := Lib.hid (And.intro (keepB (T9.out.trans (T8.out.trans T7.out)) H3R.out.1) (And.intro (keepB (T9.out.trans (T8.out.trans T7.out)) H3R.out.2.1) (And.intro (keepB (T9.out.trans (T8.out.trans T7.out)) H3R.out.2.2) (And.intro (keepB (T8.out.trans T7.out) HA1.out) (And.intro (keepB T7.out HB1.out) HC1.out)))))
   have HPP := Lib.hid (And.intro (HPA1.out.turned (T8.out.trans T7.out)) (HPB1.out.turned T7.out))
   clear T9 T8 T7 HA1 HB1 HC1 HPA1 HPB1 TR H3R HQS HQZ HQN HH H3 T0 T1 T01 HW0
   obtain ⟨a0, a1, -⟩ := thirteen HBX.out.2.2.2.1
   obtain ⟨b0, b1, -⟩ := thirteen HBX.out.2.2.2.2.1
   by_cases hea : ea = 0
   case neg =>
    go_wp2_with (go_at_call 5; refine (HS.out _ TV.out).mono ?_; rintro e8 W8 ⟨rfl, ht⟩; have T8 := Lib.hid (TV.out.trans ht); clear ht)
    go_ret
    exact ⟨rfl, T8.out⟩
   subst hea
   by_cases heb : eb = 0
   case neg =>
    go_wp2_with (go_at_call 5; refine (HS.out _ TV.out).mono ?_; rintro e8 W8 ⟨rfl, ht⟩; have T8 := Lib.hid (TV.out.trans ht); clear ht)
    go_ret
    exact ⟨rfl, T8.out⟩
   subst heb
   by_cases hcc : cc = 0
   case neg =>
    go_wp2_with (go_at_call 5; refine (HS.out _ TV.out).mono ?_; rintro e8 W8 ⟨rfl, ht⟩; have T8 := Lib.hid (TV.out.trans ht); clear ht)
    go_ret
    exact ⟨rfl, T8.out⟩
   subst hcc
   by_cases hka : a.kind = 1
   case neg =>
    go_wp2_with (go_at_call 5; refine (HS.out _ TV.out).mono ?_; rintro e8 W8 ⟨rfl, ht⟩; have T8 := Lib.hid (TV.out.trans ht); clear ht)
    go_ret
    exact ⟨rfl, T8.out⟩
   by_cases hkb : b.kind = 1
   case neg =>
    go_wp2_with (go_at_call 5; refine (HS.out _ TV.out).mono ?_; rintro e8 W8 ⟨rfl, ht⟩; have T8 := Lib.hid (TV.out.trans ht); clear ht)
    go_ret
    exact ⟨rfl, T8.out⟩
   by_cases hla : a.parts.length <= 20
   case neg =>
    have hla2 : (20 : Int) < a.parts.length := by omega
    go_wp2_with (go_at_call 5; refine (HS.out _ TV.out).mono ?_; rintro e8 W8 ⟨rfl, ht⟩; have T8 := Lib.hid (TV.out.trans ht); clear ht)
    go_ret
    exact ⟨rfl, T8.out⟩
   have hla2 : ¬ (20 : Int) < a.parts.length := by omega
   by_cases hlb : b.parts.length <= 20
   case neg =>
    have hlb2 : (20 : Int) < b.parts.length := by omega
    go_wp2_with (go_at_call 5; refine (HS.out _ TV.out).mono ?_; rintro e8 W8 ⟨rfl, ht⟩; have T8 := Lib.hid (TV.out.trans ht); clear ht)
    go_ret
    exact ⟨rfl, T8.out⟩
   have hlb2 : ¬ (20 : Int) < b.parts.length := by omega
   have HOK : Hid (SumOK s z n a b ⟨un_, ux, ud⟩) := Lib.hid ⟨HNN.out.1, HNN.out.2.1, HNN.out.2.2, HEA.out rfl, HEB.out rfl, HCC.out rfl, hka, hkb, hla, hlb, HSM.out.1 (by have := HNN.out.1; omega), HSM.out.2.1 (by have := HNN.out.2.1; omega), HSM.out.2.2 (by have := HNN.out.2.2; omega)⟩
   go_upto_region 16 with fail
   clear HNN HEA HEB HCC HSM hka hkb hla hlb hla2 hlb2 a0 a1 b0 b1
   obtain ⟨⟨na, za⟩, ⟨nb, zb⟩, zr, zc⟩ := HOK.out.sz
   have HNE := Lib.hid (And.intro na nb)
   have HZA := Lib.hid za
   have HZC := Lib.hid (And.intro zr zc)
   have HSCB : Hid (∀ A, Turned (fun _ => False) V3 A -> Calls Tryz.prog 13 #[.slice pb b.parts.length cb, ratV (intR (-1))] A fun e w' => (∃ v, e = .returned v /\ PtsAt w' (scaledP b.parts (intR (-1))) v) /\ Turned (fun _ => False) A w') := Lib.hid fun A ht => by
    obtain ⟨p2, c2, e2, l2, -⟩ := HPP.out.2
    cases e2
    exact scaled2_any b.parts (intR (-1)) 2000000 pb cb A ((l2.turned ht).mono ht.size) nb (by have := HOK.out.lb; omega) (by decide) (by decide) ((RvOK.int (n := -1) (by decide) (by decide)).sz (by decide)) zb
   have HX : Hid (∀ A, Turned (fun _ => False) V3 A -> A.cell? ⟨bb, 1, none⟩ = some (.slice pb b.parts.length cb)) := Lib.hid fun A ht => (thirteen (keepB ht HBX.out.2.2.2.2.1)).2.1
   clear na za nb zb zr zc
   go_cut [19] (fun v wx => ∃ pm cm, v = .slice pm (scaledP b.parts (intR (-1))).length cm /\ Hid (Turned (fun _ => False) V3 wx /\ PtsAt wx (scaledP b.parts (intR (-1))) v))
   case first =>
    refine wp_region_heldL (fun A => Turned (fun _ => False) V3 A) (fun _ => True) 4 (by kernel_rfl) ?_
    have HA := Lib.hid ((Turned.refl (fun _ => False) V3).drew)
    generalize V3.drew = V4 at HA ⊢
    refine tkx 0 (.func (.func 13) #[] #[]) HA (fun V hV => ?_) ?_
    ·clear hV; go_simp
    try simp only [zz0, zz1, zz2, Act.put, zz3, zz4, zz5]
    refine tkx 1 (.pointer (some ⟨bb, 1, none⟩)) HA (fun V hV => ?_) ?_
    ·clear hV; go_simp
    try simp only [zz0, zz1, zz2, Act.put, zz3, zz4, zz5]
    refine tkx 2 (.slice pb b.parts.length cb) HA (fun V hV => ?_) ?_
    ·obtain y0 := HX.out V hV; clear hV; go_simp
    try simp only [zz0, zz1, zz2, Act.put, zz3, zz4, zz5]
    refine hvx 3 fun K hK => ?_
    go_simp
    refine (qIntZ_any (-1) _ (by decide) (by decide)).mono ?_
    rintro e1 X1 ⟨rfl, ht⟩
    have HA := Lib.hid (HA.out.trans ht)
    clear ht
    refine hK.out _ _ HA.out ?_
    clear hK K
    try simp only [zz0, zz1, zz2, Act.put, zz3, zz4, zz5]
    refine hvx 4 fun K hK => ?_
    go_simp
    refine (HSCB.out _ HA.out).mono ?_
    rintro e1 X2 ⟨⟨v2, rfl, hp⟩, ht⟩
    have HA := Lib.hid (HA.out.trans ht)
    have HP2 := Lib.hid hp
    clear ht hp
    refine hK.out _ _ HA.out ?_
    clear hK K
    try simp only [zz0, zz1, zz2, Act.put, zz3, zz4, zz5]
    refine tkx 5 (v2) HA (fun V hV => ?_) ?_
    ·clear hV; go_simp
    try simp only [zz0, zz1, zz2, Act.put, zz3, zz4, zz5]
    refine wpAnyL_done (by kernel_rfl) ?_ _
    go_wp2_with fail
    go_meet
    case rel =>
     obtain ⟨pm, cm, rfl, h2⟩ := HP2.out
     exact ⟨pm, cm, rfl, Lib.hid ⟨HA.out, pm, cm, rfl, h2⟩⟩
   case rest =>
    obtain ⟨pm, cm, rfl, HM⟩ := hcut
    clear HSCB HX
    obtain ⟨wm, hwm⟩ : ∃ w, w = wc := ⟨_, rfl⟩
    subst hwm
    have HPM := Lib.hid HM.out.2
    have HTM := Lib.hid HM.out.1
    have TV := Lib.hid (TV.out.trans HTM.out)
    have HX : Hid (∀ A, Turned (fun _ => False) wm A -> (A.cell? ⟨W.heap.size, 0, none⟩ = some ((.int .i64 s.op)) /\ A.cell? ⟨W.heap.size, 1, none⟩ = some ((.int .i64 s.n)) /\ A.cell? ⟨W.heap.size, 2, none⟩ = some (.string s.s) /\ A.cell? ⟨W.heap.size, 3, none⟩ = some (us) /\ A.cell? ⟨W.heap.size, 4, none⟩ = some ((.int .i64 s.at_))) /\ (A.cell? ⟨W.heap.size + 1, 0, none⟩ = some ((.int .i64 z.op)) /\ A.cell? ⟨W.heap.size + 1, 1, none⟩ = some ((.int .i64 z.n)) /\ A.cell? ⟨W.heap.size + 1, 2, none⟩ = some (.string z.s) /\ A.cell? ⟨W.heap.size + 1, 3, none⟩ = some (uz) /\ A.cell? ⟨W.heap.size + 1, 4, none⟩ = some ((.int .i64 z.at_))) /\ (A.cell? ⟨W.heap.size + 1 + 1, 0, none⟩ = some ((.int .i64 n.op)) /\ A.cell? ⟨W.heap.size + 1 + 1, 1, none⟩ = some ((.int .i64 n.n)) /\ A.cell? ⟨W.heap.size + 1 + 1, 2, none⟩ = some (.string n.s) /\ A.cell? ⟨W.heap.size + 1 + 1, 3, none⟩ = some (un) /\ A.cell? ⟨W.heap.size + 1 + 1, 4, none⟩ = some ((.int .i64 n.at_))) /\ A.cell? ⟨ba, 1, none⟩ = some (.slice pa a.parts.length ca) /\ A.cell? ⟨bb, 1, none⟩ = some (.slice pb b.parts.length cb) /\ (A.cell? ⟨bc, 0, none⟩ = some (.bool un_) /\ A.cell? ⟨bc, 1, none⟩ = some (.string ux) /\ A.cell? ⟨bc, 2, none⟩ = some (.string ud))) := Lib.hid fun A h => by
     have ht := HTM.out.trans h
     exact ⟨(five_box (keepB ht HBX.out.1)).1, (five_box (keepB ht HBX.out.2.1)).1, (five_box (keepB ht HBX.out.2.2.1)).1, (thirteen (keepB ht HBX.out.2.2.2.1)).2.1, (thirteen (keepB ht HBX.out.2.2.2.2.1)).2.1, three_cells (keepB ht HBX.out.2.2.2.2.2)⟩
    have HLA : Hid (∀ A, Turned (fun _ => False) wm A -> Lst A.heap.size A 8 partCells a.parts pa ca /\ Lst A.heap.size A 8 partCells b.parts pb cb /\ Lst A.heap.size A 8 partCells (scaledP b.parts (intR (-1))) pm cm) := Lib.hid fun A h => by
     have ht := HTM.out.trans h
     obtain ⟨p1, c1, e1, l1, -⟩ := HPP.out.1
     obtain ⟨p2, c2, e2, l2, -⟩ := HPP.out.2
     obtain ⟨p3, c3, e3, l3, -⟩ := HPM.out
     cases e1
     cases e2
     cases e3
     exact ⟨(l1.turned ht).mono ht.size, (l2.turned ht).mono ht.size, (l3.turned h).mono h.size⟩
    have HSN := Lib.hid (show scaledP b.parts (intR (-1)) ≠ [] from fun he => HNE.out.2 (List.map_eq_nil_iff.1 he))
    have HSC := Lib.hid (fun (u : Rv) (hu : SzR u 2000000) A (ht : Turned (fun _ => False) wm A) => scaled2_any a.parts u 2000000 pa ca A (HLA.out A ht).1 HNE.out.1 (by have := HOK.out.la; omega) (by decide) (by decide) hu HZA.out)
    have HTW : Hid (∀ (op : Int) A, Turned (fun _ => False) wm A -> ∀ N : Nat -> Prop, (∀ g, g < wm.heap.size -> N g) -> (Calls Tryz.prog 12 #[.int .i64 op, .agg #[.int .i64 s.op, .int .i64 s.n, .string s.s, us, .int .i64 s.at_], .agg #[.int .i64 z.op, .int .i64 z.n, .string z.s, uz, .int .i64 z.at_]] A fun e w' => (∃ g, e = .returned (.agg #[.int .i64 op, .int .i64 0, .string ⟨#[]⟩, .slice (some ⟨g, 0, none⟩) 2 2, .int .i64 0]) /\ KidsAt w' (fun k => N k \/ A.heap.size <= k) [s, z] (.slice (some ⟨g, 0, none⟩) 2 2)) /\ Turned (fun _ => False) A w') /\ (Calls Tryz.prog 12 #[.int .i64 op, .agg #[.int .i64 n.op, .int .i64 n.n, .string n.s, un, .int .i64 n.at_], .agg #[.int .i64 s.op, .int .i64 s.n, .string s.s, us, .int .i64 s.at_]] A fun e w' => (∃ g, e = .returned (.agg #[.int .i64 op, .int .i64 0, .string ⟨#[]⟩, .slice (some ⟨g, 0, none⟩) 2 2, .int .i64 0]) /\ KidsAt w' (fun k => N k \/ A.heap.size <= k) [n, s] (.slice (some ⟨g, 0, none⟩) 2 2)) /\ Turned (fun _ => False) A w') /\ (Calls Tryz.prog 12 #[.int .i64 op, .agg #[.int .i64 s.op, .int .i64 s.n, .string s.s, us, .int .i64 s.at_], .agg #[.int .i64 n.op, .int .i64 n.n, .string n.s, un, .int .i64 n.at_]] A fun e w' => (∃ g, e = .returned (.agg #[.int .i64 op, .int .i64 0, .string ⟨#[]⟩, .slice (some ⟨g, 0, none⟩) 2 2, .int .i64 0]) /\ KidsAt w' (fun k => N k \/ A.heap.size <= k) [s, n] (.slice (some ⟨g, 0, none⟩) 2 2)) /\ Turned (fun _ => False) A w')) := Lib.hid fun op A ht N hN => by
     have k1 := HKS.out.old TV.out ht hN
     have k2 := HKZ.out.old TV.out ht hN
     have k3 := HKN.out.old TV.out ht hN
     exact ⟨two_any op s z us uz A N k1 k2, two_any op n s un us A N k3 k1, two_any op s n us un A N k1 k3⟩
    have HLAW := Lib.hid (sums_law HOK.out.ha HOK.out.hb HOK.out.hc HOK.out.ka HOK.out.kb HOK.out.la HOK.out.lb)
    have HIS : Hid (∀ (op : Int) (x y : Ex) (l : List Pt) A g (v : Value) (N : Nat -> Prop), SmX x /\ nodes x <= 40 -> SmX y /\ nodes y <= 40 -> ofP (twoX op x y) [3, 4] = .ok (.wish (sumW l)) -> Turned (fun _ => False) wm A -> KidsAt A N [x, y] (.slice (some ⟨g, 0, none⟩) 2 2) -> PtsAt A l v -> Calls Tryz.prog 15 #[.agg #[.int .i64 op, .int .i64 0, .string ⟨#[]⟩, .slice (some ⟨g, 0, none⟩) 2 2, .int .i64 0], v] A fun e w' => e = .returned (.bool true) /\ Turned (fun _ => False) A w') := Lib.hid fun op x y l A g v N h1 h2 ho ht hk hp => by
     exact is_any (twoX op x y) (two_sm h1.1 h2.1) (by rw [two_nodes]; omega) _ v l A (HTB.out.turned (TV.out.trans ht)) (hk.move (Turned.refl (fun _ => False) A) (fun _ _ h => h) fun _ _ _ => trivial) hp ho
    have HISN : Hid (∀ A g (v : Value), Turned (fun _ => False) wm A -> KidsAt A (fun _ => True) [z] (.slice (some ⟨g, 0, none⟩) 1 1) -> PtsAt A (scaledP b.parts (intR (-1))) v -> Calls Tryz.prog 15 #[.agg #[.int .i64 6, .int .i64 0, .string ⟨#[]⟩, .slice (some ⟨g, 0, none⟩) 1 1, .int .i64 0], v] A fun e w' => e = .returned (.bool true) /\ Turned (fun _ => False) A w') := Lib.hid fun A g v ht hk hp => is_any (negX z) (by unfold negX; rw [SmX, SmXs, SmXs]; exact ⟨Nat.zero_le _, by simp, HOK.out.sb, trivial⟩) (by have := HOK.out.nb; unfold negX; rw [nodes, nodesL, nodesL]; omega) _ v _ A (HTB.out.turned (TV.out.trans ht)) hk hp HLAW.out.2.2.1
    have HKZ1 := Lib.hid (fun A (h : Turned (fun _ => False) wm A) => HKZ.out.all (TV.out.trans h))
    clear HPP HM HTM HKS HKZ HKN
    go_upto_region 17 with fail
    go_cut [20] (fun v wx => v = .bool true /\ Hid (Turned (fun _ => False) wm wx))
    case first =>
     refine wp_region_heldL (fun A => Turned (fun _ => False) wm A) (fun _ => True) 33 (by kernel_rfl) ?_
     have HA := Lib.hid ((Turned.refl (fun _ => False) wm).drew)
     generalize wm.drew = Y0 at HA ⊢
     refine tkx 0 (.func (.func 15) #[] #[]) HA (fun V hV => ?_) ?_
     ·clear hV; go_simp
     try simp only [zz0, zz1, zz2, Act.put, zz3, zz4, zz5]
     refine tkx 1 (.func (.func 12) #[] #[]) HA (fun V hV => ?_) ?_
     ·clear hV; go_simp
     try simp only [zz0, zz1, zz2, Act.put, zz3, zz4, zz5]
     refine tkx 2 (.agg #[.int .i64 s.op, .int .i64 s.n, .string s.s, us, .int .i64 s.at_]) HA (fun V hV => ?_) ?_
     ·obtain ⟨⟨s0, s1, s2, s3, s4⟩, ⟨z0, z1, z2, z3, z4⟩, ⟨n0, n1, n2, n3, n4⟩, pa1, pb1, u0, u1, u2⟩ := HX.out V hV; clear hV; go_simp
     try simp only [zz0, zz1, zz2, Act.put, zz3, zz4, zz5]
     refine tkx 3 (.agg #[.int .i64 z.op, .int .i64 z.n, .string z.s, uz, .int .i64 z.at_]) HA (fun V hV => ?_) ?_
     ·obtain ⟨⟨s0, s1, s2, s3, s4⟩, ⟨z0, z1, z2, z3, z4⟩, ⟨n0, n1, n2, n3, n4⟩, pa1, pb1, u0, u1, u2⟩ := HX.out V hV; clear hV; go_simp
     try simp only [zz0, zz1, zz2, Act.put, zz3, zz4, zz5]
     refine tkx 6 (.pointer (some ⟨ba, 1, none⟩)) HA (fun V hV => ?_) ?_
     ·clear hV; go_simp
     try simp only [zz0, zz1, zz2, Act.put, zz3, zz4, zz5]
     refine tkx 7 (.slice pa a.parts.length ca) HA (fun V hV => ?_) ?_
     ·obtain ⟨⟨s0, s1, s2, s3, s4⟩, ⟨z0, z1, z2, z3, z4⟩, ⟨n0, n1, n2, n3, n4⟩, pa1, pb1, u0, u1, u2⟩ := HX.out V hV; clear hV; go_simp
     try simp only [zz0, zz1, zz2, Act.put, zz3, zz4, zz5]
     refine tkx 9 (.pointer (some ⟨bb, 1, none⟩)) HA (fun V hV => ?_) ?_
     ·clear hV; go_simp
     try simp only [zz0, zz1, zz2, Act.put, zz3, zz4, zz5]
     refine tkx 10 (.slice pb b.parts.length cb) HA (fun V hV => ?_) ?_
     ·obtain ⟨⟨s0, s1, s2, s3, s4⟩, ⟨z0, z1, z2, z3, z4⟩, ⟨n0, n1, n2, n3, n4⟩, pa1, pb1, u0, u1, u2⟩ := HX.out V hV; clear hV; go_simp
     try simp only [zz0, zz1, zz2, Act.put, zz3, zz4, zz5]
     refine hv2m 4 5 (fun x y X => ∃ bn kb, x = .agg #[.int .i64 10, .int .i64 0, .string ⟨#[]⟩, .slice (some ⟨kb, 0, none⟩) 2 2, .int .i64 0] /\ y = .slice (some ⟨bn, 0, none⟩) 0 0 /\ Hid (KidsAt X (fun g => (Value.slice (some ⟨bn, 0, none⟩) 0 0).ownBlock ≠ some g) [s, z] (.slice (some ⟨kb, 0, none⟩) 2 2)) /\ Hid (X.heap[bn]? = some (.cells #[] 51 (0, 0))) /\ Hid (wm.heap.size <= bn)) 98 99 (fun K hK => ?_) (fun K hK => ?_) (fun x y X2 hR hrel => ?_)
     ·unfold stp
      go_simp
      refine ((HTW.out 10 _ HA.out (fun _ => True) (fun _ _ => trivial)).1).mono ?_
      rintro e1 Y1 ⟨⟨kb, rfl, hk⟩, ht⟩
      have HA := Lib.hid (HA.out.trans ht)
      have HK0 := Lib.hid hk
      clear ht hk
      refine hK.out _ (.agg #[.int .i64 10, .int .i64 0, .string ⟨#[]⟩, .slice (some ⟨kb, 0, none⟩) 2 2, .int .i64 0]) _ (by first | rfl | simp only [zz0, zz1, zz2, Act.put, zz3, zz4, zz5]) HA.out ?_
      clear hK K
      intro K hK
      unfold stp
      go_simp
      refine hK.out _ (.slice (some ⟨Y1.heap.size, 0, none⟩) 0 0) _ (by first | rfl | simp only [zz0, zz1, zz2, Act.put, zz3, zz4, zz5]) (HA.out.alloc _) ⟨Y1.heap.size, kb, rfl, rfl, Lib.hid ?_, Lib.hid (World.alloc_heap_new _ _), Lib.hid HA.out.size⟩
      exact HK0.out.move ((Turned.refl (fun _ => False) Y1).alloc _) (fun _ _ h => h) fun b _ hb h => by have := Option.some.inj h; simp only at this; omega
     ·unfold stp
      go_simp
      refine hK.out _ (.slice (some ⟨Y0.heap.size, 0, none⟩) 0 0) _ (by first | rfl | simp only [zz0, zz1, zz2, Act.put, zz3, zz4, zz5]) (HA.out.alloc _) ?_
      clear hK K
      obtain ⟨Y1, hX, HG, hs, HBN, HA⟩ := new_list HA.out
      rw [<- hX]
      clear hX
      generalize Y0.heap.size = bn at HG HBN hs ⊢
      intro K hK
      unfold stp
      go_simp
      refine ((HTW.out 10 _ HA.out (fun g => g < bn) (fun g hg => Nat.lt_of_lt_of_le hg HBN.out)).1).mono ?_
      rintro e1 X2 ⟨⟨kb, rfl, hk⟩, ht⟩
      refine hK.out _ (.agg #[.int .i64 10, .int .i64 0, .string ⟨#[]⟩, .slice (some ⟨kb, 0, none⟩) 2 2, .int .i64 0]) _ (by first | rfl | simp only [zz0, zz1, zz2, Act.put, zz3, zz4, zz5]) (HA.out.trans ht) ⟨bn, kb, rfl, rfl, Lib.hid ?_, Lib.hid (keepB ht HG.out), HBN⟩
      exact hk.move (Turned.refl (fun _ => False) X2) (fun _ _ h => h) fun b hb _ h => by have := Option.some.inj h; have := hs.out; simp only at *; omega
     obtain ⟨bn, kb, rfl, rfl, HK, HG, HBN⟩ := hrel
     have HA := Lib.hid hR
     clear hR
     try simp only [zz0, zz1, zz2, Act.put, zz3, zz4, zz5]
     refine hvOpx 8 ?_
     refine wpOp_pts rfl (by kernel_rfl) _ _ rfl wm.heap.size _ (.slice (some ⟨bn, 0, none⟩) 0 0) [] a.parts pa ca rfl (grown_nil' HG.out HBN.out) rfl HNE.out.1 (HLA.out _ HA.out).1 (by have h1 := HOK.out.la; have h2 := HOK.out.lb; simp only [List.length_nil, List.nil_append, scaled_len]; omega) HA.out.size ?_
     intro q1 c1 w1 hg ht hex
     have HK := Lib.hid (HK.out.app ht hex)
     have HO1 := Lib.hid (fun g h => (hex g h).elim (fun h1 => (by have := Option.some.inj h1; simp only at this; have := HBN.out; omega)) fun h1 => Nat.le_trans HA.out.size h1)
     have HA := Lib.hid (HA.out.fresh ht (fun g h1 => (by have := Option.some.inj h1; simp only at this; have := HBN.out; omega)))
     have HG1 := Lib.hid hg
     clear hg ht hex
     refine ⟨HA.out, fun _ => trivial, ?_⟩
     try simp only [zz0, zz1, zz2, Act.put, zz3, zz4, zz5]
     refine hvOpx 11 ?_
     refine wpOp_pts rfl (by kernel_rfl) _ _ rfl wm.heap.size _ (.slice q1 ([] ++ a.parts).length c1) ([] ++ a.parts) b.parts pb cb rfl HG1.out rfl HNE.out.2 (HLA.out _ HA.out).2.1 (by have h1 := HOK.out.la; have h2 := HOK.out.lb; simp only [List.length_nil, List.nil_append, scaled_len]; omega) HA.out.size ?_
     intro q2 c2 w2 hg ht hex
     have HK := Lib.hid (HK.out.app ht hex)
     have HO2 := Lib.hid (fun g h => (hex g h).elim (fun h1 => HO1.out g h1) fun h1 => Nat.le_trans HA.out.size h1)
     have HA := Lib.hid (HA.out.fresh ht (fun g h1 => HO1.out g h1))
     have HG2 := Lib.hid hg
     clear hg ht hex
     refine ⟨HA.out, fun _ => trivial, ?_⟩
     try simp only [zz0, zz1, zz2, Act.put, zz3, zz4, zz5]
     have HP2 := Lib.hid (show PtsAt w2 (a.parts ++ b.parts) (.slice q2 (a.parts.length + b.parts.length) c2) by have h := HG2.out.pts; rwa [List.nil_append, List.length_append] at h)
     refine hvx 12 fun K hK => ?_
     go_simp
     refine (HIS.out 10 s z _ _ _ _ _ ⟨HOK.out.sa, HOK.out.na⟩ ⟨HOK.out.sb, HOK.out.nb⟩ HLAW.out.1 HA.out HK.out HP2.out).mono ?_
     rintro e1 Z1 ⟨rfl, ht⟩
     have HA := Lib.hid (HA.out.trans ht)
     clear ht
     refine hK.out _ _ HA.out ?_
     clear hK K
     try simp only [zz0, zz1, zz2, Act.put, zz3, zz4, zz5]
     clear HK HG HBN HG1 HG2 HO1 HO2 HP2
     refine tkx 13 (.bool true) HA (fun V hV => ?_) ?_
     ·clear hV; go_simp
     try simp only [zz0, zz1, zz2, Act.put, zz3, zz4, zz5]
     refine tkx 14 (.func (.func 15) #[] #[]) HA (fun V hV => ?_) ?_
     ·clear hV; go_simp
     try simp only [zz0, zz1, zz2, Act.put, zz3, zz4, zz5]
     refine tkx 15 (.func (.func 12) #[] #[]) HA (fun V hV => ?_) ?_
     ·clear hV; go_simp
     try simp only [zz0, zz1, zz2, Act.put, zz3, zz4, zz5]
     refine tkx 16 (.agg #[.int .i64 s.op, .int .i64 s.n, .string s.s, us, .int .i64 s.at_]) HA (fun V hV => ?_) ?_
     ·obtain ⟨⟨s0, s1, s2, s3, s4⟩, ⟨z0, z1, z2, z3, z4⟩, ⟨n0, n1, n2, n3, n4⟩, pa1, pb1, u0, u1, u2⟩ := HX.out V hV; clear hV; go_simp
     try simp only [zz0, zz1, zz2, Act.put, zz3, zz4, zz5]
     refine tkx 17 (.agg #[.int .i64 z.op, .int .i64 z.n, .string z.s, uz, .int .i64 z.at_]) HA (fun V hV => ?_) ?_
     ·obtain ⟨⟨s0, s1, s2, s3, s4⟩, ⟨z0, z1, z2, z3, z4⟩, ⟨n0, n1, n2, n3, n4⟩, pa1, pb1, u0, u1, u2⟩ := HX.out V hV; clear hV; go_simp
     try simp only [zz0, zz1, zz2, Act.put, zz3, zz4, zz5]
     refine tkx 20 (.pointer (some ⟨ba, 1, none⟩)) HA (fun V hV => ?_) ?_
     ·clear hV; go_simp
     try simp only [zz0, zz1, zz2, Act.put, zz3, zz4, zz5]
     refine tkx 21 (.slice pa a.parts.length ca) HA (fun V hV => ?_) ?_
     ·obtain ⟨⟨s0, s1, s2, s3, s4⟩, ⟨z0, z1, z2, z3, z4⟩, ⟨n0, n1, n2, n3, n4⟩, pa1, pb1, u0, u1, u2⟩ := HX.out V hV; clear hV; go_simp
     try simp only [zz0, zz1, zz2, Act.put, zz3, zz4, zz5]
     refine tkx 23 (.slice pm (scaledP b.parts (intR (-1))).length cm) HA (fun V hV => ?_) ?_
     ·clear hV; go_simp
     try simp only [zz0, zz1, zz2, Act.put, zz3, zz4, zz5]
     generalize Z1 = Y0 at HA ⊢
     refine hv2m 18 19 (fun x y X => ∃ bn kb, x = .agg #[.int .i64 11, .int .i64 0, .string ⟨#[]⟩, .slice (some ⟨kb, 0, none⟩) 2 2, .int .i64 0] /\ y = .slice (some ⟨bn, 0, none⟩) 0 0 /\ Hid (KidsAt X (fun g => (Value.slice (some ⟨bn, 0, none⟩) 0 0).ownBlock ≠ some g) [s, z] (.slice (some ⟨kb, 0, none⟩) 2 2)) /\ Hid (X.heap[bn]? = some (.cells #[] 51 (0, 0))) /\ Hid (wm.heap.size <= bn)) 112 113 (fun K hK => ?_) (fun K hK => ?_) (fun x y X2 hR hrel => ?_)
     ·unfold stp
      rw [if_pos (by kernel_rfl)]
      go_simp
      refine ((HTW.out 11 _ HA.out (fun _ => True) (fun _ _ => trivial)).1).mono ?_
      rintro e1 Y1 ⟨⟨kb, rfl, hk⟩, ht⟩
      have HA := Lib.hid (HA.out.trans ht)
      have HK0 := Lib.hid hk
      clear ht hk
      refine hK.out _ (.agg #[.int .i64 11, .int .i64 0, .string ⟨#[]⟩, .slice (some ⟨kb, 0, none⟩) 2 2, .int .i64 0]) _ (by first | rfl | simp only [zz0, zz1, zz2, Act.put, zz3, zz4, zz5]) HA.out ?_
      clear hK K
      intro K hK
      unfold stp
      rw [if_pos (by kernel_rfl)]
      go_simp
      refine hK.out _ (.slice (some ⟨Y1.heap.size, 0, none⟩) 0 0) _ (by first | rfl | simp only [zz0, zz1, zz2, Act.put, zz3, zz4, zz5]) (HA.out.alloc _) ⟨Y1.heap.size, kb, rfl, rfl, Lib.hid ?_, Lib.hid (World.alloc_heap_new _ _), Lib.hid HA.out.size⟩
      exact HK0.out.move ((Turned.refl (fun _ => False) Y1).alloc _) (fun _ _ h => h) fun b _ hb h => by have := Option.some.inj h; simp only at this; omega
     ·unfold stp
      rw [if_pos (by kernel_rfl)]
      go_simp
      refine hK.out _ (.slice (some ⟨Y0.heap.size, 0, none⟩) 0 0) _ (by first | rfl | simp only [zz0, zz1, zz2, Act.put, zz3, zz4, zz5]) (HA.out.alloc _) ?_
      clear hK K
      obtain ⟨Y1, hX, HG, hs, HBN, HA⟩ := new_list HA.out
      rw [<- hX]
      clear hX
      generalize Y0.heap.size = bn at HG HBN hs ⊢
      intro K hK
      unfold stp
      rw [if_pos (by kernel_rfl)]
      go_simp
      refine ((HTW.out 11 _ HA.out (fun g => g < bn) (fun g hg => Nat.lt_of_lt_of_le hg HBN.out)).1).mono ?_
      rintro e1 X2 ⟨⟨kb, rfl, hk⟩, ht⟩
      refine hK.out _ (.agg #[.int .i64 11, .int .i64 0, .string ⟨#[]⟩, .slice (some ⟨kb, 0, none⟩) 2 2, .int .i64 0]) _ (by first | rfl | simp only [zz0, zz1, zz2, Act.put, zz3, zz4, zz5]) (HA.out.trans ht) ⟨bn, kb, rfl, rfl, Lib.hid ?_, Lib.hid (keepB ht HG.out), HBN⟩
      exact hk.move (Turned.refl (fun _ => False) X2) (fun _ _ h => h) fun b hb _ h => by have := Option.some.inj h; have := hs.out; simp only at *; omega
     obtain ⟨bn, kb, rfl, rfl, HK, HG, HBN⟩ := hrel
     have HA := Lib.hid hR
     clear hR
     try simp only [zz0, zz1, zz2, Act.put, zz3, zz4, zz5]
     refine hvOpx 22 ?_
     refine wpOp_pts rfl (by kernel_rfl) _ _ rfl wm.heap.size _ (.slice (some ⟨bn, 0, none⟩) 0 0) [] a.parts pa ca rfl (grown_nil' HG.out HBN.out) rfl HNE.out.1 (HLA.out _ HA.out).1 (by have h1 := HOK.out.la; have h2 := HOK.out.lb; simp only [List.length_nil, List.nil_append, scaled_len]; omega) HA.out.size ?_
     intro q1 c1 w1 hg ht hex
     have HK := Lib.hid (HK.out.app ht hex)
     have HO1 := Lib.hid (fun g h => (hex g h).elim (fun h1 => (by have := Option.some.inj h1; simp only at this; have := HBN.out; omega)) fun h1 => Nat.le_trans HA.out.size h1)
     have HA := Lib.hid (HA.out.fresh ht (fun g h1 => (by have := Option.some.inj h1; simp only at this; have := HBN.out; omega)))
     have HG1 := Lib.hid hg
     clear hg ht hex
     refine ⟨HA.out, fun _ => trivial, ?_⟩
     try simp only [zz0, zz1, zz2, Act.put, zz3, zz4, zz5]
     refine hvOpx 24 ?_
     refine wpOp_pts rfl (by kernel_rfl) _ _ rfl wm.heap.size _ (.slice q1 ([] ++ a.parts).length c1) ([] ++ a.parts) (scaledP b.parts (intR (-1))) pm cm rfl HG1.out rfl HSN.out (HLA.out _ HA.out).2.2 (by have h1 := HOK.out.la; have h2 := HOK.out.lb; simp only [List.length_nil, List.nil_append, scaled_len]; omega) HA.out.size ?_
     intro q2 c2 w2 hg ht hex
     have HK := Lib.hid (HK.out.app ht hex)
     have HO2 := Lib.hid (fun g h => (hex g h).elim (fun h1 => HO1.out g h1) fun h1 => Nat.le_trans HA.out.size h1)
     have HA := Lib.hid (HA.out.fresh ht (fun g h1 => HO1.out g h1))
     have HG2 := Lib.hid hg
     clear hg ht hex
     refine ⟨HA.out, fun _ => trivial, ?_⟩
     try simp only [zz0, zz1, zz2, Act.put, zz3, zz4, zz5]
     have HP2 := Lib.hid (show PtsAt w2 (a.parts ++ scaledP b.parts (intR (-1))) (.slice q2 (a.parts.length + (scaledP b.parts (intR (-1))).length) c2) by have h := HG2.out.pts; rwa [List.nil_append, List.length_append] at h)
     refine hvx 25 fun K hK => ?_
     rw [if_pos (by kernel_rfl)]
     go_simp
     refine (HIS.out 11 s z _ _ _ _ _ ⟨HOK.out.sa, HOK.out.na⟩ ⟨HOK.out.sb, HOK.out.nb⟩ HLAW.out.2.1 HA.out HK.out HP2.out).mono ?_
     rintro e1 Z1 ⟨rfl, ht⟩
     have HA := Lib.hid (HA.out.trans ht)
     clear ht
     refine hK.out _ _ HA.out ?_
     clear hK K
     try simp only [zz0, zz1, zz2, Act.put, zz3, zz4, zz5]
     clear HK HG HBN HG1 HG2 HO1 HO2 HP2
     refine tkx 26 (.bool true) HA (fun V hV => ?_) ?_
     ·clear hV; go_simp
     try simp only [zz0, zz1, zz2, Act.put, zz3, zz4, zz5]
     refine tkx 27 (.bool true) HA (fun V hV => ?_) ?_
     ·clear hV; go_simp
     try simp only [zz0, zz1, zz2, Act.put, zz3, zz4, zz5]
     refine tkx 28 (.func (.func 15) #[] #[]) HA (fun V hV => ?_) ?_
     ·clear hV; go_simp
     try simp only [zz0, zz1, zz2, Act.put, zz3, zz4, zz5]
     refine tkx 29 (.agg #[.int .i64 z.op, .int .i64 z.n, .string z.s, uz, .int .i64 z.at_]) HA (fun V hV => ?_) ?_
     ·obtain ⟨⟨s0, s1, s2, s3, s4⟩, ⟨z0, z1, z2, z3, z4⟩, ⟨n0, n1, n2, n3, n4⟩, pa1, pb1, u0, u1, u2⟩ := HX.out V hV; clear hV; go_simp
     try simp only [zz0, zz1, zz2, Act.put, zz3, zz4, zz5]
     refine tkx 32 (.slice pm (scaledP b.parts (intR (-1))).length cm) HA (fun V hV => ?_) ?_
     ·clear hV; go_simp
     try simp only [zz0, zz1, zz2, Act.put, zz3, zz4, zz5]
     refine hvx 30 fun K hK => ?_
     rw [if_pos (by kernel_rfl)]
     go_simp
     obtain ⟨Y2, hX⟩ : ∃ X, X = Z1.alloc (.cells #[.int .i64 z.op, .int .i64 z.n, .string z.s, uz, .int .i64 z.at_] 42) := ⟨_, rfl⟩
     have HKN1 := Lib.hid (show KidsAt Y2 (fun _ => True) [z] (.slice (some ⟨Z1.heap.size, 0, none⟩) 1 1) by rw [hX]; exact kids_at [(z, uz)] (by simp [maxLen]) (by intro p hp; rw [List.mem_singleton] at hp; subst hp; exact HKZ1.out _ (HA.out.alloc _)) 1 trivial (World.alloc_heap_new _ _) rfl)
     have HA := Lib.hid (show Turned (fun _ => False) wm Y2 by rw [hX]; exact HA.out.alloc _)
     rw [<- hX]
     clear hX
     refine hK.out _ _ HA.out ?_
     clear hK K
     try simp only [zz0, zz1, zz2, Act.put, zz3, zz4, zz5]
     refine tkx 31 (.agg #[.int .i64 6, .int .i64 0, .string ⟨#[]⟩, .slice (some ⟨Z1.heap.size, 0, none⟩) 1 1, .int .i64 0]) HA (fun V hV => ?_) ?_
     ·clear hV; go_simp
     try simp only [zz0, zz1, zz2, Act.put, zz3, zz4, zz5]
     refine hvx 33 fun K hK => ?_
     rw [if_pos (by kernel_rfl)]
     go_simp
     refine (HISN.out _ _ _ HA.out HKN1.out (HPM.out.turned HA.out)).mono ?_
     rintro e1 Z2 ⟨rfl, ht⟩
     have HA := Lib.hid (HA.out.trans ht)
     clear ht
     refine hK.out _ _ HA.out ?_
     clear hK K
     try simp only [zz0, zz1, zz2, Act.put, zz3, zz4, zz5]
     refine tkx 34 (.bool true) HA (fun V hV => ?_) ?_
     ·clear hV; go_simp
     try simp only [zz0, zz1, zz2, Act.put, zz3, zz4, zz5]
     refine tkx 35 (.bool true) HA (fun V hV => ?_) ?_
     ·clear hV; go_simp
     try simp only [zz0, zz1, zz2, Act.put, zz3, zz4, zz5]
     refine wpAnyL_done (by kernel_rfl) ?_ _
     go_wp2_with fail
     go_meet
     case rel => exact ⟨rfl, HA⟩
    case rest =>
     obtain ⟨rfl, HT1⟩ := hcut
     obtain ⟨wn, hwn⟩ : ∃ w, w = wc := ⟨_, rfl⟩
     subst hwn
     go_upto_region 18 with fail
     go_cut [21] (fun v wx => v = .bool true /\ Hid (Turned (fun _ => False) wm wx))
     case first =>
      refine wp_region_heldL (fun A => Turned (fun _ => False) wm A) (fun _ => True) 22 (by kernel_rfl) ?_
      have HA := Lib.hid (HT1.out.drew)
      generalize wn.drew = Y0 at HA ⊢
      refine tkx 0 (.func (.func 15) #[] #[]) HA (fun V hV => ?_) ?_
      ·clear hV; go_simp
      try simp only [zz0, zz1, zz2, Act.put, zz3, zz4, zz5]
      refine tkx 1 (.func (.func 12) #[] #[]) HA (fun V hV => ?_) ?_
      ·clear hV; go_simp
      try simp only [zz0, zz1, zz2, Act.put, zz3, zz4, zz5]
      refine tkx 2 (.agg #[.int .i64 n.op, .int .i64 n.n, .string n.s, un, .int .i64 n.at_]) HA (fun V hV => ?_) ?_
      ·obtain ⟨⟨s0, s1, s2, s3, s4⟩, ⟨z0, z1, z2, z3, z4⟩, ⟨n0, n1, n2, n3, n4⟩, pa1, pb1, u0, u1, u2⟩ := HX.out V hV; clear hV; go_simp
      try simp only [zz0, zz1, zz2, Act.put, zz3, zz4, zz5]
      refine tkx 3 (.agg #[.int .i64 s.op, .int .i64 s.n, .string s.s, us, .int .i64 s.at_]) HA (fun V hV => ?_) ?_
      ·obtain ⟨⟨s0, s1, s2, s3, s4⟩, ⟨z0, z1, z2, z3, z4⟩, ⟨n0, n1, n2, n3, n4⟩, pa1, pb1, u0, u1, u2⟩ := HX.out V hV; clear hV; go_simp
      try simp only [zz0, zz1, zz2, Act.put, zz3, zz4, zz5]
      refine tkx 5 (.func (.func 13) #[] #[]) HA (fun V hV => ?_) ?_
      ·clear hV; go_simp
      try simp only [zz0, zz1, zz2, Act.put, zz3, zz4, zz5]
      refine tkx 6 (.pointer (some ⟨ba, 1, none⟩)) HA (fun V hV => ?_) ?_
      ·clear hV; go_simp
      try simp only [zz0, zz1, zz2, Act.put, zz3, zz4, zz5]
      refine tkx 7 (.slice pa a.parts.length ca) HA (fun V hV => ?_) ?_
      ·obtain ⟨⟨s0, s1, s2, s3, s4⟩, ⟨z0, z1, z2, z3, z4⟩, ⟨n0, n1, n2, n3, n4⟩, pa1, pb1, u0, u1, u2⟩ := HX.out V hV; clear hV; go_simp
      try simp only [zz0, zz1, zz2, Act.put, zz3, zz4, zz5]
      refine tkx 8 (.agg #[.bool un_, .string ux, .string ud]) HA (fun V hV => ?_) ?_
      ·obtain ⟨⟨s0, s1, s2, s3, s4⟩, ⟨z0, z1, z2, z3, z4⟩, ⟨n0, n1, n2, n3, n4⟩, pa1, pb1, u0, u1, u2⟩ := HX.out V hV; clear hV; go_simp
      try simp only [zz0, zz1, zz2, Act.put, zz3, zz4, zz5]
      refine hvx 4 fun K hK => ?_
      go_simp
      refine ((HTW.out 7 _ HA.out (fun _ => True) (fun _ _ => trivial)).2.1).mono ?_
      rintro e1 Z3 ⟨⟨kb, rfl, hk⟩, ht⟩
      have HA := Lib.hid (HA.out.trans ht)
      have HK := Lib.hid hk
      clear ht hk
      refine hK.out _ _ HA.out ?_
      clear hK K
      try simp only [zz0, zz1, zz2, Act.put, zz3, zz4, zz5]
      refine hvx 9 fun K hK => ?_
      go_simp
      refine (HSC.out ⟨un_, ux, ud⟩ HZC.out.2 _ HA.out).mono ?_
      rintro e1 Z4 ⟨⟨v4, rfl, hp⟩, ht⟩
      have HA := Lib.hid (HA.out.trans ht)
      have HK := Lib.hid (HK.out.move ht (fun _ _ h => h) (M := fun _ => True) fun _ _ _ => trivial)
      have HP4 := Lib.hid hp
      clear ht hp
      refine hK.out _ _ HA.out ?_
      clear hK K
      try simp only [zz0, zz1, zz2, Act.put, zz3, zz4, zz5]
      refine hvx 10 fun K hK => ?_
      go_simp
      refine (HIS.out 7 n s _ _ _ _ _ ⟨HOK.out.sc, HOK.out.nc⟩ ⟨HOK.out.sa, HOK.out.na⟩ HLAW.out.2.2.2.1 HA.out HK.out HP4.out).mono ?_
      rintro e1 Z1 ⟨rfl, ht⟩
      have HA := Lib.hid (HA.out.trans ht)
      clear ht
      refine hK.out _ _ HA.out ?_
      clear hK K
      try simp only [zz0, zz1, zz2, Act.put, zz3, zz4, zz5]
      clear HK HP4
      refine tkx 11 (.bool true) HA (fun V hV => ?_) ?_
      ·clear hV; go_simp
      try simp only [zz0, zz1, zz2, Act.put, zz3, zz4, zz5]
      refine tkx 12 (.func (.func 15) #[] #[]) HA (fun V hV => ?_) ?_
      ·clear hV; go_simp
      try simp only [zz0, zz1, zz2, Act.put, zz3, zz4, zz5]
      refine tkx 13 (.func (.func 12) #[] #[]) HA (fun V hV => ?_) ?_
      ·clear hV; go_simp
      try simp only [zz0, zz1, zz2, Act.put, zz3, zz4, zz5]
      refine tkx 14 (.agg #[.int .i64 s.op, .int .i64 s.n, .string s.s, us, .int .i64 s.at_]) HA (fun V hV => ?_) ?_
      ·obtain ⟨⟨s0, s1, s2, s3, s4⟩, ⟨z0, z1, z2, z3, z4⟩, ⟨n0, n1, n2, n3, n4⟩, pa1, pb1, u0, u1, u2⟩ := HX.out V hV; clear hV; go_simp
      try simp only [zz0, zz1, zz2, Act.put, zz3, zz4, zz5]
      refine tkx 15 (.agg #[.int .i64 n.op, .int .i64 n.n, .string n.s, un, .int .i64 n.at_]) HA (fun V hV => ?_) ?_
      ·obtain ⟨⟨s0, s1, s2, s3, s4⟩, ⟨z0, z1, z2, z3, z4⟩, ⟨n0, n1, n2, n3, n4⟩, pa1, pb1, u0, u1, u2⟩ := HX.out V hV; clear hV; go_simp
      try simp only [zz0, zz1, zz2, Act.put, zz3, zz4, zz5]
      refine tkx 17 (.func (.func 13) #[] #[]) HA (fun V hV => ?_) ?_
      ·clear hV; go_simp
      try simp only [zz0, zz1, zz2, Act.put, zz3, zz4, zz5]
      refine tkx 18 (.pointer (some ⟨ba, 1, none⟩)) HA (fun V hV => ?_) ?_
      ·clear hV; go_simp
      try simp only [zz0, zz1, zz2, Act.put, zz3, zz4, zz5]
      refine tkx 19 (.slice pa a.parts.length ca) HA (fun V hV => ?_) ?_
      ·obtain ⟨⟨s0, s1, s2, s3, s4⟩, ⟨z0, z1, z2, z3, z4⟩, ⟨n0, n1, n2, n3, n4⟩, pa1, pb1, u0, u1, u2⟩ := HX.out V hV; clear hV; go_simp
      try simp only [zz0, zz1, zz2, Act.put, zz3, zz4, zz5]
      refine tkx 20 (.agg #[.bool un_, .string ux, .string ud]) HA (fun V hV => ?_) ?_
      ·obtain ⟨⟨s0, s1, s2, s3, s4⟩, ⟨z0, z1, z2, z3, z4⟩, ⟨n0, n1, n2, n3, n4⟩, pa1, pb1, u0, u1, u2⟩ := HX.out V hV; clear hV; go_simp
      try simp only [zz0, zz1, zz2, Act.put, zz3, zz4, zz5]
      refine hvx 16 fun K hK => ?_
      rw [if_pos (by kernel_rfl)]
      go_simp
      refine ((HTW.out 7 _ HA.out (fun _ => True) (fun _ _ => trivial)).2.2).mono ?_
      rintro e1 Z3 ⟨⟨kb, rfl, hk⟩, ht⟩
      have HA := Lib.hid (HA.out.trans ht)
      have HK := Lib.hid hk
      clear ht hk
      refine hK.out _ _ HA.out ?_
      clear hK K
      try simp only [zz0, zz1, zz2, Act.put, zz3, zz4, zz5]
      refine hvx 21 fun K hK => ?_
      rw [if_pos (by kernel_rfl)]
      go_simp
      refine (HSC.out ⟨un_, ux, ud⟩ HZC.out.2 _ HA.out).mono ?_
      rintro e1 Z4 ⟨⟨v4, rfl, hp⟩, ht⟩
      have HA := Lib.hid (HA.out.trans ht)
      have HK := Lib.hid (HK.out.move ht (fun _ _ h => h) (M := fun _ => True) fun _ _ _ => trivial)
      have HP4 := Lib.hid hp
      clear ht hp
      refine hK.out _ _ HA.out ?_
      clear hK K
      try simp only [zz0, zz1, zz2, Act.put, zz3, zz4, zz5]
      refine hvx 22 fun K hK => ?_
      rw [if_pos (by kernel_rfl)]
      go_simp
      refine (HIS.out 7 s n _ _ _ _ _ ⟨HOK.out.sa, HOK.out.na⟩ ⟨HOK.out.sc, HOK.out.nc⟩ HLAW.out.2.2.2.2.1 HA.out HK.out HP4.out).mono ?_
      rintro e1 Z1 ⟨rfl, ht⟩
      have HA := Lib.hid (HA.out.trans ht)
      clear ht
      refine hK.out _ _ HA.out ?_
      clear hK K
      try simp only [zz0, zz1, zz2, Act.put, zz3, zz4, zz5]
      refine tkx 23 (.bool true) HA (fun V hV => ?_) ?_
      ·clear hV; go_simp
      try simp only [zz0, zz1, zz2, Act.put, zz3, zz4, zz5]
      refine tkx 24 (.bool true) HA (fun V hV => ?_) ?_
      ·clear hV; go_simp
      try simp only [zz0, zz1, zz2, Act.put, zz3, zz4, zz5]
      refine wpAnyL_done (by kernel_rfl) ?_ _
      go_wp2_with fail
      go_meet
      case rel => exact ⟨rfl, HA⟩
     case rest =>
      obtain ⟨rfl, HT2⟩ := hcut
      obtain ⟨wo, hwo⟩ : ∃ w, w = wc := ⟨_, rfl⟩
      subst hwo
      clear HT1
      obtain ⟨⟨s0, s1, s2, s3, s4⟩, ⟨z0, z1, z2, z3, z4⟩, ⟨n0, n1, n2, n3, n4⟩, pa1, pb1, u0, u1, u2⟩ := HX.out _ HT2.out
      by_cases hz : qR ⟨un_, ux, ud⟩ = 0
      ·have hc0 : (⟨un_, ux, ud⟩ : Rv) = zeroR := HZC.out.1.zero_of hz
       cases hc0
       have HE := Lib.hid (HLAW.out.2.2.2.2.2.1 hz)
       have hsr : sameR ⟨false, ⟨#[]⟩, ⟨#[]⟩⟩ ⟨false, ⟨#[]⟩, ⟨#[]⟩⟩ = true := by simp [sameR]
       have HWE : Hid (∀ A g, Turned (fun _ => False) wm A -> KidsAt A (fun _ => True) [s, n] (.slice (some ⟨g, 0, none⟩) 2 2) -> Calls Tryz.prog 10 #[.agg #[.int .i64 8, .int .i64 0, .string ⟨#[]⟩, .slice (some ⟨g, 0, none⟩) 2 2, .int .i64 0]] A fun e w' => e = .returned (.tuple #[.agg #[.int .i64 0, .slice none 0 0, .int .i64 0, .int .i64 0, .int .i64 0, .int .i64 0, .int .i64 0, .bool false, .string ⟨#[]⟩, .string ⟨#[]⟩, .bool false, .string ⟨#[]⟩, .string ⟨#[]⟩], .int .i64 1]) /\ Turned (fun _ => False) A w') := Lib.hid fun A g ht hk => by
        have h := jWish_any (twoX 8 s n) (two_sm HOK.out.sa HOK.out.sc) (by have h1 := HOK.out.na; have h2 := HOK.out.nc; rw [two_nodes]; omega) (.slice (some ⟨g, 0, none⟩) 2 2) A (HTB.out.turned (TV.out.trans ht)) hk
        rw [HE.out] at h
        exact h
       clear hz
       go_wp2_with (first | (go_at_call 12; refine ((HTW.out 8 _ HT2.out (fun _ => True) (fun _ _ => trivial)).2.2).mono ?_; rintro e1 Z1 ⟨⟨kb, rfl, hk⟩, ht⟩; have HK := Lib.hid (hk.move (Turned.refl (fun _ => False) Z1) (fun _ _ h => h) (M := fun _ => True) fun _ _ _ => trivial); have HT3 := Lib.hid (HT2.out.trans ht); clear ht hk) | (go_at_call 10; refine (HWE.out _ _ HT3.out HK.out).mono ?_; rintro e2 Z2 ⟨rfl, ht⟩; have HT4 := Lib.hid ((HT3.out.trans ht).alloc (.cells #[.int .i64 0, .slice none 0 0, .int .i64 0, .int .i64 0, .int .i64 0, .int .i64 0, .int .i64 0, .bool false, .string ⟨#[]⟩, .string ⟨#[]⟩, .bool false, .string ⟨#[]⟩, .string ⟨#[]⟩] 33)); clear ht) | (go_at_call 5; refine (HS.out _ (TV.out.trans HT4.out)).mono ?_; rintro e3 Z5 ⟨rfl, ht⟩; have HT5 := Lib.hid ((TV.out.trans HT4.out).trans ht); clear ht))
       go_ret
       exact ⟨rfl, HT5.out⟩
      ·have hsr : sameR ⟨un_, ux, ud⟩ ⟨false, ⟨#[]⟩, ⟨#[]⟩⟩ = false := by
        simp only [sameR, decide_eq_false_iff_not]
        rintro h
        rw [h] at hz
        exact hz rfl
       have HI1 : Hid (RvOK 641 (repR (1 / qR ⟨un_, ux, ud⟩))) := Lib.hid HZC.out.1.inv
       have HD := Lib.hid (HLAW.out.2.2.2.2.2.2 hz)
       have HDV : Hid (∀ V, Calls Tryz.prog 18 #[ratV (intR 1), ratV ⟨un_, ux, ud⟩] V fun e w' => e = .returned (.tuple #[ratV (repR (1 / qR ⟨un_, ux, ud⟩)), .int .i64 0]) /\ Turned (fun _ => False) V w') := Lib.hid fun V => by
        have h := qDiv_any (intR 1) ⟨un_, ux, ud⟩ 2000000 V (by decide) (by decide) ((RvOK.int (n := 1) (by decide) (by decide)).sz (by decide)) HZC.out.2 hz
        rwa [show qR (intR 1) = 1 from qR_repR 1] at h
       obtain ⟨⟨on, ox, od⟩, ho⟩ : ∃ u, repR (1 / qR ⟨un_, ux, ud⟩) = u := ⟨_, rfl⟩
       rw [ho] at HI1 HD HDV
       clear ho hz
       go_upto_region 22 with fail
       clear hsr s0 s1 s2 s3 s4 z0 z1 z2 z3 z4 n0 n1 n2 n3 n4 pa1 pb1 u0 u1 u2
       obtain ⟨⟨in_, ix, id_⟩, hi⟩ : ∃ u, intR 1 = u := ⟨_, rfl⟩
       have HIN := Lib.hid (fun V => qIntZ_any 1 V (by decide) (by decide))
       rw [hi] at HDV HIN
       clear hi
       go_cut [24, 25] (fun v _ wx => ∃ g, v = .pointer (some ⟨g, 0, none⟩) /\ Hid (Turned (fun _ => False) wm wx /\ wx.heap[g]? = some (.cells #[.bool on, .string ox, .string od] 31 (0, 0))))
       case first =>
        refine wp_region_heldL (fun A => Turned (fun _ => False) wm A) (fun _ => True) 7 (by kernel_rfl) ?_
        have HA := Lib.hid (HT2.out.drew)
        generalize wo.drew = Y0 at HA ⊢
        refine tkx 1 (.agg #[.bool un_, .string ux, .string ud]) HA (fun V hV => ?_) ?_
        ·obtain ⟨⟨s0, s1, s2, s3, s4⟩, ⟨z0, z1, z2, z3, z4⟩, ⟨n0, n1, n2, n3, n4⟩, pa1, pb1, u0, u1, u2⟩ := HX.out V hV; clear hV; go_simp
        try simp only [zz0, zz1, zz2, Act.put, zz3, zz4, zz5]
        refine hv2 0 6 (fun K hK => ?_) (fun K hK => ?_)
        go_simp
        refine (HIN.out _).mono ?_
        rintro e1 Z1 ⟨rfl, ht⟩
        have HA := Lib.hid (HA.out.trans ht)
        clear ht
        refine hK.out _ _ HA.out ?_
        clear hK K
        try simp only [zz0, zz1, zz2, Act.put, zz3, zz4, zz5]
        refine hv2 2 6 (fun K hK => ?_) (fun K hK => ?_)
        go_simp
        refine (HDV.out _).mono ?_
        rintro e2 Z2 ⟨rfl, ht⟩
        have HA := Lib.hid (HA.out.trans ht)
        clear ht
        refine hK.out _ _ HA.out ?_
        clear hK K
        try simp only [zz0, zz1, zz2, Act.put, zz3, zz4, zz5]
        refine tkx 3 (.tuple #[.agg #[.bool on, .string ox, .string od], .int .i64 0]) HA (fun V hV => ?_) ?_
        ·clear hV; go_simp
        try simp only [zz0, zz1, zz2, Act.put, zz3, zz4, zz5]
        refine tkx 4 (.agg #[.bool on, .string ox, .string od]) HA (fun V hV => ?_) ?_
        ·clear hV; go_simp
        try simp only [zz0, zz1, zz2, Act.put, zz3, zz4, zz5]
        refine tkx 5 ((.int .i64 0)) HA (fun V hV => ?_) ?_
        ·clear hV; go_simp
        try simp only [zz0, zz1, zz2, Act.put, zz3, zz4, zz5]
        refine hvx 6 fun K hK => ?_
        go_simp
        have HBX2 := Lib.hid (World.alloc_heap_new Z2 (.cells #[.bool false, .string ⟨#[]⟩, .string ⟨#[]⟩] 31))
        have HZ2 := Lib.hid HA.out.size
        have HA := Lib.hid (HA.out.alloc (.cells #[.bool false, .string ⟨#[]⟩, .string ⟨#[]⟩] 31))
        obtain ⟨Y7, hX⟩ : ∃ X, X = Z2.alloc (.cells #[.bool false, .string ⟨#[]⟩, .string ⟨#[]⟩] 31) := ⟨_, rfl⟩
        rw [<- hX] at HA HBX2 ⊢
        refine hK.out _ _ HA.out ?_
        clear hK K hX
        generalize Z2.heap.size = bo at HBX2 HZ2 ⊢
        try simp only [zz0, zz1, zz2, Act.put, zz3, zz4, zz5]
        obtain ⟨x0, x1, x2⟩ := three_cells HBX2.out
        obtain ⟨f0, f1, f2⟩ := froz3 HBX2.out
        obtain ⟨r1, r2⟩ := set3 HBX2.out (.bool on) (.string ox) (.string od)
        have HR2 := Lib.hid r1
        have HA2 := Lib.hid (HA.out.fresh r2 (fun g h => by rw [h]; exact HZ2.out))
        clear r1 r2
        refine hvx 7 fun K hK => ?_
        go_simp
        refine hK.out _ _ HA2.out ?_
        clear hK K f0 f1 f2 x0 x1 x2
        try simp only [zz0, zz1, zz2, Act.put, zz3, zz4, zz5]
        have HA := HA2
        refine tkx 8 ((.int .i64 0)) HA (fun V hV => ?_) ?_
        ·clear hV; go_simp
        try simp only [zz0, zz1, zz2, Act.put, zz3, zz4, zz5]
        refine wpAnyL_done (by kernel_rfl) ?_ _
        go_wp2_with fail
        go_meet
        case rel => exact ⟨bo, rfl, Lib.hid ⟨HA.out, HR2.out⟩⟩
        go_simp
        have HBX2 := Lib.hid (World.alloc_heap_new Z1 (.cells #[.bool false, .string ⟨#[]⟩, .string ⟨#[]⟩] 31))
        have HZ2 := Lib.hid HA.out.size
        have HA := Lib.hid (HA.out.alloc (.cells #[.bool false, .string ⟨#[]⟩, .string ⟨#[]⟩] 31))
        obtain ⟨Y7, hX⟩ : ∃ X, X = Z1.alloc (.cells #[.bool false, .string ⟨#[]⟩, .string ⟨#[]⟩] 31) := ⟨_, rfl⟩
        rw [<- hX] at HA HBX2 ⊢
        refine hK.out _ _ HA.out ?_
        clear hK K hX
        generalize Z1.heap.size = bo at HBX2 HZ2 ⊢
        try simp only [zz0, zz1, zz2, Act.put, zz3, zz4, zz5]
        refine hvx 2 fun K hK => ?_
        go_simp
        refine (HDV.out _).mono ?_
        rintro e2 Z2 ⟨rfl, ht⟩
        have HA := Lib.hid (HA.out.trans ht)
        have HBX2 := Lib.hid (keepB ht HBX2.out)
        clear ht
        refine hK.out _ _ HA.out ?_
        clear hK K
        try simp only [zz0, zz1, zz2, Act.put, zz3, zz4, zz5]
        refine tkx 3 (.tuple #[.agg #[.bool on, .string ox, .string od], .int .i64 0]) HA (fun V hV => ?_) ?_
        ·clear hV; go_simp
        try simp only [zz0, zz1, zz2, Act.put, zz3, zz4, zz5]
        refine tkx 4 (.agg #[.bool on, .string ox, .string od]) HA (fun V hV => ?_) ?_
        ·clear hV; go_simp
        try simp only [zz0, zz1, zz2, Act.put, zz3, zz4, zz5]
        refine tkx 5 ((.int .i64 0)) HA (fun V hV => ?_) ?_
        ·clear hV; go_simp
        try simp only [zz0, zz1, zz2, Act.put, zz3, zz4, zz5]
        obtain ⟨x0, x1, x2⟩ := three_cells HBX2.out
        obtain ⟨f0, f1, f2⟩ := froz3 HBX2.out
        obtain ⟨r1, r2⟩ := set3 HBX2.out (.bool on) (.string ox) (.string od)
        have HR2 := Lib.hid r1
        have HA2 := Lib.hid (HA.out.fresh r2 (fun g h => by rw [h]; exact HZ2.out))
        clear r1 r2
        refine hvx 7 fun K hK => ?_
        go_simp
        refine hK.out _ _ HA2.out ?_
        clear hK K f0 f1 f2 x0 x1 x2
        try simp only [zz0, zz1, zz2, Act.put, zz3, zz4, zz5]
        have HA := HA2
        refine tkx 8 ((.int .i64 0)) HA (fun V hV => ?_) ?_
        ·clear hV; go_simp
        try simp only [zz0, zz1, zz2, Act.put, zz3, zz4, zz5]
        refine wpAnyL_done (by kernel_rfl) ?_ _
        go_wp2_with fail
        go_meet
        case rel => exact ⟨bo, rfl, Lib.hid ⟨HA.out, HR2.out⟩⟩
        go_simp
        have HBX2 := Lib.hid (World.alloc_heap_new Y0 (.cells #[.bool false, .string ⟨#[]⟩, .string ⟨#[]⟩] 31))
        have HZ2 := Lib.hid HA.out.size
        have HA := Lib.hid (HA.out.alloc (.cells #[.bool false, .string ⟨#[]⟩, .string ⟨#[]⟩] 31))
        obtain ⟨Y7, hX⟩ : ∃ X, X = Y0.alloc (.cells #[.bool false, .string ⟨#[]⟩, .string ⟨#[]⟩] 31) := ⟨_, rfl⟩
        rw [<- hX] at HA HBX2 ⊢
        refine hK.out _ _ HA.out ?_
        clear hK K hX
        generalize Y0.heap.size = bo at HBX2 HZ2 ⊢
        try simp only [zz0, zz1, zz2, Act.put, zz3, zz4, zz5]
        refine hvx 0 fun K hK => ?_
        go_simp
        refine (HIN.out _).mono ?_
        rintro e1 Z1 ⟨rfl, ht⟩
        have HA := Lib.hid (HA.out.trans ht)
        have HBX2 := Lib.hid (keepB ht HBX2.out)
        clear ht
        refine hK.out _ _ HA.out ?_
        clear hK K
        try simp only [zz0, zz1, zz2, Act.put, zz3, zz4, zz5]
        refine hvx 2 fun K hK => ?_
        go_simp
        refine (HDV.out _).mono ?_
        rintro e2 Z2 ⟨rfl, ht⟩
        have HA := Lib.hid (HA.out.trans ht)
        have HBX2 := Lib.hid (keepB ht HBX2.out)
        clear ht
        refine hK.out _ _ HA.out ?_
        clear hK K
        try simp only [zz0, zz1, zz2, Act.put, zz3, zz4, zz5]
        refine tkx 3 (.tuple #[.agg #[.bool on, .string ox, .string od], .int .i64 0]) HA (fun V hV => ?_) ?_
        ·clear hV; go_simp
        try simp only [zz0, zz1, zz2, Act.put, zz3, zz4, zz5]
        refine tkx 4 (.agg #[.bool on, .string ox, .string od]) HA (fun V hV => ?_) ?_
        ·clear hV; go_simp
        try simp only [zz0, zz1, zz2, Act.put, zz3, zz4, zz5]
        refine tkx 5 ((.int .i64 0)) HA (fun V hV => ?_) ?_
        ·clear hV; go_simp
        try simp only [zz0, zz1, zz2, Act.put, zz3, zz4, zz5]
        obtain ⟨x0, x1, x2⟩ := three_cells HBX2.out
        obtain ⟨f0, f1, f2⟩ := froz3 HBX2.out
        obtain ⟨r1, r2⟩ := set3 HBX2.out (.bool on) (.string ox) (.string od)
        have HR2 := Lib.hid r1
        have HA2 := Lib.hid (HA.out.fresh r2 (fun g h => by rw [h]; exact HZ2.out))
        clear r1 r2
        refine hvx 7 fun K hK => ?_
        go_simp
        refine hK.out _ _ HA2.out ?_
        clear hK K f0 f1 f2 x0 x1 x2
        try simp only [zz0, zz1, zz2, Act.put, zz3, zz4, zz5]
        have HA := HA2
        refine tkx 8 ((.int .i64 0)) HA (fun V hV => ?_) ?_
        ·clear hV; go_simp
        try simp only [zz0, zz1, zz2, Act.put, zz3, zz4, zz5]
        refine wpAnyL_done (by kernel_rfl) ?_ _
        go_wp2_with fail
        go_meet
        case rel => exact ⟨bo, rfl, Lib.hid ⟨HA.out, HR2.out⟩⟩
       case rest =>
        obtain ⟨bo, rfl, HO⟩ := hcut
        obtain ⟨wp_, hwp⟩ : ∃ w, w = wc := ⟨_, rfl⟩
        subst hwp
        clear HT2
        have HXO : Hid (∀ A, Turned (fun _ => False) wp_ A -> A.cell? ⟨bo, 0, none⟩ = some (.bool on) /\ A.cell? ⟨bo, 1, none⟩ = some (.string ox) /\ A.cell? ⟨bo, 2, none⟩ = some (.string od)) := Lib.hid fun A ht => three_cells (keepB ht HO.out.2)
        have HX : Hid (∀ A, Turned (fun _ => False) wp_ A -> ((A.cell? ⟨W.heap.size, 0, none⟩ = some ((.int .i64 s.op)) /\ A.cell? ⟨W.heap.size, 1, none⟩ = some ((.int .i64 s.n)) /\ A.cell? ⟨W.heap.size, 2, none⟩ = some (.string s.s) /\ A.cell? ⟨W.heap.size, 3, none⟩ = some (us) /\ A.cell? ⟨W.heap.size, 4, none⟩ = some ((.int .i64 s.at_))) /\ (A.cell? ⟨W.heap.size + 1, 0, none⟩ = some ((.int .i64 z.op)) /\ A.cell? ⟨W.heap.size + 1, 1, none⟩ = some ((.int .i64 z.n)) /\ A.cell? ⟨W.heap.size + 1, 2, none⟩ = some (.string z.s) /\ A.cell? ⟨W.heap.size + 1, 3, none⟩ = some (uz) /\ A.cell? ⟨W.heap.size + 1, 4, none⟩ = some ((.int .i64 z.at_))) /\ (A.cell? ⟨W.heap.size + 1 + 1, 0, none⟩ = some ((.int .i64 n.op)) /\ A.cell? ⟨W.heap.size + 1 + 1, 1, none⟩ = some ((.int .i64 n.n)) /\ A.cell? ⟨W.heap.size + 1 + 1, 2, none⟩ = some (.string n.s) /\ A.cell? ⟨W.heap.size + 1 + 1, 3, none⟩ = some (un) /\ A.cell? ⟨W.heap.size + 1 + 1, 4, none⟩ = some ((.int .i64 n.at_))) /\ A.cell? ⟨ba, 1, none⟩ = some (.slice pa a.parts.length ca) /\ A.cell? ⟨bb, 1, none⟩ = some (.slice pb b.parts.length cb) /\ (A.cell? ⟨bc, 0, none⟩ = some (.bool un_) /\ A.cell? ⟨bc, 1, none⟩ = some (.string ux) /\ A.cell? ⟨bc, 2, none⟩ = some (.string ud))) /\ A.cell? ⟨bo, 0, none⟩ = some (.bool on) /\ A.cell? ⟨bo, 1, none⟩ = some (.string ox) /\ A.cell? ⟨bo, 2, none⟩ = some (.string od)) := Lib.hid fun A ht => ⟨HX.out A (HO.out.1.trans ht), HXO.out A ht⟩
        have HTO := Lib.hid HO.out.1
        clear HO HXO
        go_upto_region 23 with fail
        refine wp_region_heldL (fun A => Turned (fun _ => False) wp_ A) (fun _ => True) 18 (by kernel_rfl) ?_
        have HA := Lib.hid ((Turned.refl (fun _ => False) wp_).drew)
        generalize wp_.drew = Y0 at HA ⊢
        refine hvx 0 fun K hK => ?_
        go_simp
        refine (HS.out _ ((TV.out.trans HTO.out).trans HA.out)).mono ?_
        rintro e1 Z1 ⟨rfl, ht⟩
        have HA := Lib.hid (HA.out.trans ht)
        clear ht
        refine hK.out _ _ HA.out ?_
        clear hK K
        try simp only [zz0, zz1, zz2, Act.put, zz3, zz4, zz5]
        refine tkx 1 (.bool true) HA (fun V hV => ?_) ?_
        ·clear hV; go_simp
        try simp only [zz0, zz1, zz2, Act.put, zz3, zz4, zz5]
        refine tkx 2 (.bool true) HA (fun V hV => ?_) ?_
        ·clear hV; go_simp
        try simp only [zz0, zz1, zz2, Act.put, zz3, zz4, zz5]
        refine tkx 3 (.bool true) HA (fun V hV => ?_) ?_
        ·clear hV; go_simp
        try simp only [zz0, zz1, zz2, Act.put, zz3, zz4, zz5]
        refine tkx 4 (.bool true) HA (fun V hV => ?_) ?_
        ·clear hV; go_simp
        try simp only [zz0, zz1, zz2, Act.put, zz3, zz4, zz5]
        refine tkx 5 (.bool true) HA (fun V hV => ?_) ?_
        ·clear hV; go_simp
        try simp only [zz0, zz1, zz2, Act.put, zz3, zz4, zz5]
        refine tkx 6 (.bool true) HA (fun V hV => ?_) ?_
        ·clear hV; go_simp
        try simp only [zz0, zz1, zz2, Act.put, zz3, zz4, zz5]
        refine tkx 7 (.bool true) HA (fun V hV => ?_) ?_
        ·clear hV; go_simp
        try simp only [zz0, zz1, zz2, Act.put, zz3, zz4, zz5]
        refine tkx 8 (.func (.func 15) #[] #[]) HA (fun V hV => ?_) ?_
        ·clear hV; go_simp
        try simp only [zz0, zz1, zz2, Act.put, zz3, zz4, zz5]
        refine tkx 9 (.func (.func 12) #[] #[]) HA (fun V hV => ?_) ?_
        ·clear hV; go_simp
        try simp only [zz0, zz1, zz2, Act.put, zz3, zz4, zz5]
        refine tkx 10 (.agg #[.int .i64 s.op, .int .i64 s.n, .string s.s, us, .int .i64 s.at_]) HA (fun V hV => ?_) ?_
        ·obtain ⟨⟨⟨s0, s1, s2, s3, s4⟩, ⟨z0, z1, z2, z3, z4⟩, ⟨n0, n1, n2, n3, n4⟩, pa1, pb1, u0, u1, u2⟩, o0, o1, o2⟩ := HX.out V hV; clear hV; go_simp
        try simp only [zz0, zz1, zz2, Act.put, zz3, zz4, zz5]
        refine tkx 11 (.agg #[.int .i64 n.op, .int .i64 n.n, .string n.s, un, .int .i64 n.at_]) HA (fun V hV => ?_) ?_
        ·obtain ⟨⟨⟨s0, s1, s2, s3, s4⟩, ⟨z0, z1, z2, z3, z4⟩, ⟨n0, n1, n2, n3, n4⟩, pa1, pb1, u0, u1, u2⟩, o0, o1, o2⟩ := HX.out V hV; clear hV; go_simp
        try simp only [zz0, zz1, zz2, Act.put, zz3, zz4, zz5]
        refine tkx 13 (.func (.func 13) #[] #[]) HA (fun V hV => ?_) ?_
        ·clear hV; go_simp
        try simp only [zz0, zz1, zz2, Act.put, zz3, zz4, zz5]
        refine tkx 14 (.pointer (some ⟨ba, 1, none⟩)) HA (fun V hV => ?_) ?_
        ·clear hV; go_simp
        try simp only [zz0, zz1, zz2, Act.put, zz3, zz4, zz5]
        refine tkx 15 (.slice pa a.parts.length ca) HA (fun V hV => ?_) ?_
        ·obtain ⟨⟨⟨s0, s1, s2, s3, s4⟩, ⟨z0, z1, z2, z3, z4⟩, ⟨n0, n1, n2, n3, n4⟩, pa1, pb1, u0, u1, u2⟩, o0, o1, o2⟩ := HX.out V hV; clear hV; go_simp
        try simp only [zz0, zz1, zz2, Act.put, zz3, zz4, zz5]
        refine tkx 16 (.agg #[.bool on, .string ox, .string od]) HA (fun V hV => ?_) ?_
        ·obtain ⟨⟨⟨s0, s1, s2, s3, s4⟩, ⟨z0, z1, z2, z3, z4⟩, ⟨n0, n1, n2, n3, n4⟩, pa1, pb1, u0, u1, u2⟩, o0, o1, o2⟩ := HX.out V hV; clear hV; go_simp
        try simp only [zz0, zz1, zz2, Act.put, zz3, zz4, zz5]
        refine hvx 12 fun K hK => ?_
        rw [if_pos (by kernel_rfl)]
        go_simp
        refine ((HTW.out 8 _ (HTO.out.trans HA.out) (fun _ => True) (fun _ _ => trivial)).2.2).mono ?_
        rintro e1 Z3 ⟨⟨kb, rfl, hk⟩, ht⟩
        have HA := Lib.hid (HA.out.trans ht)
        have HK := Lib.hid hk
        clear ht hk
        refine hK.out _ _ HA.out ?_
        clear hK K
        try simp only [zz0, zz1, zz2, Act.put, zz3, zz4, zz5]
        refine hvx 17 fun K hK => ?_
        rw [if_pos (by kernel_rfl)]
        go_simp
        refine (HSC.out ⟨on, ox, od⟩ (HI1.out.sz (by decide)) _ (HTO.out.trans HA.out)).mono ?_
        rintro e1 Z4 ⟨⟨v4, rfl, hp⟩, ht⟩
        have HA := Lib.hid (HA.out.trans ht)
        have HK := Lib.hid (HK.out.move ht (fun _ _ h => h) (M := fun _ => True) fun _ _ _ => trivial)
        have HP4 := Lib.hid hp
        clear ht hp
        refine hK.out _ _ HA.out ?_
        clear hK K
        try simp only [zz0, zz1, zz2, Act.put, zz3, zz4, zz5]
        refine hvx 18 fun K hK => ?_
        rw [if_pos (by kernel_rfl)]
        go_simp
        refine (HIS.out 8 s n _ _ _ _ _ ⟨HOK.out.sa, HOK.out.na⟩ ⟨HOK.out.sc, HOK.out.nc⟩ HD.out (HTO.out.trans HA.out) HK.out HP4.out).mono ?_
        rintro e1 Z5 ⟨rfl, ht⟩
        have HA := Lib.hid (HA.out.trans ht)
        clear ht
        refine hK.out _ _ HA.out ?_
        clear hK K
        try simp only [zz0, zz1, zz2, Act.put, zz3, zz4, zz5]
        refine tkx 19 (.bool true) HA (fun V hV => ?_) ?_
        ·clear hV; go_simp
        try simp only [zz0, zz1, zz2, Act.put, zz3, zz4, zz5]
        refine tkx 20 (.bool true) HA (fun V hV => ?_) ?_
        ·clear hV; go_simp
        try simp only [zz0, zz1, zz2, Act.put, zz3, zz4, zz5]
        refine wpAnyL_done (by kernel_rfl) ?_ _
        go_wp2_with fail
        go_ret
        exact ⟨rfl, (TV.out.trans HTO.out).trans HA.out⟩
end Go.Proofs.YthejfklieedjmaaGreatDoor
