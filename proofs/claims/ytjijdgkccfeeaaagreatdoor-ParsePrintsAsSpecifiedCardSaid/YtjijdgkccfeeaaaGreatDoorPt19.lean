/- Part 19 of the proof of card: ParSanA, ParSanB, ParTxD. Conditions: those of each theorem. -/
import Derived.Deep.RegionHeld3
import Derived.Test.YtjijdgkccfeeaaaGreatDoorPt01
import Derived.Test.YtjijdgkccfeeaaaGreatDoorPt09
import Derived.Test.YtjijdgkccfeeaaaGreatDoorPt10
import Derived.Test.YtjijdgkccfeeaaaGreatDoorPt18
set_option maxRecDepth 20000
set_option maxHeartbeats 8000000
namespace Go.Proofs.YtjijdgkccfeeaaaGreatDoor
open Go Go.Proofs Go.RowKit
attribute [local go_sem] Oper.semAt_some
theorem kids_new (w : World) (t : TypeId) (xs : List (Ex × Value)) (hl : xs.length <= maxLen) (hk : ∀ p ∈ xs, KidsAt w (fun _ => True) p.1.kids p.2) (n c : Nat) (hn : n = w.heap.size) (cs : Array Value) (hcs : cs.toList = xs.flatMap fun p => exV p.1 p.2) :
  KidsAt (w.alloc (.cells cs t)) (fun _ => True) (xs.map (·.1)) (.slice (some ⟨n, 0, none⟩) xs.length c) := by
 subst hn
 have ht : Turned (fun _ => False) w (w.alloc (.cells cs t)) := (Turned.refl _ _).alloc _
 have := KidsAt.some (W := w.alloc (.cells cs t)) (N := fun _ => True) (xs.map (·.1)) w.heap.size 0 c (fun i => ((xs[i]?).map (·.2)).getD undef) trivial (by rw [List.length_map]; exact hl) (fun i hi j u hu => ?_) (fun i x hx => ?_)
 ·simpa using this
 ·simp only [List.length_map] at hi
  simp only [List.getElem?_map, List.getElem?_eq_getElem hi, Option.map_some, Option.getD_some] at hu
  have hj : j < 5 := by
   have := (List.getElem?_eq_some_iff.1 hu).1
   simpa [exV] using this
  have h2 := flatMap_at (fun p : Ex × Value => exV p.1 p.2) 5 (fun _ => rfl) xs i j hi hj
  rw [hu, <- hcs] at h2
  have h3 : cs[0 + i * 5 + j]? = some u := by rw [Nat.zero_add]; simpa using h2
  show (match (w.alloc (.cells cs t)).heap[w.heap.size]? with | some (.cells c _ _) => c[0 + i * 5 + j]? | _ => none) = some u
  rw [heap_alloc_new]
  exact h3
 ·simp only [List.getElem?_map] at hx ⊢
  obtain ⟨p, hp, rfl⟩ := Option.map_eq_some_iff.1 hx
  simp only [hp, Option.map_some, Option.getD_some]
  exact (hk p (List.mem_of_getElem? hp)).all ht
theorem nameA_any (s : ByteArray) (w : World) : Calls Tryz.prog 25 #[.string s] w fun e w' => e = .returned (.agg #[.int .i64 3, .int .i64 0, .string s, .slice none 0 0, .int .i64 0]) /\ Turned (fun _ => False) w w' := by
 go_enter Tryz.func25, Tryz.ntmps25
 go_wp2_with fail
 refine bodyPost_ret (results_ex rfl _ _ w.heap.size _ _ _ _ _ rfl (heap_alloc_new _ _)) rfl ?_
 exact ⟨rfl, (Turned.refl _ _).alloc _⟩
theorem two_any (op : Int) (x y : Ex) (a b : Value) (w : World) (hx : KidsAt w (fun _ => True) x.kids a) (hy : KidsAt w (fun _ => True) y.kids b) :
  Calls Tryz.prog 26 #[.int .i64 op, exA x a, exA y b] w fun e w' => ∃ g, e = .returned (.agg #[.int .i64 op, .int .i64 0, .string ⟨#[]⟩, .slice (some ⟨g, 0, none⟩) 2 2, .int .i64 0]) /\ KidsAt w' (fun _ => True) [x, y] (.slice (some ⟨g, 0, none⟩) 2 2) /\ Turned (fun _ => False) w w' := by
 obtain ⟨pa, ca, rfl⟩ := hx.shape
 obtain ⟨pb, cb, rfl⟩ := hy.shape
 obtain ⟨W1, hW1⟩ : ∃ W1, W1 = ((w.alloc (.cells #[.int .i64 x.op, .int .i64 x.n, .string x.s, .slice pa x.kids.length ca, .int .i64 x.at_] 31)).alloc (.cells #[.int .i64 y.op, .int .i64 y.n, .string y.s, .slice pb y.kids.length cb, .int .i64 y.at_] 31)).alloc (.cells #[.int .i64 op, .int .i64 0, .string ⟨#[]⟩, .slice (some ⟨w.heap.size + 1 + 1 + 1, 0, none⟩) 2 2, .int .i64 0] 31) := ⟨_, rfl⟩
 have t1 : Turned (fun _ => False) w W1 := by rw [hW1]; exact (((Turned.refl _ _).alloc _).alloc _).alloc _
 have sz : W1.heap.size = w.heap.size + 1 + 1 + 1 := by rw [hW1]; simp
 have hbox : W1.heap[w.heap.size + 1 + 1]? = some (.cells #[.int .i64 op, .int .i64 0, .string ⟨#[]⟩, .slice (some ⟨w.heap.size + 1 + 1 + 1, 0, none⟩) 2 2, .int .i64 0] 31 (0, 0)) := by
  have e : w.heap.size + 1 + 1 = ((w.alloc (.cells #[.int .i64 x.op, .int .i64 x.n, .string x.s, .slice pa x.kids.length ca, .int .i64 x.at_] 31)).alloc (.cells #[.int .i64 y.op, .int .i64 y.n, .string y.s, .slice pb y.kids.length cb, .int .i64 y.at_] 31)).heap.size := by simp
  rw [hW1, e]; exact heap_alloc_new _ _
 have hK := kids_new W1 31 [(x, .slice pa x.kids.length ca), (y, .slice pb y.kids.length cb)] (by simp [maxLen]) (fun p hp => by
  simp at hp
  rcases hp with rfl | rfl
  ·exact hx.all t1
  ·exact hy.all t1) (w.heap.size + 1 + 1 + 1) 2 sz.symm #[.int .i64 x.op, .int .i64 x.n, .string x.s, .slice pa x.kids.length ca, .int .i64 x.at_, .int .i64 y.op, .int .i64 y.n, .string y.s, .slice pb y.kids.length cb, .int .i64 y.at_] rfl
 have HK := Lib.hid hK
 have HB := Lib.hid hbox
 have HT := Lib.hid t1
 have HW := Lib.hid hW1
 have HSZ := Lib.hid sz
 clear hx hy hK hbox t1 hW1 sz
 unfold exA
 go_enter Tryz.func26, Tryz.ntmps26
 go_wp2_with fail
 rw [<- HW.out]
 refine bodyPost_ret (results_ex rfl _ _ (w.heap.size + 1 + 1) _ _ _ _ _ rfl (alloc_box HB.out _)) rfl ?_
 exact ⟨w.heap.size + 1 + 1 + 1, rfl, HK.out, HT.out.alloc _⟩
theorem same_true (x y : Ex) (h : sameX false x y = true) (a b : Value) (W : World) (h1 : KidsAt W (fun _ => True) x.kids a) (h2 : KidsAt W (fun _ => True) y.kids b) : Calls Tryz.prog 16 #[exA x a, exA y b] W fun e w' => e = .returned (.bool true) /\ Turned (fun _ => False) W w' := by
 have := sameExpr_any _ x (Nat.le_refl _) y a b W h1 h2
 rw [h] at this
 exact this
theorem call7 (W : World) (g a b : Nat) (pC : Option Addr) (cC : Nat) (h0 : KidsAt W (fun _ => True) [ptwo 12 pa pb] (.slice (some ⟨a, 0, none⟩) 1 1)) (h1 : KidsAt W (fun _ => True) [.mk 1 1 noB [] 0, .mk 1 2 noB [] 0] (.slice (some ⟨b, 0, none⟩) 2 2)) (h2 : KidsAt W (fun _ => True) [ptwo 14 pa pb, pc] (.slice (some ⟨g, 0, none⟩) 2 2)) (hC : KidsAt W (fun _ => True) pexC.kids (.slice pC pexC.kids.length cC)) :
  Calls Tryz.prog 16 #[.agg #[.int .i64 pexC.op, .int .i64 pexC.n, .string pexC.s, .slice pC pexC.kids.length cC, .int .i64 pexC.at_], .agg #[.int .i64 20, .int .i64 0, .string ⟨#[]⟩, .slice (some ⟨W.heap.size, 0, none⟩) 3 3, .int .i64 0]] (W.alloc (.cells #[.int .i64 5, .int .i64 0, .string ⟨#[]⟩, .slice (some ⟨a, 0, none⟩) 1 1, .int .i64 0, .int .i64 4, .int .i64 0, .string ⟨#[102]⟩, .slice (some ⟨b, 0, none⟩) 2 2, .int .i64 0, .int .i64 12, .int .i64 0, .string ⟨#[]⟩, .slice (some ⟨g, 0, none⟩) 2 2, .int .i64 0] 31)) fun e w' => e = .returned (.bool true) /\ Turned (fun _ => False) W w' := by
 have hk := kids_new W 31 [(pnot, .slice (some ⟨a, 0, none⟩) 1 1), (pcall, .slice (some ⟨b, 0, none⟩) 2 2), (ptwo 12 (ptwo 14 pa pb) pc, .slice (some ⟨g, 0, none⟩) 2 2)] (by simp [maxLen]) (by
  intro p hp
  simp only [List.mem_cons, List.not_mem_nil, or_false] at hp
  rcases hp with rfl | rfl | rfl
  ·exact h0
  ·exact h1
  ·exact h2) _ 3 rfl #[.int .i64 5, .int .i64 0, .string ⟨#[]⟩, .slice (some ⟨a, 0, none⟩) 1 1, .int .i64 0, .int .i64 4, .int .i64 0, .string ⟨#[102]⟩, .slice (some ⟨b, 0, none⟩) 2 2, .int .i64 0, .int .i64 12, .int .i64 0, .string ⟨#[]⟩, .slice (some ⟨g, 0, none⟩) 2 2, .int .i64 0] rfl
 have ht : Turned (fun _ => False) W (W.alloc (.cells #[.int .i64 5, .int .i64 0, .string ⟨#[]⟩, .slice (some ⟨a, 0, none⟩) 1 1, .int .i64 0, .int .i64 4, .int .i64 0, .string ⟨#[102]⟩, .slice (some ⟨b, 0, none⟩) 2 2, .int .i64 0, .int .i64 12, .int .i64 0, .string ⟨#[]⟩, .slice (some ⟨g, 0, none⟩) 2 2, .int .i64 0] 31)) := (Turned.refl _ _).alloc _
 exact (same_true pexC (.mk 20 0 noB [pnot, pcall, ptwo 12 (ptwo 14 pa pb) pc] 0) psameC _ _ _ (hC.all ht) hk).mono fun e w' h => ⟨h.1, ht.trans h.2⟩
theorem stays_pv (n : Nat) : Stays (PV n) := fun _ _ h hb => h.turned (Turned.of_new hb) fun _ _ => id
theorem stays_kids (l : List Ex) (v : Value) : Stays (fun W => KidsAt W (fun _ => True) l v) := fun _ _ h hb => h.all (Turned.of_new hb)
theorem stays_forms (l : List Fm) (v : Value) : Stays (fun W => FormsAt W (fun _ => True) l v) := fun _ _ h hb => h.all (Turned.of_new hb)
theorem same_false (x y : Ex) (h : sameX false x y = false) (a b : Value) (W : World) (h1 : KidsAt W (fun _ => True) x.kids a) (h2 : KidsAt W (fun _ => True) y.kids b) : Calls Tryz.prog 16 #[exA x a, exA y b] W fun e w' => e = .returned (.bool false) /\ Turned (fun _ => False) W w' := by
 have := sameExpr_any _ x (Nat.le_refl _) y a b W h1 h2
 rw [h] at this
 exact this
theorem same_true_forms (l : List Fm) (v : Value) (W : World) (h : FormsAt W (fun _ => True) l v) : Calls Tryz.prog 24 #[v, v] W fun e w' => e = .returned (.bool true) /\ Turned (fun _ => False) W w' := by
 have := same_any l l v v _ W h h
 rw [sameFs_refl] at this
 exact this
theorem print_at (x : Ex) (a : Value) (W : World) (hv : PV W.heap.size W) (hk : KidsAt W (fun _ => True) x.kids a) {m : Nat} (hl : (showX x).2.1.length = m) (hs : smallX x = true) (hf : fitB (showX x).2.1 = true) {s : ByteArray} {c : Int} (hp : printX x = (s, c)) (hm : m <= 100000 := by decide) :
  Calls Tryz.prog 21 #[exA x a] W fun e w' => e = .returned (.tuple #[.string s, .int .i64 c]) /\ Turned (fun _ => False) W w' := by
 have := printExpr_any x a W hv (hk.move (Turned.refl (fun _ => False) _) (fun _ _ => id) (fun _ _ hb => hb)) (by omega) hs (fit_of hf)
 rw [hp] at this
 exact this
theorem St.cells5 {T : World -> Prop} {w W : World} {L : List (Nat × Obj)} (h : Hid (St T w W L)) (i : Nat) {b t : Nat} {x y z u v : Value} (hi : L[i]? = some (b, .cells #[x, y, z, u, v] t (0, 0))) : W.cell? ⟨b, 0, none⟩ = some x /\ W.cell? ⟨b, 1, none⟩ = some y /\ W.cell? ⟨b, 2, none⟩ = some z /\ W.cell? ⟨b, 3, none⟩ = some u /\ W.cell? ⟨b, 4, none⟩ = some v := by
 simp [World.cell?, h.out.lays.get i hi]
theorem forms_ok (s : ByteArray) (fs : List Fm) (hr : formsP s = .ok fs) (w : World) (hv : PV w.heap.size w) : Calls Tryz.prog 9 #[.string s] w fun e w' => Below w.heap.size w w' /\ ∃ p c, e = .returned (.tuple #[.slice p fs.length c, .agg #[.int .i64 0, .int .i64 0]]) /\ FormsAt w' (fun _ => True) fs (.slice p fs.length c) :=
 (forms_any s w hv.1).mono fun e w' h => by
  unfold FormsR at h; rw [hr] at h
  obtain ⟨h1, p, c, h2, h3⟩ := h
  exact ⟨below_turned h1, p, c, h2, h3.move (Turned.refl (fun _ => False) _) (fun _ _ => id) (fun _ _ _ => trivial)⟩
theorem forms_bad (s : ByteArray) (a c : Int) (hr : formsP s = .bad a c) (w : World) (hv : PV w.heap.size w) : Calls Tryz.prog 9 #[.string s] w fun e w' => Below w.heap.size w w' /\ e = .returned (.tuple #[.slice none 0 0, .agg #[.int .i64 a, .int .i64 c]]) :=
 (forms_any s w hv.1).mono fun e w' h => by
  unfold FormsR at h; rw [hr] at h
  exact ⟨below_turned h.1, h.2⟩
theorem expr_ok (s : ByteArray) (x : Ex) (hr : exprP s = .ok x) (w : World) (hv : PV w.heap.size w) : Calls Tryz.prog 10 #[.string s] w fun e w' => Below w.heap.size w w' /\ ∃ p c, e = .returned (.tuple #[.agg #[.int .i64 x.op, .int .i64 x.n, .string x.s, .slice p x.kids.length c, .int .i64 x.at_], .agg #[.int .i64 0, .int .i64 0]]) /\ KidsAt w' (fun _ => True) x.kids (.slice p x.kids.length c) :=
 (expr_any s w hv.1).mono fun e w' h => by
  unfold ExprR at h; rw [hr] at h
  obtain ⟨h1, p, c, h2, h3⟩ := h
  exact ⟨below_turned h1, p, c, h2, h3.move (Turned.refl (fun _ => False) _) (fun _ _ => id) (fun _ _ _ => trivial)⟩
theorem expr_bad (s : ByteArray) (a c : Int) (hr : exprP s = .bad a c) (w : World) (hv : PV w.heap.size w) : Calls Tryz.prog 10 #[.string s] w fun e w' => Below w.heap.size w w' /\ e = .returned (.tuple #[.agg #[.int .i64 0, .int .i64 0, .string ⟨#[]⟩, .slice none 0 0, .int .i64 0], .agg #[.int .i64 a, .int .i64 c]]) :=
 (expr_any s w hv.1).mono fun e w' h => by
  unfold ExprR at h; rw [hr] at h
  exact ⟨below_turned h.1, h.2⟩
theorem sanity_any (w : World) (hv : PV w.heap.size w) : Calls Tryz.prog 8 #[] w fun e w' => e = .returned (.bool true) /\ Below w.heap.size w w' := by
 obtain ⟨n, hn⟩ : ∃ n, n = w.heap.size := ⟨_, rfl⟩
 rw [<- hn] at hv
 have hn2 := Nat.le_of_eq hn
 clear hn
 have HPV : Hid (∀ W, PV n W -> n <= W.heap.size -> PV W.heap.size W) := Lib.hid fun W h hm => h.mono hm
 have S0 := St.start (T := PV n) hv (stays_pv n)
 have HC1 := Lib.hid (forms_ok psrcA pfsA preadA w (hv.mono hn2))
 have HN := Lib.hid hn2
 clear hv hn2
 have hpl := pfsA_len
 go_enter Tryz.func8, Tryz.ntmps8
 go_upto_region 2 with (go_at_call 9; refine HC1.out.mono ?_; rintro e W1 ⟨hb, pA, cA, rfl, hF⟩; have S1 := St.more (St.call S0 hb) hF (stays_forms _ _); clear hb hF)
 clear S0 HC1
 obtain ⟨W2, b2, hW2, hb2, hbl, S2⟩ := St.box S1 (.cells #[.int .i64 0, .int .i64 0] 26)
 rw [<- hW2, <- hb2]
 clear hW2 hb2 hbl S1
 obtain ⟨d0, d1⟩ := St.cells2 S2 0 rfl
 obtain ⟨fb, fa, fk, fm, he, ⟨x0, x1, x2, x3⟩, HKA, HKB⟩ := formsAt_get S2.out.tab.2 pfsA_at
 subst he
 obtain ⟨pk, ck, rfl⟩ := HKA.shape
 obtain ⟨qk, dk, rfl⟩ := HKB.shape
 rw [pfA_word] at x0
 rw [pfA_args] at x1
 rw [pfA_body] at x2
 obtain ⟨ab, aa, ak, he, ⟨-, y1, -⟩, -⟩ := argsAt_get HKA pfA_b
 subst he
 rw [pargB_n] at y1
 obtain ⟨ab2, aa2, ak2, he, ⟨z0, -⟩, -⟩ := argsAt_get HKA pfA_d
 cases he
 rw [pargD_k] at z0
 obtain ⟨ab3, aa3, ak3, he, ⟨-, -, -, u3, -⟩, -⟩ := argsAt_get HKA pfA_e
 cases he
 rw [pargE_o] at u3
 simp only [Nat.zero_mul, Nat.add_zero, Nat.one_mul] at x0 x1 x2 x3 y1 z0 u3
 clear HKA HKB
 go_upto_region 6 with fail
 clear d0 d1 x0 x1 x2 x3 y1 z0 u3 hpl
 go_upto_region 7 with (go_at_call 25; refine (nameA_any _ _).mono ?_; rintro e V2a ⟨rfl, ht⟩; have S3 := St.call S2 (below_turned ht); clear ht)
 clear S2
 obtain ⟨V4, b5, hW, hB, hbl, S4⟩ := St.box S3 (.cells #[.int .i64 3, .int .i64 0, .string ⟨#[97]⟩, .slice none 0 0, .int .i64 0] 31)
 rw [<- hW, <- hB]
 clear hW hB hbl S3
 go_upto_region 8 with (go_at_call 25; refine (nameA_any _ _).mono ?_; rintro e V4a ⟨rfl, ht⟩; have S5 := St.call S4 (below_turned ht); clear ht)
 clear S4
 obtain ⟨V6, b6, hW, hB, hbl, S6⟩ := St.box S5 (.cells #[.int .i64 3, .int .i64 0, .string ⟨#[98]⟩, .slice none 0 0, .int .i64 0] 31)
 rw [<- hW, <- hB]
 clear hW hB hbl S5
 go_upto_region 9 with (go_at_call 25; refine (nameA_any _ _).mono ?_; rintro e V6a ⟨rfl, ht⟩; have S7 := St.call S6 (below_turned ht); clear ht)
 clear S6
 obtain ⟨V8, b7, hW, hB, hbl, S8⟩ := St.box S7 (.cells #[.int .i64 3, .int .i64 0, .string ⟨#[99]⟩, .slice none 0 0, .int .i64 0] 31)
 rw [<- hW, <- hB]
 clear hW hB hbl S7
 have HE := Lib.hid (expr_ok psrcB pexB preadB _ (HPV.out _ S8.out.tab.1 (Nat.le_trans HN.out S8.out.bel.size)))
 go_upto_region 10 with (go_at_call 10; refine HE.out.mono ?_; rintro e V8a ⟨hb, pB, cB, rfl, hF⟩; have S9 := St.more (St.call S8 hb) hF (stays_kids _ _); clear hb hF)
 clear HE S8
 obtain ⟨V10, b8, hW, hB, hbl, S10⟩ := St.box S9 (.cells #[.int .i64 pexB.op, .int .i64 pexB.n, .string pexB.s, .slice pB pexB.kids.length cB, .int .i64 pexB.at_] 31)
 have hs : V10.heap.size = b8 + 1 := by rw [hW, hB]; simp
 rw [<- hW, <- hB]
 clear hW hB hbl S9
 obtain ⟨V11, b9, hW, hB, hbl, S11⟩ := St.box S10 (.cells #[.int .i64 0, .int .i64 0] 26)
 rw [hs] at hB
 rw [<- hW, <- hB]
 clear hW hB hbl hs S10
 have HE := Lib.hid (expr_ok psrcC pexC preadC _ (HPV.out _ S11.out.tab.1.1 (Nat.le_trans HN.out S11.out.bel.size)))
 go_upto_region 11 with (go_at_call 10; refine HE.out.mono ?_; rintro e V11a ⟨hb, pC, cC, rfl, hF⟩; have S12 := St.more (St.call S11 hb) hF (stays_kids _ _); clear hb hF)
 clear HE S11
 obtain ⟨V13, b10, hW, hB, hbl, S13⟩ := St.box S12 (.cells #[.int .i64 pexC.op, .int .i64 pexC.n, .string pexC.s, .slice pC pexC.kids.length cC, .int .i64 pexC.at_] 31)
 have hs : V13.heap.size = b10 + 1 := by rw [hW, hB]; simp
 rw [<- hW, <- hB]
 clear hW hB hbl S12
 obtain ⟨V14, b11, hW, hB, hbl, S14⟩ := St.box S13 (.cells #[.int .i64 0, .int .i64 0] 26)
 rw [hs] at hB
 rw [<- hW, <- hB]
 clear hW hB hbl hs S13
 go_upto_region 12 with (go_at_call 25; refine (nameA_any _ _).mono ?_; rintro e V14a ⟨rfl, ht⟩; have S15 := St.call S14 (below_turned ht); clear ht)
 clear S14
 obtain ⟨V16, a12, hW, hB, hbl, S16⟩ := St.box S15 (.cells #[.int .i64 3, .int .i64 0, .string ⟨#[100]⟩, .slice none 0 0, .int .i64 0] 31)
 have hs : V16.heap.size = a12 + 1 := by rw [hW, hB]; simp
 have hK : KidsAt V16 (fun _ => True) [pnm ⟨#[100]⟩] (.slice (some ⟨a12, 0, none⟩) 1 1) := by
  rw [hW]
  exact kids_new _ 31 [(pnm ⟨#[100]⟩, .slice none 0 0)] (by simp [maxLen]) (by
   intro p hp
   simp only [List.mem_cons, List.not_mem_nil, or_false] at hp
   subst hp
   exact KidsAt.nil _ _) _ 1 hB _ rfl
 rw [<- hW, <- hB]
 clear hW hB hbl S15
 obtain ⟨V17, b12, hW, hB, hbl, S17⟩ := St.box S16 (.cells #[.int .i64 6, .int .i64 0, .string ⟨#[]⟩, .slice (some ⟨a12, 0, none⟩) 1 1, .int .i64 0] 31)
 rw [hs] at hB
 have hK2 := stays_kids _ _ _ _ hK hbl.out
 rw [<- hW, <- hB]
 clear hW hB hbl hs S16 hK
 have S18 := St.more S17 hK2 (stays_kids _ _)
 clear S17 hK2
 obtain ⟨d0, d1, d2, d3, d4⟩ := St.cells5 S18 8 rfl
 obtain ⟨f0, f1, f2, f3, f4⟩ := St.cells5 S18 7 rfl
 have HE := Lib.hid (fun W => two_any 12 pa pb (.slice none 0 0) (.slice none 0 0) W (KidsAt.nil _ _) (KidsAt.nil _ _))
 unfold exA at HE
 go_upto_region 13 with (go_at_call 26; refine (HE.out _).mono ?_; rintro e V18a ⟨g13, rfl, hk, ht⟩; have S19 := St.more (St.call S18 (below_turned ht)) hk (stays_kids _ _); clear ht hk)
 clear S18 HE
 clear d0 d1 d2 d3 d4
 clear f0 f1 f2 f3 f4
 obtain ⟨V20, a13, hW, hB, hbl, S20⟩ := St.box S19 (.cells #[.int .i64 12, .int .i64 0, .string ⟨#[]⟩, .slice (some ⟨g13, 0, none⟩) 2 2, .int .i64 0] 31)
 have hs : V20.heap.size = a13 + 1 := by rw [hW, hB]; simp
 have hK : KidsAt V20 (fun _ => True) [ptwo 12 pa pb] (.slice (some ⟨a13, 0, none⟩) 1 1) := by
  rw [hW]
  exact kids_new _ 31 [(ptwo 12 pa pb, .slice (some ⟨g13, 0, none⟩) 2 2)] (by simp [maxLen]) (by
   intro p hp
   simp only [List.mem_cons, List.not_mem_nil, or_false] at hp
   subst hp
   exact S19.out.tab.2) _ 1 hB _ rfl
 rw [<- hW, <- hB]
 clear hW hB hbl S19
 obtain ⟨V21, b13, hW, hB, hbl, S21⟩ := St.box S20 (.cells #[.int .i64 5, .int .i64 0, .string ⟨#[]⟩, .slice (some ⟨a13, 0, none⟩) 1 1, .int .i64 0] 31)
 rw [hs] at hB
 have hK2 := stays_kids _ _ _ _ hK hbl.out
 rw [<- hW, <- hB]
 clear hW hB hbl hs S20 hK
 have S22 := St.more S21 hK2 (stays_kids _ _)
 clear S21 hK2
 go_upto_region 14 with fail
 obtain ⟨V23, a14, hW, hB, hbl, S23⟩ := St.box S22 (.cells #[.int .i64 1, .int .i64 1, .string ⟨#[]⟩, .slice none 0 0, .int .i64 0, .int .i64 1, .int .i64 2, .string ⟨#[]⟩, .slice none 0 0, .int .i64 0] 31)
 have hs : V23.heap.size = a14 + 1 := by rw [hW, hB]; simp
 have hK : KidsAt V23 (fun _ => True) [.mk 1 1 noB [] 0, .mk 1 2 noB [] 0] (.slice (some ⟨a14, 0, none⟩) 2 2) := by
  rw [hW]
  exact kids_new _ 31 [(.mk 1 1 noB [] 0, .slice none 0 0), (.mk 1 2 noB [] 0, .slice none 0 0)] (by simp [maxLen]) (by
   intro p hp
   simp only [List.mem_cons, List.not_mem_nil, or_false] at hp
   rcases hp with rfl | rfl
   ·exact KidsAt.nil _ _
   ·exact KidsAt.nil _ _) _ 2 hB _ rfl
 rw [<- hW, <- hB]
 clear hW hB hbl S22
 obtain ⟨V24, b14, hW, hB, hbl, S24⟩ := St.box S23 (.cells #[.int .i64 4, .int .i64 0, .string ⟨#[102]⟩, .slice (some ⟨a14, 0, none⟩) 2 2, .int .i64 0] 31)
 rw [hs] at hB
 have hK2 := stays_kids _ _ _ _ hK hbl.out
 rw [<- hW, <- hB]
 clear hW hB hbl hs S23 hK
 have S25 := St.more S24 hK2 (stays_kids _ _)
 clear S24 hK2
 have HC : Hid (∀ W, Below V24.heap.size V24 W -> (W.cell? ⟨b9, 0, none⟩ = some (.int .i64 0) /\ W.cell? ⟨b9, 1, none⟩ = some (.int .i64 0) /\ W.cell? ⟨b11, 0, none⟩ = some (.int .i64 0) /\ W.cell? ⟨b11, 1, none⟩ = some (.int .i64 0) /\ W.cell? ⟨b8, 0, none⟩ = some (.int .i64 pexB.op) /\ W.cell? ⟨b8, 1, none⟩ = some (.int .i64 pexB.n) /\ W.cell? ⟨b8, 2, none⟩ = some (.string pexB.s) /\ W.cell? ⟨b8, 3, none⟩ = some (.slice pB pexB.kids.length cB) /\ W.cell? ⟨b8, 4, none⟩ = some (.int .i64 pexB.at_) /\ W.cell? ⟨b5, 0, none⟩ = some (.int .i64 3) /\ W.cell? ⟨b5, 1, none⟩ = some (.int .i64 0) /\ W.cell? ⟨b5, 2, none⟩ = some (.string ⟨#[97]⟩) /\ W.cell? ⟨b5, 3, none⟩ = some (.slice none 0 0) /\ W.cell? ⟨b5, 4, none⟩ = some (.int .i64 0) /\ W.cell? ⟨b6, 0, none⟩ = some (.int .i64 3) /\ W.cell? ⟨b6, 1, none⟩ = some (.int .i64 0) /\ W.cell? ⟨b6, 2, none⟩ = some (.string ⟨#[98]⟩) /\ W.cell? ⟨b6, 3, none⟩ = some (.slice none 0 0) /\ W.cell? ⟨b6, 4, none⟩ = some (.int .i64 0) /\ W.cell? ⟨b7, 0, none⟩ = some (.int .i64 3) /\ W.cell? ⟨b7, 1, none⟩ = some (.int .i64 0) /\ W.cell? ⟨b7, 2, none⟩ = some (.string ⟨#[99]⟩) /\ W.cell? ⟨b7, 3, none⟩ = some (.slice none 0 0) /\ W.cell? ⟨b7, 4, none⟩ = some (.int .i64 0) /\ W.cell? ⟨b12, 0, none⟩ = some (.int .i64 6) /\ W.cell? ⟨b12, 1, none⟩ = some (.int .i64 0) /\ W.cell? ⟨b12, 2, none⟩ = some (.string ⟨#[]⟩) /\ W.cell? ⟨b12, 3, none⟩ = some (.slice (some ⟨a12, 0, none⟩) 1 1) /\ W.cell? ⟨b12, 4, none⟩ = some (.int .i64 0) /\ W.cell? ⟨b10, 0, none⟩ = some (.int .i64 pexC.op) /\ W.cell? ⟨b10, 1, none⟩ = some (.int .i64 pexC.n) /\ W.cell? ⟨b10, 2, none⟩ = some (.string pexC.s) /\ W.cell? ⟨b10, 3, none⟩ = some (.slice pC pexC.kids.length cC) /\ W.cell? ⟨b10, 4, none⟩ = some (.int .i64 pexC.at_) /\ W.cell? ⟨b13, 0, none⟩ = some (.int .i64 5) /\ W.cell? ⟨b13, 1, none⟩ = some (.int .i64 0) /\ W.cell? ⟨b13, 2, none⟩ = some (.string ⟨#[]⟩) /\ W.cell? ⟨b13, 3, none⟩ = some (.slice (some ⟨a13, 0, none⟩) 1 1) /\ W.cell? ⟨b13, 4, none⟩ = some (.int .i64 0) /\ W.cell? ⟨b14, 0, none⟩ = some (.int .i64 4) /\ W.cell? ⟨b14, 1, none⟩ = some (.int .i64 0) /\ W.cell? ⟨b14, 2, none⟩ = some (.string ⟨#[102]⟩) /\ W.cell? ⟨b14, 3, none⟩ = some (.slice (some ⟨a14, 0, none⟩) 2 2) /\ W.cell? ⟨b14, 4, none⟩ = some (.int .i64 0))) := Lib.hid fun W hb => by
  have S := St.call S25 hb
  obtain ⟨qb90, qb91⟩ := St.cells2 S 8 rfl
  obtain ⟨qb110, qb111⟩ := St.cells2 S 6 rfl
  obtain ⟨qb80, qb81, qb82, qb83, qb84⟩ := St.cells5 S 9 rfl
  obtain ⟨qb50, qb51, qb52, qb53, qb54⟩ := St.cells5 S 12 rfl
  obtain ⟨qb60, qb61, qb62, qb63, qb64⟩ := St.cells5 S 11 rfl
  obtain ⟨qb70, qb71, qb72, qb73, qb74⟩ := St.cells5 S 10 rfl
  obtain ⟨qb120, qb121, qb122, qb123, qb124⟩ := St.cells5 S 4 rfl
  obtain ⟨qb100, qb101, qb102, qb103, qb104⟩ := St.cells5 S 7 rfl
  obtain ⟨qb130, qb131, qb132, qb133, qb134⟩ := St.cells5 S 2 rfl
  obtain ⟨qb140, qb141, qb142, qb143, qb144⟩ := St.cells5 S 0 rfl
  exact ⟨qb90, qb91, qb110, qb111, qb80, qb81, qb82, qb83, qb84, qb50, qb51, qb52, qb53, qb54, qb60, qb61, qb62, qb63, qb64, qb70, qb71, qb72, qb73, qb74, qb120, qb121, qb122, qb123, qb124, qb100, qb101, qb102, qb103, qb104, qb130, qb131, qb132, qb133, qb134, qb140, qb141, qb142, qb143, qb144⟩
 have B0 := Lib.hid (Below.drew (Below.refl V24.heap.size V24))
 have TB := Lib.hid (fun W (hb : Below V24.heap.size V24 W) => (St.call S25 hb).out.tab.1.1.1.1.1.2)
 have TC := Lib.hid (fun W (hb : Below V24.heap.size V24 W) => (St.call S25 hb).out.tab.1.1.1.1.2)
 have TM := Lib.hid (fun W (hb : Below V24.heap.size V24 W) => (St.call S25 hb).out.tab.1.1.1.2)
 have TN := Lib.hid (fun W (hb : Below V24.heap.size V24 W) => (St.call S25 hb).out.tab.1.2)
 have TL := Lib.hid (fun W (hb : Below V24.heap.size V24 W) => (St.call S25 hb).out.tab.2)
 have E1 := Lib.hid (fun (W : World) => two_any 11 pa pb (.slice none 0 0) (.slice none 0 0) W (KidsAt.nil _ _) (KidsAt.nil _ _))
 unfold exA at E1
 have E2 := Lib.hid (fun (W : World) (h : KidsAt W (fun _ => True) [pnm ⟨#[100]⟩] (.slice (some ⟨a12, 0, none⟩) 1 1)) => two_any 7 pc pminus (.slice none 0 0) (.slice (some ⟨a12, 0, none⟩) 1 1) W (KidsAt.nil _ _) h)
 unfold exA at E2
 have E3 := Lib.hid (fun (W : World) (g1 g2 : Nat) (h1 : KidsAt W (fun _ => True) [pa, pb] (.slice (some ⟨g1, 0, none⟩) 2 2)) (h2 : KidsAt W (fun _ => True) [pc, pminus] (.slice (some ⟨g2, 0, none⟩) 2 2)) => two_any 11 (ptwo 11 pa pb) (ptwo 7 pc pminus) (.slice (some ⟨g1, 0, none⟩) 2 2) (.slice (some ⟨g2, 0, none⟩) 2 2) W h1 h2)
 unfold exA at E3
 have E4 := Lib.hid (fun (W : World) (g : Nat) (h1 : KidsAt W (fun _ => True) pexB.kids (.slice pB pexB.kids.length cB)) (h2 : KidsAt W (fun _ => True) [ptwo 11 pa pb, ptwo 7 pc pminus] (.slice (some ⟨g, 0, none⟩) 2 2)) => same_true pexB (ptwo 11 (ptwo 11 pa pb) (ptwo 7 pc pminus)) psameB _ _ W h1 h2)
 unfold exA at E4
 have E5 := Lib.hid (fun (W : World) => two_any 14 pa pb (.slice none 0 0) (.slice none 0 0) W (KidsAt.nil _ _) (KidsAt.nil _ _))
 unfold exA at E5
 have E6 := Lib.hid (fun (W : World) (g : Nat) (h1 : KidsAt W (fun _ => True) [pa, pb] (.slice (some ⟨g, 0, none⟩) 2 2)) => two_any 12 (ptwo 14 pa pb) pc (.slice (some ⟨g, 0, none⟩) 2 2) (.slice none 0 0) W h1 (KidsAt.nil _ _))
 unfold exA at E6
 have E7 := Lib.hid (fun (W : World) (g : Nat) h0 h1 h2 hC => call7 W g a13 a14 pC cC h0 h1 h2 hC)
 go_region_held3 (fun W => W.cell? ⟨b9, 0, none⟩ = some (.int .i64 0) /\ W.cell? ⟨b9, 1, none⟩ = some (.int .i64 0) /\ W.cell? ⟨b11, 0, none⟩ = some (.int .i64 0) /\ W.cell? ⟨b11, 1, none⟩ = some (.int .i64 0) /\ W.cell? ⟨b8, 0, none⟩ = some (.int .i64 pexB.op) /\ W.cell? ⟨b8, 1, none⟩ = some (.int .i64 pexB.n) /\ W.cell? ⟨b8, 2, none⟩ = some (.string pexB.s) /\ W.cell? ⟨b8, 3, none⟩ = some (.slice pB pexB.kids.length cB) /\ W.cell? ⟨b8, 4, none⟩ = some (.int .i64 pexB.at_) /\ W.cell? ⟨b5, 0, none⟩ = some (.int .i64 3) /\ W.cell? ⟨b5, 1, none⟩ = some (.int .i64 0) /\ W.cell? ⟨b5, 2, none⟩ = some (.string ⟨#[97]⟩) /\ W.cell? ⟨b5, 3, none⟩ = some (.slice none 0 0) /\ W.cell? ⟨b5, 4, none⟩ = some (.int .i64 0) /\ W.cell? ⟨b6, 0, none⟩ = some (.int .i64 3) /\ W.cell? ⟨b6, 1, none⟩ = some (.int .i64 0) /\ W.cell? ⟨b6, 2, none⟩ = some (.string ⟨#[98]⟩) /\ W.cell? ⟨b6, 3, none⟩ = some (.slice none 0 0) /\ W.cell? ⟨b6, 4, none⟩ = some (.int .i64 0) /\ W.cell? ⟨b7, 0, none⟩ = some (.int .i64 3) /\ W.cell? ⟨b7, 1, none⟩ = some (.int .i64 0) /\ W.cell? ⟨b7, 2, none⟩ = some (.string ⟨#[99]⟩) /\ W.cell? ⟨b7, 3, none⟩ = some (.slice none 0 0) /\ W.cell? ⟨b7, 4, none⟩ = some (.int .i64 0) /\ W.cell? ⟨b12, 0, none⟩ = some (.int .i64 6) /\ W.cell? ⟨b12, 1, none⟩ = some (.int .i64 0) /\ W.cell? ⟨b12, 2, none⟩ = some (.string ⟨#[]⟩) /\ W.cell? ⟨b12, 3, none⟩ = some (.slice (some ⟨a12, 0, none⟩) 1 1) /\ W.cell? ⟨b12, 4, none⟩ = some (.int .i64 0) /\ W.cell? ⟨b10, 0, none⟩ = some (.int .i64 pexC.op) /\ W.cell? ⟨b10, 1, none⟩ = some (.int .i64 pexC.n) /\ W.cell? ⟨b10, 2, none⟩ = some (.string pexC.s) /\ W.cell? ⟨b10, 3, none⟩ = some (.slice pC pexC.kids.length cC) /\ W.cell? ⟨b10, 4, none⟩ = some (.int .i64 pexC.at_) /\ W.cell? ⟨b13, 0, none⟩ = some (.int .i64 5) /\ W.cell? ⟨b13, 1, none⟩ = some (.int .i64 0) /\ W.cell? ⟨b13, 2, none⟩ = some (.string ⟨#[]⟩) /\ W.cell? ⟨b13, 3, none⟩ = some (.slice (some ⟨a13, 0, none⟩) 1 1) /\ W.cell? ⟨b13, 4, none⟩ = some (.int .i64 0) /\ W.cell? ⟨b14, 0, none⟩ = some (.int .i64 4) /\ W.cell? ⟨b14, 1, none⟩ = some (.int .i64 0) /\ W.cell? ⟨b14, 2, none⟩ = some (.string ⟨#[102]⟩) /\ W.cell? ⟨b14, 3, none⟩ = some (.slice (some ⟨a14, 0, none⟩) 2 2) /\ W.cell? ⟨b14, 4, none⟩ = some (.int .i64 0))
  (first | exact HC.out _ B0.out | exact HC.out _ B1.out | exact HC.out _ B2.out | exact HC.out _ B3.out | exact HC.out _ B4.out | exact HC.out _ B5.out | exact HC.out _ B6.out | exact HC.out _ B7.out | go_keep)
  (first | (have hq := K6; clear hq; go_at_call 16; refine (E7.out _ g6 (TN.out _ B6.out) (TL.out _ B6.out) K6.out (TC.out _ B6.out)).mono ?_; rintro e U7 ⟨rfl, ht⟩; have B7 := Lib.hid (B6.out.trans ((below_turned ht).mono B6.out.size)); clear ht) | (have hq := B5; clear hq; go_at_call 26; refine (E6.out _ g5 K5.out).mono ?_; rintro e U6 ⟨g6, rfl, hk, ht⟩; have B6 := Lib.hid (B5.out.trans ((below_turned ht).mono B5.out.size)); have K6 := Lib.hid hk; clear hk ht) | (have hq := B4; clear hq; go_at_call 26; refine (E5.out _).mono ?_; rintro e U5 ⟨g5, rfl, hk, ht⟩; have B5 := Lib.hid (B4.out.trans ((below_turned ht).mono B4.out.size)); have K5 := Lib.hid hk; clear hk ht) | (have hq := B3; clear hq; go_at_call 16; refine (E4.out _ g3 (TB.out _ B3.out) K3.out).mono ?_; rintro e U4 ⟨rfl, ht⟩; have B4 := Lib.hid (B3.out.trans ((below_turned ht).mono B3.out.size)); clear ht) | (have hq := B2; clear hq; go_at_call 26; refine (E3.out _ g1 g2 K1b.out K2.out).mono ?_; rintro e U3 ⟨g3, rfl, hk, ht⟩; have B3 := Lib.hid (B2.out.trans ((below_turned ht).mono B2.out.size)); have K3 := Lib.hid hk; clear hk ht) | (have hq := B1; clear hq; go_at_call 26; refine (E2.out _ (TM.out _ B1.out)).mono ?_; rintro e U2 ⟨g2, rfl, hk, ht⟩; have B2 := Lib.hid (B1.out.trans ((below_turned ht).mono B1.out.size)); have K1b := Lib.hid (K1.out.all ht); have K2 := Lib.hid hk; clear hk ht) | (have hq := B0; clear hq; go_at_call 26; refine (E1.out _).mono ?_; rintro e U1 ⟨g1, rfl, hk, ht⟩; have B1 := Lib.hid (B0.out.trans ((below_turned ht).mono B0.out.size)); have K1 := Lib.hid hk; clear hk ht))
 have S26 := St.call S25 B7.out
 clear S25 HC B0 B1 B2 B3 B4 B5 B6 B7 TB TC TM TN TL E1 E2 E3 E4 E5 E6 E7 K1 K1b K2 K3 K5 K6
 obtain ⟨d0, d1, d2, d3, d4⟩ := St.cells5 S26 7 rfl
 have HPE := Lib.hid (print_at pexC _ _ (HPV.out _ S26.out.tab.1.1.1.1.1.1.1 (Nat.le_trans HN.out S26.out.bel.size)) S26.out.tab.1.1.1.1.2 plenC psmallC pfitC pprintC)
 unfold exA psrcP at HPE
 go_upto_region 17 with (go_at_call 21; refine HPE.out.mono ?_; rintro e V26a ⟨rfl, ht⟩; have S27 := St.call S26 (below_turned ht); clear ht)
 clear S26 HPE
 clear d0 d1 d2 d3 d4
 have HE := Lib.hid (expr_bad psrcD 6 5 preadD _ (HPV.out _ S27.out.tab.1.1.1.1.1.1.1 (Nat.le_trans HN.out S27.out.bel.size)))
 go_upto_region 18 with (go_at_call 10; refine HE.out.mono ?_; rintro e V27a ⟨hb, rfl⟩; have S28 := St.call S27 hb; clear hb)
 clear HE S27
 obtain ⟨V29, b17, hW, hB, hbl, S29⟩ := St.box S28 (.cells #[.int .i64 0, .int .i64 0, .string ⟨#[]⟩, .slice none 0 0, .int .i64 0] 31)
 have hs : V29.heap.size = b17 + 1 := by rw [hW, hB]; simp
 rw [<- hW, <- hB]
 clear hW hB hbl S28
 obtain ⟨V30, b18, hW, hB, hbl, S30⟩ := St.box S29 (.cells #[.int .i64 6, .int .i64 5] 26)
 rw [hs] at hB
 rw [<- hW, <- hB]
 clear hW hB hbl hs S29
 have HE := Lib.hid (expr_bad psrcE 2 5 preadE _ (HPV.out _ S30.out.tab.1.1.1.1.1.1.1 (Nat.le_trans HN.out S30.out.bel.size)))
 go_upto_region 19 with (go_at_call 10; refine HE.out.mono ?_; rintro e V30a ⟨hb, rfl⟩; have S31 := St.call S30 hb; clear hb)
 clear HE S30
 obtain ⟨V32, b19, hW, hB, hbl, S32⟩ := St.box S31 (.cells #[.int .i64 0, .int .i64 0, .string ⟨#[]⟩, .slice none 0 0, .int .i64 0] 31)
 have hs : V32.heap.size = b19 + 1 := by rw [hW, hB]; simp
 rw [<- hW, <- hB]
 clear hW hB hbl S31
 obtain ⟨V33, b20, hW, hB, hbl, S33⟩ := St.box S32 (.cells #[.int .i64 2, .int .i64 5] 26)
 rw [hs] at hB
 rw [<- hW, <- hB]
 clear hW hB hbl hs S32
 have HE := Lib.hid (expr_bad psrcF 3 5 preadF _ (HPV.out _ S33.out.tab.1.1.1.1.1.1.1 (Nat.le_trans HN.out S33.out.bel.size)))
 go_upto_region 20 with (go_at_call 10; refine HE.out.mono ?_; rintro e V33a ⟨hb, rfl⟩; have S34 := St.call S33 hb; clear hb)
 clear HE S33
 obtain ⟨V35, b21, hW, hB, hbl, S35⟩ := St.box S34 (.cells #[.int .i64 0, .int .i64 0, .string ⟨#[]⟩, .slice none 0 0, .int .i64 0] 31)
 have hs : V35.heap.size = b21 + 1 := by rw [hW, hB]; simp
 rw [<- hW, <- hB]
 clear hW hB hbl S34
 obtain ⟨V36, b22, hW, hB, hbl, S36⟩ := St.box S35 (.cells #[.int .i64 3, .int .i64 5] 26)
 rw [hs] at hB
 rw [<- hW, <- hB]
 clear hW hB hbl hs S35
 have HE := Lib.hid (forms_bad psrcG 4 5 preadG _ (HPV.out _ S36.out.tab.1.1.1.1.1.1.1 (Nat.le_trans HN.out S36.out.bel.size)))
 go_upto_region 21 with (go_at_call 9; refine HE.out.mono ?_; rintro e V36a ⟨hb, rfl⟩; have S37 := St.call S36 hb; clear hb)
 clear HE S36
 obtain ⟨V38, b24, hW, hB, hbl, S38⟩ := St.box S37 (.cells #[.int .i64 4, .int .i64 5] 26)
 rw [<- hW, <- hB]
 clear hW hB hbl S37
 obtain ⟨d0, d1⟩ := St.cells2 S38 5 rfl
 obtain ⟨f0, f1⟩ := St.cells2 S38 3 rfl
 obtain ⟨g0, g1⟩ := St.cells2 S38 1 rfl
 obtain ⟨h0, h1⟩ := St.cells2 S38 0 rfl
 have HSM := Lib.hid (same_true_forms pfsA _ _ S38.out.tab.1.1.1.1.1.1.2)
 have HSX := Lib.hid (fun W => same_false pa pb psameAB (.slice none 0 0) (.slice none 0 0) W (KidsAt.nil _ _) (KidsAt.nil _ _))
 unfold exA at HSX
 go_wp2_with (first | (go_at_call 24; refine HSM.out.mono ?_; rintro e V38a ⟨rfl, ht⟩; have S39 := St.call S38 (below_turned ht); clear ht; obtain ⟨ua, ub, uc, ud, ue⟩ := St.cells5 S39 19 rfl; obtain ⟨va, vb, vc, vd, ve⟩ := St.cells5 S39 18 rfl) | (go_at_call 16; refine (HSX.out _).mono ?_; rintro e V38b ⟨rfl, ht⟩; have S40 := St.call S39 (below_turned ht); clear ht))
 go_ret
 exact ⟨rfl, S40.out.bel⟩
def tx (s : ByteArray) : ByteArray × Bool := (s, false)
def txV (q : ByteArray × Bool) : List Value := [.string q.1, .bool q.2]
theorem txs_new (w : World) (t : TypeId) (l : List (ByteArray × Bool)) (cs : Array Value) (hcs : cs.toList = l.flatMap txV) (n : Nat) (hn : n = w.heap.size) : TxsAt (w.alloc (.cells cs t)) l (some ⟨n, 0, none⟩) := by
 subst hn
 intro i q hq
 have hlt := lt_of_some hq
 have key : ∀ j, j < 2 -> (w.alloc (.cells cs t)).cell? ⟨w.heap.size, 0 + i * 2 + j, none⟩ = (txV q)[j]? := fun j hj => by
  have h2 := flatMap_at txV 2 (fun _ => rfl) l i j hlt hj
  rw [List.getElem?_eq_getElem hlt] at hq
  cases hq
  rw [<- h2, <- hcs]
  show (match (w.alloc (.cells cs t)).heap[w.heap.size]? with | some (.cells c _ _) => c[0 + i * 2 + j]? | _ => none) = _
  rw [heap_alloc_new, Nat.zero_add]
  simp
 exact ⟨_, _, rfl, key 0 (by omega), key 1 (by omega)⟩
def rtAt (need : Nat) (op : Int) (t : ByteArray × Bool) : ByteArray × Bool := if need <= lvlX op then t else joinT [tx ⟨#[40]⟩, t, tx ⟨#[41]⟩]
theorem at_of (x : Ex) (t : ByteArray × Bool) (ht : t.1.size <= 1000000000) (need : Nat) (a : Value) (w : World) (hk : KidsAt w (fun _ => True) x.kids a)
  (hs : ∀ W, KidsAt W (fun _ => True) x.kids a -> Calls Tryz.prog 44 #[exA x a] W fun e w' => e = .returned (.agg #[.string t.1, .bool t.2]) /\ Turned (fun _ => False) W w') :
  Calls Tryz.prog 82 #[exA x a, (.int .i64 ((need : Int)))] w fun e w' => e = .returned (.agg #[.string (rtAt need x.op t).1, .bool (rtAt need x.op t).2]) /\ Turned (fun _ => False) w w' := by
 obtain ⟨pa, ca, rfl⟩ := hk.shape
 have S0 := St.start (T := fun W => KidsAt W (fun _ => True) x.kids (.slice pa x.kids.length ca)) hk (stays_kids _ _)
 have HS := Lib.hid hs
 have HT := Lib.hid ht
 clear hk hs ht
 unfold exA at HS ⊢
 go_enter Tryz.func82, Tryz.ntmps82
 go_upto_region 1 with fail
 obtain ⟨W1, b2, hW, hB, hbl, S1⟩ := St.box S0 (.cells #[.int .i64 x.op, .int .i64 x.n, .string x.s, .slice pa x.kids.length ca, .int .i64 x.at_] 31)
 have hz : W1.heap.size = b2 + 1 := by rw [hW, hB]; simp
 have hb2 : b2 = w.heap.size := hB
 rw [<- hW, <- hB]
 clear hW hB hbl S0
 obtain ⟨W2, b4, hW, hB, hbl, S2⟩ := St.box S1 txBox
 rw [hz] at hB
 have HGE : Hid (w.heap.size <= b4) := Lib.hid (by omega)
 rw [<- hW, <- hB]
 clear hW hB hbl S1 hz hb2
 obtain ⟨x0, x1, x2, x3, x4⟩ := St.cells5 S2 1 rfl
 have HC := Lib.hid (HS.out W2 S2.out.tab)
 go_upto_region 2 with (go_at_call 44; refine HC.out.mono ?_; rintro e W3 ⟨rfl, ht⟩; have S3 := St.call S2 (below_turned ht); clear ht)
 clear x0 x1 x2 x3 x4 HC S2 HS
 obtain ⟨W4, b5, hW, hB, hbl, S4⟩ := St.box S3 (.cells #[.string t.1, .bool t.2] 96)
 have HNE : Hid (¬ b5 = b4) := Lib.hid (by have := getElem?_lt (S3.out.lays.get 0 rfl); omega)
 rw [<- hW, <- hB]
 clear hW hB hbl S3
 obtain ⟨x0, x1, x2, x3, x4⟩ := St.cells5 S4 2 rfl
 have HL := Lib.hid (fun W => strength_any x.op W)
 have HR : Hid (rtAt need x.op t = if need <= lvlX x.op then t else joinT [tx ⟨#[40]⟩, t, tx ⟨#[41]⟩]) := Lib.hid rfl
 generalize lvlX x.op = lv at *
 by_cases hn : need <= lv
 ·have hn2 : (need : Int) <= (lv : Int) := by omega
  have HRT := Lib.hid (HR.out.trans (if_pos hn))
  clear hn HR
  go_wp2_with (go_at_call 83; refine (HL.out _).mono ?_; rintro e W5 ⟨rfl, ht⟩; have S5 := St.call S4 (below_turned ht); clear ht x0 x1 x2 x3 x4 S4 HL; have hb4 := S5.out.lays.get 1 rfl; obtain ⟨z0, z1⟩ := cellsTx hb4; obtain ⟨y0, y1⟩ := St.cells2 S5 0 rfl; have fq := free_of_box hb4; have HB4 := Lib.hid hb4; clear hb4)
  refine bodyPost_ret (results_tx rfl _ _ b4 _ _ rfl (tx_set HB4.out)) rfl ?_
  rw [HRT.out]
  exact ⟨rfl, ((Turned.of_new (C := fun b => w.heap.size <= b) S5.out.bel).trans ((tx_turned _ _ _ _).mono fun b hb => by have := HGE.out; omega)).strip⟩
 ·have hn2 : ¬ (need : Int) <= (lv : Int) := by omega
  have HRT := Lib.hid (HR.out.trans (if_neg hn))
  clear hn HR
  go_upto_region 4 with (go_at_call 83; refine (HL.out _).mono ?_; rintro e W5 ⟨rfl, ht⟩; have S5 := St.call S4 (below_turned ht); clear ht x0 x1 x2 x3 x4 S4 HL; have hb4 := S5.out.lays.get 1 rfl; obtain ⟨z0, z1⟩ := cellsTx hb4; obtain ⟨y0, y1⟩ := St.cells2 S5 0 rfl; have fq := free_of_box hb4; have HB4 := Lib.hid hb4; clear hb4)
  clear z0 z1 y0 y1 fq
  have HCC : Hid (∀ W, Below W5.heap.size W5 W -> (W.cell? ⟨b5, 0, none⟩ = some (.string t.1) /\ W.cell? ⟨b5, 1, none⟩ = some (.bool t.2))) := Lib.hid fun W hb => St.cells2 (St.call S5 hb) 0 rfl
  have HCB : Hid (∀ W, Below W5.heap.size W5 W -> W.heap[b4]? = some txBox) := Lib.hid fun W hb => (St.call S5 hb).out.lays.get 1 rfl
  have B0 := Lib.hid (Below.drew (Below.refl W5.heap.size W5))
  have HSG := Lib.hid (fun (s : ByteArray) (W : World) => sign1_any s W)
  have HJ := Lib.hid (fun (W : World) => tjoin_any [tx ⟨#[40]⟩, t, tx ⟨#[41]⟩] (some ⟨W.heap.size, 0, none⟩) 3 (W.alloc (.cells #[.string ⟨#[40]⟩, .bool false, .string t.1, .bool t.2, .string ⟨#[41]⟩, .bool false] 96)) (txs_new W 96 _ _ rfl _ rfl) (by simp) (fun q hq => by
   simp only [List.mem_cons, List.not_mem_nil, or_false] at hq
   rcases hq with rfl | rfl | rfl
   ·simp [tx, ByteArray.size]
   ·exact HT.out
   ·simp [tx, ByteArray.size]))
  have hne := HNE.out
  go_region_held3 (fun W => W.cell? ⟨b5, 0, none⟩ = some (.string t.1) /\ W.cell? ⟨b5, 1, none⟩ = some (.bool t.2))
   (first | exact HCC.out _ B0.out | exact HCC.out _ B1.out | exact HCC.out _ B2.out | exact HCC.out _ B3.out | exact HCC.out _ (B2.out.alloc B2.out.size _) | exact ⟨cell_turned (tx_turned _ _ _ _) HNE.out (HCC.out _ B3.out).1, cell_turned (tx_turned _ _ _ _) HNE.out (HCC.out _ B3.out).2⟩ | go_keep)
   (first | (have hq := B2; clear hq; go_at_call 43; refine (HJ.out _).mono ?_; rintro e U3 ⟨rfl, ht⟩; have B3 := Lib.hid (B2.out.trans ((below_turned (((Turned.refl _ _).alloc _).trans ht)).mono B2.out.size)); obtain ⟨z0, z1⟩ := cellsTx (HCB.out _ B3.out); have fq := free_of_box (HCB.out _ B3.out); clear ht) | (have hq := B1; clear hq; go_at_call 79; refine (HSG.out _ _).mono ?_; rintro e U2 ⟨rfl, ht⟩; have B2 := Lib.hid (B1.out.trans ((below_turned ht).mono B1.out.size)); clear ht) | (have hq := B0; clear hq; go_at_call 79; refine (HSG.out _ _).mono ?_; rintro e U1 ⟨rfl, ht⟩; have B1 := Lib.hid (B0.out.trans ((below_turned ht).mono B0.out.size)); clear ht))
  go_wp2_with fail
  refine bodyPost_ret (results_tx rfl _ _ b4 _ _ rfl (tx_set (HCB.out _ B3.out))) rfl ?_
  rw [HRT.out]
  exact ⟨rfl, (((Turned.of_new (C := fun b => w.heap.size <= b) S5.out.bel).trans (Turned.of_new B3.out)).trans ((tx_turned _ _ _ _).mono fun b hb => by have := HGE.out; omega)).strip⟩
end Go.Proofs.YtjijdgkccfeeaaaGreatDoor
