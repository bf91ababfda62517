/- Part 18 of the proof of card: ParSanB, ParFew, Post, OpenS. Conditions: those of each theorem. -/
import Derived.Deep.RegionHeld3
import Derived.Test.YtjijdgkccfeeaaaGreatDoorCards
import Derived.Test.YtjijdgkccfeeaaaGreatDoorTie
import Derived.Below
import Derived.ChangeSame
import Derived.WalkKit
import Derived.ProofKit
import Derived.OpenShut
import Derived.Deep.DeepHandedRow
import Derived.Lib.LaidTab
import Derived.WideKeyArgs
import Derived.Carry
import Derived.Lib.SmallJoins
import Derived.Deep.Slices
import Derived.Deep.Fields
import Derived.Test.YtjijdgkccfeeaaaGreatDoorRt01
import Derived.Test.YtjijdgkccfeeaaaGreatDoorRt06
import Derived.Test.YtjijdgkccfeeaaaGreatDoorRt17
namespace Go.Proofs.YtjijdgkccfeeaaaGreatDoor
open Go Go.Proofs Go.RowKit
attribute [local go_sem] Oper.semAt_some
theorem stays_pv (n : Nat) : Stays (PV n) := fun _ _ h hb => h.turned (Turned.of_new hb) fun _ _ => id
theorem stays_kids (l : List Ex) (v : Value) : Stays (fun W => KidsAt W (fun _ => True) l v) := fun _ _ h hb => h.all (Turned.of_new hb)
theorem stays_forms (l : List Fm) (v : Value) : Stays (fun W => FormsAt W (fun _ => True) l v) := fun _ _ h hb => h.all (Turned.of_new hb)
theorem same_false (x y : Ex) (h : sameX false x y = false) (a b : Value) (W : World) (h1 : KidsAt W (fun _ => True) x.kids a) (h2 : KidsAt W (fun _ => True) y.kids b) : Calls Tryz.prog 16 #[exA x a, exA y b] W fun e w' => e = .returned (.bool false) ∧ Turned (fun _ => False) W w' := by
  have := sameExpr_any _ x (Nat.le_refl _) y a b W h1 h2
  rw [h] at this
  exact this
theorem same_true_forms (l : List Fm) (v : Value) (W : World) (h : FormsAt W (fun _ => True) l v) : Calls Tryz.prog 24 #[v, v] W fun e w' => e = .returned (.bool true) ∧ Turned (fun _ => False) W w' := by
  have := same_any l l v v _ W h h
  rw [sameFs_refl] at this
  exact this
theorem print_at (x : Ex) (a : Value) (W : World) (hv : PV W.heap.size W) (hk : KidsAt W (fun _ => True) x.kids a) {m : Nat} (hl : (showX x).2.1.length = m) (hs : smallX x = true) (hf : fitB (showX x).2.1 = true) {s : ByteArray} {c : Int} (hp : printX x = (s, c)) (hm : m ≤ 100000 := by decide) :
    Calls Tryz.prog 21 #[exA x a] W fun e w' => e = .returned (.tuple #[.string s, (.int .i64 c)]) ∧ Turned (fun _ => False) W w' := by
  have := printExpr_any x a W hv (hk.move (Turned.refl (fun _ => False) _) (fun _ _ => id) (fun _ _ hb => hb)) (by omega) hs (fit_of hf)
  rw [hp] at this
  exact this
theorem St.cells5 {T : World → Prop} {w W : World} {L : List (Nat × Obj)} (h : Hid (St T w W L)) (i : Nat) {b t : Nat} {x y z u v : Value} (hi : L[i]? = some (b, .cells #[x, y, z, u, v] t (0, 0))) : W.cell? ⟨b, 0, none⟩ = some x ∧ W.cell? ⟨b, 1, none⟩ = some y ∧ W.cell? ⟨b, 2, none⟩ = some z ∧ W.cell? ⟨b, 3, none⟩ = some u ∧ W.cell? ⟨b, 4, none⟩ = some v := by
  simp [World.cell?, h.out.lays.get i hi]
theorem forms_ok (s : ByteArray) (fs : List Fm) (hr : formsP s = .ok fs) (w : World) (hv : PV w.heap.size w) : Calls Tryz.prog 9 #[.string s] w fun e w' => Below w.heap.size w w' ∧ ∃ p c, e = .returned (.tuple #[.slice p fs.length c, .agg #[(.int .i64 0), (.int .i64 0)]]) ∧ FormsAt w' (fun _ => True) fs (.slice p fs.length c) :=
  (forms_any s w hv.1).mono fun e w' h => by
    unfold FormsR at h; rw [hr] at h
    obtain ⟨h1, p, c, h2, h3⟩ := h
    exact ⟨below_turned h1, p, c, h2, h3.move (Turned.refl (fun _ => False) _) (fun _ _ => id) (fun _ _ _ => trivial)⟩
theorem forms_bad (s : ByteArray) (a c : Int) (hr : formsP s = .bad a c) (w : World) (hv : PV w.heap.size w) : Calls Tryz.prog 9 #[.string s] w fun e w' => Below w.heap.size w w' ∧ e = .returned (.tuple #[.slice none 0 0, .agg #[(.int .i64 a), (.int .i64 c)]]) :=
  (forms_any s w hv.1).mono fun e w' h => by
    unfold FormsR at h; rw [hr] at h
    exact ⟨below_turned h.1, h.2⟩
theorem expr_ok (s : ByteArray) (x : Ex) (hr : exprP s = .ok x) (w : World) (hv : PV w.heap.size w) : Calls Tryz.prog 10 #[.string s] w fun e w' => Below w.heap.size w w' ∧ ∃ p c, e = .returned (.tuple #[.agg #[(.int .i64 (x.op)), (.int .i64 (x.n)), .string x.s, .slice p x.kids.length c, (.int .i64 (x.at_))], .agg #[(.int .i64 0), (.int .i64 0)]]) ∧ KidsAt w' (fun _ => True) x.kids (.slice p x.kids.length c) :=
  (expr_any s w hv.1).mono fun e w' h => by
    unfold ExprR at h; rw [hr] at h
    obtain ⟨h1, p, c, h2, h3⟩ := h
    exact ⟨below_turned h1, p, c, h2, h3.move (Turned.refl (fun _ => False) _) (fun _ _ => id) (fun _ _ _ => trivial)⟩
theorem expr_bad (s : ByteArray) (a c : Int) (hr : exprP s = .bad a c) (w : World) (hv : PV w.heap.size w) : Calls Tryz.prog 10 #[.string s] w fun e w' => Below w.heap.size w w' ∧ e = .returned (.tuple #[.agg #[(.int .i64 0), (.int .i64 0), .string ⟨#[]⟩, .slice none 0 0, (.int .i64 0)], .agg #[(.int .i64 a), (.int .i64 c)]]) :=
  (expr_any s w hv.1).mono fun e w' h => by
    unfold ExprR at h; rw [hr] at h
    exact ⟨below_turned h.1, h.2⟩
set_option maxRecDepth 20000 in
set_option maxHeartbeats 8000000 in
theorem sanity_any (w : World) (hv : PV w.heap.size w) : Calls Tryz.prog 8 #[] w fun e w' => e = .returned (.bool true) ∧ Below w.heap.size w w' := by
  obtain ⟨n, hn⟩ : ∃ n, n = w.heap.size := ⟨_, rfl⟩
  rw [← hn] at hv
  have hn2 := Nat.le_of_eq hn
  clear hn
  have HPV : Hid (∀ W, PV n W → n ≤ W.heap.size → PV W.heap.size W) := Lib.hid fun W h hm => h.mono hm
  have S0 := St.start (T := PV n) hv (stays_pv n)
  have HC1 := Lib.hid (forms_ok psrcA pfsA preadA w (hv.mono hn2))
  have HN := Lib.hid hn2
  clear hv hn2
  have hpl := pfsA_len
  go_enter Tryz.func8, Tryz.ntmps8
  go_upto_region 2 with (go_at_call 9; refine HC1.out.mono ?_; rintro e W1 ⟨hb, pA, cA, rfl, hF⟩; have S1 := St.more (St.call S0 hb) hF (stays_forms _ _); clear hb hF)
  clear S0 HC1
  obtain ⟨W2, b2, hW2, hb2, hbl, S2⟩ := St.box S1 (.cells #[(.int .i64 0), (.int .i64 0)] 26)
  rw [← hW2, ← hb2]
  clear hW2 hb2 hbl S1
  obtain ⟨d0, d1⟩ := St.cells2 S2 0 rfl
  obtain ⟨fb, fa, fk, fm, he, ⟨x0, x1, x2, x3⟩, HKA, HKB⟩ := formsAt_get S2.out.tab.2 pfsA_at
  subst he
  obtain ⟨pk, ck, rfl⟩ := HKA.shape
  obtain ⟨qk, dk, rfl⟩ := HKB.shape
  rw [pfA_word] at x0
  rw [pfA_args] at x1
  rw [pfA_body] at x2
  obtain ⟨ab, aa, ak, he, ⟨-, y1, -⟩, -⟩ := argsAt_get HKA pfA_b
  subst he
  rw [pargB_n] at y1
  obtain ⟨ab2, aa2, ak2, he, ⟨z0, -⟩, -⟩ := argsAt_get HKA pfA_d
  cases he
  rw [pargD_k] at z0
  obtain ⟨ab3, aa3, ak3, he, ⟨-, -, -, u3, -⟩, -⟩ := argsAt_get HKA pfA_e
  cases he
  rw [pargE_o] at u3
  simp only [Nat.zero_mul, Nat.add_zero, Nat.one_mul] at x0 x1 x2 x3 y1 z0 u3
  clear HKA HKB
  go_upto_region 6 with fail
  clear d0 d1 x0 x1 x2 x3 y1 z0 u3 hpl
  go_upto_region 7 with (go_at_call 25; refine (nameA_any _ _).mono ?_; rintro e V2a ⟨rfl, ht⟩; have S3 := St.call S2 (below_turned ht); clear ht)
  clear S2
  obtain ⟨V4, b5, hW, hB, hbl, S4⟩ := St.box S3 (.cells #[(.int .i64 3), (.int .i64 0), .string ⟨#[97]⟩, .slice none 0 0, (.int .i64 0)] 31)
  rw [← hW, ← hB]
  clear hW hB hbl S3
  go_upto_region 8 with (go_at_call 25; refine (nameA_any _ _).mono ?_; rintro e V4a ⟨rfl, ht⟩; have S5 := St.call S4 (below_turned ht); clear ht)
  clear S4
  obtain ⟨V6, b6, hW, hB, hbl, S6⟩ := St.box S5 (.cells #[(.int .i64 3), (.int .i64 0), .string ⟨#[98]⟩, .slice none 0 0, (.int .i64 0)] 31)
  rw [← hW, ← hB]
  clear hW hB hbl S5
  go_upto_region 9 with (go_at_call 25; refine (nameA_any _ _).mono ?_; rintro e V6a ⟨rfl, ht⟩; have S7 := St.call S6 (below_turned ht); clear ht)
  clear S6
  obtain ⟨V8, b7, hW, hB, hbl, S8⟩ := St.box S7 (.cells #[(.int .i64 3), (.int .i64 0), .string ⟨#[99]⟩, .slice none 0 0, (.int .i64 0)] 31)
  rw [← hW, ← hB]
  clear hW hB hbl S7
  have HE := Lib.hid (expr_ok psrcB pexB preadB _ (HPV.out _ S8.out.tab.1 (Nat.le_trans HN.out S8.out.bel.size)))
  go_upto_region 10 with (go_at_call 10; refine HE.out.mono ?_; rintro e V8a ⟨hb, pB, cB, rfl, hF⟩; have S9 := St.more (St.call S8 hb) hF (stays_kids _ _); clear hb hF)
  clear HE S8
  obtain ⟨V10, b8, hW, hB, hbl, S10⟩ := St.box S9 (.cells #[(.int .i64 (pexB.op)), (.int .i64 (pexB.n)), .string pexB.s, .slice pB pexB.kids.length cB, (.int .i64 (pexB.at_))] 31)
  have hs : V10.heap.size = b8 + 1 := by rw [hW, hB]; simp
  rw [← hW, ← hB]
  clear hW hB hbl S9
  obtain ⟨V11, b9, hW, hB, hbl, S11⟩ := St.box S10 (.cells #[(.int .i64 0), (.int .i64 0)] 26)
  rw [hs] at hB
  rw [← hW, ← hB]
  clear hW hB hbl hs S10
  have HE := Lib.hid (expr_ok psrcC pexC preadC _ (HPV.out _ S11.out.tab.1.1 (Nat.le_trans HN.out S11.out.bel.size)))
  go_upto_region 11 with (go_at_call 10; refine HE.out.mono ?_; rintro e V11a ⟨hb, pC, cC, rfl, hF⟩; have S12 := St.more (St.call S11 hb) hF (stays_kids _ _); clear hb hF)
  clear HE S11
  obtain ⟨V13, b10, hW, hB, hbl, S13⟩ := St.box S12 (.cells #[(.int .i64 (pexC.op)), (.int .i64 (pexC.n)), .string pexC.s, .slice pC pexC.kids.length cC, (.int .i64 (pexC.at_))] 31)
  have hs : V13.heap.size = b10 + 1 := by rw [hW, hB]; simp
  rw [← hW, ← hB]
  clear hW hB hbl S12
  obtain ⟨V14, b11, hW, hB, hbl, S14⟩ := St.box S13 (.cells #[(.int .i64 0), (.int .i64 0)] 26)
  rw [hs] at hB
  rw [← hW, ← hB]
  clear hW hB hbl hs S13
  go_upto_region 12 with (go_at_call 25; refine (nameA_any _ _).mono ?_; rintro e V14a ⟨rfl, ht⟩; have S15 := St.call S14 (below_turned ht); clear ht)
  clear S14
  obtain ⟨V16, a12, hW, hB, hbl, S16⟩ := St.box S15 (.cells #[(.int .i64 3), (.int .i64 0), .string ⟨#[100]⟩, .slice none 0 0, (.int .i64 0)] 31)
  have hs : V16.heap.size = a12 + 1 := by rw [hW, hB]; simp
  have hK : KidsAt V16 (fun _ => True) [pnm ⟨#[100]⟩] (.slice (some ⟨a12, 0, none⟩) 1 1) := by
    rw [hW]
    exact kids_new _ 31 [(pnm ⟨#[100]⟩, .slice none 0 0)] (by simp [maxLen]) (by
      intro p hp
      simp only [List.mem_cons, List.not_mem_nil, or_false] at hp
      subst hp
      exact KidsAt.nil _ _) _ 1 hB _ rfl
  rw [← hW, ← hB]
  clear hW hB hbl S15
  obtain ⟨V17, b12, hW, hB, hbl, S17⟩ := St.box S16 (.cells #[(.int .i64 6), (.int .i64 0), .string ⟨#[]⟩, .slice (some ⟨a12, 0, none⟩) 1 1, (.int .i64 0)] 31)
  rw [hs] at hB
  have hK2 := stays_kids _ _ _ _ hK hbl.out
  rw [← hW, ← hB]
  clear hW hB hbl hs S16 hK
  have S18 := St.more S17 hK2 (stays_kids _ _)
  clear S17 hK2
  obtain ⟨d0, d1, d2, d3, d4⟩ := St.cells5 S18 8 rfl
  obtain ⟨f0, f1, f2, f3, f4⟩ := St.cells5 S18 7 rfl
  have HE := Lib.hid (fun W => two_any 12 pa pb (.slice none 0 0) (.slice none 0 0) W (KidsAt.nil _ _) (KidsAt.nil _ _))
  unfold exA at HE
  go_upto_region 13 with (go_at_call 26; refine (HE.out _).mono ?_; rintro e V18a ⟨g13, rfl, hk, ht⟩; have S19 := St.more (St.call S18 (below_turned ht)) hk (stays_kids _ _); clear ht hk)
  clear S18 HE
  clear d0 d1 d2 d3 d4
  clear f0 f1 f2 f3 f4
  obtain ⟨V20, a13, hW, hB, hbl, S20⟩ := St.box S19 (.cells #[(.int .i64 12), (.int .i64 0), .string ⟨#[]⟩, .slice (some ⟨g13, 0, none⟩) 2 2, (.int .i64 0)] 31)
  have hs : V20.heap.size = a13 + 1 := by rw [hW, hB]; simp
  have hK : KidsAt V20 (fun _ => True) [ptwo 12 pa pb] (.slice (some ⟨a13, 0, none⟩) 1 1) := by
    rw [hW]
    exact kids_new _ 31 [(ptwo 12 pa pb, .slice (some ⟨g13, 0, none⟩) 2 2)] (by simp [maxLen]) (by
      intro p hp
      simp only [List.mem_cons, List.not_mem_nil, or_false] at hp
      subst hp
      exact S19.out.tab.2) _ 1 hB _ rfl
  rw [← hW, ← hB]
  clear hW hB hbl S19
  obtain ⟨V21, b13, hW, hB, hbl, S21⟩ := St.box S20 (.cells #[(.int .i64 5), (.int .i64 0), .string ⟨#[]⟩, .slice (some ⟨a13, 0, none⟩) 1 1, (.int .i64 0)] 31)
  rw [hs] at hB
  have hK2 := stays_kids _ _ _ _ hK hbl.out
  rw [← hW, ← hB]
  clear hW hB hbl hs S20 hK
  have S22 := St.more S21 hK2 (stays_kids _ _)
  clear S21 hK2
  go_upto_region 14 with fail
  obtain ⟨V23, a14, hW, hB, hbl, S23⟩ := St.box S22 (.cells #[(.int .i64 1), (.int .i64 1), .string ⟨#[]⟩, .slice none 0 0, (.int .i64 0), (.int .i64 1), (.int .i64 2), .string ⟨#[]⟩, .slice none 0 0, (.int .i64 0)] 31)
  have hs : V23.heap.size = a14 + 1 := by rw [hW, hB]; simp
  have hK : KidsAt V23 (fun _ => True) [.mk 1 1 noB [] 0, .mk 1 2 noB [] 0] (.slice (some ⟨a14, 0, none⟩) 2 2) := by
    rw [hW]
    exact kids_new _ 31 [(.mk 1 1 noB [] 0, .slice none 0 0), (.mk 1 2 noB [] 0, .slice none 0 0)] (by simp [maxLen]) (by
      intro p hp
      simp only [List.mem_cons, List.not_mem_nil, or_false] at hp
      rcases hp with rfl | rfl
      · exact KidsAt.nil _ _
      · exact KidsAt.nil _ _) _ 2 hB _ rfl
  rw [← hW, ← hB]
  clear hW hB hbl S22
  obtain ⟨V24, b14, hW, hB, hbl, S24⟩ := St.box S23 (.cells #[(.int .i64 4), (.int .i64 0), .string ⟨#[102]⟩, .slice (some ⟨a14, 0, none⟩) 2 2, (.int .i64 0)] 31)
  rw [hs] at hB
  have hK2 := stays_kids _ _ _ _ hK hbl.out
  rw [← hW, ← hB]
  clear hW hB hbl hs S23 hK
  have S25 := St.more S24 hK2 (stays_kids _ _)
  clear S24 hK2
  have HC : Hid (∀ W, Below V24.heap.size V24 W → (W.cell? ⟨b9, 0, none⟩ = some (.int .i64 0) ∧ W.cell? ⟨b9, 1, none⟩ = some (.int .i64 0) ∧ W.cell? ⟨b11, 0, none⟩ = some (.int .i64 0) ∧ W.cell? ⟨b11, 1, none⟩ = some (.int .i64 0) ∧ W.cell? ⟨b8, 0, none⟩ = some (.int .i64 (pexB.op)) ∧ W.cell? ⟨b8, 1, none⟩ = some (.int .i64 (pexB.n)) ∧ W.cell? ⟨b8, 2, none⟩ = some (.string pexB.s) ∧ W.cell? ⟨b8, 3, none⟩ = some (.slice pB pexB.kids.length cB) ∧ W.cell? ⟨b8, 4, none⟩ = some (.int .i64 (pexB.at_)) ∧ W.cell? ⟨b5, 0, none⟩ = some (.int .i64 3) ∧ W.cell? ⟨b5, 1, none⟩ = some (.int .i64 0) ∧ W.cell? ⟨b5, 2, none⟩ = some (.string ⟨#[97]⟩) ∧ W.cell? ⟨b5, 3, none⟩ = some (.slice none 0 0) ∧ W.cell? ⟨b5, 4, none⟩ = some (.int .i64 0) ∧ W.cell? ⟨b6, 0, none⟩ = some (.int .i64 3) ∧ W.cell? ⟨b6, 1, none⟩ = some (.int .i64 0) ∧ W.cell? ⟨b6, 2, none⟩ = some (.string ⟨#[98]⟩) ∧ W.cell? ⟨b6, 3, none⟩ = some (.slice none 0 0) ∧ W.cell? ⟨b6, 4, none⟩ = some (.int .i64 0) ∧ W.cell? ⟨b7, 0, none⟩ = some (.int .i64 3) ∧ W.cell? ⟨b7, 1, none⟩ = some (.int .i64 0) ∧ W.cell? ⟨b7, 2, none⟩ = some (.string ⟨#[99]⟩) ∧ W.cell? ⟨b7, 3, none⟩ = some (.slice none 0 0) ∧ W.cell? ⟨b7, 4, none⟩ = some (.int .i64 0) ∧ W.cell? ⟨b12, 0, none⟩ = some (.int .i64 6) ∧ W.cell? ⟨b12, 1, none⟩ = some (.int .i64 0) ∧ W.cell? ⟨b12, 2, none⟩ = some (.string ⟨#[]⟩) ∧ W.cell? ⟨b12, 3, none⟩ = some (.slice (some ⟨a12, 0, none⟩) 1 1) ∧ W.cell? ⟨b12, 4, none⟩ = some (.int .i64 0) ∧ W.cell? ⟨b10, 0, none⟩ = some (.int .i64 (pexC.op)) ∧ W.cell? ⟨b10, 1, none⟩ = some (.int .i64 (pexC.n)) ∧ W.cell? ⟨b10, 2, none⟩ = some (.string pexC.s) ∧ W.cell? ⟨b10, 3, none⟩ = some (.slice pC pexC.kids.length cC) ∧ W.cell? ⟨b10, 4, none⟩ = some (.int .i64 (pexC.at_)) ∧ W.cell? ⟨b13, 0, none⟩ = some (.int .i64 5) ∧ W.cell? ⟨b13, 1, none⟩ = some (.int .i64 0) ∧ W.cell? ⟨b13, 2, none⟩ = some (.string ⟨#[]⟩) ∧ W.cell? ⟨b13, 3, none⟩ = some (.slice (some ⟨a13, 0, none⟩) 1 1) ∧ W.cell? ⟨b13, 4, none⟩ = some (.int .i64 0) ∧ W.cell? ⟨b14, 0, none⟩ = some (.int .i64 4) ∧ W.cell? ⟨b14, 1, none⟩ = some (.int .i64 0) ∧ W.cell? ⟨b14, 2, none⟩ = some (.string ⟨#[102]⟩) ∧ W.cell? ⟨b14, 3, none⟩ = some (.slice (some ⟨a14, 0, none⟩) 2 2) ∧ W.cell? ⟨b14, 4, none⟩ = some (.int .i64 0))) := Lib.hid fun W hb => by
    have S := St.call S25 hb
    obtain ⟨qb90, qb91⟩ := St.cells2 S 8 rfl
    obtain ⟨qb110, qb111⟩ := St.cells2 S 6 rfl
    obtain ⟨qb80, qb81, qb82, qb83, qb84⟩ := St.cells5 S 9 rfl
    obtain ⟨qb50, qb51, qb52, qb53, qb54⟩ := St.cells5 S 12 rfl
    obtain ⟨qb60, qb61, qb62, qb63, qb64⟩ := St.cells5 S 11 rfl
    obtain ⟨qb70, qb71, qb72, qb73, qb74⟩ := St.cells5 S 10 rfl
    obtain ⟨qb120, qb121, qb122, qb123, qb124⟩ := St.cells5 S 4 rfl
    obtain ⟨qb100, qb101, qb102, qb103, qb104⟩ := St.cells5 S 7 rfl
    obtain ⟨qb130, qb131, qb132, qb133, qb134⟩ := St.cells5 S 2 rfl
    obtain ⟨qb140, qb141, qb142, qb143, qb144⟩ := St.cells5 S 0 rfl
    exact ⟨qb90, qb91, qb110, qb111, qb80, qb81, qb82, qb83, qb84, qb50, qb51, qb52, qb53, qb54, qb60, qb61, qb62, qb63, qb64, qb70, qb71, qb72, qb73, qb74, qb120, qb121, qb122, qb123, qb124, qb100, qb101, qb102, qb103, qb104, qb130, qb131, qb132, qb133, qb134, qb140, qb141, qb142, qb143, qb144⟩
  have B0 := Lib.hid (Below.drew (Below.refl V24.heap.size V24))
  have TB := Lib.hid (fun W (hb : Below V24.heap.size V24 W) => (St.call S25 hb).out.tab.1.1.1.1.1.2)
  have TC := Lib.hid (fun W (hb : Below V24.heap.size V24 W) => (St.call S25 hb).out.tab.1.1.1.1.2)
  have TM := Lib.hid (fun W (hb : Below V24.heap.size V24 W) => (St.call S25 hb).out.tab.1.1.1.2)
  have TN := Lib.hid (fun W (hb : Below V24.heap.size V24 W) => (St.call S25 hb).out.tab.1.2)
  have TL := Lib.hid (fun W (hb : Below V24.heap.size V24 W) => (St.call S25 hb).out.tab.2)
  have E1 := Lib.hid (fun (W : World) => two_any 11 pa pb (.slice none 0 0) (.slice none 0 0) W (KidsAt.nil _ _) (KidsAt.nil _ _))
  unfold exA at E1
  have E2 := Lib.hid (fun (W : World) (h : KidsAt W (fun _ => True) [pnm ⟨#[100]⟩] (.slice (some ⟨a12, 0, none⟩) 1 1)) => two_any 7 pc pminus (.slice none 0 0) (.slice (some ⟨a12, 0, none⟩) 1 1) W (KidsAt.nil _ _) h)
  unfold exA at E2
  have E3 := Lib.hid (fun (W : World) (g1 g2 : Nat) (h1 : KidsAt W (fun _ => True) [pa, pb] (.slice (some ⟨g1, 0, none⟩) 2 2)) (h2 : KidsAt W (fun _ => True) [pc, pminus] (.slice (some ⟨g2, 0, none⟩) 2 2)) => two_any 11 (ptwo 11 pa pb) (ptwo 7 pc pminus) (.slice (some ⟨g1, 0, none⟩) 2 2) (.slice (some ⟨g2, 0, none⟩) 2 2) W h1 h2)
  unfold exA at E3
  have E4 := Lib.hid (fun (W : World) (g : Nat) (h1 : KidsAt W (fun _ => True) pexB.kids (.slice pB pexB.kids.length cB)) (h2 : KidsAt W (fun _ => True) [ptwo 11 pa pb, ptwo 7 pc pminus] (.slice (some ⟨g, 0, none⟩) 2 2)) => same_true pexB (ptwo 11 (ptwo 11 pa pb) (ptwo 7 pc pminus)) psameB _ _ W h1 h2)
  unfold exA at E4
  have E5 := Lib.hid (fun (W : World) => two_any 14 pa pb (.slice none 0 0) (.slice none 0 0) W (KidsAt.nil _ _) (KidsAt.nil _ _))
  unfold exA at E5
  have E6 := Lib.hid (fun (W : World) (g : Nat) (h1 : KidsAt W (fun _ => True) [pa, pb] (.slice (some ⟨g, 0, none⟩) 2 2)) => two_any 12 (ptwo 14 pa pb) pc (.slice (some ⟨g, 0, none⟩) 2 2) (.slice none 0 0) W h1 (KidsAt.nil _ _))
  unfold exA at E6
  have E7 := Lib.hid (fun (W : World) (g : Nat) h0 h1 h2 hC => call7 W g a13 a14 pC cC h0 h1 h2 hC)
  go_region_held3 (fun W => W.cell? ⟨b9, 0, none⟩ = some (.int .i64 0) ∧ W.cell? ⟨b9, 1, none⟩ = some (.int .i64 0) ∧ W.cell? ⟨b11, 0, none⟩ = some (.int .i64 0) ∧ W.cell? ⟨b11, 1, none⟩ = some (.int .i64 0) ∧ W.cell? ⟨b8, 0, none⟩ = some (.int .i64 (pexB.op)) ∧ W.cell? ⟨b8, 1, none⟩ = some (.int .i64 (pexB.n)) ∧ W.cell? ⟨b8, 2, none⟩ = some (.string pexB.s) ∧ W.cell? ⟨b8, 3, none⟩ = some (.slice pB pexB.kids.length cB) ∧ W.cell? ⟨b8, 4, none⟩ = some (.int .i64 (pexB.at_)) ∧ W.cell? ⟨b5, 0, none⟩ = some (.int .i64 3) ∧ W.cell? ⟨b5, 1, none⟩ = some (.int .i64 0) ∧ W.cell? ⟨b5, 2, none⟩ = some (.string ⟨#[97]⟩) ∧ W.cell? ⟨b5, 3, none⟩ = some (.slice none 0 0) ∧ W.cell? ⟨b5, 4, none⟩ = some (.int .i64 0) ∧ W.cell? ⟨b6, 0, none⟩ = some (.int .i64 3) ∧ W.cell? ⟨b6, 1, none⟩ = some (.int .i64 0) ∧ W.cell? ⟨b6, 2, none⟩ = some (.string ⟨#[98]⟩) ∧ W.cell? ⟨b6, 3, none⟩ = some (.slice none 0 0) ∧ W.cell? ⟨b6, 4, none⟩ = some (.int .i64 0) ∧ W.cell? ⟨b7, 0, none⟩ = some (.int .i64 3) ∧ W.cell? ⟨b7, 1, none⟩ = some (.int .i64 0) ∧ W.cell? ⟨b7, 2, none⟩ = some (.string ⟨#[99]⟩) ∧ W.cell? ⟨b7, 3, none⟩ = some (.slice none 0 0) ∧ W.cell? ⟨b7, 4, none⟩ = some (.int .i64 0) ∧ W.cell? ⟨b12, 0, none⟩ = some (.int .i64 6) ∧ W.cell? ⟨b12, 1, none⟩ = some (.int .i64 0) ∧ W.cell? ⟨b12, 2, none⟩ = some (.string ⟨#[]⟩) ∧ W.cell? ⟨b12, 3, none⟩ = some (.slice (some ⟨a12, 0, none⟩) 1 1) ∧ W.cell? ⟨b12, 4, none⟩ = some (.int .i64 0) ∧ W.cell? ⟨b10, 0, none⟩ = some (.int .i64 (pexC.op)) ∧ W.cell? ⟨b10, 1, none⟩ = some (.int .i64 (pexC.n)) ∧ W.cell? ⟨b10, 2, none⟩ = some (.string pexC.s) ∧ W.cell? ⟨b10, 3, none⟩ = some (.slice pC pexC.kids.length cC) ∧ W.cell? ⟨b10, 4, none⟩ = some (.int .i64 (pexC.at_)) ∧ W.cell? ⟨b13, 0, none⟩ = some (.int .i64 5) ∧ W.cell? ⟨b13, 1, none⟩ = some (.int .i64 0) ∧ W.cell? ⟨b13, 2, none⟩ = some (.string ⟨#[]⟩) ∧ W.cell? ⟨b13, 3, none⟩ = some (.slice (some ⟨a13, 0, none⟩) 1 1) ∧ W.cell? ⟨b13, 4, none⟩ = some (.int .i64 0) ∧ W.cell? ⟨b14, 0, none⟩ = some (.int .i64 4) ∧ W.cell? ⟨b14, 1, none⟩ = some (.int .i64 0) ∧ W.cell? ⟨b14, 2, none⟩ = some (.string ⟨#[102]⟩) ∧ W.cell? ⟨b14, 3, none⟩ = some (.slice (some ⟨a14, 0, none⟩) 2 2) ∧ W.cell? ⟨b14, 4, none⟩ = some (.int .i64 0))
    (first | exact HC.out _ B0.out | exact HC.out _ B1.out | exact HC.out _ B2.out | exact HC.out _ B3.out | exact HC.out _ B4.out | exact HC.out _ B5.out | exact HC.out _ B6.out | exact HC.out _ B7.out | go_keep)
    (first | (have hq := K6; clear hq; go_at_call 16; refine (E7.out _ g6 (TN.out _ B6.out) (TL.out _ B6.out) K6.out (TC.out _ B6.out)).mono ?_; rintro e U7 ⟨rfl, ht⟩; have B7 := Lib.hid (B6.out.trans ((below_turned ht).mono B6.out.size)); clear ht) | (have hq := B5; clear hq; go_at_call 26; refine (E6.out _ g5 K5.out).mono ?_; rintro e U6 ⟨g6, rfl, hk, ht⟩; have B6 := Lib.hid (B5.out.trans ((below_turned ht).mono B5.out.size)); have K6 := Lib.hid hk; clear hk ht) | (have hq := B4; clear hq; go_at_call 26; refine (E5.out _).mono ?_; rintro e U5 ⟨g5, rfl, hk, ht⟩; have B5 := Lib.hid (B4.out.trans ((below_turned ht).mono B4.out.size)); have K5 := Lib.hid hk; clear hk ht) | (have hq := B3; clear hq; go_at_call 16; refine (E4.out _ g3 (TB.out _ B3.out) K3.out).mono ?_; rintro e U4 ⟨rfl, ht⟩; have B4 := Lib.hid (B3.out.trans ((below_turned ht).mono B3.out.size)); clear ht) | (have hq := B2; clear hq; go_at_call 26; refine (E3.out _ g1 g2 K1b.out K2.out).mono ?_; rintro e U3 ⟨g3, rfl, hk, ht⟩; have B3 := Lib.hid (B2.out.trans ((below_turned ht).mono B2.out.size)); have K3 := Lib.hid hk; clear hk ht) | (have hq := B1; clear hq; go_at_call 26; refine (E2.out _ (TM.out _ B1.out)).mono ?_; rintro e U2 ⟨g2, rfl, hk, ht⟩; have B2 := Lib.hid (B1.out.trans ((below_turned ht).mono B1.out.size)); have K1b := Lib.hid (K1.out.all ht); have K2 := Lib.hid hk; clear hk ht) | (have hq := B0; clear hq; go_at_call 26; refine (E1.out _).mono ?_; rintro e U1 ⟨g1, rfl, hk, ht⟩; have B1 := Lib.hid (B0.out.trans ((below_turned ht).mono B0.out.size)); have K1 := Lib.hid hk; clear hk ht))
  have S26 := St.call S25 B7.out
  clear S25 HC B0 B1 B2 B3 B4 B5 B6 B7 TB TC TM TN TL E1 E2 E3 E4 E5 E6 E7 K1 K1b K2 K3 K5 K6
  obtain ⟨d0, d1, d2, d3, d4⟩ := St.cells5 S26 7 rfl
  have HPE := Lib.hid (print_at pexC _ _ (HPV.out _ S26.out.tab.1.1.1.1.1.1.1 (Nat.le_trans HN.out S26.out.bel.size)) S26.out.tab.1.1.1.1.2 plenC psmallC pfitC pprintC)
  unfold exA psrcP at HPE
  go_upto_region 17 with (go_at_call 21; refine HPE.out.mono ?_; rintro e V26a ⟨rfl, ht⟩; have S27 := St.call S26 (below_turned ht); clear ht)
  clear S26 HPE
  clear d0 d1 d2 d3 d4
  have HE := Lib.hid (expr_bad psrcD 6 5 preadD _ (HPV.out _ S27.out.tab.1.1.1.1.1.1.1 (Nat.le_trans HN.out S27.out.bel.size)))
  go_upto_region 18 with (go_at_call 10; refine HE.out.mono ?_; rintro e V27a ⟨hb, rfl⟩; have S28 := St.call S27 hb; clear hb)
  clear HE S27
  obtain ⟨V29, b17, hW, hB, hbl, S29⟩ := St.box S28 (.cells #[(.int .i64 0), (.int .i64 0), .string ⟨#[]⟩, .slice none 0 0, (.int .i64 0)] 31)
  have hs : V29.heap.size = b17 + 1 := by rw [hW, hB]; simp
  rw [← hW, ← hB]
  clear hW hB hbl S28
  obtain ⟨V30, b18, hW, hB, hbl, S30⟩ := St.box S29 (.cells #[(.int .i64 6), (.int .i64 5)] 26)
  rw [hs] at hB
  rw [← hW, ← hB]
  clear hW hB hbl hs S29
  have HE := Lib.hid (expr_bad psrcE 2 5 preadE _ (HPV.out _ S30.out.tab.1.1.1.1.1.1.1 (Nat.le_trans HN.out S30.out.bel.size)))
  go_upto_region 19 with (go_at_call 10; refine HE.out.mono ?_; rintro e V30a ⟨hb, rfl⟩; have S31 := St.call S30 hb; clear hb)
  clear HE S30
  obtain ⟨V32, b19, hW, hB, hbl, S32⟩ := St.box S31 (.cells #[(.int .i64 0), (.int .i64 0), .string ⟨#[]⟩, .slice none 0 0, (.int .i64 0)] 31)
  have hs : V32.heap.size = b19 + 1 := by rw [hW, hB]; simp
  rw [← hW, ← hB]
  clear hW hB hbl S31
  obtain ⟨V33, b20, hW, hB, hbl, S33⟩ := St.box S32 (.cells #[(.int .i64 2), (.int .i64 5)] 26)
  rw [hs] at hB
  rw [← hW, ← hB]
  clear hW hB hbl hs S32
  have HE := Lib.hid (expr_bad psrcF 3 5 preadF _ (HPV.out _ S33.out.tab.1.1.1.1.1.1.1 (Nat.le_trans HN.out S33.out.bel.size)))
  go_upto_region 20 with (go_at_call 10; refine HE.out.mono ?_; rintro e V33a ⟨hb, rfl⟩; have S34 := St.call S33 hb; clear hb)
  clear HE S33
  obtain ⟨V35, b21, hW, hB, hbl, S35⟩ := St.box S34 (.cells #[(.int .i64 0), (.int .i64 0), .string ⟨#[]⟩, .slice none 0 0, (.int .i64 0)] 31)
  have hs : V35.heap.size = b21 + 1 := by rw [hW, hB]; simp
  rw [← hW, ← hB]
  clear hW hB hbl S34
  obtain ⟨V36, b22, hW, hB, hbl, S36⟩ := St.box S35 (.cells #[(.int .i64 3), (.int .i64 5)] 26)
  rw [hs] at hB
  rw [← hW, ← hB]
  clear hW hB hbl hs S35
  have HE := Lib.hid (forms_bad psrcG 4 5 preadG _ (HPV.out _ S36.out.tab.1.1.1.1.1.1.1 (Nat.le_trans HN.out S36.out.bel.size)))
  go_upto_region 21 with (go_at_call 9; refine HE.out.mono ?_; rintro e V36a ⟨hb, rfl⟩; have S37 := St.call S36 hb; clear hb)
  clear HE S36
  obtain ⟨V38, b24, hW, hB, hbl, S38⟩ := St.box S37 (.cells #[(.int .i64 4), (.int .i64 5)] 26)
  rw [← hW, ← hB]
  clear hW hB hbl S37
  obtain ⟨d0, d1⟩ := St.cells2 S38 5 rfl
  obtain ⟨f0, f1⟩ := St.cells2 S38 3 rfl
  obtain ⟨g0, g1⟩ := St.cells2 S38 1 rfl
  obtain ⟨h0, h1⟩ := St.cells2 S38 0 rfl
  have HSM := Lib.hid (same_true_forms pfsA _ _ S38.out.tab.1.1.1.1.1.1.2)
  have HSX := Lib.hid (fun W => same_false pa pb psameAB (.slice none 0 0) (.slice none 0 0) W (KidsAt.nil _ _) (KidsAt.nil _ _))
  unfold exA at HSX
  go_wp2_with (first | (go_at_call 24; refine HSM.out.mono ?_; rintro e V38a ⟨rfl, ht⟩; have S39 := St.call S38 (below_turned ht); clear ht; obtain ⟨ua, ub, uc, ud, ue⟩ := St.cells5 S39 19 rfl; obtain ⟨va, vb, vc, vd, ve⟩ := St.cells5 S39 18 rfl) | (go_at_call 16; refine (HSX.out _).mono ?_; rintro e V38b ⟨rfl, ht⟩; have S40 := St.call S39 (below_turned ht); clear ht))
  go_ret
  exact ⟨rfl, S40.out.bel⟩
end Go.Proofs.YtjijdgkccfeeaaaGreatDoor
namespace Go.Proofs.YtjijdgkccfeeaaaGreatDoor
open Go Go.Proofs Go.RowKit
attribute [local go_sem] Oper.semAt_some
mutual
def fewX : Ex → Int → Int
  | .mk _ _ s ks _, n => if n ≤ 0 ∨ 300 < s.size then -1 else fewXs ks (n - 1)
def fewXs : List Ex → Int → Int
  | [], n => n
  | k :: ks, n => if n < 0 then n else fewXs ks (fewX k n)
end
def fewAs : List Ar → Int → Int
  | [], n => n
  | a :: zs, n => if n < 0 then n else if 300 < a.s.size then -1 else fewAs zs (fewX a.e n)
mutual
def fewF : Fm → Int → Int
  | .mk w zs fs _, n => if 300 < w.size then -1 else if fewAs zs (n - zs.length) < 0 then fewAs zs (n - zs.length) else max (fewFs fs (fewAs zs (n - zs.length) - fs.length)) (-1)
def fewFs : List Fm → Int → Int
  | [], n => n
  | f :: fs, n => if n < 0 then n else fewFs fs (fewF f n)
end
def fewL (l : List Fm) (n : Int) : Int := max (fewFs l (n - l.length)) (-1)
theorem fewX_eq (x : Ex) (n : Int) : fewX x n = if n ≤ 0 ∨ 300 < x.s.size then -1 else fewXs x.kids (n - 1) := by cases x; rw [fewX]; rfl
theorem fewF_eq (f : Fm) (n : Int) : fewF f n = if 300 < f.word.size then -1 else if fewAs f.args (n - f.args.length) < 0 then fewAs f.args (n - f.args.length) else fewL f.body (fewAs f.args (n - f.args.length)) := by cases f; rw [fewF]; rfl
mutual
theorem fewX_le : ∀ (x : Ex) (n : Int), 0 ≤ n → -1 ≤ fewX x n ∧ fewX x n ≤ n
  | .mk _ _ s ks _, n, h => by
    rw [fewX]
    split
    · omega
    · have := fewXs_le ks (n - 1) (by omega)
      omega
theorem fewXs_le : ∀ (l : List Ex) (n : Int), -1 ≤ n → -1 ≤ fewXs l n ∧ fewXs l n ≤ n
  | [], n, h => by rw [fewXs]; omega
  | k :: ks, n, h => by
    rw [fewXs]
    split
    · omega
    · have h1 := fewX_le k n (by omega)
      have h2 := fewXs_le ks (fewX k n) h1.1
      omega
end
theorem fewXs_neg {l : List Ex} {n : Int} (h : n < 0) : fewXs l n = n := by
  cases l with
  | nil => rw [fewXs]
  | cons k ks => rw [fewXs, if_pos h]
theorem fewXs_step {l : List Ex} {k : Nat} {y : Ex} {n : Int} (hy : l[k]? = some y) (h : 0 ≤ n) : fewXs (l.drop k) n = fewXs (l.drop (k + 1)) (fewX y n) := by
  have hlt := lt_of_some hy
  rw [List.drop_eq_getElem_cons hlt, fewXs, if_neg (by omega)]
  rw [List.getElem?_eq_getElem hlt] at hy
  cases hy; rfl
set_option maxRecDepth 20000 in
theorem exprs_any : ∀ (m : Nat) (x : Ex), SizeOf.sizeOf x ≤ m → ∀ (n : Int) (a : Value) (w : World), 0 ≤ n → n ≤ 1000 → KidsAt w (fun _ => True) x.kids a →
    Calls Tryz.prog 19 #[exA x a, (.int .i64 n)] w fun e w' => e = .returned (.int .i64 (fewX x n)) ∧ Turned (fun _ => False) w w'
  | 0, x, hm => by cases x; simp at hm
  | m + 1, x, hm => by
    intro n a w hn0 hn1 hk
    have HF : Hid (∀ y ∈ x.kids, ∀ (n : Int) (a : Value) (w : World), 0 ≤ n → n ≤ 1000 → KidsAt w (fun _ => True) y.kids a → Calls Tryz.prog 19 #[exA y a, (.int .i64 n)] w fun e w' => e = .returned (.int .i64 (fewX y n)) ∧ Turned (fun _ => False) w w') :=
      Lib.hid fun y hy n a w h0 h1 hk => exprs_any m y (by
        have h1 := List.sizeOf_lt_of_mem hy
        obtain ⟨p, n, s, ks, at_⟩ := x
        simp only [Ex.mk.sizeOf_spec] at hm
        simp only [Ex.kids] at h1
        omega) n a w h0 h1 hk
    have hE := fewX_eq x n
    obtain ⟨pa, ca, rfl⟩ := hk.shape
    have hlk := hk.len
    unfold maxLen at hlk
    have HK := Lib.hid hk
    clear hk hm
    by_cases h0 : n ≤ 0
    · rw [if_pos (.inl h0)] at hE
      have HE := Lib.hid hE
      clear hE HF
      unfold exA
      go_enter Tryz.func19, Tryz.ntmps19
      go_wp2_with fail
      go_ret
      rw [HE.out]
      exact ⟨rfl, (Turned.refl _ _).alloc _⟩
    by_cases hs : 300 < x.s.size
    · rw [if_pos (.inr hs)] at hE
      have HE := Lib.hid hE
      have hs2 : (300 : Int) < (x.s.size : Int) := by omega
      clear hE HF hs
      unfold exA
      go_enter Tryz.func19, Tryz.ntmps19
      go_wp2_with fail
      go_ret
      rw [HE.out]
      exact ⟨rfl, (Turned.refl _ _).alloc _⟩
    rw [if_neg (by omega)] at hE
    have HE := Lib.hid hE
    have hs2 : ¬ (300 : Int) < (x.s.size : Int) := by omega
    have hw : IntKind.i64.wrap (n - 1) = n - 1 := IntWalk.i64_in _ (by omega)
    obtain ⟨w1, hw1⟩ : ∃ w1, w1 = w.alloc (.cells #[(.int .i64 (x.op)), (.int .i64 (x.n)), .string x.s, .slice pa x.kids.length ca, (.int .i64 (x.at_))] 31) := ⟨_, rfl⟩
    have hb : w1.heap[w.heap.size]? = some (.cells #[(.int .i64 (x.op)), (.int .i64 (x.n)), .string x.s, .slice pa x.kids.length ca, (.int .i64 (x.at_))] 31 (0, 0)) := by rw [hw1]; exact heap_alloc_new _ _
    have t1 : Turned (fun _ => False) w w1 := by rw [hw1]; exact (Turned.refl _ _).alloc _
    have HW := Lib.hid hw1
    have HB := Lib.hid hb
    have HT := Lib.hid t1
    clear hE hs hw1 hb t1
    unfold exA
    go_enter Tryz.func19, Tryz.ntmps19
    go_upto_region 5 with fail
    rw [← HW.out]
    clear HW hw hs2
    go_loopw [1, 5] (fun v i wr => ∃ (k : Nat) (z : Int), k ≤ x.kids.length ∧ z ≤ 1000 ∧ v = (.int .i64 z) ∧ i = (.int .i64 k) ∧ Hid (Turned (fun _ => False) w1 wr ∧ fewXs (x.kids.drop k) z = fewX x n)) (fun _ i _ => x.kids.length - (intOf i).toNat)
    case atStart => exact ⟨0, n - 1, by omega, by omega, rfl, rfl, Lib.hid ⟨Turned.refl _ _, by rw [HE.out]; rfl⟩⟩
    case round =>
      obtain ⟨k, z, hk, hz, rfl, rfl, HR⟩ := hrel
      obtain ⟨x0, x1, x2, x3, x4⟩ := cellsFive ((HR.out.1.block _ (getElem?_lt HB.out) id).trans HB.out)
      by_cases hlt : k < x.kids.length
      · have hix : (k : Int) < (x.kids.length : Int) := by omega
        by_cases hz0 : 0 ≤ z
        · obtain ⟨y, hy⟩ := some_of_lt hlt
          obtain ⟨yb, ya, yk, rfl, ⟨y0, y1, y2, y3, y4⟩, HKy⟩ := kidsAt_get (HK.out.all (HT.out.trans HR.out.1)) hy
          obtain ⟨py, cy, rfl⟩ := HKy.shape
          have HC := Lib.hid (HF.out y (List.mem_of_getElem? hy) z _ wr hz0 hz HKy)
          have hle := fewX_le y z hz0
          have HR2 : Hid (fewXs (x.kids.drop (k + 1)) (fewX y z) = fewX x n) := Lib.hid (by rw [← fewXs_step hy hz0]; exact HR.out.2)
          generalize fewX y z = z2 at HC hle HR2
          unfold exA at HC
          clear hy HKy
          go_wp2_with (go_at_call 19; refine HC.out.mono ?_; rintro e W9 ⟨rfl, ht⟩; have HT9 := Lib.hid (HR.out.1.trans ht); clear ht)
          go_roundw
          case rel => exact ⟨k + 1, z2, by omega, by omega, rfl, by go_num, Lib.hid ⟨HT9.out, HR2.out⟩⟩
          case measure => simp [intOf]; omega
        · have HR2 : Hid (fewX x n = z) := Lib.hid (by rw [← HR.out.2]; exact fewXs_neg (by omega))
          go_wp2_with fail
          go_ret
          rw [HR2.out]
          exact ⟨rfl, HT.out.trans HR.out.1⟩
      · have hix : ¬ (k : Int) < (x.kids.length : Int) := by omega
        have HR2 : Hid (fewX x n = z) := Lib.hid (by rw [← HR.out.2, List.drop_eq_nil_of_le (by omega), fewXs])
        go_wp2_with fail
        go_ret
        rw [HR2.out]
        exact ⟨rfl, HT.out.trans HR.out.1⟩
theorem fewAs_le : ∀ (l : List Ar) (n : Int), (n < 0 → fewAs l n = n) ∧ (0 ≤ n → -1 ≤ fewAs l n ∧ fewAs l n ≤ n)
  | [], n => ⟨fun _ => by rw [fewAs], fun h => by rw [fewAs]; omega⟩
  | a :: zs, n => ⟨fun h => by rw [fewAs, if_pos h], fun h => by
      rw [fewAs, if_neg (by omega)]
      split
      · omega
      · have h1 := fewX_le a.e n h
        have h2 := fewAs_le zs (fewX a.e n)
        by_cases h3 : fewX a.e n < 0
        · rw [h2.1 h3]; omega
        · have := h2.2 (by omega); omega⟩
theorem fewAs_step {l : List Ar} {k : Nat} {y : Ar} {n : Int} (hy : l[k]? = some y) (h : 0 ≤ n) : fewAs (l.drop k) n = if 300 < y.s.size then -1 else fewAs (l.drop (k + 1)) (fewX y.e n) := by
  have hlt := lt_of_some hy
  rw [List.drop_eq_getElem_cons hlt, fewAs, if_neg (by omega)]
  rw [List.getElem?_eq_getElem hlt] at hy
  cases hy; rfl
mutual
theorem fewF_le : ∀ (f : Fm) (n : Int), 0 ≤ n → fewF f n ≤ n
  | .mk w zs fs _, n, h => by
    rw [fewF]
    have h1 := fewAs_le zs (n - zs.length)
    split
    · omega
    · split
      · rename_i h2
        by_cases h3 : n - (zs.length : Int) < 0
        · rw [h1.1 h3]; omega
        · have := h1.2 (by omega); omega
      · rename_i h2
        have h4 : 0 ≤ n - (zs.length : Int) := by
          rcases Int.lt_or_le (n - (zs.length : Int)) 0 with h3 | h3
          · rw [h1.1 h3] at h2; omega
          · exact h3
        have h5 := h1.2 h4
        have h6 := fewFs_le fs (fewAs zs (n - zs.length) - fs.length)
        rcases Int.lt_or_le (fewAs zs (n - zs.length) - (fs.length : Int)) 0 with h7 | h7
        · have := h6.1 h7; omega
        · have := h6.2 h7; omega
theorem fewFs_le : ∀ (l : List Fm) (n : Int), (n < 0 → fewFs l n = n) ∧ (0 ≤ n → fewFs l n ≤ n)
  | [], n => ⟨fun _ => by rw [fewFs], fun _ => by rw [fewFs]; omega⟩
  | f :: fs, n => ⟨fun h => by rw [fewFs, if_pos h], fun h => by
      rw [fewFs, if_neg (by omega)]
      have h1 := fewF_le f n h
      have h2 := fewFs_le fs (fewF f n)
      rcases Int.lt_or_le (fewF f n) 0 with h3 | h3
      · rw [h2.1 h3]; omega
      · have := h2.2 h3; omega⟩
end
theorem fewL_le (l : List Fm) (n : Int) (h : 0 ≤ n) : -1 ≤ fewL l n ∧ fewL l n ≤ n := by
  unfold fewL
  have h1 := fewFs_le l (n - l.length)
  rcases Int.lt_or_le (n - (l.length : Int)) 0 with h3 | h3
  · rw [h1.1 h3]; omega
  · have := h1.2 h3; omega
theorem fewFs_step {l : List Fm} {k : Nat} {y : Fm} {n : Int} (hy : l[k]? = some y) (h : 0 ≤ n) : fewFs (l.drop k) n = fewFs (l.drop (k + 1)) (fewF y n) := by
  have hlt := lt_of_some hy
  rw [List.drop_eq_getElem_cons hlt, fewFs, if_neg (by omega)]
  rw [List.getElem?_eq_getElem hlt] at hy
  cases hy; rfl
set_option maxRecDepth 20000 in
set_option maxHeartbeats 4000000 in
theorem forms_few : ∀ (m : Nat) (l : List Fm), SizeOf.sizeOf l ≤ m → ∀ (n : Int) (v : Value) (w : World), 0 ≤ n → n ≤ 1000 → FormsAt w (fun _ => True) l v →
    Calls Tryz.prog 38 #[v, (.int .i64 n)] w fun e w' => e = .returned (.int .i64 (fewL l n)) ∧ Turned (fun _ => False) w w'
  | 0, l, hm => by cases l <;> simp at hm
  | m + 1, l, hm => by
    intro n v w hn0 hn1 hf
    have HF : Hid (∀ f ∈ l, ∀ (n : Int) (v : Value) (w : World), 0 ≤ n → n ≤ 1000 → FormsAt w (fun _ => True) f.body v → Calls Tryz.prog 38 #[v, (.int .i64 n)] w fun e w' => e = .returned (.int .i64 (fewL f.body n)) ∧ Turned (fun _ => False) w w') :=
      Lib.hid fun f hf n v w h0 h1 hk => forms_few m f.body (by
        have h1 := List.sizeOf_lt_of_mem hf
        obtain ⟨s, zs, fs, at_⟩ := f
        simp only [Fm.mk.sizeOf_spec] at h1
        simp only [Fm.body]
        omega) n v w h0 h1 hk
    obtain ⟨pv, cv, rfl⟩ := hf.shape
    have hlk := hf.len
    unfold maxLen at hlk
    have hw : IntKind.i64.wrap (n - (l.length : Int)) = n - (l.length : Int) := IntWalk.i64_in _ (by omega)
    have HL := Lib.hid hf
    clear hf hm
    go_enter Tryz.func38, Tryz.ntmps38
    go_upto_region 3 with fail
    clear hw
    go_loopw [1, 5] (fun v i wr => ∃ (k : Nat) (z : Int), k ≤ l.length ∧ z ≤ 1000 ∧ v = (.int .i64 z) ∧ i = (.int .i64 k) ∧ Hid (Turned (fun _ => False) w wr ∧ max (fewFs (l.drop k) z) (-1) = fewL l n)) (fun _ i _ => l.length - (intOf i).toNat)
    case atStart => exact ⟨0, n - l.length, by omega, by omega, rfl, rfl, Lib.hid ⟨Turned.refl _ _, rfl⟩⟩
    case round =>
      obtain ⟨k, z, hk, hz, rfl, rfl, HR⟩ := hrel
      obtain ⟨wo, rfl⟩ : ∃ wo, wo = wr := ⟨_, rfl⟩
      by_cases hlt : k < l.length
      · have hix : (k : Int) < (l.length : Int) := by omega
        by_cases hz0 : 0 ≤ z
        · obtain ⟨y, hy⟩ := some_of_lt hlt
          obtain ⟨fb, fa, fk, fm, rfl, ⟨x0, x1, x2, x3⟩, HA, HB⟩ := formsAt_get (HL.out.all HR.out.1) hy
          obtain ⟨pa, ca, rfl⟩ := HA.shape
          obtain ⟨pb, cb, rfl⟩ := HB.shape
          have hla := HA.len
          unfold maxLen at hla
          have hwz : IntKind.i64.wrap (z - (y.args.length : Int)) = z - (y.args.length : Int) := IntWalk.i64_in _ (by omega)
          have hE := fewF_eq y z
          have HST : Hid (max (fewFs (l.drop (k + 1)) (fewF y z)) (-1) = fewL l n) := Lib.hid (by rw [← fewFs_step hy hz0]; exact HR.out.2)
          have HFL := Lib.hid (fewF_le y z hz0)
          have HAS := Lib.hid (fewAs_le y.args (z - y.args.length))
          have HC := Lib.hid (fun (z' : Int) (W : World) (h0 : 0 ≤ z') (h1 : z' ≤ 1000) (h : Turned (fun _ => False) wo W) => HF.out y (List.mem_of_getElem? hy) z' _ W h0 h1 (HB.all h))
          have HAr := Lib.hid HA
          have HX0 := Lib.hid x0
          have HX1 := Lib.hid x1
          have HX2 := Lib.hid x2
          have HE := Lib.hid hE
          clear hy HA HB hE
          by_cases hw3 : 300 < y.word.size
          · have hw4 : (300 : Int) < (y.word.size : Int) := by omega
            have HRES : Hid (fewL l n = -1) := Lib.hid (by
              have h1 := HE.out
              rw [if_pos hw3] at h1
              rw [← HST.out, h1, (fewFs_le _ _).1 (by omega)]; rfl)
            clear hw3 HE HST HFL HAS HC HAr
            go_wp2_with fail
            go_ret
            rw [HRES.out]
            exact ⟨rfl, HR.out.1⟩
          · have hw4 : ¬ (300 : Int) < (y.word.size : Int) := by omega
            go_upto_region 9 with fail
            clear x0 x1 x2 x3 hwz hw4
            go_loopw [1, 6] (fun v i wr => ∃ (i' : Nat) (z' : Int), i' ≤ y.args.length ∧ z' ≤ 1000 ∧ v = (.int .i64 (z')) ∧ i = (.int .i64 (i')) ∧ Hid (Turned (fun _ => False) wo wr ∧ fewAs (y.args.drop i') z' = fewAs y.args (z - y.args.length))) (fun _ i _ => y.args.length - (intOf i).toNat)
            case atStart => exact ⟨0, z - y.args.length, by omega, by omega, rfl, rfl, Lib.hid ⟨Turned.refl _ _, rfl⟩⟩
            case round =>
              obtain ⟨i', z', hi', hz', rfl, rfl, HI⟩ := hrel
              have x1 := cell_turned HI.out.1 id HX1.out
              have hout : ∀ h : fewAs y.args (z - y.args.length) = z', True := fun _ => trivial
              by_cases hgo : i' < y.args.length ∧ 0 ≤ z'
              · obtain ⟨hli, hz0'⟩ := hgo
                have hiy : (i' : Int) < (y.args.length : Int) := by omega
                obtain ⟨a, ha⟩ := some_of_lt hli
                obtain ⟨ab, aa, ak, rfl, ⟨a0, a1, a2, a3, a4, a5, a6, a7, a8⟩, HK⟩ := argsAt_get (HAr.out.all HI.out.1) ha
                obtain ⟨pk, ck, rfl⟩ := HK.shape
                have hst := fewAs_step ha hz0'
                by_cases hs3 : 300 < a.s.size
                · have hs4 : (300 : Int) < (a.s.size : Int) := by omega
                  have HRES : Hid (fewL l n = -1) := Lib.hid (by
                    rw [if_pos hs3, HI.out.2] at hst
                    have h1 := HE.out
                    rw [if_neg hw3, hst, if_pos (by omega)] at h1
                    rw [← HST.out, h1, (fewFs_le _ _).1 (by omega)]; rfl)
                  clear hs3 hst ha HK HC HE HST HFL HAS
                  go_wp2_with fail
                  go_ret
                  rw [HRES.out]
                  exact ⟨rfl, HR.out.1.trans HI.out.1⟩
                · have hs4 : ¬ (300 : Int) < (a.s.size : Int) := by omega
                  rw [if_neg hs3, HI.out.2] at hst
                  have hle := fewX_le a.e z' hz0'
                  have HCX := Lib.hid (exprs_any _ a.e (Nat.le_refl _) z' (.slice pk a.e.kids.length ck) wr hz0' hz' HK)
                  have HST2 := Lib.hid hst
                  generalize fewX a.e z' = z2 at HCX hle HST2
                  unfold exA at HCX
                  clear hs3 hst ha HK
                  go_wp2_with (go_at_call 19; refine HCX.out.mono ?_; rintro e W9 ⟨rfl, ht⟩; have HT9 := Lib.hid (HI.out.1.trans ht); clear ht)
                  go_roundw
                  case rel => exact ⟨i' + 1, z2, by omega, by omega, rfl, by go_num, Lib.hid ⟨HT9.out, HST2.out.symm⟩⟩
                  case measure => simp [intOf]; omega
              · have HAV : Hid (fewAs y.args (z - y.args.length) = z') := Lib.hid (by
                  rw [← HI.out.2]
                  rcases Int.lt_or_le z' 0 with h | h
                  · exact (fewAs_le _ _).1 h
                  · rw [List.drop_eq_nil_of_le (by omega), fewAs])
                by_cases hli : i' < y.args.length
                · have hiy : (i' : Int) < (y.args.length : Int) := by omega
                  have hz1 : ¬ 0 ≤ z' := by omega
                  have HFZ : Hid (fewF y z = z') := Lib.hid (by
                    have h1 := HE.out
                    rw [if_neg hw3, HAV.out, if_pos (by omega)] at h1
                    exact h1)
                  have HST2 := Lib.hid (HFZ.out ▸ HST.out)
                  clear HE HST HFL HAS HC HAr HAV HFZ hw3
                  go_wp2_with fail
                  go_roundw
                  case rel => exact ⟨k + 1, z', by omega, by omega, rfl, by go_num, Lib.hid ⟨HR.out.1.trans HI.out.1, HST2.out⟩⟩
                  case measure => simp [intOf]; omega
                have hiy : ¬ (i' : Int) < (y.args.length : Int) := by omega
                by_cases hz1 : 0 ≤ z'
                · have HFZ : Hid (fewF y z = fewL y.body z') := Lib.hid (by
                    have h1 := HE.out
                    rw [if_neg hw3, HAV.out, if_neg (by omega)] at h1
                    exact h1)
                  have HST2 := Lib.hid (HFZ.out ▸ HST.out)
                  have HCB := Lib.hid (HC.out z' wr hz1 hz' HI.out.1)
                  have hle := fewL_le y.body z' hz1
                  have x2 := cell_turned HI.out.1 id HX2.out
                  clear HE HST HFL HAS HC HAr HAV HFZ hw3
                  generalize fewL y.body z' = z2 at HST2 HCB hle
                  go_wp2_with (go_at_call 38; refine HCB.out.mono ?_; rintro e W9 ⟨rfl, ht⟩; have HT9 := Lib.hid ((HR.out.1.trans HI.out.1).trans ht); clear ht)
                  go_roundw
                  case rel => exact ⟨k + 1, z2, by omega, by omega, rfl, by go_num, Lib.hid ⟨HT9.out, HST2.out⟩⟩
                  case measure => simp [intOf]; omega
                · have HFZ : Hid (fewF y z = z') := Lib.hid (by
                    have h1 := HE.out
                    rw [if_neg hw3, HAV.out, if_pos (by omega)] at h1
                    exact h1)
                  have HST2 := Lib.hid (HFZ.out ▸ HST.out)
                  clear HE HST HFL HAS HC HAr HAV HFZ hw3
                  go_wp2_with fail
                  go_roundw
                  case rel => exact ⟨k + 1, z', by omega, by omega, rfl, by go_num, Lib.hid ⟨HR.out.1.trans HI.out.1, HST2.out⟩⟩
                  case measure => simp [intOf]; omega
        · have HR2 : Hid (fewL l n = max z (-1)) := Lib.hid (by rw [← HR.out.2, (fewFs_le _ _).1 (by omega)])
          go_wp2_with fail
          go_ret
          rw [HR2.out]
          exact ⟨rfl, HR.out.1⟩
      · have hix : ¬ (k : Int) < (l.length : Int) := by omega
        have HR2 : Hid (fewL l n = max z (-1)) := Lib.hid (by rw [← HR.out.2, List.drop_eq_nil_of_le (by omega), fewFs])
        go_wp2_with fail
        go_ret
        rw [HR2.out]
        exact ⟨rfl, HR.out.1⟩
theorem few_any (l : List Fm) (n : Int) (v : Value) (w : World) (h0 : 0 ≤ n) (h1 : n ≤ 1000) (h : FormsAt w (fun _ => True) l v) : Calls Tryz.prog 18 #[v, (.int .i64 n)] w fun e w' => e = .returned (.bool (decide (0 ≤ fewL l n))) ∧ Turned (fun _ => False) w w' := by
  have HC := Lib.hid (forms_few _ l (Nat.le_refl _) n v w h0 h1 h)
  generalize fewL l n = z at HC
  obtain ⟨p, c, rfl⟩ := h.shape
  clear h
  go_enter Tryz.func18, Tryz.ntmps18
  go_wp2_with (go_at_call 38; refine HC.out.mono ?_; rintro e W9 ⟨rfl, ht⟩; have HT9 := Lib.hid ht; clear ht)
  go_ret
  exact ⟨rfl, HT9.out⟩
end Go.Proofs.YtjijdgkccfeeaaaGreatDoor
namespace Go.Proofs.YtjijdgkccfeeaaaGreatDoor
open Go Go.RowKit Go.WideShapes Go.ChangeShapes
theorem ownNone : ownKnob Tryz.prog.godebug = none := by kernel_rfl
section
variable {H : Type} {enc : TypeId × Value → H} {P : Program}
theorem post_of_below {f : Func} {s : ChangeSpec} {apart fresh handsOn again : Bool} {W W' : World} {args : Array Value} {v : Value} {ds gs : List (DataW H)} {before pa pv : List MemPlace}
    (hW : DataW.Whole enc P f.params.toList s.vars apart W args.toList ds gs before)
    (hres : ∀ (b : Nat) (sp : Nat → Bool) (hd : Bool), DataW.TrodAll enc P W' b sp hd f.resultTypes.toList (v.resultList f.resultTypes.size) (s.fn H (ds ++ gs)).results [])
    (hargs : ∀ sp : Nat → Bool, (∀ p ∈ before, sp p.block = true) → DataW.TrodAll enc P W' 0 sp true f.params.toList args.toList (s.fn H (ds ++ gs)).args pa)
    (hvars : ∀ sp : Nat → Bool, (∀ p ∈ before, sp p.block = true) → DataW.TrodVars enc P W' sp s.vars (s.fn H (ds ++ gs)).vars pv)
    (hps : before = pa ++ pv) (hb : Below W.heap.size W W')
    (hok : ∀ (j : Nat) (t : TypeId) (r : Value), f.resultTypes[j]? = some t → (v.resultList f.resultTypes.size)[j]? = some r → Value.okWide P W' .any 0 t r) :
    s.post enc P f apart fresh handsOn again W args v W' := by
  have hlt : ∀ p ∈ before, p.block < W.heap.size := fun p hp => hW.lt p hp
  have hold : ∀ p ∈ before, (fun b => decide (b < W.heap.size)) p.block = true := fun p hp => by simpa using hlt p hp
  refine ⟨ds, gs, before, [], pa, pv, hW, hres _ _ _, hargs _ hold, hvars _ hold, World.keptBut_mono (fun p hp => ⟨hp, ?_⟩) (hb.frame (· ∈ before)), fun _ => ?_⟩
  · rw [hps, List.mem_append] at hp
    exact Or.inr hp
  · obtain ⟨_, _, _, _, _, hz, hn⟩ := hW
    refine ⟨hok, _, _, ([] ++ pa) ++ pv, ⟨[] ++ pa, pv, trodAll_append (hargs _ (fun _ _ => rfl)) (hres _ _ _), hvars _ (fun _ _ => rfl), rfl, ?_, ?_⟩, ?_⟩
    · intro b off hp
      have hin : MemPlace.cell b off ∈ before := by rw [hps]; simpa using hp
      rw [hb.frozen (hlt _ hin)]
      exact hz b off hin
    · intro ha
      have := hn ha
      rw [hps] at this
      simpa using this
    · intro p hp _
      rw [hps]
      simpa using hp
theorem trodAll_stays (hl : laidOutB P = true) {W W' : World} (hb : Below W.heap.size W W') {sp : Nat → Bool} : ∀ (ts : List TypeId) (vs : List Value) (ds : List (DataW H)) (ps : List MemPlace), (ts.all fun t => P.readableRec t && decide (t < P.types.size)) = true →
    DataW.TrodAll enc P W 0 (fun _ => true) true ts vs ds ps → (∀ p ∈ ps, p.block < W.heap.size) → (∀ p ∈ ps, sp p.block = true) → DataW.TrodAll enc P W' 0 sp true ts vs ds ps
  | [], vs, ds, ps, _, h, _, _ => by
    obtain ⟨rfl, rfl, rfl⟩ := trodAll_nil h
    exact trodAll_mk0
  | t :: ts, vs, ds, ps, hr, h, hlt, hsp => by
    obtain ⟨v, vs', d, ds', p, q, rfl, rfl, rfl, h1, h2⟩ := trodAll_cons h
    simp only [List.all_cons, Bool.and_eq_true, decide_eq_true_eq] at hr
    exact trodAll_cons_mk (WideElems.Trod_stays hl hr.1.1 hr.1.2 h1 (fun x hx => hb.same (hlt x (List.mem_append_left _ hx))) (fun x hx => hsp x (List.mem_append_left _ hx)))
      (trodAll_stays hl hb ts vs' ds' q hr.2 h2 (fun x hx => hlt x (List.mem_append_right _ hx)) (fun x hx => hsp x (List.mem_append_right _ hx)))
theorem law_post {f : FuncId} {fn : Func} {s : ChangeSpec} {apart fresh handsOn again : Bool} {W : World} {args : Array Value} {ds gs : List (DataW H)} {before : List MemPlace} {tb : TypeId}
    (hl : laidOutB P = true) (hpar : (fn.params.toList.all fun t => P.readableRec t && decide (t < P.types.size)) = true) (hres : fn.resultTypes = #[tb]) (htb : P.underlying tb = some .bool) (hvars : s.vars = [])
    (hW : DataW.Whole enc P fn.params.toList s.vars apart W args.toList ds gs before)
    (hspec : (s.fn H ds).results = [.lit (.bool true)] ∧ (s.fn H ds).args = ds ∧ (s.fn H ds).vars = [])
    (hcall : Calls P f args W fun e W' => e = .returned (.bool true) ∧ Below W.heap.size W W') :
    Calls P f args W fun e W' => ∃ v, e = .returned v ∧ s.post enc P fn apart fresh handsOn again W args v W' := by
  refine hcall.mono fun e W' ⟨he, hb⟩ => ⟨.bool true, he, ?_⟩
  have hlt : ∀ p ∈ before, p.block < W.heap.size := fun p hp => hW.lt p hp
  have hW' := hW
  obtain ⟨p, q, hA, hV, rfl, -, -⟩ := hW
  rw [hvars] at hV
  obtain ⟨rfl, rfl⟩ := trodVars_none hV
  simp only [List.append_nil] at hlt hW'
  obtain ⟨s1, s2, s3⟩ := hspec
  refine post_of_below (pa := p) (pv := []) hW' (fun b sp hd => ?_) (fun sp hsp => ?_) (fun sp hsp => ?_) (by simp) hb (ok_one hres rfl (okWide_bool_mk htb _))
  · rw [List.append_nil, s1, hres]
    exact trodAll_mk1 (shut_bool htb _)
  · rw [List.append_nil, s2]
    exact trodAll_stays hl hb _ _ _ _ hpar hA hlt hsp
  · rw [List.append_nil, s3, hvars]
    rfl
end
end Go.Proofs.YtjijdgkccfeeaaaGreatDoor
namespace Go.Proofs.YtjijdgkccfeeaaaGreatDoor
open Go Go.RowKit Go.WideShapes Go.ChangeShapes Go.Deep
theorem exists_list {α : Type} (d : α) (Q : Nat → α → Prop) : ∀ (n : Nat), (∀ i, i < n → ∃ x, Q i x) → ∃ l : List α, l.length = n ∧ ∀ i, i < n → Q i (l.getD i d)
  | 0, _ => ⟨[], rfl, fun _ h => absurd h (Nat.not_lt_zero _)⟩
  | n + 1, h => by
    obtain ⟨l, hl, hq⟩ := exists_list d Q n (fun i hi => h i (by omega))
    obtain ⟨x, hx⟩ := h n (by omega)
    refine ⟨l ++ [x], by simp [hl], fun i hi => ?_⟩
    rcases Nat.lt_or_ge i n with c | c
    · have := hq i c
      rwa [List.getD_eq_getElem?_getD, List.getElem?_append_left (by omega), ← List.getD_eq_getElem?_getD]
    · obtain rfl : i = n := by omega
      rwa [List.getD_eq_getElem?_getD, List.getElem?_append_right (by omega), hl, Nat.sub_self]
section
variable {H : Type} {enc : TypeId × Value → H} {P : Program} {w : World} {base : Nat} {spare : Nat → Bool} {held : Bool}
end
end Go.Proofs.YtjijdgkccfeeaaaGreatDoor
