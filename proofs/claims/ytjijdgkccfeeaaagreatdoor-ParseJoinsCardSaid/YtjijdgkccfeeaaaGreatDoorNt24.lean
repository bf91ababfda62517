/- Part 24 of the proofs about parse: ParNests, Post, ParLaid, Open. Conditions: those of each theorem. -/
import Derived.Test.YtjijdgkccfeeaaaGreatDoorCards
import Derived.Test.YtjijdgkccfeeaaaGreatDoorTie
import Derived.Below
import Derived.ChangeSame
import Derived.WalkKit
import Derived.ProofKit
import Derived.OpenShut
import Derived.Deep.DeepHandedRow
import Derived.Lib.LaidTab
import Derived.WideKeyArgs
import Derived.Carry
import Derived.Stop.LaidErr
import Derived.LaidSub
import Derived.LaidMore
import Derived.Lib.SmallJoins
import Derived.Test.YtjijdgkccfeeaaaGreatDoorNt01
import Derived.Test.YtjijdgkccfeeaaaGreatDoorNt19
import Derived.Test.YtjijdgkccfeeaaaGreatDoorNt23
namespace Go.Proofs.YtjijdgkccfeeaaaGreatDoor
open Go Go.Proofs
theorem look {us pre rest : List Tok} {v : Tok} {k : Nat} (h : us = pre ++ v :: rest) (hk : k = pre.length) : us[k]? = some v := by
  subst hk; rw [h, List.getElem?_append_right (Nat.le_refl _), Nat.sub_self]; rfl
theorem isS_of {u : Tok} {s : ByteArray} (h : isS u s = true) (t : ByteArray) : isS u t = (s.data.toList == t.data.toList) := by simp [isS, isS_kind h, isS_s h]
theorem opAt_of {u : Tok} {s : ByteArray} (h : isS u s = true) (n : Nat) : opAt n u = opAt n ((sg0 s).shift 0) := by
  unfold opAt
  congr 2
  funext r
  rw [isS_of h, isS_sg]
theorem stops_of {u : Tok} (h : isS u ⟨#[41]⟩ = true ∨ isS u ⟨#[44]⟩ = true) : Stops u := by
  rcases h with h | h
  · exact ⟨by rw [isS_of h]; decide, by rw [isS_of h]; decide, by rw [isS_of h]; decide, by rw [isS_of h]; decide, fun n => by rw [opAt_of h]; exact opAt_close n 0 _ (.inl rfl)⟩
  · exact ⟨by rw [isS_of h]; decide, by rw [isS_of h]; decide, by rw [isS_of h]; decide, by rw [isS_of h]; decide, fun n => by rw [opAt_of h]; exact opAt_close n 0 _ (.inr rfl)⟩
theorem forms_det {ts : List Tok} (ok : TokOK ts) (hl : ts.length ≤ 2000) {f g k n : Nat} {fs : List Fm} {r r' : PR (List Fm)} (hn : n ≤ k) (h : formsF ts f k n fs = some r) (h' : formsF ts g k n fs = some r') : r = r' := by
  have h1 := forms_mono ok hl (Nat.le_max_left f g) hn h
  have h2 := forms_mono ok hl (Nat.le_max_right f g) hn h'
  rw [h1] at h2
  exact Option.some.inj h2
theorem formsP_of {s : ByteArray} {us : List Tok} {fs : List Fm} {j : Nat} (hT : tokensP s = .ok us) (h : readF us = .ok fs j) (h5 : (us[j]?).map (·.kind) = some 5) : formsP s = .ok fs := by
  unfold formsP
  rw [hT]
  dsimp only
  rw [h]
  simp only [endP]
  rw [if_pos h5]
section
variable {a b s : ByteArray} {x y : Ex} {ts ua tb ub us : List Tok} {c c2 : Nat} {o p q v w cl e : Tok}
theorem ExT.paren (H : ExT a x ts ua) {k : Nat} {pre rest : List Tok} (hus : us = pre ++ p :: (ua.map (Tok.shift c) ++ cl :: rest)) (hk : k = pre.length) (hp : isS p ⟨#[40]⟩ = true) (hc : isS cl ⟨#[41]⟩ = true) (d : Int) :
    us[k]? = some p ∧ us[k + 1 + ua.length]? = some cl ∧ Yld us .atom k d (shX c x) (k + 1 + ua.length + 1) := by
  have t0 : us[k]? = some p := look hus hk
  have t1 : us[k + 1 + ua.length]? = some cl := look (pre := pre ++ p :: ua.map (Tok.shift c)) (rest := rest) (by rw [hus]; simp) (by simp; omega)
  have hx := H.yld (us := us) (c := c) (pre := pre ++ [p]) (rest := rest) (v := cl) (by rw [hus]; simp) (stops_of (.inl hc)) (d + 1)
  rw [show (pre ++ [p]).length = k + 1 by simp [hk]] at hx
  exact ⟨t0, t1, Yld.paren t0 hp hx t1 hc⟩
theorem neg_of (H : ExT a x ts ua) (ok : TokOK us) (hus : us = o :: p :: (ua.map (Tok.shift c) ++ [cl, e])) (ho : isS o ⟨#[45]⟩ = true) (hp : isS p ⟨#[40]⟩ = true) (hc : isS cl ⟨#[41]⟩ = true) (he : e.kind = 5) :
    ∃ j, (us[j]?).map (·.kind) = some 5 ∧ Yld us .expr 0 1 (.mk 6 0 noB [shX c x] o.at_) j := by
  obtain ⟨t0, t1, h1⟩ := H.paren (k := 0 + 1) (pre := [o]) (rest := [e]) hus rfl hp hc (1 + 1)
  have tm : us[0]? = some o := by rw [hus]; rfl
  have te : us[0 + 1 + 1 + ua.length + 1]? = some e := look (pre := o :: p :: (ua.map (Tok.shift c) ++ [cl])) (rest := []) (by rw [hus]; simp) (by simp; omega)
  have bp : beginsT p = true := by simp [beginsT, hp]
  have bo : beginsT o = true := by simp [beginsT, ho]
  have h2 := (Yld.minus tm ho t0 bp (h1.atom_neg t0 (by rw [isS_of hp]; decide))).l7
  have h3 := Yld.climb ok tm te 6 1 (by omega) (.inl (by rw [isS_of ho]; decide)) (fun i _ _ => opAt_kind5 he i) h2
  exact ⟨_, by rw [te]; exact congrArg some he, h3.expr tm (.inl bo) te (isS_kind5 he _)⟩
theorem not_of (H : ExT a x ts ua) (ok : TokOK us) (hus : us = o :: p :: (ua.map (Tok.shift c) ++ [cl, e])) (ho : isS o ⟨#[33]⟩ = true) (hp : isS p ⟨#[40]⟩ = true) (hc : isS cl ⟨#[41]⟩ = true) (he : e.kind = 5) :
    ∃ j, (us[j]?).map (·.kind) = some 5 ∧ Yld us .expr 0 1 (.mk 5 0 noB [shX c x] o.at_) j := by
  obtain ⟨t0, t1, h1⟩ := H.paren (k := 0 + 1) (pre := [o]) (rest := [e]) hus rfl hp hc (1 + 1)
  have tm : us[0]? = some o := by rw [hus]; rfl
  have te : us[0 + 1 + 1 + ua.length + 1]? = some e := look (pre := o :: p :: (ua.map (Tok.shift c) ++ [cl])) (rest := []) (by rw [hus]; simp) (by simp; omega)
  have bp : beginsT p = true := by simp [beginsT, hp]
  have h2 := Yld.bang tm ho t0 (.inl bp) (h1.operand ok t0 hp te 3 (by omega) (fun i _ => opAt_kind5 he i))
  have h3 := Yld.climb ok tm te 2 1 (by omega) (.inr (by omega)) (fun i _ _ => opAt_kind5 he i) h2
  exact ⟨_, by rw [te]; exact congrArg some he, h3.expr tm (.inr ho) te (isS_kind5 he _)⟩
theorem two_of (H : ExT a x ts ua) (G : ExT b y tb ub) (ok : TokOK us) (r : ByteArray × Int × Nat) (hr : r ∈ opRows) (hus : us = o :: (ua.map (Tok.shift c) ++ cl :: v :: p :: (ub.map (Tok.shift c2) ++ [w, e]))) (ho : isS o ⟨#[40]⟩ = true) (hc : isS cl ⟨#[41]⟩ = true)
    (hv : isS v r.1 = true) (hp : isS p ⟨#[40]⟩ = true) (hw : isS w ⟨#[41]⟩ = true) (he : e.kind = 5) : ∃ j z, (us[j]?).map (·.kind) = some 5 ∧ Yld us .expr 0 1 (.mk r.2.1 0 noB [shX c x, shX c2 y] z) j := by
  obtain ⟨⟨l1, l6, l3⟩, hop'⟩ := opAt_row r hr
  have hop : ∀ n, opAt n v = if n = r.2.2 then some r.2.1 else none := fun n => by rw [opAt_of hv, hop']
  obtain ⟨t0, t1, h1⟩ := H.paren (k := 0) (pre := []) (rest := v :: p :: (ub.map (Tok.shift c2) ++ [w, e])) hus rfl ho hc 1
  obtain ⟨t2, t3, h2⟩ := G.paren (c := c2) (k := ua.length + 3) (pre := o :: (ua.map (Tok.shift c) ++ [cl, v])) (rest := [e]) (us := us) (by rw [hus]; simp) (by simp) hp hw 1
  have ts : us[0 + 1 + ua.length + 1]? = some v := look (pre := o :: (ua.map (Tok.shift c) ++ [cl])) (rest := p :: (ub.map (Tok.shift c2) ++ [w, e])) (by rw [hus]; simp) (by simp; omega)
  have te : us[ua.length + 3 + 1 + ub.length + 1]? = some e := look (pre := o :: (ua.map (Tok.shift c) ++ [cl, v, p]) ++ (ub.map (Tok.shift c2) ++ [w])) (rest := []) (by rw [hus]; simp) (by simp; omega)
  have bo : beginsT o = true := by simp [beginsT, ho]
  have hx := h1.operand ok t0 ho ts (r.2.2 + 1) (by omega) (fun i hi => by rw [hop, if_neg (by omega)])
  have hy := h2.operand ok t2 hp te (r.2.2 + 1) (by omega) (fun i _ => opAt_kind5 he i)
  have hl := Yld.step (y := .mk r.2.1 0 noB [shX c x, shX c2 y] (shX c x).at_) (i := ua.length + 3 + 1 + ub.length + 1) ok l3 (by omega) hx (fun _ => by
    have ho2 := hop r.2.2
    rw [if_pos rfl] at ho2
    have hy' : Yld us (.level (r.2.2 + 1)) (0 + 1 + ua.length + 1 + 1) 1 (shX c2 y) (ua.length + 3 + 1 + ub.length + 1) := by
      rw [show 0 + 1 + ua.length + 1 + 1 = ua.length + 3 by omega]; exact hy
    by_cases h4 : r.2.2 = 4
    · rw [h4] at hy' ho2 ⊢
      exact Yld.loop_op4 ts ho2 hy'
    · exact Yld.loop_op ok h4 ts ho2 hy' (Yld.loop_end te (opAt_kind5 he _)))
  have h3 := Yld.climb ok t0 te (r.2.2 - 1) 1 (by omega) (.inl (by rw [isS_of ho]; decide)) (fun i _ _ => opAt_kind5 he i) (by rw [show 1 + (r.2.2 - 1) = r.2.2 by omega]; exact hl)
  exact ⟨_, _, by rw [te]; exact congrArg some he, h3.expr t0 (.inl bo) te (isS_kind5 he _)⟩
theorem call_of (H : ExT a x ts ua) (G : ExT b y tb ub) (ok : TokOK us) (hus : us = o :: p :: (ua.map (Tok.shift c) ++ cl :: (ub.map (Tok.shift c2) ++ [w, e]))) (ho : o.kind = 1) (hp : isS p ⟨#[40]⟩ = true) (hc : isS cl ⟨#[44]⟩ = true) (hw : isS w ⟨#[41]⟩ = true) (he : e.kind = 5) :
    ∃ j, (us[j]?).map (·.kind) = some 5 ∧ Yld us .expr 0 1 (.mk 4 0 o.s [shX c x, shX c2 y] o.at_) j := by
  obtain ⟨tf, lf, hlf, hbf⟩ := H.first
  obtain ⟨tg, lg, hlg, hbg⟩ := G.first
  have t0 : us[0]? = some o := by rw [hus]; rfl
  have t1 : us[0 + 1]? = some p := by rw [hus]; rfl
  have t2 : us[0 + 2]? = some (tf.shift c) := by rw [hus, hlf]; rfl
  have hn2 : isS (tf.shift c) ⟨#[41]⟩ = false := by
    rw [isS_shift]
    cases h : isS tf ⟨#[41]⟩ with
    | false => rfl
    | true =>
      rcases hbf with h3 | h3
      · simp [beginsT, isS_of h, isS_kind h] at h3
      · rw [isS_of h] at h3; exact absurd h3 (by decide)
  have hx := H.yld (us := us) (c := c) (pre := [o, p]) (rest := ub.map (Tok.shift c2) ++ [w, e]) (v := cl) (by rw [hus]; rfl) (stops_of (.inr hc)) (1 + 1)
  have hy := G.yld (us := us) (c := c2) (pre := o :: p :: (ua.map (Tok.shift c) ++ [cl])) (rest := [e]) (v := w) (by rw [hus]; simp) (stops_of (.inl hw)) (1 + 1)
  rw [show [o, p].length = 0 + 2 from rfl] at hx
  rw [show (o :: p :: (ua.map (Tok.shift c) ++ [cl])).length = 0 + 2 + ua.length + 1 by simp; omega] at hy
  have t3 : us[0 + 2 + ua.length]? = some cl := look (pre := o :: p :: ua.map (Tok.shift c)) (rest := ub.map (Tok.shift c2) ++ [w, e]) (by rw [hus]; simp) (by simp; omega)
  have t4 : us[0 + 2 + ua.length + 1 + ub.length]? = some w := look (pre := o :: p :: (ua.map (Tok.shift c) ++ cl :: ub.map (Tok.shift c2))) (rest := [e]) (by rw [hus]; simp) (by simp; omega)
  have te : us[0 + 2 + ua.length + 1 + ub.length + 1]? = some e := look (pre := o :: p :: (ua.map (Tok.shift c) ++ cl :: (ub.map (Tok.shift c2) ++ [w]))) (rest := []) (by rw [hus]; simp) (by simp; omega)
  have t5 : us[0 + 2 + ua.length + 1]? = some (tg.shift c2) := look (pre := o :: p :: (ua.map (Tok.shift c) ++ [cl])) (rest := lg.map (Tok.shift c2) ++ [w, e]) (by rw [hus, hlg]; simp) (by simp; omega)
  have nk : ∀ z, isS o z = false := fun z => by simp [isS, ho]
  have bo : beginsT o = true := by simp [beginsT, ho]
  have h1 := Yld.args_last (ks := [shX c x]) (t0 := o) t5 (by simp) hy t4 hw
  have h2 := Yld.args_more ok (ks := []) (t0 := o) t2 (by simp) hx t3 hc h1
  have h3 := ((Yld.call t0 ho t1 hp t2 hn2 h2).atom_neg t0 (nk _)).l7
  have h4 := Yld.climb ok t0 te 6 1 (by omega) (.inl (nk _)) (fun i _ _ => opAt_kind5 he i) h3
  exact ⟨_, by rw [te]; exact congrArg some he, h4.expr t0 (.inl bo) te (isS_kind5 he _)⟩
theorem Toks.op (r : ByteArray × Int × Nat) (hr : r ∈ opRows) {l : List UInt8} {k : Nat} {us : List Tok} (h : Toks (40 :: l) (k + r.1.size) us) : Toks (r.1.data.toList ++ 40 :: l) k ((sg0 r.1).shift k :: us) := by
  refine Toks.tok (head_op r hr _).2 (head_op r hr _).1 ?_
  rw [show r.1.size = r.1.data.toList.length by simp] at h ⊢
  rw [List.drop_left]
  exact h
theorem form_arg_of (H : ExT a x ts ua) (ok : TokOK us) (hus : us = o :: p :: (ua.map (Tok.shift c) ++ [cl, v, e])) (ho : o.kind = 1) (hp : isS p ⟨#[40]⟩ = true) (hc : isS cl ⟨#[41]⟩ = true) (hv : isS v ⟨#[59]⟩ = true) (he : e.kind = 5) :
    ∃ g j, formsF us g 0 0 [] = some (.ok [.mk o.s [⟨5, 0, noB, shX c x, p.at_⟩] [] o.at_] j) ∧ (us[j]?).map (·.kind) = some 5 := by
  obtain ⟨f, hf⟩ := H.run1 (us := us) (c := c) (pre := [o, p]) (rest := [v, e]) (v := cl) (by rw [hus]; rfl) (stops_of (.inl hc))
  rw [show [o, p].length = 2 from rfl] at hf
  have t0 : us[0]? = some o := by rw [hus]; rfl
  have t1 : us[1]? = some p := by rw [hus]; rfl
  have t2 : us[2 + ua.length]? = some cl := look (pre := o :: p :: ua.map (Tok.shift c)) (rest := [v, e]) (by rw [hus]; simp) (by simp; omega)
  have t3 : us[2 + ua.length + 1]? = some v := look (pre := o :: p :: (ua.map (Tok.shift c) ++ [cl])) (rest := [e]) (by rw [hus]; simp) (by simp; omega)
  have t4 : us[2 + ua.length + 1 + 1]? = some e := look (pre := o :: p :: (ua.map (Tok.shift c) ++ [cl, v])) (rest := []) (by rw [hus]; simp) (by simp; omega)
  have hk := isS_kind hp
  have ha : argF us (f + 1) 1 = some (.ok ⟨5, 0, noB, shX c x, p.at_⟩ (2 + ua.length + 1)) := by
    unfold argF
    rw [t1]
    dsimp only
    rw [if_neg (by omega), if_neg (by omega), if_neg (by rw [isS_of hp]; decide), if_neg (by rw [isS_of hp]; decide), run_mono ok (Nat.le_succ f) hf trivial]
    simp only [PR.then_]
    rw [t2]
    dsimp only
    rw [if_pos hc]
  have h1 : formF us (f + 1) (.args o [⟨5, 0, noB, shX c x, p.at_⟩]) (2 + ua.length + 1) 1 1 = some (.ok (.mk o.s [⟨5, 0, noB, shX c x, p.at_⟩] [] o.at_, 1) (2 + ua.length + 1 + 1)) := by
    rw [formF_args t3, if_pos hv]
  have h2 : formF us (f + 3) .form 0 1 0 = some (.ok (.mk o.s [⟨5, 0, noB, shX c x, p.at_⟩] [] o.at_, 1) (2 + ua.length + 1 + 1)) := by
    rw [formF_form t0, if_neg (by simp [ho]), if_neg (by omega), formF_args t1, if_neg (by rw [isS_of hp]; decide), if_neg (by rw [isS_of hp]; decide), if_neg (by simp [beginsT, hp]), if_neg (by simp), ha]
    exact h1
  refine ⟨f + 4, 2 + ua.length + 1 + 1, ?_, by rw [t4]; exact congrArg some he⟩
  rw [formsF, t0]
  dsimp only
  rw [if_neg (by omega), h2]
  show formsF us (f + 3) (2 + ua.length + 1 + 1) 1 ([] ++ [_]) = _
  rw [formsF, t4]
  dsimp only
  rw [if_pos he]
  rfl
theorem nest_neg (ha : exprP a = .ok x) (hs : s.data.toList = 45 :: 40 :: (a.data.toList ++ 10 :: [41])) (hz : s.size ≤ 65536) : NestOK (exprP s) (.mk 6 0 noB [x] 0) := by
  obtain ⟨ts, ua, H⟩ := expr_toks ha
  have hT := Toks.src hz (by rw [hs]; exact Toks.tok rfl (head_neg _) (Toks.tok rfl (head_40 _) (Toks.part H.toks (Toks.tok rfl (head_41 _) (Toks.nil _)))))
  rw [← H.eq] at hT
  obtain ⟨j, h5, hy⟩ := neg_of H (tokens_good hT).1 rfl rfl rfl rfl rfl
  exact nest_of hT hy h5 (by simp [sameX, sameXs, same_shX])
theorem nest_not (ha : exprP a = .ok x) (hs : s.data.toList = 33 :: 40 :: (a.data.toList ++ 10 :: [41])) (hz : s.size ≤ 65536) : NestOK (exprP s) (.mk 5 0 noB [x] 0) := by
  obtain ⟨ts, ua, H⟩ := expr_toks ha
  have hT := Toks.src hz (by rw [hs]; exact Toks.tok rfl (head_not _) (Toks.tok rfl (head_40 _) (Toks.part H.toks (Toks.tok rfl (head_41 _) (Toks.nil _)))))
  rw [← H.eq] at hT
  obtain ⟨j, h5, hy⟩ := not_of H (tokens_good hT).1 rfl rfl rfl rfl rfl
  exact nest_of hT hy h5 (by simp [sameX, sameXs, same_shX])
theorem nest_two (ha : exprP a = .ok x) (hb : exprP b = .ok y) (r : ByteArray × Int × Nat) (hr : r ∈ opRows) (hs : s.data.toList = 40 :: (a.data.toList ++ 10 :: 41 :: (r.1.data.toList ++ 40 :: (b.data.toList ++ 10 :: [41])))) (hz : s.size ≤ 65536) : NestOK (exprP s) (.mk r.2.1 0 noB [x, y] 0) := by
  obtain ⟨ts, ua, H⟩ := expr_toks ha
  obtain ⟨tb, ub, G⟩ := expr_toks hb
  have hT := Toks.src hz (by
    rw [hs]
    exact Toks.tok rfl (head_40 _) (Toks.part H.toks (Toks.tok rfl (head_41 _) (Toks.op r hr (Toks.tok rfl (head_40 _) (Toks.part G.toks (Toks.tok rfl (head_41 _) (Toks.nil _))))))))
  rw [← H.eq, ← G.eq] at hT
  obtain ⟨j, z, h5, hy⟩ := two_of H G (tokens_good hT).1 r hr rfl rfl rfl (by rw [isS_sg]; simp) rfl rfl rfl
  exact nest_of hT hy h5 (by simp [sameX, sameXs, same_shX])
theorem nest_call (ha : exprP a = .ok x) (hb : exprP b = .ok y) (hs : s.data.toList = 102 :: 40 :: (a.data.toList ++ 10 :: 44 :: (b.data.toList ++ 10 :: [41]))) (hz : s.size ≤ 65536) : NestOK (exprP s) (.mk 4 0 ⟨#[102]⟩ [x, y] 0) := by
  obtain ⟨ts, ua, H⟩ := expr_toks ha
  obtain ⟨tb, ub, G⟩ := expr_toks hb
  have hT := Toks.src hz (by rw [hs]; exact Toks.tok rfl (head_f _) (Toks.tok rfl (head_40 _) (Toks.part H.toks (Toks.tok rfl (head_44 _) (Toks.part G.toks (Toks.tok rfl (head_41 _) (Toks.nil _)))))))
  rw [← H.eq, ← G.eq] at hT
  obtain ⟨j, h5, hy⟩ := call_of H G (tokens_good hT).1 rfl rfl rfl rfl rfl rfl
  exact nest_of hT hy h5 (by simp [sameX, sameXs, same_shX, nm0, Tok.shift])
theorem nest_form (ha : exprP a = .ok x) (hs : s.data.toList = 119 :: 32 :: 40 :: (a.data.toList ++ 10 :: [41, 59])) (hz : s.size ≤ 1000) : ∃ z u v w, formsP s = .ok [.mk z [⟨5, 0, noB, u, v⟩] [] w] ∧ sameX false u x = true := by
  obtain ⟨ts, ua, H⟩ := expr_toks ha
  have hz2 : s.size ≤ 65536 := by omega
  have hT := Toks.src hz2 (by rw [hs]; exact Toks.tok rfl (head_w _) (Toks.blank (Toks.tok rfl (head_40 _) (Toks.part H.toks (Toks.tok rfl (head_41 _) (Toks.tok rfl (head_59 _) (Toks.nil _)))))))
  rw [← H.eq] at hT
  obtain ⟨ok, hpos, us, hus, hg, hl⟩ := tokens_good hT
  obtain ⟨g, j, h1, h5⟩ := form_arg_of H ok rfl rfl rfl rfl rfl rfl
  have hlen := congrArg List.length hus
  rw [List.length_append, List.length_singleton] at hlen
  have h2 := readF_some ok hpos
  have h6 := forms_det ok (by omega) (Nat.le_refl 0) h1 h2
  have hP := formsP_of hT h6.symm h5
  exact ⟨_, _, _, _, hP, same_shX _ x⟩
end
end Go.Proofs.YtjijdgkccfeeaaaGreatDoor
namespace Go.Proofs.YtjijdgkccfeeaaaGreatDoor
open Go Go.RowKit Go.WideShapes Go.ChangeShapes
theorem ownNone : ownKnob Tryz.prog.godebug = none := by kernel_rfl
section
variable {H : Type} {enc : TypeId × Value → H} {P : Program}
theorem post_of_below {f : Func} {s : ChangeSpec} {apart fresh handsOn again : Bool} {W W' : World} {args : Array Value} {v : Value} {ds gs : List (DataW H)} {before pa pv : List MemPlace}
    (hW : DataW.Whole enc P f.params.toList s.vars apart W args.toList ds gs before)
    (hres : ∀ (b : Nat) (sp : Nat → Bool) (hd : Bool), DataW.TrodAll enc P W' b sp hd f.resultTypes.toList (v.resultList f.resultTypes.size) (s.fn H (ds ++ gs)).results [])
    (hargs : ∀ sp : Nat → Bool, (∀ p ∈ before, sp p.block = true) → DataW.TrodAll enc P W' 0 sp true f.params.toList args.toList (s.fn H (ds ++ gs)).args pa)
    (hvars : ∀ sp : Nat → Bool, (∀ p ∈ before, sp p.block = true) → DataW.TrodVars enc P W' sp s.vars (s.fn H (ds ++ gs)).vars pv)
    (hps : before = pa ++ pv) (hb : Below W.heap.size W W')
    (hok : ∀ (j : Nat) (t : TypeId) (r : Value), f.resultTypes[j]? = some t → (v.resultList f.resultTypes.size)[j]? = some r → Value.okWide P W' .any 0 t r) :
    s.post enc P f apart fresh handsOn again W args v W' := by
  have hlt : ∀ p ∈ before, p.block < W.heap.size := fun p hp => hW.lt p hp
  have hold : ∀ p ∈ before, (fun b => decide (b < W.heap.size)) p.block = true := fun p hp => by simpa using hlt p hp
  refine ⟨ds, gs, before, [], pa, pv, hW, hres _ _ _, hargs _ hold, hvars _ hold, World.keptBut_mono (fun p hp => ⟨hp, ?_⟩) (hb.frame (· ∈ before)), fun _ => ?_⟩
  · rw [hps, List.mem_append] at hp
    exact Or.inr hp
  · obtain ⟨_, _, _, _, _, hz, hn⟩ := hW
    refine ⟨hok, _, _, ([] ++ pa) ++ pv, ⟨[] ++ pa, pv, trodAll_append (hargs _ (fun _ _ => rfl)) (hres _ _ _), hvars _ (fun _ _ => rfl), rfl, ?_, ?_⟩, ?_⟩
    · intro b off hp
      have hin : MemPlace.cell b off ∈ before := by rw [hps]; simpa using hp
      rw [hb.frozen (hlt _ hin)]
      exact hz b off hin
    · intro ha
      have := hn ha
      rw [hps] at this
      simpa using this
    · intro p hp _
      rw [hps]
      simpa using hp
theorem trodAll_stays (hl : laidOutB P = true) {W W' : World} (hb : Below W.heap.size W W') {sp : Nat → Bool} : ∀ (ts : List TypeId) (vs : List Value) (ds : List (DataW H)) (ps : List MemPlace), (ts.all fun t => P.readableRec t && decide (t < P.types.size)) = true →
    DataW.TrodAll enc P W 0 (fun _ => true) true ts vs ds ps → (∀ p ∈ ps, p.block < W.heap.size) → (∀ p ∈ ps, sp p.block = true) → DataW.TrodAll enc P W' 0 sp true ts vs ds ps
  | [], vs, ds, ps, _, h, _, _ => by
    obtain ⟨rfl, rfl, rfl⟩ := trodAll_nil h
    exact trodAll_mk0
  | t :: ts, vs, ds, ps, hr, h, hlt, hsp => by
    obtain ⟨v, vs', d, ds', p, q, rfl, rfl, rfl, h1, h2⟩ := trodAll_cons h
    simp only [List.all_cons, Bool.and_eq_true, decide_eq_true_eq] at hr
    exact trodAll_cons_mk (WideElems.Trod_stays hl hr.1.1 hr.1.2 h1 (fun x hx => hb.same (hlt x (List.mem_append_left _ hx))) (fun x hx => hsp x (List.mem_append_left _ hx)))
      (trodAll_stays hl hb ts vs' ds' q hr.2 h2 (fun x hx => hlt x (List.mem_append_right _ hx)) (fun x hx => hsp x (List.mem_append_right _ hx)))
theorem law_post {f : FuncId} {fn : Func} {s : ChangeSpec} {apart fresh handsOn again : Bool} {W : World} {args : Array Value} {ds gs : List (DataW H)} {before : List MemPlace} {tb : TypeId}
    (hl : laidOutB P = true) (hpar : (fn.params.toList.all fun t => P.readableRec t && decide (t < P.types.size)) = true) (hres : fn.resultTypes = #[tb]) (htb : P.underlying tb = some .bool) (hvars : s.vars = [])
    (hW : DataW.Whole enc P fn.params.toList s.vars apart W args.toList ds gs before)
    (hspec : (s.fn H ds).results = [.lit (.bool true)] ∧ (s.fn H ds).args = ds ∧ (s.fn H ds).vars = [])
    (hcall : Calls P f args W fun e W' => e = .returned (.bool true) ∧ Below W.heap.size W W') :
    Calls P f args W fun e W' => ∃ v, e = .returned v ∧ s.post enc P fn apart fresh handsOn again W args v W' := by
  refine hcall.mono fun e W' ⟨he, hb⟩ => ⟨.bool true, he, ?_⟩
  have hlt : ∀ p ∈ before, p.block < W.heap.size := fun p hp => hW.lt p hp
  have hW' := hW
  obtain ⟨p, q, hA, hV, rfl, -, -⟩ := hW
  rw [hvars] at hV
  obtain ⟨rfl, rfl⟩ := trodVars_none hV
  simp only [List.append_nil] at hlt hW'
  obtain ⟨s1, s2, s3⟩ := hspec
  refine post_of_below (pa := p) (pv := []) hW' (fun b sp hd => ?_) (fun sp hsp => ?_) (fun sp hsp => ?_) (by simp) hb (ok_one hres rfl (okWide_bool_mk htb _))
  · rw [List.append_nil, s1, hres]
    exact trodAll_mk1 (shut_bool htb _)
  · rw [List.append_nil, s2]
    exact trodAll_stays hl hb _ _ _ _ hpar hA hlt hsp
  · rw [List.append_nil, s3, hvars]
    rfl
end
end Go.Proofs.YtjijdgkccfeeaaaGreatDoor
namespace Go.Proofs.YtjijdgkccfeeaaaGreatDoor
open Go Go.Proofs Go.RowKit Go.WideShapes Go.ChangeShapes Go.Shelf
def parLaid : List (String × DataW Unit) := [("math/bits.deBruijn32tab", Rows.laid_math_bits_deBruijn32tab), ("math/bits.deBruijn64tab", Rows.laid_math_bits_deBruijn64tab), ("internal/strconv.uint64pow10", Rows.laid_internal_strconv_uint64pow10), ("strconv.ErrRange", Rows.laid_strconv_ErrRange), ("strconv.ErrSyntax", Rows.laid_strconv_ErrSyntax), ("unicode.White_Space", Rows.laid_unicode_White_Space), ("strings.asciiSpace", Rows.laid_strings_asciiSpace)]
theorem gES : Tryz.prog.globalNamed "strconv.ErrSyntax" = some 4 := by kernel_rfl
theorem gER : Tryz.prog.globalNamed "strconv.ErrRange" = some 5 := by kernel_rfl
theorem gAS : Tryz.prog.globalNamed "strings.asciiSpace" = some 0 := by kernel_rfl
theorem gPW : Tryz.prog.globalNamed "internal/strconv.uint64pow10" = some 1 := by kernel_rfl
theorem gESType : (Tryz.prog.globals[4]?).map (·.type) = some 176 := by kernel_rfl
theorem gERType : (Tryz.prog.globals[5]?).map (·.type) = some 176 := by kernel_rfl
theorem gASType : (Tryz.prog.globals[0]?).map (·.type) = some 209 := by kernel_rfl
theorem starErr : "*" ++ "errors.errorString" = "*errors.errorString" := by decide
theorem rowErrStr (u : TypeId) (h : Tryz.prog.typeName? 3 u = some "*errors.errorString") : u = 284 :=
  typeName_ptr_named (nm := "errors.errorString") (by rw [starErr]; kernel_rfl) (by kernel_rfl) (by decide) u (by rw [starErr]; exact h)
theorem cellsErrStr : Tryz.prog.cellsOf 286 = 1 := by kernel_rfl
theorem cellsStr : Tryz.prog.cellsOf 9 = 1 := by kernel_rfl
theorem cellsU8 : Tryz.prog.cellsOf 5 = 1 := by kernel_rfl
theorem cellsA256 : Tryz.prog.cellsOf 209 = 256 := by kernel_rfl
theorem gPWType : (Tryz.prog.globals[1]?).map (·.type) = some 224 := by kernel_rfl
theorem cellsU64 : Tryz.prog.cellsOf 196 = 1 := by kernel_rfl
theorem cellsA20 : Tryz.prog.cellsOf 224 = 20 := by kernel_rfl
theorem laid_one {W : World} (h : laidMetH Tryz.prog parLaid W) (nm : String) (d : DataW Unit) (hf : parLaid.filter (fun x => x.1 == nm) = [(nm, d)]) (hh : d.handleName?.isNone = true) : laidMet Tryz.prog [(nm, d)] W := by
  have h1 := h.filter fun x => x.1 == nm
  rw [hf] at h1
  have h2 := (laidMetH_iff.1 h1).1
  simpa [hh] using h2
theorem var_lt {W : World} {nm : String} {cs : Array Value} {g : Nat} (h : W.var? Tryz.prog nm = some cs) (hg : Tryz.prog.globalNamed nm = some g) : g < W.heap.size := by
  unfold World.var? at h
  rw [hg] at h
  simp only [Option.bind_some] at h
  rcases Nat.lt_or_ge g W.heap.size with h' | h'
  · exact h'
  · simp [Array.getElem?_eq_none h'] at h
theorem pv_of_laid {W : World} (h : laidMetH Tryz.prog parLaid W) : PV W.heap.size W := by
  obtain ⟨a0, s0, hv0, -, -, -⟩ := laid_sentinel (r := []) (laid_one h "strconv.ErrSyntax" Rows.laid_strconv_ErrSyntax (by kernel_rfl) (by kernel_rfl)) gES gESType Tryz.underlying176 rowErrStr Tryz.underlying284 Tryz.underlying286 rfl rfl Tryz.underlying9 cellsErrStr cellsStr
  obtain ⟨a1, s1, hv1, -, -, -⟩ := laid_sentinel (r := []) (laid_one h "strconv.ErrRange" Rows.laid_strconv_ErrRange (by kernel_rfl) (by kernel_rfl)) gER gERType Tryz.underlying176 rowErrStr Tryz.underlying284 Tryz.underlying286 rfl rfl Tryz.underlying9 cellsErrStr cellsStr
  have h2 : Lib.TabIs Tryz.prog W "strings.asciiSpace" .u8 Lib.asciiSpaceTab :=
    Lib.tabIs_of_head (rest := []) gAS gASType Tryz.underlying209 Tryz.underlying5 cellsU8 cellsA256 (laid_one h "strings.asciiSpace" (Lib.tabData .u8 Lib.asciiSpaceTab) (by kernel_rfl) (by kernel_rfl))
  have h3 : Lib.TabIs Tryz.prog W "internal/strconv.uint64pow10" .u64 Lib.pow10Tab :=
    Lib.tabIs_of_head (rest := []) gPW gPWType Tryz.underlying224 Tryz.underlying196 cellsU64 cellsA20 (laid_one h "internal/strconv.uint64pow10" (Lib.tabData .u64 Lib.pow10Tab) (by kernel_rfl) (by kernel_rfl))
  have hs := var_lt hv1 gER
  have lt : ∀ {nm : String} {g0 : Nat}, Tryz.prog.globalNamed nm = some g0 → g0 < 6 → ∀ g, Tryz.prog.globalNamed nm = some g → g < W.heap.size := fun h0 hl g hg => by
    rw [h0] at hg; cases hg; omega
  refine ⟨⟨⟨_, _, hv0, lt gES (by omega)⟩, ⟨_, _, hv1, lt gER (by omega)⟩, h2, lt gAS (by omega)⟩, h3, lt gPW (by omega)⟩
end Go.Proofs.YtjijdgkccfeeaaaGreatDoor
namespace Go.Proofs.YtjijdgkccfeeaaaGreatDoor
open Go Go.RowKit Go.WideShapes Go.ChangeShapes
section
variable {H : Type} {enc : TypeId × Value → H} {P : Program} {w : World} {base b0 : Nat} {spare : Nat → Bool} {held : Bool} {r : Reach} {t e : TypeId} {v : Value} {d : DataW H} {p : List MemPlace} {k : IntKind}
theorem okWide_array {n : Nat} (ht : P.underlying t = some (.array n e)) (h : Value.okWide P w r b0 t v) : ∃ cs, v = .agg cs ∧ cs.size = P.cellsOf t := by
  simp only [Value.okWide, ht] at h
  obtain ⟨cs, h1, h2, _⟩ := h
  exact ⟨cs, h1, h2⟩
theorem ints_of_array {n : Nat} (ht : P.underlying t = some (.array n e)) (he : P.underlying e = some (.int k)) (hce : P.cellsOf e = 1) (hct : P.cellsOf t = n)
    (hv : Value.okWide P w r b0 t v) (h : DataW.Trod enc P w base spare held t v d p) : ∃ cs : Array Value, v = .agg cs ∧ cs.size = n ∧ ∀ i, i < n → ∃ z, cs[i]? = some (.int k z) ∧ (Lit.int k z).wf = true := by
  obtain ⟨cs, rfl, hsz⟩ := okWide_array ht hv
  obtain ⟨fuel, hf⟩ := h
  obtain ⟨xs, m, -, -, hlen, hxs, hel⟩ := DataW.trod_array ht hf
  refine ⟨cs, rfl, by rw [hsz, hct], fun i hi => ?_⟩
  have h1 := hel i hi
  rw [hce, Nat.mul_one, List.getElem?_eq_getElem (by omega)] at h1
  obtain ⟨z, hz, -, hwf⟩ := DataW.trod_int he h1
  have := congrArg (·[0]?) hz
  refine ⟨z, ?_, hwf⟩
  simpa [List.getElem?_take, List.getElem?_drop, Value.cells] using this
theorem open_ints2 (ht : P.underlying t = some (.array 2 e)) (he : P.underlying e = some (.int k)) (hce : P.cellsOf e = 1) (hct : P.cellsOf t = 2)
    (hv : Value.okWide P w r b0 t v) (h : DataW.Trod enc P w base spare held t v d p) : ∃ a b, v = .agg #[.int k a, .int k b] ∧ (Lit.int k a).wf = true ∧ (Lit.int k b).wf = true := by
  obtain ⟨cs, rfl, hs, hz⟩ := ints_of_array ht he hce hct hv h
  obtain ⟨a, h0, wa⟩ := hz 0 (by omega)
  obtain ⟨b, h1, wb⟩ := hz 1 (by omega)
  refine ⟨a, b, ?_, wa, wb⟩
  congr 1
  apply Array.ext_getElem?
  intro i
  match i with
  | 0 => rw [h0]; rfl
  | 1 => rw [h1]; rfl
  | i + 2 => rw [Array.getElem?_eq_none (by omega), Array.getElem?_eq_none (by simp)]
theorem open_ints3 (ht : P.underlying t = some (.array 3 e)) (he : P.underlying e = some (.int k)) (hce : P.cellsOf e = 1) (hct : P.cellsOf t = 3)
    (hv : Value.okWide P w r b0 t v) (h : DataW.Trod enc P w base spare held t v d p) : ∃ a b c, v = .agg #[.int k a, .int k b, .int k c] ∧ (Lit.int k a).wf = true ∧ (Lit.int k b).wf = true ∧ (Lit.int k c).wf = true := by
  obtain ⟨cs, rfl, hs, hz⟩ := ints_of_array ht he hce hct hv h
  obtain ⟨a, h0, wa⟩ := hz 0 (by omega)
  obtain ⟨b, h1, wb⟩ := hz 1 (by omega)
  obtain ⟨c, h2, wc⟩ := hz 2 (by omega)
  refine ⟨a, b, c, ?_, wa, wb, wc⟩
  congr 1
  apply Array.ext_getElem?
  intro i
  match i with
  | 0 => rw [h0]; rfl
  | 1 => rw [h1]; rfl
  | 2 => rw [h2]; rfl
  | i + 3 => rw [Array.getElem?_eq_none (by omega), Array.getElem?_eq_none (by simp)]
end
end Go.Proofs.YtjijdgkccfeeaaaGreatDoor
