/- Part 21 of the proof of card: ParNest, ParNests, ParBack, ParBackX. Conditions: those of each theorem. -/
import Derived.Test.YtjijdgkccfeeaaaGreatDoorRt01
import Derived.Test.YtjijdgkccfeeaaaGreatDoorRt15
import Derived.Test.YtjijdgkccfeeaaaGreatDoorRt20
namespace Go.Proofs.YtjijdgkccfeeaaaGreatDoor
open Go Go.Proofs
def sg0 (s : ByteArray) : Tok := ⟨4, 0, s, 0⟩
theorem head_op (r : ByteArray × Int × Nat) (h : r ∈ opRows) (l : List UInt8) : headT (r.1.data.toList ++ 40 :: l) = .tok (sg0 r.1) r.1.size ∧ blankL false (r.1.data.toList ++ 40 :: l) = 0 := by
  simp only [opRows, List.mem_cons, List.not_mem_nil, or_false] at h
  rcases h with rfl | rfl | rfl | rfl | rfl | rfl | rfl | rfl | rfl | rfl | rfl | rfl | rfl <;> exact ⟨by kernel_rfl, by kernel_rfl⟩
def Toks (l : List UInt8) (k : Nat) (us : List Tok) : Prop := srcT l k = .ok us
theorem Toks.tok {l : List UInt8} {k tt : Nat} {t : Tok} {us : List Tok} (hb : blankL false l = 0) (h : headT l = .tok t tt) (h2 : Toks (l.drop tt) (k + tt) us) : Toks l k (t.shift k :: us) := by
  unfold Toks at h2 ⊢
  have e : srcT l k = lexA l k := by unfold srcT; rw [hb]; rfl
  rw [e, lexA_tok h, h2]; rfl
theorem Toks.nil (k : Nat) : Toks [] k [⟨5, k, ⟨#[]⟩, 0⟩] := by
  unfold Toks srcT
  rw [show blankL false [] = 0 from rfl]
  exact lexA_nil _
theorem Toks.src {s : ByteArray} {us : List Tok} (hs : s.size ≤ 65536) (h : Toks s.data.toList 0 us) : tokensP s = .ok us := by
  rw [tokensP_eq, if_neg (by omega)]; exact h
theorem isS_sg (s t : ByteArray) (k : Nat) : isS ((sg0 s).shift k) t = (s.data.toList == t.data.toList) := by simp [isS, sg0, Tok.shift]
theorem opAt_close (n : Nat) (k : Nat) (s : ByteArray) (h : s = ⟨#[41]⟩ ∨ s = ⟨#[44]⟩) : opAt n ((sg0 s).shift k) = none := by
  unfold opAt
  rw [List.find?_eq_none.2]
  · rfl
  · intro r hr
    simp only [opRows, List.mem_cons, List.not_mem_nil, or_false] at hr
    rcases h with rfl | rfl <;> rcases hr with rfl | rfl | rfl | rfl | rfl | rfl | rfl | rfl | rfl | rfl | rfl | rfl | rfl <;> simp [isS_sg]
theorem opAt_row (r : ByteArray × Int × Nat) (h : r ∈ opRows) : (1 ≤ r.2.2 ∧ r.2.2 ≤ 6 ∧ r.2.2 ≠ 3) ∧ ∀ n k, opAt n ((sg0 r.1).shift k) = if n = r.2.2 then some r.2.1 else none := by
  have key : ∀ n k, opAt n ((sg0 r.1).shift k) = ((opRows.filter fun q => q.1.data.toList == r.1.data.toList).find? fun q => q.2.2 == n).map (·.2.1) := fun n k => by
    unfold opAt
    congr 1
    rw [List.find?_filter]
    congr 1
    funext q
    rw [isS_sg, Bool.and_comm]
    rw [Bool.eq_iff_iff, decide_eq_true_iff, Bool.and_eq_true]
    exact and_congr (by rw [beq_iff_eq, beq_iff_eq]; exact eq_comm) Iff.rfl
  simp only [opRows, List.mem_cons, List.not_mem_nil, or_false] at h
  refine ⟨?_, fun n k => ?_⟩
  · rcases h with rfl | rfl | rfl | rfl | rfl | rfl | rfl | rfl | rfl | rfl | rfl | rfl | rfl <;> decide
  · rw [key]
    rcases h with rfl | rfl | rfl | rfl | rfl | rfl | rfl | rfl | rfl | rfl | rfl | rfl | rfl <;>
      (rw [show (opRows.filter fun q => q.1.data.toList == _) = [_] from rfl]; simp only [List.find?_cons, List.find?_nil]; split <;> rename_i h1 <;> simp at h1 <;> simp [h1] <;> try omega)
theorem at_mid (pre mid : List Tok) (v : Tok) (l : List Tok) : (pre ++ (mid ++ v :: l))[pre.length + mid.length]? = some v := by
  rw [List.getElem?_append_right (by omega), List.getElem?_append_right (by omega)]
  simp
structure ExT (a : ByteArray) (x : Ex) (ts ua : List Tok) : Prop where
  toks : tokensP a = .ok ts
  eq : ua = ts.dropLast
  all : ts = ua ++ [endTok a]
  ok : TokOK ts
  run : ∃ f, runF ts f .expr 0 1 = some (.ok x ua.length)
  good : ∀ t ∈ ua, GoodT t
  len : ua.length ≤ a.size
section
variable {a : ByteArray} {x : Ex} {ts ua us : List Tok} {c : Nat}
theorem ExT.sim (h : ExT a x ts ua) {pre rest : List Tok} {v : Tok} (hus : us = pre ++ (ua.map (Tok.shift c) ++ v :: rest)) (hv : Stops v) : Sim ts us pre.length c ua.length false := by
  refine ⟨fun i hi => ?_, fun t ht => ⟨v, ?_, .inr ⟨rfl, ?_, hv⟩⟩, fun h => by cases h⟩
  · rw [hus, List.getElem?_append_right (by omega), List.getElem?_append_left (by simp; omega), Nat.add_sub_cancel_left, List.getElem?_map, h.all, List.getElem?_append_left hi]
  · rw [hus]
    have := at_mid pre (ua.map (Tok.shift c)) v rest
    rw [List.length_map] at this
    exact this
  · rw [h.all, List.getElem?_append_right (Nat.le_refl _), Nat.sub_self] at ht
    cases ht; rfl
theorem ExT.yld (h : ExT a x ts ua) {pre rest : List Tok} {v : Tok} (hus : us = pre ++ (ua.map (Tok.shift c) ++ v :: rest)) (hv : Stops v) (d : Int) : Yld us .expr pre.length d (shX c x) (pre.length + ua.length) := by
  obtain ⟨f, hf⟩ := h.run
  obtain ⟨r', h1, h2⟩ := sim_run h.ok (h.sim hus hv) f f .expr 0 1 d _ (Nat.le_refl _) (fun h => by cases h) trivial hf (Nat.le_refl _)
  refine ⟨f, ?_⟩
  rcases h2 with rfl | ⟨-, i, rfl⟩
  · exact .inl h1
  · exact .inr ⟨i, h1⟩
theorem ExT.first (h : ExT a x ts ua) : ∃ t l, ua = t :: l ∧ (beginsT t = true ∨ isS t ⟨#[33]⟩ = true) := by
  obtain ⟨f, hf⟩ := h.run
  cases f with
  | zero => simp [runF] at hf
  | succ f =>
    obtain ⟨t, ht⟩ := runF_tok hf
    rw [runF_expr ht] at hf
    have hb : beginsT t = true ∨ isS t ⟨#[33]⟩ = true := by
      cases h1 : firstP t 1 true with
      | some e => rw [h1] at hf; cases hf
      | none =>
        unfold firstP at h1
        split at h1
        · cases h1
        · rename_i h2
          simp only [Bool.true_and, Bool.and_eq_true, Bool.not_eq_true', not_and, Bool.not_eq_false] at h2
          cases hbt : beginsT t with
          | true => exact .inl rfl
          | false => exact .inr (h2 hbt)
    rw [h.all] at ht
    cases hua : ua with
    | nil =>
      rw [hua] at ht
      have : t = endTok a := by simpa using ht.symm
      subst this
      rcases hb with h1 | h1
      · simp [beginsT, isS, endTok] at h1
      · simp [isS, endTok] at h1
    | cons u l =>
      rw [hua] at ht
      have : t = u := by simpa using ht.symm
      subst this
      exact ⟨t, l, rfl, hb⟩
end
theorem Yld.operand {us : List Tok} (ok : TokOK us) {k j : Nat} {d : Int} {x : Ex} {t u : Tok} (ht : us[k]? = some t) (hs : isS t ⟨#[40]⟩ = true) (h : Yld us .atom k d x j) (hu : us[j]? = some u) (n : Nat) (hn : n ≤ 7) (ho : ∀ i, n ≤ i → opAt i u = none) : Yld us (.level n) k d x j := by
  have e := isS_s hs
  have e2 := isS_kind hs
  have h1 := (h.atom_neg ht (by simp [isS, e])).l7
  have h2 := Yld.climb (x := x) (d := d) ok ht hu (7 - n) n (by omega) (.inl (by simp [isS, e])) (fun i h1 _ => ho i h1)
  rw [show n + (7 - n) = 7 by omega] at h2
  exact h2 h1
section
variable {a b s : ByteArray} {x y : Ex}
end
end Go.Proofs.YtjijdgkccfeeaaaGreatDoor
namespace Go.Proofs.YtjijdgkccfeeaaaGreatDoor
open Go Go.Proofs
theorem look {us pre rest : List Tok} {v : Tok} {k : Nat} (h : us = pre ++ v :: rest) (hk : k = pre.length) : us[k]? = some v := by
  subst hk; rw [h, List.getElem?_append_right (Nat.le_refl _), Nat.sub_self]; rfl
theorem isS_of {u : Tok} {s : ByteArray} (h : isS u s = true) (t : ByteArray) : isS u t = (s.data.toList == t.data.toList) := by simp [isS, isS_kind h, isS_s h]
theorem opAt_of {u : Tok} {s : ByteArray} (h : isS u s = true) (n : Nat) : opAt n u = opAt n ((sg0 s).shift 0) := by
  unfold opAt
  congr 2
  funext r
  rw [isS_of h, isS_sg]
theorem stops_of {u : Tok} (h : isS u ⟨#[41]⟩ = true ∨ isS u ⟨#[44]⟩ = true) : Stops u := by
  rcases h with h | h
  · exact ⟨by rw [isS_of h]; decide, by rw [isS_of h]; decide, by rw [isS_of h]; decide, by rw [isS_of h]; decide, fun n => by rw [opAt_of h]; exact opAt_close n 0 _ (.inl rfl)⟩
  · exact ⟨by rw [isS_of h]; decide, by rw [isS_of h]; decide, by rw [isS_of h]; decide, by rw [isS_of h]; decide, fun n => by rw [opAt_of h]; exact opAt_close n 0 _ (.inr rfl)⟩
section
variable {a b s : ByteArray} {x y : Ex} {ts ua tb ub us : List Tok} {c c2 : Nat} {o p q v w cl e : Tok}
theorem ExT.paren (H : ExT a x ts ua) {k : Nat} {pre rest : List Tok} (hus : us = pre ++ p :: (ua.map (Tok.shift c) ++ cl :: rest)) (hk : k = pre.length) (hp : isS p ⟨#[40]⟩ = true) (hc : isS cl ⟨#[41]⟩ = true) (d : Int) :
    us[k]? = some p ∧ us[k + 1 + ua.length]? = some cl ∧ Yld us .atom k d (shX c x) (k + 1 + ua.length + 1) := by
  have t0 : us[k]? = some p := look hus hk
  have t1 : us[k + 1 + ua.length]? = some cl := look (pre := pre ++ p :: ua.map (Tok.shift c)) (rest := rest) (by rw [hus]; simp) (by simp; omega)
  have hx := H.yld (us := us) (c := c) (pre := pre ++ [p]) (rest := rest) (v := cl) (by rw [hus]; simp) (stops_of (.inl hc)) (d + 1)
  rw [show (pre ++ [p]).length = k + 1 by simp [hk]] at hx
  exact ⟨t0, t1, Yld.paren t0 hp hx t1 hc⟩
theorem Toks.op (r : ByteArray × Int × Nat) (hr : r ∈ opRows) {l : List UInt8} {k : Nat} {us : List Tok} (h : Toks (40 :: l) (k + r.1.size) us) : Toks (r.1.data.toList ++ 40 :: l) k ((sg0 r.1).shift k :: us) := by
  refine Toks.tok (head_op r hr _).2 (head_op r hr _).1 ?_
  rw [show r.1.size = r.1.data.toList.length by simp] at h ⊢
  rw [List.drop_left]
  exact h
end
end Go.Proofs.YtjijdgkccfeeaaaGreatDoor
namespace Go.Proofs.YtjijdgkccfeeaaaGreatDoor
open Go Go.Proofs
def Like (u t : Tok) : Prop := u.kind = t.kind ∧ u.s = t.s ∧ u.n = t.n
theorem Like.isS {u t : Tok} (h : Like u t) (s : ByteArray) : isS u s = isS t s := by simp only [Go.Proofs.YtjijdgkccfeeaaaGreatDoor.isS, h.1, h.2.1]
theorem Like.begins {u t : Tok} (h : Like u t) : beginsT u = beginsT t := by simp only [beginsT, h.isS, h.1]
theorem Like.opAt {u t : Tok} (h : Like u t) (n : Nat) : opAt n u = opAt n t := by simp only [Go.Proofs.YtjijdgkccfeeaaaGreatDoor.opAt, h.isS]
def Mt (us : List Tok) (k : Nat) (ts : List Tok) : Prop := ∀ (i : Nat) (t : Tok), ts[i]? = some t → ∃ u, us[k + i]? = some u ∧ Like u t
theorem Mt.left {us a b : List Tok} {k : Nat} (h : Mt us k (a ++ b)) : Mt us k a := fun i t ht => h i t (by rw [List.getElem?_append_left (lt_of_some ht)]; exact ht)
theorem Mt.right {us a b : List Tok} {k : Nat} (h : Mt us k (a ++ b)) : Mt us (k + a.length) b := fun i t ht => by
  obtain ⟨u, h1, h2⟩ := h (a.length + i) t (by rw [List.getElem?_append_right (by omega), show a.length + i - a.length = i by omega]; exact ht)
  exact ⟨u, by rw [← h1]; congr 1; omega, h2⟩
theorem Mt.head {us b : List Tok} {t : Tok} {k : Nat} (h : Mt us k (t :: b)) : ∃ u, us[k]? = some u ∧ Like u t := h 0 t rfl
theorem Mt.tail {us b : List Tok} {t : Tok} {k : Nat} (h : Mt us k (t :: b)) : Mt us (k + 1) b := Mt.right (a := [t]) h
theorem Mt.at {us a b : List Tok} {t : Tok} {k : Nat} (h : Mt us k (a ++ t :: b)) : ∃ u, us[k + a.length]? = some u ∧ Like u t := h.right.head
def dpAt (need : Nat) (op : Int) (p : Nat) : Nat := if need ≤ lvlX op then p else p + 1
def dpCall : List (Int × Nat) → Nat
  | [] => 0
  | (_, p) :: r => max (1 + p) (dpCall r)
def dpH (op : Int) (K : List (Int × Nat)) : Nat :=
  if op = 1 ∨ op = 2 ∨ op = 3 then 0
  else if op = 4 then dpCall K
  else match K with
    | [(p, a)] => if op = 5 then 1 + dpAt 3 p a else 1 + dpAt 7 p a
    | [(p, a), (q, b)] => match opRows.find? fun r => r.2.1 == op with
      | some r => max (dpAt (if r.2.2 = 4 then 5 else r.2.2) p a) (dpAt (r.2.2 + 1) q b)
      | none => 0
    | [(p, a), (_, b), (_, c)] => max (dpAt 1 p a) (max (1 + b) (1 + c))
    | _ => 0
mutual
def dpX : Ex → Nat
  | .mk op _ _ ks _ => dpH op (dpXs ks)
def dpXs : List Ex → List (Int × Nat)
  | [] => []
  | x :: xs => (x.op, dpX x) :: dpXs xs
end
mutual
def arX : Ex → Prop
  | .mk op _ _ ks _ => (op = 4 → ks.length ≤ 40) ∧ arXs ks
def arXs : List Ex → Prop
  | [] => True
  | x :: xs => arX x ∧ arXs xs
end
theorem arX_eq (x : Ex) : arX x = ((x.op = 4 → x.kids.length ≤ 40) ∧ arXs x.kids) := by cases x; rw [arX]; rfl
structure StopN (n : Nat) (v : Tok) : Prop where
  op : ∀ i, n ≤ i → opAt i v = none
  ask : n = 0 → isS v ⟨#[63]⟩ = false
  opn : isS v ⟨#[40]⟩ = false
theorem StopN.up {n m : Nat} {v : Tok} (h : StopN n v) (hm : n ≤ m) : StopN m v := ⟨fun i hi => h.op i (by omega), fun h0 => h.ask (by omega), h.opn⟩
theorem StopN.like {n : Nat} {u t : Tok} (h : StopN n t) (hl : Like u t) : StopN n u := ⟨fun i hi => by rw [hl.opAt]; exact h.op i hi, fun h0 => by rw [hl.isS]; exact h.ask h0, by rw [hl.isS]; exact h.opn⟩
theorem opAt_sgT (s : ByteArray) (n : Nat) : opAt n (sgT s) = opAt n ((sg0 s).shift 0) := rfl
theorem opAt_out {s : ByteArray} (h : (opRows.any fun r => s.data.toList == r.1.data.toList) = false) (n : Nat) : opAt n (sgT s) = none := by
  unfold opAt
  rw [List.find?_eq_none.2]
  · rfl
  · intro r hr
    have := List.any_eq_false.1 h r hr
    simp only [isS, sgT, Bool.and_eq_true, not_and]
    intro _ _
    exact this
theorem stop_of {s : ByteArray} (h : (opRows.any fun r => s.data.toList == r.1.data.toList) = false) (h2 : (s.data.toList == [63]) = false) (h3 : (s.data.toList == [40]) = false) (n : Nat) : StopN n (sgT s) :=
  ⟨fun i _ => opAt_out h i, fun _ => by simp only [isS, sgT]; exact h2, by simp only [isS, sgT]; exact h3⟩
theorem stop_41 (n : Nat) : StopN n (sgT ⟨#[41]⟩) := stop_of (by decide) (by decide) (by decide) n
theorem stop_44 (n : Nat) : StopN n (sgT ⟨#[44]⟩) := stop_of (by decide) (by decide) (by decide) n
theorem stop_58 (n : Nat) : StopN n (sgT ⟨#[58]⟩) := stop_of (by decide) (by decide) (by decide) n
theorem stop_63 (n : Nat) (hn : 1 ≤ n) : StopN n (sgT ⟨#[63]⟩) := ⟨fun i _ => opAt_out (by decide) i, fun h => by omega, by simp only [isS, sgT]; decide⟩
theorem row_sign {r : ByteArray × Int × Nat} (h : r ∈ opRows) : isS (sgT r.1) ⟨#[40]⟩ = false ∧ isS (sgT r.1) ⟨#[63]⟩ = false ∧ lvlX r.2.1 = r.2.2 ∧ r.2.1 ≠ 1 ∧ r.2.1 ≠ 2 ∧ r.2.1 ≠ 3 ∧ r.2.1 ≠ 4 ∧ r.2.1 ≠ 5 ∧ r.2.1 ≠ 6 ∧ r.2.1 ≠ 20 := by
  simp only [opRows, List.mem_cons, List.not_mem_nil, or_false] at h
  rcases h with rfl | rfl | rfl | rfl | rfl | rfl | rfl | rfl | rfl | rfl | rfl | rfl | rfl <;> decide
theorem stop_row {r : ByteArray × Int × Nat} (h : r ∈ opRows) (n : Nat) (hn : r.2.2 < n) : StopN n (sgT r.1) := ⟨fun i hi => by
  rw [opAt_sgT, (opAt_row r h).2, if_neg (by omega)], fun h0 => by omega, (row_sign h).1⟩
def OwnY (L : Prop) (us : List Tok) (c k : Nat) (d : Int) (x : Ex) (j : Nat) : Prop :=
  if c = 0 then YL L us .expr k d x j
  else if c = 8 then YL L us .atom k d x j
  else if c = 7 then YL L us .neg k d x j
  else if c = 3 ∨ c = 4 then YL L us (.level c) k d x j
  else ∀ z i, (x.op ≠ 0 → YL L us (.loop c x) j d z i) → YL L us (.level c) k d z i
def FirstT (c : Nat) (l : List Tok) : Prop := ∃ t r, l = t :: r ∧ (beginsT t = true ∨ (c ≤ 3 ∧ isS t ⟨#[33]⟩ = true)) ∧ (c = 8 → isS t ⟨#[45]⟩ = false)
theorem begins_not {t : Tok} (h : beginsT t = true) : isS t ⟨#[33]⟩ = false := by
  cases h2 : isS t ⟨#[33]⟩ with
  | false => rfl
  | true =>
    have h3 := isS_kind h2
    have h4 := isS_s h2
    simp [beginsT, isS, h3, h4] at h
section
variable {L : Prop} {us : List Tok} {k j : Nat} {d : Int} {x : Ex} {c n : Nat} {t v : Tok}
theorem YL.to {q : Qn} {j2 : Nat} (h : YL L us q k d x j) (e : j = j2) : YL L us q k d x j2 := e ▸ h
theorem YL.un7 (h : YL L us (.level 7) k d x j) : YL L us .neg k d x j := by
  obtain ⟨f, h⟩ := h
  cases f with
  | zero => simp [runF] at h
  | succ f =>
    have ht : ∃ t, us[k]? = some t := by rcases h with h | ⟨hL, i, h⟩ <;> exact runF_tok h
    obtain ⟨t, ht⟩ := ht
    rw [runF_level ht, if_neg (by decide), if_pos rfl] at h
    exact ⟨f, h⟩
theorem OwnY.down (ok : TokOK us) (h : OwnY L us c k d x j) (hc : c ≤ 8) (ht : us[k]? = some t) (hf : beginsT t = true ∨ (c ≤ 3 ∧ isS t ⟨#[33]⟩ = true)) (hm : c = 8 → isS t ⟨#[45]⟩ = false) (hv : us[j]? = some v) (hs : StopN n v) (hn : 1 ≤ n) (hnc : n ≤ c) (hn7 : n ≤ 7) : YL L us (.level n) k d x j := by
  have key : ∀ m, m ≤ 7 → n ≤ m → (isS t ⟨#[33]⟩ = false ∨ m ≤ 3) → YL L us (.level m) k d x j → YL L us (.level n) k d x j := fun m h1 h2 h3 h4 => by
    have := YL.climb (L := L) (x := x) (d := d) ok ht hv (m - n) n (by omega) (h3.imp id fun h => by omega) (fun i hi _ => hs.op i hi)
    rw [show n + (m - n) = m by omega] at this
    exact this h4
  have hb : isS t ⟨#[33]⟩ = false ∨ c ≤ 3 := hf.elim (fun h => .inl (begins_not h)) fun h => .inr h.1
  unfold OwnY at h
  rw [if_neg (by omega)] at h
  split at h
  · rename_i h8
    exact key 7 (by omega) (by omega) (.inl (hb.resolve_right (by omega))) (h.atom_neg ht (hm h8)).l7
  split at h
  · exact key 7 (by omega) (by omega) (.inl (hb.resolve_right (by omega))) h.l7
  split at h
  · exact key c (by omega) (by omega) hb h
  · exact key c (by omega) (by omega) hb (h x j fun _ => YL.loop_end hv (hs.op c hnc))
theorem OwnY.whole (ok : TokOK us) (h : OwnY L us c k d x j) (hc : c ≤ 8) (hd : 30 < d → L) (ht : us[k]? = some t) (hf : beginsT t = true ∨ (c ≤ 3 ∧ isS t ⟨#[33]⟩ = true)) (hm : c = 8 → isS t ⟨#[45]⟩ = false) (hv : us[j]? = some v) (hs : StopN 0 v) : YL L us .expr k d x j := by
  by_cases h0 : c = 0
  · unfold OwnY at h
    rw [if_pos h0] at h
    exact h
  · exact YL.expr hd ht (hf.imp id fun h => h.2) (h.down ok hc ht hf hm hv (hs.up (Nat.zero_le 1)) (by omega) (by omega) (by omega)) hv (hs.ask rfl)
theorem YL.operandL (ok : TokOK us) (ht : us[k]? = some t) (hs : isS t ⟨#[40]⟩ = true) (h : YL L us .atom k d x j) (hv : us[j]? = some v) (hn : n ≤ 7) (ho : ∀ i, n ≤ i → opAt i v = none) : YL L us (.level n) k d x j := by
  have e := isS_s hs
  have h1 := (h.atom_neg ht (by simp [isS, e])).l7
  have h2 := YL.climb (L := L) (x := x) (d := d) ok ht hv (7 - n) n (by omega) (.inl (by simp [isS, e])) (fun i h1 _ => ho i h1)
  rw [show n + (7 - n) = 7 by omega] at h2
  exact h2 h1
end
def ownS (c : Nat) : Nat := if c = 1 ∨ c = 2 ∨ c = 5 ∨ c = 6 then c + 1 else c
theorem ownS_le (c : Nat) : c ≤ ownS c := by unfold ownS; split <;> omega
def Back (L : Prop) (y : Ex) : Prop := FirstT (lvlX y.op) (showX y).2.1 ∧ ∀ (us : List Tok), TokOK us → ∀ (k : Nat) (d : Int) (v : Tok), Mt us k (showX y).2.1 → us[k + (showX y).2.1.length]? = some v → StopN (ownS (lvlX y.op)) v → (30 < d + dpX y → L) → (¬ arX y → L) →
  ∃ z, sameX false y z = true ∧ OwnY L us (lvlX y.op) k d z (k + (showX y).2.1.length)
theorem lvlX_le (op : Int) : lvlX op ≤ 8 := by
  unfold lvlX
  split
  · omega
  split
  · omega
  split
  · omega
  split
  · rename_i r hr
    have := (opAt_row r (List.mem_of_find?_eq_some hr)).1
    omega
  · omega
section
variable {L : Prop} {us : List Tok} {k : Nat} {d : Int} {y : Ex} {v : Tok} {n : Nat}
theorem first_like {l : List Tok} {c : Nat} (h : FirstT c l) (hM : Mt us k l) : ∃ t, us[k]? = some t ∧ (beginsT t = true ∨ (c ≤ 3 ∧ isS t ⟨#[33]⟩ = true)) ∧ (c = 8 → isS t ⟨#[45]⟩ = false) := by
  obtain ⟨t, r, rfl, h1, h2⟩ := h
  obtain ⟨u, hu, hl⟩ := hM.head
  exact ⟨u, hu, by rw [hl.begins, hl.isS]; exact h1, fun h => by rw [hl.isS]; exact h2 h⟩
theorem Back.whole (B : Back L y) (ok : TokOK us) (hM : Mt us k (showX y).2.1) (hv : us[k + (showX y).2.1.length]? = some v) (hs : StopN 0 v) (hd : 30 < d + dpX y → L) (ha : ¬ arX y → L) : ∃ z, sameX false y z = true ∧ YL L us .expr k d z (k + (showX y).2.1.length) := by
  obtain ⟨t, ht, h1, h2⟩ := first_like B.1 hM
  obtain ⟨z, hz, hy⟩ := B.2 us ok k d v hM hv (hs.up (Nat.zero_le _)) hd ha
  exact ⟨z, hz, hy.whole ok (lvlX_le _) (fun h => hd (by omega)) ht h1 h2 hv hs⟩
theorem Back.paren (B : Back L y) (ok : TokOK us) (hM : Mt us k (sgT ⟨#[40]⟩ :: ((showX y).2.1 ++ [sgT ⟨#[41]⟩]))) (hd : 30 < d + 1 + dpX y → L) (ha : ¬ arX y → L) : ∃ t z, us[k]? = some t ∧ isS t ⟨#[40]⟩ = true ∧ sameX false y z = true ∧ YL L us .atom k d z (k + (sgT ⟨#[40]⟩ :: ((showX y).2.1 ++ [sgT ⟨#[41]⟩])).length) := by
  obtain ⟨t, ht, hl⟩ := hM.head
  obtain ⟨u, hu, hl2⟩ := hM.tail.at
  obtain ⟨z, hz, hy⟩ := B.whole (d := d + 1) ok hM.tail.left hu ((stop_41 0).like hl2) hd ha
  refine ⟨t, z, ht, by rw [hl.isS]; rfl, hz, ?_⟩
  have := YL.paren ht (by rw [hl.isS]; rfl) hy hu (by rw [hl2.isS]; rfl)
  rw [show k + (sgT ⟨#[40]⟩ :: ((showX y).2.1 ++ [sgT ⟨#[41]⟩])).length = k + 1 + (showX y).2.1.length + 1 by simp; omega]
  exact this
theorem opnd_eq (need : Nat) (y : Ex) : opndX need y.op (showX y).2 = if need ≤ lvlX y.op then (showX y).2 else (sgT ⟨#[40]⟩ :: ((showX y).2.1 ++ [sgT ⟨#[41]⟩]), (showX y).2.2) := rfl
theorem Back.operand (B : Back L y) (ok : TokOK us) (hn : 1 ≤ n) (hn7 : n ≤ 7) (hM : Mt us k (opndX n y.op (showX y).2).1) (hv : us[k + (opndX n y.op (showX y).2).1.length]? = some v) (hs : StopN n v) (hd : 30 < d + dpAt n y.op (dpX y) → L) (ha : ¬ arX y → L) :
    ∃ z, sameX false y z = true ∧ YL L us (.level n) k d z (k + (opndX n y.op (showX y).2).1.length) := by
  rw [opnd_eq] at hM hv ⊢
  unfold dpAt at hd
  by_cases h : n ≤ lvlX y.op
  · rw [if_pos h] at hM hv hd ⊢
    obtain ⟨t, ht, h1, h2⟩ := first_like B.1 hM
    obtain ⟨z, hz, hy⟩ := B.2 us ok k d v hM hv (hs.up (Nat.le_trans h (ownS_le _))) hd ha
    exact ⟨z, hz, hy.down ok (lvlX_le _) ht h1 h2 hv hs hn h hn7⟩
  · rw [if_neg h] at hM hv hd ⊢
    obtain ⟨t, z, ht, hp, hz, hy⟩ := B.paren (d := d) ok hM (fun h => hd (by omega)) ha
    exact ⟨z, hz, YL.operandL ok ht hp hy hv hn7 hs.op⟩
theorem Back.lefts (B : Back L y) (ok : TokOK us) (hn : n = 1 ∨ n = 2 ∨ n = 5 ∨ n = 6) (hM : Mt us k (opndX n y.op (showX y).2).1) (hv : us[k + (opndX n y.op (showX y).2).1.length]? = some v) (hs : StopN (n + 1) v) (hd : 30 < d + dpAt n y.op (dpX y) → L) (ha : ¬ arX y → L) :
    ∃ z, sameX false y z = true ∧ ∀ u i, (z.op ≠ 0 → YL L us (.loop n z) (k + (opndX n y.op (showX y).2).1.length) d u i) → YL L us (.level n) k d u i := by
  by_cases h : n = lvlX y.op
  · rw [opnd_eq] at hM hv ⊢
    unfold dpAt at hd
    rw [if_pos (by omega)] at hM hv hd ⊢
    obtain ⟨z, hz, hy⟩ := B.2 us ok k d v hM hv (by unfold ownS; rw [if_pos (by omega), ← h]; exact hs) hd ha
    refine ⟨z, hz, ?_⟩
    unfold OwnY at hy
    rw [if_neg (by omega), if_neg (by omega), if_neg (by omega), if_neg (by omega), ← h] at hy
    exact hy
  · have e : opndX n y.op (showX y).2 = opndX (n + 1) y.op (showX y).2 := by
      rw [opnd_eq, opnd_eq]
      by_cases h2 : n ≤ lvlX y.op
      · rw [if_pos h2, if_pos (by omega)]
      · rw [if_neg h2, if_neg (by omega)]
    have e2 : dpAt n y.op (dpX y) = dpAt (n + 1) y.op (dpX y) := by
      unfold dpAt
      by_cases h2 : n ≤ lvlX y.op
      · rw [if_pos h2, if_pos (by omega)]
      · rw [if_neg h2, if_neg (by omega)]
    rw [e] at hM hv ⊢
    rw [e2] at hd
    obtain ⟨z, hz, hy⟩ := B.operand ok (by omega) (by omega) hM hv hs hd ha
    exact ⟨z, hz, fun u i hu => YL.step ok (by omega) (by omega) hy hu⟩
theorem Back.first (B : Back L y) (n : Nat) : ∃ t r, (opndX n y.op (showX y).2).1 = t :: r ∧ (beginsT t = true ∨ (n ≤ 3 ∧ isS t ⟨#[33]⟩ = true)) := by
  rw [opnd_eq]
  split
  · rename_i h
    obtain ⟨t, r, h1, h2, -⟩ := B.1
    exact ⟨t, r, h1, h2.imp id fun h3 => ⟨by omega, h3.2⟩⟩
  · exact ⟨_, _, rfl, .inl rfl⟩
theorem Back.firstMt (B : Back L y) {n : Nat} (hM : Mt us k (opndX n y.op (showX y).2).1) : ∃ u, us[k]? = some u ∧ (beginsT u = true ∨ (n ≤ 3 ∧ isS u ⟨#[33]⟩ = true)) := by
  obtain ⟨t, r, h1, h2⟩ := B.first n
  rw [h1] at hM
  obtain ⟨u, hu, hl⟩ := hM.head
  exact ⟨u, hu, by rw [hl.begins, hl.isS]; exact h2⟩
end
theorem showX_two (y : Ex) : showX y = (y.op, (showX y).2) := by cases y; rw [showX]; rfl
theorem opnd_zero (op : Int) (p : Pr) : opndX 0 op p = p := if_pos (Nat.zero_le _)
theorem dpAt_zero (op : Int) (p : Nat) : dpAt 0 op p = p := if_pos (Nat.zero_le _)
theorem call_cons (m : Nat) (y : Ex) (ys : List Ex) : callX (m + 1) (showXs (y :: ys)) = Pr.app ([sgT ⟨#[44]⟩], false) (Pr.app (showX y).2 (callX (m + 2) (showXs ys))) := by
  rw [showXs, showX_two, callX, opnd_zero, if_pos (by omega)]
theorem call_first (y : Ex) (ys : List Ex) : callX 0 (showXs (y :: ys)) = Pr.app (showX y).2 (callX 1 (showXs ys)) := by
  rw [showXs, showX_two, callX, opnd_zero, if_neg (by omega), Pr.nil_app]
theorem same_mk {op n m a b : Int} {s t : ByteArray} {ks zs : List Ex} (h1 : op ≠ 1) (h2 : ¬ (2 ≤ op ∧ op ≤ 4)) (hk : sameXs false ks zs = true) : sameX false (.mk op n s ks a) (.mk op m t zs b) = true := by
  have e : (decide (2 ≤ op) && decide (op ≤ 4)) = false := by
    cases h : (decide (2 ≤ op) && decide (op ≤ 4)) with
    | false => rfl
    | true => rw [Bool.and_eq_true, decide_eq_true_eq, decide_eq_true_eq] at h; exact absurd h h2
  simp [sameX, h1, hk, e]
section
variable {L : Prop} {us : List Tok} {d : Int}
theorem args_back (ok : TokOK us) (t0 : Tok) : ∀ (ys : List Ex) (y : Ex), (∀ w ∈ y :: ys, Back L w) → ∀ (m k : Nat) (ks : List Ex), Mt us k ((showX y).2.1 ++ ((callX (m + 1) (showXs ys)).1 ++ [sgT ⟨#[41]⟩])) → (∀ w ∈ y :: ys, 30 < d + 1 + dpX w → L) → (∀ w ∈ y :: ys, ¬ arX w → L) → (40 < ks.length + (y :: ys).length → L) →
    ∃ zs, sameXs false (y :: ys) zs = true ∧ YL L us (.args t0 ks) k d (.mk 4 0 t0.s (ks ++ zs) t0.at_) (k + ((showX y).2.1 ++ ((callX (m + 1) (showXs ys)).1 ++ [sgT ⟨#[41]⟩])).length)
  | ys, y, hB, m, k, ks, hM, hd, ha, hl => by
    have B := hB y (by simp)
    obtain ⟨t, ht, h1, -⟩ := first_like B.1 hM.left
    by_cases hf : ks.length = 40
    · exact ⟨y :: ys, sameXs_refl _ _, YL.full (hl (by simp [hf])) ht (h1.imp id fun h => h.2) hf⟩
    match ys with
    | [] =>
      have e : (callX (m + 1) (showXs [])).1 = [] := by rw [showXs, callX]
      rw [e] at hM ⊢
      obtain ⟨u, hu, hlu⟩ := hM.at
      obtain ⟨z, hz, hy⟩ := B.whole (d := d + 1) ok hM.left hu ((stop_41 0).like hlu) (hd y (by simp)) (ha y (by simp))
      refine ⟨[z], by simp [sameXs, hz], ?_⟩
      have := YL.args_last (t0 := t0) ht hf hy hu (by rw [hlu.isS]; rfl)
      refine this.to ?_
      simp
      omega
    | y2 :: ys2 =>
      have e : (callX (m + 1) (showXs (y2 :: ys2))).1 ++ [sgT ⟨#[41]⟩] = sgT ⟨#[44]⟩ :: ((showX y2).2.1 ++ ((callX (m + 2) (showXs ys2)).1 ++ [sgT ⟨#[41]⟩])) := by rw [call_cons]; simp [Pr.app]
      rw [e] at hM ⊢
      obtain ⟨u, hu, hlu⟩ := hM.at
      obtain ⟨z, hz, hy⟩ := B.whole (d := d + 1) ok hM.left hu ((stop_44 0).like hlu) (hd y (by simp)) (ha y (by simp))
      obtain ⟨zs, hzs, hy2⟩ := args_back ok t0 ys2 y2 (fun w hw => hB w (List.mem_cons_of_mem _ hw)) (m + 1) _ (ks ++ [z]) hM.right.tail (fun w hw => hd w (List.mem_cons_of_mem _ hw)) (fun w hw => ha w (List.mem_cons_of_mem _ hw)) (fun h => hl (by simp at h ⊢; omega))
      refine ⟨z :: zs, by rw [sameXs, hz, hzs]; rfl, ?_⟩
      have := YL.args_more ok (t0 := t0) ht hf hy hu (by rw [hlu.isS]; rfl) hy2
      rw [List.append_assoc, List.singleton_append] at this
      rw [show k + ((showX y).2.1 ++ sgT ⟨#[44]⟩ :: ((showX y2).2.1 ++ ((callX (m + 2) (showXs ys2)).1 ++ [sgT ⟨#[41]⟩]))).length = k + (showX y).2.1.length + 1 + ((showX y2).2.1 ++ ((callX (m + 2) (showXs ys2)).1 ++ [sgT ⟨#[41]⟩])).length by simp; omega]
      exact this
  termination_by ys => ys.length
end
end Go.Proofs.YtjijdgkccfeeaaaGreatDoor
namespace Go.Proofs.YtjijdgkccfeeaaaGreatDoor
open Go Go.Proofs
section
variable {L : Prop}
theorem arXs_mem : ∀ {l : List Ex} {x : Ex}, arXs l → x ∈ l → arX x
  | y :: l, x, h, hx => by
    rw [arXs] at h
    rcases List.mem_cons.1 hx with rfl | hx
    · exact h.1
    · exact arXs_mem h.2 hx
theorem first_one (c : Nat) {t : Tok} (h : beginsT t = true) (h2 : isS t ⟨#[45]⟩ = false) : FirstT c [t] := ⟨t, [], rfl, .inl h, fun _ => h2⟩
theorem own_8 {us : List Tok} {k j : Nat} {d : Int} {x : Ex} (h : YL L us .atom k d x j) : OwnY L us 8 k d x j := by
  unfold OwnY
  rw [if_neg (by decide), if_pos rfl]
  exact h
theorem back_1 (n : Int) (s : ByteArray) (ks : List Ex) (a : Int) : Back L (.mk 1 n s ks a) := by
  have e : (showX (.mk 1 n s ks a)).2.1 = [nuT n] := by rw [showX]; unfold headX; rw [if_pos rfl]
  have l : lvlX (Ex.mk 1 n s ks a).op = 8 := rfl
  refine ⟨by rw [e]; exact first_one _ rfl rfl, fun us ok k d v hM hv hs hd ha => ?_⟩
  rw [e] at hM hv ⊢
  rw [l] at hs ⊢
  obtain ⟨u, hu, hl⟩ := hM.head
  exact ⟨_, by simp [sameX, hl.2.2, nuT], own_8 (YL.number hu hl.1)⟩
theorem back_2 (n : Int) (s : ByteArray) (ks : List Ex) (a : Int) : Back L (.mk 2 n s ks a) := by
  have e : (showX (.mk 2 n s ks a)).2.1 = [txT s] := by rw [showX]; unfold headX; rw [if_neg (by decide), if_pos rfl]
  have l : lvlX (Ex.mk 2 n s ks a).op = 8 := rfl
  refine ⟨by rw [e]; exact first_one _ rfl rfl, fun us ok k d v hM hv hs hd ha => ?_⟩
  rw [e] at hM hv ⊢
  rw [l] at hs ⊢
  obtain ⟨u, hu, hl⟩ := hM.head
  exact ⟨_, by simp [sameX, hl.2.1, txT], own_8 (YL.text hu hl.1)⟩
theorem back_3 (n : Int) (s : ByteArray) (ks : List Ex) (a : Int) : Back L (.mk 3 n s ks a) := by
  have e : (showX (.mk 3 n s ks a)).2.1 = [nmT s] := by rw [showX]; unfold headX; rw [if_neg (by decide), if_neg (by decide), if_pos rfl]
  have l : lvlX (Ex.mk 3 n s ks a).op = 8 := rfl
  refine ⟨by rw [e]; exact first_one _ rfl rfl, fun us ok k d v hM hv hs hd ha => ?_⟩
  rw [e] at hM hv ⊢
  rw [l] at hs ⊢
  obtain ⟨u, hu, hl⟩ := hM.head
  exact ⟨_, by simp [sameX, hl.2.1, nmT], own_8 (YL.name hu hl.1 hv hs.opn)⟩
theorem dpCall_le : ∀ {l : List Ex} {x : Ex}, x ∈ l → 1 + dpX x ≤ dpCall (dpXs l)
  | y :: l, x, hx => by
    rw [dpXs, dpCall]
    rcases List.mem_cons.1 hx with rfl | hx
    · omega
    · have := dpCall_le hx
      omega
theorem back_4 (n : Int) (s : ByteArray) (ks : List Ex) (a : Int) (hB : ∀ y ∈ ks, Back L y) : Back L (.mk 4 n s ks a) := by
  have e : (showX (.mk 4 n s ks a)).2.1 = nmT s :: sgT ⟨#[40]⟩ :: ((callX 0 (showXs ks)).1 ++ [sgT ⟨#[41]⟩]) := by
    rw [showX]; unfold headX; rw [if_neg (by decide), if_neg (by decide), if_neg (by decide), if_pos rfl]; simp [Pr.app]
  have l : lvlX (Ex.mk 4 n s ks a).op = 8 := rfl
  refine ⟨by rw [e]; exact ⟨_, _, rfl, .inl rfl, fun _ => rfl⟩, fun us ok k d v hM hv hs hd ha => ?_⟩
  rw [e] at hM hv ⊢
  rw [l] at hs ⊢
  obtain ⟨u, hu, hl⟩ := hM.head
  obtain ⟨p, hp, hlp⟩ := hM.tail.head
  have hT := hM.tail.tail
  have hps : isS p ⟨#[40]⟩ = true := by rw [hlp.isS]; rfl
  have hdp : dpX (.mk 4 n s ks a) = dpCall (dpXs ks) := by rw [dpX]; unfold dpH; rw [if_neg (by decide), if_pos rfl]
  rw [hdp] at hd
  rw [arX_eq] at ha
  have hd2 : ∀ w ∈ ks, 30 < d + 1 + dpX w → L := fun w hw h => hd (by have := dpCall_le hw; omega)
  have ha2 : ∀ w ∈ ks, ¬ arX w → L := fun w hw h => ha fun h2 => h (arXs_mem h2.2 hw)
  have ha3 : 40 < ks.length → L := fun h => ha fun h2 => by have := h2.1 rfl; simp only [Ex.kids] at this; omega
  match ks, hB with
  | [], _ =>
    have e0 : (callX 0 (showXs [])).1 = [] := by rw [showXs, callX]
    rw [e0] at hT ⊢
    obtain ⟨w, hw, hlw⟩ := hT.head
    exact ⟨_, by simp [sameX, sameXs, hl.2.1, nmT], own_8 (YL.call0 hu hl.1 hp hps hw (by rw [hlw.isS]; rfl))⟩
  | y :: ys, hB =>
    have e1 : (callX 0 (showXs (y :: ys))).1 ++ [sgT ⟨#[41]⟩] = (showX y).2.1 ++ ((callX (0 + 1) (showXs ys)).1 ++ [sgT ⟨#[41]⟩]) := by rw [call_first]; simp [Pr.app]
    rw [e1] at hT ⊢
    obtain ⟨zs, hzs, hy⟩ := args_back ok u ys y hB 0 _ [] hT hd2 ha2 (by simpa using ha3)
    obtain ⟨w, hw, h1, -⟩ := first_like (hB y (by simp)).1 hT.left
    have hc : isS w ⟨#[41]⟩ = false := by
      cases h2 : isS w ⟨#[41]⟩ with
      | false => rfl
      | true =>
        have h3 := isS_kind h2
        have h4 := isS_s h2
        simp [beginsT, isS, h3, h4] at h1
    refine ⟨.mk 4 0 u.s ([] ++ zs) u.at_, ?_, own_8 ?_⟩
    · simp [sameX, hl.2.1, nmT, hzs]
    · have := YL.call hu hl.1 hp hps hw hc hy
      rw [show k + (nmT s :: sgT ⟨#[40]⟩ :: ((showX y).2.1 ++ ((callX (0 + 1) (showXs ys)).1 ++ [sgT ⟨#[41]⟩]))).length = k + 1 + 1 + ((showX y).2.1 ++ ((callX (0 + 1) (showXs ys)).1 ++ [sgT ⟨#[41]⟩])).length by simp; omega]
      exact this
theorem show_un (op n : Int) (s : ByteArray) (x0 : Ex) (a : Int) (hop : op = 5 ∨ op = 6) : (showX (.mk op n s [x0] a)).2 = Pr.app ([sgT (if op = 5 then ⟨#[33]⟩ else ⟨#[45]⟩)], false) (opndX (if op = 5 then 3 else 7) x0.op (showX x0).2) := by
  rw [showX, showXs, showXs, showX_two]
  unfold headX
  rw [if_neg (by omega), if_neg (by omega), if_neg (by omega), if_neg (by omega)]
  dsimp only
  rcases hop with rfl | rfl
  · rw [if_pos rfl, if_pos rfl, if_pos rfl]
  · rw [if_neg (by decide), if_pos rfl, if_neg (by decide), if_neg (by decide)]
theorem dp_un (op n : Int) (s : ByteArray) (x0 : Ex) (a : Int) (hop : op = 5 ∨ op = 6) : dpX (.mk op n s [x0] a) = 1 + dpAt (if op = 5 then 3 else 7) x0.op (dpX x0) := by
  rw [dpX, dpXs, dpXs]
  unfold dpH
  rw [if_neg (by omega), if_neg (by omega)]
  dsimp only
  split <;> rfl
theorem ar_kid {op n : Int} {s : ByteArray} {ks : List Ex} {a : Int} {y : Ex} (hy : y ∈ ks) (h : ¬ arX (.mk op n s ks a) → L) : ¬ arX y → L := fun h1 => h fun h2 => h1 (by
  rw [arX] at h2
  exact arXs_mem h2.2 hy)
theorem back_un (op n : Int) (s : ByteArray) (x0 : Ex) (a : Int) (hop : op = 5 ∨ op = 6) (B : Back L x0) : Back L (.mk op n s [x0] a) := by
  have e := show_un op n s x0 a hop
  have hdp := dp_un op n s x0 a hop
  have e1 : (showX (.mk op n s [x0] a)).2.1 = sgT (if op = 5 then ⟨#[33]⟩ else ⟨#[45]⟩) :: (opndX (if op = 5 then 3 else 7) x0.op (showX x0).2).1 := by rw [e]; rfl
  rcases hop with rfl | rfl
  · have l : lvlX (Ex.mk 5 n s [x0] a).op = 3 := rfl
    simp only [↓reduceIte] at e1 hdp
    refine ⟨by rw [e1, l]; exact ⟨_, _, rfl, .inr ⟨by decide, rfl⟩, fun h => by omega⟩, fun us ok k d v hM hv hs hd ha => ?_⟩
    rw [e1] at hM hv ⊢
    rw [l] at hs ⊢
    rw [hdp] at hd
    obtain ⟨u, hu, hl⟩ := hM.head
    obtain ⟨z, hz, hy⟩ := B.operand (d := d + 1) ok (by decide) (by decide) hM.tail (by rw [List.length_cons] at hv; rw [← hv]; congr 1; omega) (show StopN 3 v from hs) (fun h => hd (by omega)) (ar_kid (by simp) ha)
    obtain ⟨t, ht, h1⟩ := B.firstMt hM.tail
    refine ⟨.mk 5 0 noB [z] u.at_, same_mk (by decide) (by decide) (by rw [sameXs, hz, sameXs]; rfl), ?_⟩
    · have := YL.bang (fun h => hd (by omega)) hu (by rw [hl.isS]; rfl) ht (h1.imp id fun h => h.2) hy
      unfold OwnY
      rw [if_neg (by decide), if_neg (by decide), if_neg (by decide), if_pos (.inl rfl)]
      rw [show k + (sgT ⟨#[33]⟩ :: (opndX 3 x0.op (showX x0).2).1).length = k + 1 + (opndX 3 x0.op (showX x0).2).1.length by simp; omega]
      exact this
  · have l : lvlX (Ex.mk 6 n s [x0] a).op = 7 := rfl
    rw [if_neg (by decide), if_neg (by decide)] at e1
    rw [if_neg (by decide)] at hdp
    refine ⟨by rw [e1, l]; exact ⟨_, _, rfl, .inl rfl, fun h => by omega⟩, fun us ok k d v hM hv hs hd ha => ?_⟩
    rw [e1] at hM hv ⊢
    rw [l] at hs ⊢
    rw [hdp] at hd
    obtain ⟨u, hu, hl⟩ := hM.head
    obtain ⟨z, hz, hy⟩ := B.operand (d := d + 1) ok (by decide) (by decide) hM.tail (by rw [List.length_cons] at hv; rw [← hv]; congr 1; omega) (show StopN 7 v from hs) (fun h => hd (by omega)) (ar_kid (by simp) ha)
    obtain ⟨t, ht, h1⟩ := B.firstMt hM.tail
    refine ⟨.mk 6 0 noB [z] u.at_, same_mk (by decide) (by decide) (by rw [sameXs, hz, sameXs]; rfl), ?_⟩
    · have := YL.minus (fun h => hd (by omega)) hu (by rw [hl.isS]; rfl) ht (h1.resolve_right fun h => by omega) hy.un7
      unfold OwnY
      rw [if_neg (by decide), if_neg (by decide), if_pos rfl]
      rw [show k + (sgT ⟨#[45]⟩ :: (opndX 7 x0.op (showX x0).2).1).length = k + 1 + (opndX 7 x0.op (showX x0).2).1.length by simp; omega]
      exact this
theorem find_row {op : Int} {r : ByteArray × Int × Nat} (h : (opRows.find? fun r => r.2.1 == op) = some r) : r ∈ opRows ∧ op = r.2.1 :=
  ⟨List.mem_of_find?_eq_some h, by have := List.find?_some h; simpa using (beq_iff_eq.1 this).symm⟩
theorem row_find {r : ByteArray × Int × Nat} (h : r ∈ opRows) : (opRows.find? fun q => q.2.1 == r.2.1) = some r := by
  simp only [opRows, List.mem_cons, List.not_mem_nil, or_false] at h
  rcases h with rfl | rfl | rfl | rfl | rfl | rfl | rfl | rfl | rfl | rfl | rfl | rfl | rfl <;> rfl
theorem show_bi (r : ByteArray × Int × Nat) (hr : r ∈ opRows) (n : Int) (s : ByteArray) (x0 x1 : Ex) (a : Int) : (showX (.mk r.2.1 n s [x0, x1] a)).2 = Pr.app (opndX (if r.2.2 = 4 then 5 else r.2.2) x0.op (showX x0).2) (Pr.app ([sgT r.1], false) (opndX (r.2.2 + 1) x1.op (showX x1).2)) := by
  obtain ⟨-, -, -, h1, h2, h3, h4, -⟩ := row_sign hr
  rw [showX, showXs, showXs, showXs, showX_two x0, showX_two x1]
  unfold headX
  rw [if_neg h1, if_neg h2, if_neg h3, if_neg h4]
  dsimp only
  rw [row_find hr]
theorem dp_bi (r : ByteArray × Int × Nat) (hr : r ∈ opRows) (n : Int) (s : ByteArray) (x0 x1 : Ex) (a : Int) : dpX (.mk r.2.1 n s [x0, x1] a) = max (dpAt (if r.2.2 = 4 then 5 else r.2.2) x0.op (dpX x0)) (dpAt (r.2.2 + 1) x1.op (dpX x1)) := by
  obtain ⟨-, -, -, h1, h2, h3, h4, -⟩ := row_sign hr
  rw [dpX, dpXs, dpXs, dpXs]
  unfold dpH
  rw [if_neg (by simp [h1, h2, h3]), if_neg h4]
  dsimp only
  rw [row_find hr]
theorem back_bi (r : ByteArray × Int × Nat) (hr : r ∈ opRows) (n : Int) (s : ByteArray) (x0 x1 : Ex) (a : Int) (B0 : Back L x0) (B1 : Back L x1) : Back L (.mk r.2.1 n s [x0, x1] a) := by
  obtain ⟨hr1, hr2, hlv, h1, h2, h3, h4, h5, h6, h20⟩ := row_sign hr
  obtain ⟨⟨hr3, hr4, hr5⟩, hop⟩ := opAt_row r hr
  have e := congrArg Prod.fst (show_bi r hr n s x0 x1 a)
  have hdp := dp_bi r hr n s x0 x1 a
  have e1 : (showX (.mk r.2.1 n s [x0, x1] a)).2.1 = (opndX (if r.2.2 = 4 then 5 else r.2.2) x0.op (showX x0).2).1 ++ sgT r.1 :: (opndX (r.2.2 + 1) x1.op (showX x1).2).1 := e
  have l : lvlX (Ex.mk r.2.1 n s [x0, x1] a).op = r.2.2 := hlv
  have hk : ¬ (2 ≤ r.2.1 ∧ r.2.1 ≤ 4) := by omega
  refine ⟨?_, fun us ok k d v hM hv hs hd ha => ?_⟩
  · rw [e1, l]
    obtain ⟨t, q, h7, h8⟩ := B0.first (if r.2.2 = 4 then 5 else r.2.2)
    rw [h7]
    refine ⟨t, _, rfl, h8.imp id fun h => ⟨?_, h.2⟩, fun h => by omega⟩
    have := h.1
    split at this <;> omega
  rw [e1] at hM hv ⊢
  rw [l] at hs ⊢
  rw [hdp] at hd
  obtain ⟨u, hu, hl⟩ := hM.at
  have hup : ∀ m, r.2.2 < m → StopN m u := fun m hm => (stop_row hr m hm).like hl
  have ho : opAt r.2.2 u = some r.2.1 := by rw [hl.opAt, opAt_sgT, hop, if_pos rfl]
  rw [show k + ((opndX (if r.2.2 = 4 then 5 else r.2.2) x0.op (showX x0).2).1 ++ sgT r.1 :: (opndX (r.2.2 + 1) x1.op (showX x1).2).1).length = k + (opndX (if r.2.2 = 4 then 5 else r.2.2) x0.op (showX x0).2).1.length + 1 + (opndX (r.2.2 + 1) x1.op (showX x1).2).1.length by simp; omega] at hv ⊢
  have hs5 : StopN (r.2.2 + 1) v := by
    unfold ownS at hs
    split at hs
    · exact hs
    · exact hs.up (by omega)
  obtain ⟨z1, hz1, hy1⟩ := B1.operand (d := d) ok (by omega) (by omega) hM.right.tail hv hs5 (fun h => hd (by omega)) (ar_kid (by simp) ha)
  by_cases h44 : r.2.2 = 4
  · rw [if_pos h44] at hM hu hd hy1 ⊢
    rw [h44] at hup ho hy1 ⊢
    obtain ⟨z0, hz0, hy0⟩ := B0.operand (d := d) ok (by omega) (by omega) hM.left hu (hup 5 (by omega)) (fun h => hd (by omega)) (ar_kid (by simp) ha)
    refine ⟨.mk r.2.1 0 noB [z0, z1] z0.at_, same_mk h1 hk (by rw [sameXs, sameXs, sameXs, hz0, hz1]; rfl), ?_⟩
    unfold OwnY
    rw [if_neg (by decide), if_neg (by decide), if_neg (by decide), if_pos (.inr rfl)]
    exact YL.step ok (by decide) (by decide) hy0 fun _ => YL.loop_op4 hu ho hy1
  · rw [if_neg h44] at hM hu hd hy1 ⊢
    obtain ⟨z0, hz0, hy0⟩ := B0.lefts (d := d) (n := r.2.2) ok (by omega) hM.left hu (hup _ (by omega)) (fun h => hd (by omega)) (ar_kid (by simp) ha)
    refine ⟨.mk r.2.1 0 noB [z0, z1] z0.at_, same_mk h1 hk (by rw [sameXs, sameXs, sameXs, hz0, hz1]; rfl), ?_⟩
    unfold OwnY
    rw [if_neg (by omega), if_neg (by omega), if_neg (by omega), if_neg (by omega)]
    intro w i hw
    exact hy0 w i fun _ => YL.loop_op ok h44 hu ho hy1 (hw (by show r.2.1 ≠ 0; exact opAt_ne ho))
theorem show_if3 (n : Int) (s : ByteArray) (x0 x1 x2 : Ex) (a : Int) : (showX (.mk 20 n s [x0, x1, x2] a)).2.1 = (opndX 1 x0.op (showX x0).2).1 ++ sgT ⟨#[63]⟩ :: ((showX x1).2.1 ++ sgT ⟨#[58]⟩ :: (showX x2).2.1) := by
  rw [showX, showXs, showXs, showXs, showXs, showX_two x0, showX_two x1, showX_two x2]
  unfold headX
  rw [if_neg (by decide), if_neg (by decide), if_neg (by decide), if_neg (by decide)]
  dsimp only
  rw [if_pos rfl, opnd_zero, opnd_zero]
  simp [Pr.app]
theorem back_if (n : Int) (s : ByteArray) (x0 x1 x2 : Ex) (a : Int) (B0 : Back L x0) (B1 : Back L x1) (B2 : Back L x2) : Back L (.mk 20 n s [x0, x1, x2] a) := by
  have e := show_if3 n s x0 x1 x2 a
  have hdp : dpX (.mk 20 n s [x0, x1, x2] a) = max (dpAt 1 x0.op (dpX x0)) (max (1 + dpX x1) (1 + dpX x2)) := by
    rw [dpX, dpXs, dpXs, dpXs, dpXs]
    unfold dpH
    rw [if_neg (by decide), if_neg (by decide)]
  have l : lvlX (Ex.mk 20 n s [x0, x1, x2] a).op = 0 := rfl
  refine ⟨?_, fun us ok k d v hM hv hs hd ha => ?_⟩
  · rw [e, l]
    obtain ⟨t, q, h7, h8⟩ := B0.first 1
    rw [h7]
    exact ⟨t, _, rfl, h8.imp id fun h => ⟨by omega, h.2⟩, fun h => by omega⟩
  rw [e] at hM hv ⊢
  rw [l] at hs ⊢
  rw [hdp] at hd
  obtain ⟨u, hu, hl⟩ := hM.at
  obtain ⟨w, hw, hlw⟩ := hM.right.tail.at
  rw [show k + ((opndX 1 x0.op (showX x0).2).1 ++ sgT ⟨#[63]⟩ :: ((showX x1).2.1 ++ sgT ⟨#[58]⟩ :: (showX x2).2.1)).length = k + (opndX 1 x0.op (showX x0).2).1.length + 1 + (showX x1).2.1.length + 1 + (showX x2).2.1.length by simp; omega] at hv ⊢
  obtain ⟨t, ht, hf⟩ := B0.firstMt hM.left
  obtain ⟨z0, hz0, hy0⟩ := B0.operand (d := d) ok (by decide) (by decide) hM.left hu ((stop_63 1 (by decide)).like hl) (fun h => hd (by omega)) (ar_kid (by simp) ha)
  obtain ⟨z1, hz1, hy1⟩ := B1.whole (d := d + 1) ok hM.right.tail.left hw ((stop_58 0).like hlw) (fun h => hd (by omega)) (ar_kid (by simp) ha)
  obtain ⟨z2, hz2, hy2⟩ := B2.whole (d := d + 1) ok hM.right.tail.right.tail hv hs (fun h => hd (by omega)) (ar_kid (by simp) ha)
  refine ⟨.mk 20 0 noB [z0, z1, z2] z0.at_, same_mk (by decide) (by decide) (by rw [sameXs, sameXs, sameXs, sameXs, hz0, hz1, hz2]; rfl), ?_⟩
  unfold OwnY
  rw [if_pos rfl]
  exact YL.cond ok (fun h => hd (by omega)) ht (hf.imp id fun h => h.2) hy0 hu (by rw [hl.isS]; rfl) hy1 hw (by rw [hlw.isS]; rfl) hy2
theorem app_bad {p q : Pr} (h : (Pr.app p q).2 = false) : p.2 = false ∧ q.2 = false := Bool.or_eq_false_iff.1 h
theorem opnd_bad {n : Nat} {op : Int} {p : Pr} (h : (opndX n op p).2 = false) : p.2 = false := by
  unfold opndX at h
  split at h <;> exact h
theorem call_bad : ∀ {l : List Ex} {m : Nat}, (callX m (showXs l)).2 = false → ∀ y ∈ l, (showX y).2.2 = false
  | y :: l, m, h, w, hw => by
    rw [showXs, showX_two, callX] at h
    have h1 := app_bad (app_bad h).2
    rcases List.mem_cons.1 hw with rfl | hw
    · exact opnd_bad h1.1
    · exact call_bad h1.2 w hw
theorem back_any : ∀ (m : Nat) (x : Ex), SizeOf.sizeOf x ≤ m → (showX x).2.2 = false → Back L x
  | 0, x, hm, _ => by cases x; simp at hm
  | m + 1, .mk op n s ks a, hm, hb => by
    have hlt : ∀ y ∈ ks, SizeOf.sizeOf y ≤ m := fun y hy => by
      have h1 := List.sizeOf_lt_of_mem hy
      simp only [Ex.mk.sizeOf_spec] at hm
      omega
    by_cases h1 : op = 1
    · subst h1; exact back_1 n s ks a
    by_cases h2 : op = 2
    · subst h2; exact back_2 n s ks a
    by_cases h3 : op = 3
    · subst h3; exact back_3 n s ks a
    have hb0 := hb
    rw [showX] at hb
    unfold headX at hb
    rw [if_neg h1, if_neg h2, if_neg h3] at hb
    by_cases h4 : op = 4
    · subst h4
      rw [if_pos rfl] at hb
      exact back_4 n s ks a fun y hy => back_any m y (hlt y hy) (call_bad (app_bad (app_bad hb).2).1 y hy)
    rw [if_neg h4] at hb
    match ks, hlt, hb, hb0 with
    | [], _, hb, _ => rw [showXs] at hb; cases hb
    | [x0], hlt, hb, hb0 =>
      have hop : op = 5 ∨ op = 6 := by
        rw [showXs, showXs, showX_two] at hb
        dsimp only at hb
        split at hb
        · exact .inl ‹_›
        split at hb
        · exact .inr ‹_›
        · cases hb
      rw [show_un op n s x0 a hop] at hb0
      exact back_un op n s x0 a hop (back_any m x0 (hlt x0 (by simp)) (opnd_bad (app_bad hb0).2))
    | [x0, x1], hlt, hb, hb0 =>
      rw [showXs, showXs, showXs, showX_two x0, showX_two x1] at hb
      dsimp only at hb
      split at hb
      · rename_i r hr
        obtain ⟨hm2, rfl⟩ := find_row hr
        rw [show_bi r hm2] at hb0
        exact back_bi r hm2 n s x0 x1 a (back_any m x0 (hlt x0 (by simp)) (opnd_bad (app_bad hb0).1)) (back_any m x1 (hlt x1 (by simp)) (opnd_bad (app_bad (app_bad hb0).2).2))
      · cases hb
    | [x0, x1, x2], hlt, hb, hb0 =>
      rw [showXs, showXs, showXs, showXs, showX_two x0, showX_two x1, showX_two x2] at hb
      dsimp only at hb
      split at hb
      · rename_i h20
        rw [h20]
        have g1 := app_bad hb
        have g2 := app_bad (app_bad g1.2).2
        have g3 := app_bad g2.2
        exact back_if n s x0 x1 x2 a (back_any m x0 (hlt x0 (by simp)) (opnd_bad g1.1)) (back_any m x1 (hlt x1 (by simp)) (opnd_bad g2.1)) (back_any m x2 (hlt x2 (by simp)) (opnd_bad g3.2))
      · cases hb
    | _ :: _ :: _ :: _ :: _, _, hb, _ =>
      simp only [showXs] at hb
      cases hb
end
end Go.Proofs.YtjijdgkccfeeaaaGreatDoor
