/- Part 23 of the proof of card: ParRead, ParReadF, ParRound. Conditions: those of each theorem. -/
import Derived.Test.YtjijdgkccfeeaaaGreatDoorRt01
import Derived.Test.YtjijdgkccfeeaaaGreatDoorRt17
import Derived.Test.YtjijdgkccfeeaaaGreatDoorRt22
namespace Go.Proofs.YtjijdgkccfeeaaaGreatDoor
open Go Go.Proofs
def wtT (t : Tok) : Nat := ((wordQ t).map fun w => w.size + 1).sum
def wt (l : List Tok) : Nat := (l.map wtT).sum
theorem wt_nil : wt [] = 0 := rfl
theorem wt_cons (t : Tok) (l : List Tok) : wt (t :: l) = wtT t + wt l := by simp [wt]
theorem wt_app (a b : List Tok) : wt (a ++ b) = wt a + wt b := by simp [wt]
theorem wtT_sg (s : ByteArray) : wtT (sgT s) = s.size + 1 := by simp [wtT, wordQ, sgT]
theorem wtT_strip {t u : Tok} (h : t.strip = u.strip) : wtT t = wtT u := by unfold wtT; rw [wordQ_strip, wordQ_strip, h]
theorem wtT_isS {t : Tok} {s : ByteArray} (h : isS t s = true) : wtT t = s.size + 1 := by
  have h1 := isS_kind h
  have h2 := isS_s h
  simp [wtT, wordQ, h1, h2]
def pre (ts : List Tok) (k : Nat) : Nat := wt (ts.take k)
theorem pre_step {ts : List Tok} {k : Nat} {t : Tok} (h : ts[k]? = some t) : pre ts (k + 1) = pre ts k + wtT t := by
  unfold pre
  rw [List.take_add_one, h, Option.toList_some, wt_app, wt_cons, wt_nil, Nat.add_zero]
structure RdOk (n : Nat) (d : Int) (x : Ex) (B E : Nat) : Prop where
  nb : (showX x).2.2 = false
  ar : arX x
  dp : d + dpAt n x.op (dpX x) ≤ 30
  wt : B + wt (opndX n x.op (showX x).2).1 ≤ E
section
variable {n m : Nat} {d : Int} {x y z : Ex} {B E B' E' E1 E2 : Nat}
theorem opnd_wt (n : Nat) (y : Ex) : wt (opndX n y.op (showX y).2).1 = if n ≤ lvlX y.op then wt (showX y).2.1 else wt (showX y).2.1 + 4 := by
  rw [opnd_eq]
  split
  · rfl
  · show wt (sgT ⟨#[40]⟩ :: ((showX y).2.1 ++ [sgT ⟨#[41]⟩])) = _
    rw [wt_cons, wt_app, wt_cons, wt_nil, wtT_sg, wtT_sg]
    have h1 : (⟨#[40]⟩ : ByteArray).size = 1 := rfl
    have h2 : (⟨#[41]⟩ : ByteArray).size = 1 := rfl
    omega
theorem RdOk.low (h : RdOk n d x B E) (hm : m ≤ n) : RdOk m d x B E := by
  refine ⟨h.nb, h.ar, ?_, ?_⟩
  · have := h.dp
    unfold dpAt at this ⊢
    split <;> split at this <;> omega
  · have := h.wt
    rw [opnd_wt] at this ⊢
    split <;> split at this <;> omega
theorem RdOk.paren (h : RdOk 0 (d + 1) x B E) (hB : B' + 2 ≤ B) (hE : E + 2 ≤ E') : RdOk 8 d x B' E' := by
  refine ⟨h.nb, h.ar, ?_, ?_⟩
  · have := h.dp
    unfold dpAt at this ⊢
    split <;> split at this <;> omega
  · have := h.wt
    rw [opnd_wt] at this ⊢
    split <;> split at this <;> omega
theorem RdOk.of (hn : n ≤ lvlX x.op) (h1 : (showX x).2.2 = false) (h2 : arX x) (h3 : d + dpX x ≤ 30) (h4 : B + Go.Proofs.YtjijdgkccfeeaaaGreatDoor.wt (showX x).2.1 ≤ E) : RdOk n d x B E :=
  ⟨h1, h2, by unfold dpAt; rw [if_pos hn]; exact h3, by rw [opnd_wt, if_pos hn]; exact h4⟩
theorem arXs_nil : arXs [] := by rw [arXs]; trivial
theorem read_num {t : Tok} {a : Int} (hk : t.kind = 2) (hg : GoodTok t) (hd : d ≤ 30) (hE : B + wtT t ≤ E) : RdOk 8 d (.mk 1 t.n noB [] a) B E := by
  refine RdOk.of (Nat.le_refl 8) ?_ ?_ ?_ ?_
  · rw [showX]; unfold headX; rw [if_pos rfl]; exact hg.2.1 hk
  · rw [arX]; exact ⟨(fun h => by omega), arXs_nil⟩
  · rw [dpX]; unfold dpH; rw [if_pos (.inl rfl)]; omega
  · rw [showX]; unfold headX; rw [if_pos rfl]
    show B + wt [nuT t.n] ≤ E
    have : wtT (nuT t.n) = wtT t := by simp [wtT, wordQ, nuT, hk]
    rw [wt_cons, wt_nil, this]; omega
theorem read_text {t : Tok} {a : Int} (hk : t.kind = 3) (hg : GoodTok t) (hd : d ≤ 30) (hE : B + wtT t ≤ E) : RdOk 8 d (.mk 2 0 t.s [] a) B E := by
  refine RdOk.of (Nat.le_refl 8) ?_ ?_ ?_ ?_
  · rw [showX]; unfold headX; rw [if_neg (by decide), if_pos rfl]; exact hg.2.2 hk
  · rw [arX]; exact ⟨(fun h => by omega), arXs_nil⟩
  · rw [dpX]; unfold dpH; rw [if_pos (.inr (.inl rfl))]; omega
  · rw [showX]; unfold headX; rw [if_neg (by decide), if_pos rfl]
    show B + wt [txT t.s] ≤ E
    have : wtT (txT t.s) = wtT t := by simp [wtT, wordQ, txT, hk]
    rw [wt_cons, wt_nil, this]; omega
theorem read_name {t : Tok} {a : Int} (hk : t.kind = 1) (hg : GoodTok t) (hd : d ≤ 30) (hE : B + wtT t ≤ E) : RdOk 8 d (.mk 3 0 t.s [] a) B E := by
  refine RdOk.of (Nat.le_refl 8) ?_ ?_ ?_ ?_
  · rw [showX]; unfold headX; rw [if_neg (by decide), if_neg (by decide), if_pos rfl]; exact hg.1 hk
  · rw [arX]; exact ⟨(fun h => by omega), arXs_nil⟩
  · rw [dpX]; unfold dpH; rw [if_pos (.inr (.inr rfl))]; omega
  · rw [showX]; unfold headX; rw [if_neg (by decide), if_neg (by decide), if_pos rfl]
    show B + wt [nmT t.s] ≤ E
    have : wtT (nmT t.s) = wtT t := by simp [wtT, wordQ, nmT, hk]
    rw [wt_cons, wt_nil, this]; omega
structure KidsOk (ks : List Ex) (d : Int) (W : Nat) : Prop where
  nb : ∀ y ∈ ks, (showX y).2.2 = false
  ar : arXs ks
  dp : ∀ y ∈ ks, d + 1 + dpX y ≤ 30
  len : ks.length ≤ 40
  wt : (ks.map fun y => wt (showX y).2.1 + 2).sum ≤ W
theorem arXs_app : ∀ {a b : List Ex}, arXs a → arXs b → arXs (a ++ b)
  | [], _, _, h => h
  | x :: a, b, h, g => by
    rw [arXs] at h
    rw [List.cons_append, arXs]
    exact ⟨h.1, arXs_app h.2 g⟩
theorem callX_nb : ∀ (l : List Ex) (m : Nat), (∀ y ∈ l, (showX y).2.2 = false) → (callX m (showXs l)).2 = false
  | [], m, _ => by rw [showXs, callX]
  | y :: l, m, h => by
    rw [showXs, showX_two, callX, opnd_zero]
    have h1 := h y (by simp)
    have h2 := callX_nb l (m + 1) fun z hz => h z (List.mem_cons_of_mem _ hz)
    simp [Pr.app, h1, h2]
theorem callX_wt : ∀ (l : List Ex) (m : Nat), Go.Proofs.YtjijdgkccfeeaaaGreatDoor.wt (callX (m + 1) (showXs l)).1 = (l.map fun y => Go.Proofs.YtjijdgkccfeeaaaGreatDoor.wt (showX y).2.1 + 2).sum
  | [], m => by rw [showXs, callX]; rfl
  | y :: l, m => by
    rw [call_cons]
    show Go.Proofs.YtjijdgkccfeeaaaGreatDoor.wt ([sgT ⟨#[44]⟩] ++ ((showX y).2.1 ++ (callX (m + 2) (showXs l)).1)) = _
    rw [wt_app, wt_app, callX_wt l (m + 1), wt_cons, wt_nil, wtT_sg, List.map_cons, List.sum_cons]
    have : (⟨#[44]⟩ : ByteArray).size = 1 := rfl
    omega
theorem callX_wt0 (l : List Ex) : Go.Proofs.YtjijdgkccfeeaaaGreatDoor.wt (callX 0 (showXs l)).1 ≤ (l.map fun y => Go.Proofs.YtjijdgkccfeeaaaGreatDoor.wt (showX y).2.1 + 2).sum - 2 := by
  cases l with
  | nil => rw [showXs, callX]; exact Nat.zero_le _
  | cons y l =>
    rw [call_first]
    show Go.Proofs.YtjijdgkccfeeaaaGreatDoor.wt ((showX y).2.1 ++ (callX 1 (showXs l)).1) ≤ _
    rw [wt_app, callX_wt l 0, List.map_cons, List.sum_cons]
    omega
theorem dpCall_of : ∀ {l : List Ex} {d : Int}, d ≤ 30 → (∀ y ∈ l, d + 1 + dpX y ≤ 30) → d + dpCall (dpXs l) ≤ 30
  | [], d, h0, _ => by rw [dpXs, dpCall]; omega
  | y :: l, d, h0, h => by
    have h1 := h y (by simp)
    have h2 := dpCall_of h0 fun z hz => h z (List.mem_cons_of_mem _ hz)
    rw [dpXs, dpCall]
    omega
theorem read_call {t : Tok} {a : Int} {ks : List Ex} {W : Nat} (hk : t.kind = 1) (hg : GoodTok t) (hd : d ≤ 30) (h : KidsOk ks d W) (hE : B + wtT t + 2 + (W - 2) + 2 ≤ E) : RdOk 8 d (.mk 4 0 t.s ks a) B E := by
  have e : (showX (.mk 4 0 t.s ks a)).2 = Pr.app ([nmT t.s, sgT ⟨#[40]⟩], badName t.s) (Pr.app (callX 0 (showXs ks)) ([sgT ⟨#[41]⟩], false)) := by
    rw [showX]; unfold headX; rw [if_neg (by decide), if_neg (by decide), if_neg (by decide), if_pos rfl]
  refine RdOk.of (Nat.le_refl 8) ?_ ?_ ?_ ?_
  · rw [e]
    simp [Pr.app, hg.1 hk, callX_nb ks 0 h.nb]
  · rw [arX]; exact ⟨fun _ => h.len, h.ar⟩
  · rw [dpX]; unfold dpH; rw [if_neg (by decide), if_pos rfl]; exact dpCall_of hd h.dp
  · rw [e]
    show B + Go.Proofs.YtjijdgkccfeeaaaGreatDoor.wt ([nmT t.s, sgT ⟨#[40]⟩] ++ ((callX 0 (showXs ks)).1 ++ [sgT ⟨#[41]⟩])) ≤ E
    rw [wt_app, wt_app, wt_cons, wt_cons, wt_cons, wt_nil, wtT_sg, wtT_sg]
    have h1 := callX_wt0 ks
    have h2 := h.wt
    have h3 : wtT (nmT t.s) = wtT t := by simp [wtT, wordQ, nmT, hk]
    have h4 : (⟨#[40]⟩ : ByteArray).size = 1 := rfl
    have h5 : (⟨#[41]⟩ : ByteArray).size = 1 := rfl
    omega
theorem read_un {op : Int} {b : ByteArray} {a c : Int} {l : Nat} (hop : op = 5 ∨ op = 6) (hl : l = if op = 5 then 3 else 7) (h : RdOk l (d + 1) x B' E) (hB : B + 2 ≤ B') (hm : m ≤ l) : RdOk m d (.mk op c b [x] a) B E := by
  have e := show_un op c b x a hop
  rw [← hl] at e
  have hlv : lvlX op = l := by rcases hop with rfl | rfl <;> (rw [hl]; rfl)
  refine RdOk.of (by show m ≤ lvlX op; omega) ?_ ?_ ?_ ?_
  · rw [e]
    show (false || (opndX l x.op (showX x).2).2) = false
    rw [opnd_eq]
    have := h.nb
    split <;> simpa using this
  · rw [arX]; exact ⟨(fun h => by omega), by rw [arXs]; exact ⟨h.ar, arXs_nil⟩⟩
  · rw [dp_un op c b x a hop, ← hl]
    have := h.dp
    omega
  · rw [e]
    show B + Go.Proofs.YtjijdgkccfeeaaaGreatDoor.wt ([sgT (if op = 5 then ⟨#[33]⟩ else ⟨#[45]⟩)] ++ (opndX l x.op (showX x).2).1) ≤ E
    rw [wt_app, wt_cons, wt_nil, wtT_sg]
    have := h.wt
    have h4 : (if op = 5 then (⟨#[33]⟩ : ByteArray) else ⟨#[45]⟩).size = 1 := by split <;> rfl
    omega
theorem read_bi {r : ByteArray × Int × Nat} {b : ByteArray} {a c : Int} (hr : r ∈ opRows) (h : RdOk (if r.2.2 = 4 then 5 else r.2.2) d x B E1) (g : RdOk (r.2.2 + 1) d y B' E) (hB : E1 + r.1.size + 1 ≤ B') (hm : m ≤ r.2.2) : RdOk m d (.mk r.2.1 c b [x, y] a) B E := by
  have e := show_bi r hr c b x y a
  obtain ⟨hr1, hr2, hlv, h1, h2, h3, h4, h5, h6, h20⟩ := row_sign hr
  have hnb : ∀ (k : Nat) (w : Ex), (showX w).2.2 = false → (opndX k w.op (showX w).2).2 = false := fun k w hw => by
    rw [opnd_eq]; split <;> exact hw
  refine RdOk.of (by show m ≤ lvlX r.2.1; omega) ?_ ?_ ?_ ?_
  · rw [e]
    show ((opndX _ x.op (showX x).2).2 || (false || (opndX _ y.op (showX y).2).2)) = false
    rw [hnb _ x h.nb, hnb _ y g.nb]
    rfl
  · rw [arX]; exact ⟨fun h => absurd h h4, by rw [arXs, arXs]; exact ⟨h.ar, g.ar, arXs_nil⟩⟩
  · rw [dp_bi r hr]
    have e1 := h.dp
    have e2 := g.dp
    omega
  · rw [e]
    show B + Go.Proofs.YtjijdgkccfeeaaaGreatDoor.wt ((opndX _ x.op (showX x).2).1 ++ ([sgT r.1] ++ (opndX _ y.op (showX y).2).1)) ≤ E
    rw [wt_app, wt_app, wt_cons, wt_nil, wtT_sg]
    have e1 := h.wt
    have e2 := g.wt
    omega
theorem read_if {b : ByteArray} {a c : Int} (h : RdOk 1 d x B E1) (g : RdOk 0 (d + 1) y B' E2) (f : RdOk 0 (d + 1) z E' E) (hB : E1 + 2 ≤ B') (hE : E2 + 2 ≤ E') : RdOk 0 d (.mk 20 c b [x, y, z] a) B E := by
  have e := show_if3 c b x y z a
  have hdp : dpX (.mk 20 c b [x, y, z] a) = max (dpAt 1 x.op (dpX x)) (max (1 + dpX y) (1 + dpX z)) := by
    rw [dpX, dpXs, dpXs, dpXs, dpXs]
    unfold dpH
    rw [if_neg (by decide), if_neg (by decide)]
  refine RdOk.of (Nat.zero_le _) ?_ ?_ ?_ ?_
  · rw [showX, showXs, showXs, showXs, showXs, showX_two x, showX_two y, showX_two z]
    unfold headX
    rw [if_neg (by decide), if_neg (by decide), if_neg (by decide), if_neg (by decide)]
    dsimp only
    rw [if_pos rfl, opnd_zero, opnd_zero]
    have h1 : (opndX 1 x.op (showX x).2).2 = false := by
      rw [opnd_eq]
      have := h.nb
      split <;> exact this
    simp [Pr.app, h1, g.nb, f.nb]
  · rw [arX]; exact ⟨(fun h => by omega), by rw [arXs, arXs, arXs]; exact ⟨h.ar, g.ar, f.ar, arXs_nil⟩⟩
  · rw [hdp]
    have e1 := h.dp
    have e2 := g.dp
    have e3 := f.dp
    rw [dpAt_zero] at e2 e3
    omega
  · rw [e]
    rw [wt_app, wt_cons, wt_app, wt_cons, wtT_sg, wtT_sg]
    have e1 := h.wt
    have e2 := g.wt
    have e3 := f.wt
    rw [opnd_zero] at e2 e3
    have h4 : (⟨#[63]⟩ : ByteArray).size = 1 := rfl
    have h5 : (⟨#[58]⟩ : ByteArray).size = 1 := rfl
    omega
end
theorem firstP_none {t : Tok} {d : Int} {no : Bool} (h : firstP t d no = none) : d ≤ 30 := by
  unfold firstP at h
  split at h
  · cases h
  split at h
  · cases h
  · omega
theorem opAt_row_of {n : Nat} {t : Tok} {op : Int} (h : opAt n t = some op) : ∃ r ∈ opRows, op = r.2.1 ∧ r.2.2 = n ∧ isS t r.1 = true := by
  unfold opAt at h
  rw [Option.map_eq_some_iff] at h
  obtain ⟨r, h1, rfl⟩ := h
  have h2 := List.find?_some h1
  simp only [Bool.and_eq_true, beq_iff_eq] at h2
  exact ⟨r, List.mem_of_find?_eq_some h1, rfl, h2.1, h2.2⟩
def ReadQ (ts : List Tok) (q : Qn) (k : Nat) (d : Int) (x : Ex) (j : Nat) : Prop :=
  match q with
  | .expr => d ≤ 30 ∧ RdOk 0 d x (pre ts k) (pre ts j)
  | .level n => d ≤ 30 → RdOk n d x (pre ts k) (pre ts j)
  | .loop n y => d ≤ 30 → ∀ B, RdOk (if n = 4 then 5 else n) d y B (pre ts k) → RdOk n d x B (pre ts j)
  | .neg => d ≤ 30 → RdOk 7 d x (pre ts k) (pre ts j)
  | .atom => d ≤ 30 → RdOk 8 d x (pre ts k) (pre ts j)
  | .args t0 ks => d ≤ 30 → t0.kind = 1 → GoodTok t0 → ∀ B W, KidsOk ks d W → B + wtT t0 + 2 + W ≤ pre ts k → RdOk 8 d x B (pre ts j)
theorem run_right {ts : List Tok} (hg : ∀ t ∈ ts, GoodTok t) : ∀ (f : Nat) (q : Qn) (k : Nat) (d : Int) (x : Ex) (j : Nat), runF ts f q k d = some (.ok x j) → ReadQ ts q k d x j := by
  intro f
  induction f with
  | zero => intro q k d x j h; cases q <;> simp [runF] at h
  | succ f ih =>
    intro q k d x j h
    obtain ⟨t, ht⟩ := runF_tok h
    have hgt := hg t (List.mem_of_getElem? ht)
    have hp := pre_step ht
    have h1b : ∀ b : UInt8, (⟨#[b]⟩ : ByteArray).size = 1 := fun _ => rfl
    cases q with
    | expr =>
      rw [runF_expr ht] at h
      split at h
      · cases h
      rename_i hf
      have hd := firstP_none hf
      refine ⟨hd, ?_⟩
      rcases PR.then_some h with ⟨_, _, _, h2⟩ | ⟨x1, j1, h1, h2⟩
      · cases h2
      have r1 : RdOk 1 d x1 (pre ts k) (pre ts j1) := ih _ _ _ _ _ h1 hd
      split at h2
      · cases h2
      rename_i u hu
      split at h2
      · cases h2
        exact r1.low (by decide)
      rename_i hq
      rcases PR.then_some h2 with ⟨_, _, _, h3⟩ | ⟨x2, j2, h3, h4⟩
      · cases h3
      obtain ⟨-, r2⟩ : _ ∧ RdOk 0 (d + 1) x2 (pre ts (j1 + 1)) (pre ts j2) := ih _ _ _ _ _ h3
      split at h4
      · cases h4
      rename_i v hv
      split at h4
      · cases h4
      rename_i hc
      rcases PR.then_some h4 with ⟨_, _, _, h5⟩ | ⟨x3, j3, h5, h6⟩
      · cases h5
      obtain ⟨-, r3⟩ : _ ∧ RdOk 0 (d + 1) x3 (pre ts (j2 + 1)) (pre ts j3) := ih _ _ _ _ _ h5
      cases h6
      have q1 := wtT_isS (show isS u ⟨#[63]⟩ = true by simpa using hq)
      have q2 := wtT_isS (show isS v ⟨#[58]⟩ = true by simpa using hc)
      rw [h1b] at q1 q2
      exact read_if r1 r2 r3 (by rw [pre_step hu]; omega) (by rw [pre_step hv]; omega)
    | level n =>
      intro hd
      rw [runF_level ht] at h
      split at h
      · rename_i hn
        subst hn
        split at h
        · rename_i hs
          split at h
          · cases h
          split at h
          · cases h
          rename_i hf
          rcases PR.then_some h with ⟨_, _, _, h2⟩ | ⟨x1, j1, h1, h2⟩
          · cases h2
          cases h2
          have q1 := wtT_isS hs
          rw [h1b] at q1
          have r1 : RdOk 3 (d + 1) x1 (pre ts (k + 1)) (pre ts j) := ih _ _ _ _ _ h1 (firstP_none hf)
          exact read_un (.inl rfl) (by rfl) r1 (by omega) (Nat.le_refl _)
        · have r1 : RdOk 4 d x (pre ts k) (pre ts j) := ih _ _ _ _ _ h hd
          exact r1.low (by decide)
      · split at h
        · rename_i hn
          subst hn
          exact ih _ _ _ _ _ h hd
        · rcases PR.then_some h with ⟨_, _, _, h2⟩ | ⟨x1, j1, h1, h2⟩
          · cases h2
          have r1 : RdOk (n + 1) d x1 (pre ts k) (pre ts j1) := ih _ _ _ _ _ h1 hd
          exact ih _ _ _ _ _ h2 hd _ (r1.low (by split <;> omega))
    | loop n y =>
      intro hd B hB
      rw [runF_loop ht] at h
      split at h
      · cases h
        exact hB.low (by split <;> omega)
      · rename_i op ho
        rcases PR.then_some h with ⟨_, _, _, h2⟩ | ⟨x1, j1, h1, h2⟩
        · cases h2
        obtain ⟨r, hr, rfl, hn, hs⟩ := opAt_row_of ho
        have r1 : RdOk (n + 1) d x1 (pre ts (k + 1)) (pre ts j1) := ih _ _ _ _ _ h1 hd
        have q1 := wtT_isS hs
        subst hn
        have key : RdOk r.2.2 d (.mk r.2.1 0 noB [y, x1] y.at_) B (pre ts j1) := read_bi hr hB r1 (by omega) (Nat.le_refl _)
        split at h2
        · cases h2
          exact key
        · rename_i h44
          exact ih _ _ _ _ _ h2 hd B (by rw [if_neg h44]; exact key)
    | neg =>
      intro hd
      rw [runF_neg ht] at h
      split at h
      · rename_i hs
        split at h
        · cases h
        split at h
        · cases h
        rename_i hf
        rcases PR.then_some h with ⟨_, _, _, h2⟩ | ⟨x1, j1, h1, h2⟩
        · cases h2
        cases h2
        have q1 := wtT_isS hs
        rw [h1b] at q1
        have r1 : RdOk 7 (d + 1) x1 (pre ts (k + 1)) (pre ts j) := ih _ _ _ _ _ h1 (firstP_none hf)
        exact read_un (.inr rfl) (by rfl) r1 (by omega) (Nat.le_refl _)
      · have r1 : RdOk 8 d x (pre ts k) (pre ts j) := ih _ _ _ _ _ h hd
        exact r1.low (by decide)
    | atom =>
      intro hd
      rw [runF_atom ht] at h
      split at h
      · rename_i hs
        rcases PR.then_some h with ⟨_, _, _, h2⟩ | ⟨x1, j1, h1, h2⟩
        · cases h2
        split at h2
        · cases h2
        rename_i u hu
        split at h2
        · rename_i hc
          cases h2
          obtain ⟨-, r1⟩ : _ ∧ RdOk 0 (d + 1) x (pre ts (k + 1)) (pre ts j1) := ih _ _ _ _ _ h1
          have q1 := wtT_isS hs
          have q2 := wtT_isS hc
          rw [h1b] at q1 q2
          exact r1.paren (by omega) (by rw [pre_step hu]; omega)
        · cases h2
      · split at h
        · rename_i hk
          cases h
          exact read_num hk hgt hd (by omega)
        · split at h
          · rename_i hk
            cases h
            exact read_text hk hgt hd (by omega)
          · split at h
            · rename_i hk
              split at h
              · cases h
              rename_i u hu
              split at h
              · cases h
                exact read_name hk hgt hd (by omega)
              · rename_i hs
                have q1 := wtT_isS (show isS u ⟨#[40]⟩ = true by simpa using hs)
                rw [h1b] at q1
                have p1 := pre_step hu
                split at h
                · cases h
                rename_i v hv
                split at h
                · rename_i hc
                  cases h
                  have q2 := wtT_isS hc
                  rw [h1b] at q2
                  have p2 := pre_step hv
                  exact read_call (W := 0) hk hgt hd ⟨(fun y hy => by cases hy), arXs_nil, (fun y hy => by cases hy), by simp, by simp⟩ (by rw [show k + 3 = k + 2 + 1 from rfl, p2, show k + 2 = k + 1 + 1 from rfl, p1]; omega)
                · exact ih _ _ _ _ _ h hd hk hgt (pre ts k) 0 ⟨(fun y hy => by cases hy), arXs_nil, (fun y hy => by cases hy), by simp, by simp⟩ (by rw [show k + 2 = k + 1 + 1 from rfl, p1]; omega)
            · cases h
    | args t0 ks =>
      intro hd hk0 hg0 B W hK hW
      rw [runF_args ht] at h
      split at h
      · cases h
      rename_i h40
      rcases PR.then_some h with ⟨_, _, _, h2⟩ | ⟨x1, j1, h1, h2⟩
      · cases h2
      obtain ⟨hd1, r1⟩ : _ ∧ RdOk 0 (d + 1) x1 (pre ts k) (pre ts j1) := ih _ _ _ _ _ h1
      have w1 := r1.wt
      rw [opnd_zero] at w1
      have d1 := r1.dp
      rw [dpAt_zero] at d1
      have hK2 : KidsOk (ks ++ [x1]) d (W + wt (showX x1).2.1 + 2) := by
        refine ⟨fun y hy => ?_, arXs_app hK.ar (by rw [arXs]; exact ⟨r1.ar, arXs_nil⟩), fun y hy => ?_, ?_, ?_⟩
        · rcases List.mem_append.1 hy with hy | hy
          · exact hK.nb y hy
          · rw [List.mem_singleton.1 hy]; exact r1.nb
        · rcases List.mem_append.1 hy with hy | hy
          · exact hK.dp y hy
          · rw [List.mem_singleton.1 hy]; omega
        · have := hK.len
          rw [List.length_append, List.length_singleton]; omega
        · have := hK.wt
          simp only [List.map_append, List.sum_append, List.map_cons, List.map_nil, List.sum_cons, List.sum_nil]
          omega
      split at h2
      · cases h2
      rename_i u hu
      have p1 := pre_step hu
      split at h2
      · rename_i hc
        cases h2
        have q1 := wtT_isS hc
        rw [h1b] at q1
        exact read_call hk0 hg0 hd hK2 (by rw [p1]; omega)
      · split at h2
        · rename_i hc
          have q1 := wtT_isS hc
          rw [h1b] at q1
          exact ih _ _ _ _ _ h2 hd hk0 hg0 B _ hK2 (by rw [p1]; omega)
        · cases h2
end Go.Proofs.YtjijdgkccfeeaaaGreatDoor
namespace Go.Proofs.YtjijdgkccfeeaaaGreatDoor
open Go Go.Proofs Go.RowKit
theorem showAs_snoc (a : Ar) : ∀ l : List Ar, showAs (l ++ [a]) = Pr.app (showAs l) (showA a)
  | [] => by simp [showAs, Pr.nil_app, Pr.app_nil]
  | b :: l => by rw [List.cons_append, showAs, showAs, showAs_snoc a l, Pr.app_assoc]
theorem showFs_snoc (f : Fm) : ∀ l : List Fm, showFs (l ++ [f]) = Pr.app (showFs l) (showF f)
  | [] => by simp [showFs, Pr.nil_app, Pr.app_nil]
  | b :: l => by rw [List.cons_append, showFs, showFs, showFs_snoc f l, Pr.app_assoc]
theorem dpFs_snoc (f : Fm) : ∀ l : List Fm, dpFs (l ++ [f]) = max (dpFs l) (dpF f)
  | [] => by simp [dpFs]
  | b :: l => by rw [List.cons_append, dpFs, dpFs, dpFs_snoc f l]; omega
theorem cntFs_snoc (f : Fm) : ∀ l : List Fm, cntFs (l ++ [f]) = cntFs l + cntF f
  | [] => by simp [cntFs]
  | b :: l => by rw [List.cons_append, cntFs, cntFs, cntFs_snoc f l]; omega
theorem arFs_snoc {f : Fm} (hf : arF f) : ∀ {l : List Fm}, arFs l → arFs (l ++ [f])
  | [], _ => by rw [List.nil_append, arFs, arFs]; exact ⟨hf, trivial⟩
  | b :: l, h => by
    rw [arFs] at h
    rw [List.cons_append, arFs]
    exact ⟨h.1, arFs_snoc hf h.2⟩
structure RdA (a : Ar) (B E : Nat) : Prop where
  nb : (showA a).2 = false
  go : GoA a
  wt : B + wt (showA a).1 ≤ E
theorem arg_right {ts : List Tok} (hg : ∀ t ∈ ts, GoodTok t) {f k j : Nat} {a : Ar} {t : Tok} (ht : ts[k]? = some t) (hb : beginsT t = true ∨ isS t ⟨#[45, 62]⟩ = true) (h : argF ts f k = some (.ok a j)) : RdA a (pre ts k) (pre ts j) := by
  have hgt := hg t (List.mem_of_getElem? ht)
  have hp := pre_step ht
  unfold argF at h
  rw [ht] at h
  dsimp only at h
  by_cases h1 : t.kind = 1 ∨ t.kind = 3
  · rw [if_pos h1] at h
    cases h
    rcases h1 with h1 | h1
    · have e : showA ⟨t.kind, 0, t.s, noEx, t.at_⟩ = ([nmT t.s], badName t.s) := by unfold showA; rw [if_pos h1]
      have w : wtT (nmT t.s) = wtT t := by simp [wtT, wordQ, nmT, h1]
      exact ⟨by rw [e]; exact hgt.1 h1, fun h5 => by have : t.kind = 5 := h5; omega, by rw [e, hp]; show _ + wt [nmT t.s] ≤ _; rw [wt_cons, wt_nil, w]; omega⟩
    · have e : showA ⟨t.kind, 0, t.s, noEx, t.at_⟩ = ([txT t.s], badText t.s) := by unfold showA; rw [if_neg (by show ¬ t.kind = 1; omega), if_neg (by show ¬ t.kind = 2; omega), if_pos h1]
      have w : wtT (txT t.s) = wtT t := by simp [wtT, wordQ, txT, h1]
      exact ⟨by rw [e]; exact hgt.2.2 h1, fun h5 => by have : t.kind = 5 := h5; omega, by rw [e, hp]; show _ + wt [txT t.s] ≤ _; rw [wt_cons, wt_nil, w]; omega⟩
  rw [if_neg h1] at h
  have num : ∀ (u : Tok) (z : Int), u.kind = 2 → GoodTok u → showA ⟨2, u.n, noB, noEx, z⟩ = ([nuT u.n], badNum u.n) ∧ badNum u.n = false ∧ wtT (nuT u.n) = wtT u := fun u z hk hu => by
    have hbn := hu.2.1 hk
    have h0 : ¬ u.n < 0 := by
      unfold badNum at hbn
      simp only [Bool.or_eq_false_iff, decide_eq_false_iff_not] at hbn
      exact hbn.1
    exact ⟨by unfold showA; rw [if_neg (by first | decide | (dsimp only; decide)), if_pos rfl, if_neg h0], hbn, by simp [wtT, wordQ, nuT, hk]⟩
  by_cases h2 : t.kind = 2
  · rw [if_pos h2] at h
    cases h
    obtain ⟨e, b, w⟩ := num t t.at_ h2 hgt
    exact ⟨by rw [e]; exact b, fun h5 => by have : (2 : Int) = 5 := h5; omega, by rw [e, hp]; show _ + wt [nuT t.n] ≤ _; rw [wt_cons, wt_nil, w]; omega⟩
  rw [if_neg h2] at h
  by_cases h3 : isS t ⟨#[45, 62]⟩ = true
  · rw [if_pos h3] at h
    cases h
    have e : showA ⟨4, 0, noB, noEx, t.at_⟩ = ([sgT ⟨#[45, 62]⟩], false) := by unfold showA; rw [if_neg (by first | decide | (dsimp only; decide)), if_neg (by first | decide | (dsimp only; decide)), if_neg (by first | decide | (dsimp only; decide)), if_pos rfl]
    have w := wtT_isS h3
    exact ⟨by rw [e], fun h5 => by have : (4 : Int) = 5 := h5; omega, by rw [e, hp]; show _ + wt [sgT _] ≤ _; rw [wt_cons, wt_nil, wtT_sg]; omega⟩
  rw [if_neg h3] at h
  by_cases h4 : isS t ⟨#[45]⟩ = true
  · rw [if_pos h4] at h
    cases hu : ts[k + 1]? with
    | none => rw [hu] at h; cases h
    | some u =>
      rw [hu] at h
      dsimp only at h
      by_cases hk : u.kind = 2
      · rw [if_pos hk] at h
        cases h
        have hgu := hg u (List.mem_of_getElem? hu)
        have hbn := hgu.2.1 hk
        unfold badNum at hbn
        simp only [Bool.or_eq_false_iff, decide_eq_false_iff_not] at hbn
        have w1 := wtT_isS h4
        have p2 := pre_step hu
        have wu : wtT (nuT u.n) = wtT u := by simp [wtT, wordQ, nuT, hk]
        have h1b : (⟨#[45]⟩ : ByteArray).size = 1 := rfl
        by_cases hn : -u.n < 0
        · have ew : max (wrap64 (- -u.n)) 0 = u.n := by rw [wrap_neg hn (by omega)]; omega
          have e : showA ⟨2, -u.n, noB, noEx, t.at_⟩ = ([sgT ⟨#[45]⟩, nuT u.n], badNum u.n || decide (-u.n < -999999999999999)) := by
            unfold showA
            rw [if_neg (by first | decide | (dsimp only; decide)), if_pos rfl, if_pos hn]
            dsimp only
            rw [ew]
          refine ⟨by rw [e, hgu.2.1 hk]; simp; omega, fun h5 => by have : (2 : Int) = 5 := h5; omega, ?_⟩
          rw [e, show k + 2 = k + 1 + 1 from rfl, p2, hp]
          show _ + wt [sgT _, nuT u.n] ≤ _
          rw [wt_cons, wt_cons, wt_nil, wtT_sg, wu]
          omega
        · have hz : u.n = 0 := by omega
          have e : showA ⟨2, -u.n, noB, noEx, t.at_⟩ = ([nuT u.n], badNum u.n) := by
            unfold showA
            rw [if_neg (by first | decide | (dsimp only; decide)), if_pos rfl, if_neg hn]
            dsimp only
            rw [hz]; rfl
          refine ⟨by rw [e]; exact hgu.2.1 hk, fun h5 => by have : (2 : Int) = 5 := h5; omega, ?_⟩
          rw [e, show k + 2 = k + 1 + 1 from rfl, p2, hp]
          show _ + wt [nuT u.n] ≤ _
          rw [wt_cons, wt_nil, wu]
          omega
      · rw [if_neg hk] at h; cases h
  rw [if_neg h4] at h
  have ho : isS t ⟨#[40]⟩ = true := by
    rcases hb with hb | hb
    · unfold beginsT at hb
      simp only [Bool.or_eq_true, beq_iff_eq] at hb
      rcases hb with (((hb | hb) | hb) | hb) | hb
      · exact absurd (.inl hb) h1
      · exact absurd hb h2
      · exact absurd (.inr hb) h1
      · exact hb
      · exact absurd hb h4
    · exact absurd hb h3
  rcases PR.then_some h with ⟨_, _, _, h5⟩ | ⟨x, j1, h5, h6⟩
  · cases h5
  obtain ⟨-, r1⟩ : _ ∧ RdOk 0 1 x (pre ts (k + 1)) (pre ts j1) := run_right hg _ _ _ _ _ _ h5
  cases hu : ts[j1]? with
  | none => rw [hu] at h6; cases h6
  | some u =>
    rw [hu] at h6
    dsimp only at h6
    by_cases hc : isS u ⟨#[41]⟩ = true
    · rw [if_pos hc] at h6
      cases h6
      have e : showA ⟨5, 0, noB, x, t.at_⟩ = (sgT ⟨#[40]⟩ :: ((showX x).2.1 ++ [sgT ⟨#[41]⟩]), (showX x).2.2) := by unfold showA; rw [if_neg (by first | decide | (dsimp only; decide)), if_neg (by first | decide | (dsimp only; decide)), if_neg (by first | decide | (dsimp only; decide)), if_neg (by first | decide | (dsimp only; decide)), if_pos rfl]
      have w1 := wtT_isS ho
      have w2 := wtT_isS hc
      have p2 := pre_step hu
      have w3 := r1.wt
      have d3 := r1.dp
      rw [opnd_zero] at w3
      rw [dpAt_zero] at d3
      refine ⟨by rw [e]; exact r1.nb, fun _ => ⟨d3, r1.ar⟩, ?_⟩
      rw [e, p2]
      show _ + wt (sgT _ :: (_ ++ [sgT _])) ≤ _
      rw [wt_cons, wt_app, wt_cons, wt_nil, wtT_sg, wtT_sg]
      omega
    · rw [if_neg hc] at h6; cases h6
structure RdAs (zs : List Ar) (W : Nat) : Prop where
  nb : (showAs zs).2 = false
  go : ∀ a ∈ zs, GoA a
  len : zs.length ≤ 40
  wt : wt (showAs zs).1 ≤ W
structure RdFs (fs : List Fm) (d : Int) (W : Nat) : Prop where
  nb : (showFs fs).2 = false
  ar : arFs fs
  dp : d + dpFs fs ≤ 31
  wt : wt (showFs fs).1 ≤ W
structure RdF (g : Fm) (d : Int) (B E : Nat) : Prop where
  nb : (showF g).2 = false
  ar : arF g
  dp : d + dpF g ≤ 31
  wt : B + wt (showF g).1 ≤ E
theorem RdFs.snoc {fs : List Fm} {g : Fm} {d : Int} {W B E : Nat} (h : RdFs fs d W) (hg : RdF g d B E) : RdFs (fs ++ [g]) d (W + (E - B)) := by
  refine ⟨?_, arFs_snoc hg.ar h.ar, ?_, ?_⟩
  · rw [showFs_snoc]; simp [Pr.app, h.nb, hg.nb]
  · rw [dpFs_snoc]
    have := h.dp
    have := hg.dp
    omega
  · rw [showFs_snoc]
    show Go.Proofs.YtjijdgkccfeeaaaGreatDoor.wt (_ ++ _) ≤ _
    rw [wt_app]
    have := h.wt
    have := hg.wt
    omega
theorem read_form {t : Tok} {zs : List Ar} {fs : List Fm} {a d : Int} {W1 W2 B E : Nat} (hk : t.kind = 1) (hg : GoodTok t) (h : RdAs zs W1) (g : RdFs fs (d + 1) W2) (hE : B + wtT t + W1 + 2 + W2 + (if fs.isEmpty then 0 else 2) ≤ E) : RdF (.mk t.s zs fs a) d B E := by
  have w : wtT (nmT t.s) = wtT t := by simp [wtT, wordQ, nmT, hk]
  have h1 : (⟨#[59]⟩ : ByteArray).size = 1 := rfl
  have h2 : (⟨#[123]⟩ : ByteArray).size = 1 := rfl
  have h3 : (⟨#[125]⟩ : ByteArray).size = 1 := rfl
  have w1 := h.wt
  have w2 := g.wt
  refine ⟨?_, ?_, ?_, ?_⟩
  · rw [showF]
    have e : (if fs.isEmpty then ([sgT ⟨#[59]⟩], false) else Pr.app ([sgT ⟨#[123]⟩], false) (Pr.app (showFs fs) ([sgT ⟨#[125]⟩], false))).2 = false := by
      split
      · rfl
      · simp [Pr.app, g.nb]
    show (badName t.s || ((showAs zs).2 || _)) = false
    rw [hg.1 hk, h.nb, e]
    rfl
  · rw [arF]; exact ⟨h.len, h.go, g.ar⟩
  · rw [dpF]
    have := g.dp
    omega
  · rw [showF]
    show B + Go.Proofs.YtjijdgkccfeeaaaGreatDoor.wt ([nmT t.s] ++ ((showAs zs).1 ++ (if fs.isEmpty then ([sgT ⟨#[59]⟩], false) else Pr.app ([sgT ⟨#[123]⟩], false) (Pr.app (showFs fs) ([sgT ⟨#[125]⟩], false))).1)) ≤ E
    rw [wt_app, wt_app, wt_cons, wt_nil, w]
    split
    · rename_i he
      rw [if_pos he] at hE
      rw [wt_cons, wt_nil, wtT_sg]
      omega
    · rename_i he
      rw [if_neg he] at hE
      show _ + (_ + (_ + Go.Proofs.YtjijdgkccfeeaaaGreatDoor.wt ([sgT ⟨#[123]⟩] ++ ((showFs fs).1 ++ [sgT ⟨#[125]⟩])))) ≤ E
      rw [wt_app, wt_app, wt_cons, wt_nil, wt_cons, wt_nil, wtT_sg, wtT_sg]
      omega
def ReadFq (ts : List Tok) (q : Qf) (k : Nat) (d : Int) (n : Nat) (r : Fm × Nat) (j : Nat) : Prop :=
  match q with
  | .form => r.2 = n + cntF r.1 ∧ r.2 ≤ 2000 ∧ RdF r.1 d (pre ts k) (pre ts j)
  | .args t0 zs => d ≤ 30 → n ≤ 2000 → t0.kind = 1 → GoodTok t0 → ∀ B W, RdAs zs W → B + wtT t0 + W ≤ pre ts k → r.2 + 1 = n + cntF r.1 ∧ r.2 ≤ 2000 ∧ RdF r.1 d B (pre ts j)
  | .body t0 zs fs => d ≤ 30 → n ≤ 2000 → t0.kind = 1 → GoodTok t0 → ∀ B W1 W2, RdAs zs W1 → RdFs fs (d + 1) W2 → B + wtT t0 + W1 + 2 + W2 ≤ pre ts k → r.2 + 1 + cntFs fs = n + cntF r.1 ∧ r.2 ≤ 2000 ∧ RdF r.1 d B (pre ts j)
theorem form_right {ts : List Tok} (hg : ∀ t ∈ ts, GoodTok t) : ∀ (f : Nat) (q : Qf) (k : Nat) (d : Int) (n : Nat) (r : Fm × Nat) (j : Nat), formF ts f q k d n = some (.ok r j) → ReadFq ts q k d n r j := by
  intro f
  induction f with
  | zero => intro q k d n r j h; cases q <;> simp [formF] at h
  | succ f ih =>
    intro q k d n r j h
    obtain ⟨t, ht⟩ := formF_tok h
    have hgt := hg t (List.mem_of_getElem? ht)
    have hp := pre_step ht
    have h1b : ∀ b : UInt8, (⟨#[b]⟩ : ByteArray).size = 1 := fun _ => rfl
    have fs0 : ∀ d : Int, d ≤ 30 → RdFs [] (d + 1) 0 := fun d hd => ⟨by rw [showFs], by rw [arFs]; trivial, by rw [dpFs]; omega, by rw [showFs]; exact Nat.le_refl _⟩
    cases q with
    | form =>
      rw [formF_form ht] at h
      split at h
      · cases h
      rename_i hk
      split at h
      · cases h
      rename_i hl
      have := ih _ _ _ _ _ _ h (by omega) (by omega) (by omega) hgt (pre ts k) 0 ⟨rfl, fun a ha => (by cases ha), by simp, Nat.le_refl _⟩ (by omega)
      exact ⟨by omega, this.2⟩
    | args t0 zs =>
      intro hd hn hk0 hg0 B W hz hW
      rw [formF_args ht] at h
      split at h
      · rename_i hs
        cases h
        have w := wtT_isS hs
        rw [h1b] at w
        refine ⟨by rw [cntF, cntFs], hn, read_form hk0 hg0 hz (fs0 d hd) ?_⟩
        rw [if_pos (show ([] : List Fm).isEmpty = true from rfl)]; omega
      split at h
      · rename_i hs
        have w := wtT_isS hs
        rw [h1b] at w
        have := ih _ _ _ _ _ _ h hd hn hk0 hg0 B W 0 hz (fs0 d hd) (by omega)
        rw [cntFs, Nat.add_zero] at this
        exact this
      split at h
      · cases h
      rename_i hb
      split at h
      · cases h
      rename_i h40
      rcases PR.then_some h with ⟨_, _, _, h2⟩ | ⟨a, j1, h1, h2⟩
      · cases h2
      have ra := arg_right hg ht (by
        cases hq : beginsT t with
        | true => exact .inl rfl
        | false =>
          rw [hq] at hb
          exact .inr (by simpa using hb)) h1
      have wa := ra.wt
      refine ih _ _ _ _ _ _ h2 hd hn hk0 hg0 B (W + wt (showA a).1) ⟨?_, fun y hy => ?_, ?_, ?_⟩ (by omega)
      · rw [showAs_snoc]; simp [Pr.app, hz.nb, ra.nb]
      · rcases List.mem_append.1 hy with hy | hy
        · exact hz.go y hy
        · rw [List.mem_singleton.1 hy]; exact ra.go
      · have := hz.len
        rw [List.length_append, List.length_singleton]; omega
      · rw [showAs_snoc]
        show wt (_ ++ _) ≤ _
        rw [wt_app]
        have := hz.wt
        omega
    | body t0 zs fs =>
      intro hd hn hk0 hg0 B W1 W2 hz hf hW
      rw [formF_body ht] at h
      split at h
      · rename_i hs
        cases h
        have w := wtT_isS hs
        rw [h1b] at w
        refine ⟨by rw [cntF]; omega, hn, read_form hk0 hg0 hz hf ?_⟩
        split <;> omega
      · rcases PR.then_some h with ⟨_, _, _, h2⟩ | ⟨x, j1, h1, h2⟩
        · cases h2
        obtain ⟨c1, c2, rx⟩ : _ ∧ _ ∧ RdF x.1 (d + 1) (pre ts k) (pre ts j1) := ih _ _ _ _ _ _ h1
        have w := rx.wt
        have := ih _ _ _ _ _ _ h2 hd c2 hk0 hg0 B W1 _ hz (hf.snoc rx) (by omega)
        rw [cntFs_snoc] at this
        exact ⟨by omega, this.2⟩
theorem forms_right {ts : List Tok} (hg : ∀ t ∈ ts, GoodTok t) : ∀ (f k n : Nat) (fs r : List Fm) (j : Nat), formsF ts f k n fs = some (.ok r j) → n = cntFs fs → n ≤ 2000 → RdFs fs 1 (pre ts k) → RdFs r 1 (pre ts j) ∧ cntFs r ≤ 2000
  | 0, _, _, _, _, _, h, _, _, _ => by simp [formsF] at h
  | f + 1, k, n, fs, r, j, h, hn, hl, hf => by
    unfold formsF at h
    cases ht : ts[k]? with
    | none => rw [ht] at h; cases h
    | some t =>
      rw [ht] at h
      dsimp only at h
      split at h
      · cases h
        exact ⟨hf, by omega⟩
      · rcases PR.then_some h with ⟨_, _, _, h2⟩ | ⟨x, j1, h1, h2⟩
        · cases h2
        obtain ⟨c1, c2, rx⟩ : _ ∧ _ ∧ RdF x.1 1 (pre ts k) (pre ts j1) := form_right hg _ _ _ _ _ _ _ h1
        have w := rx.wt
        have h3 := hf.snoc rx
        refine forms_right hg f j1 x.2 (fs ++ [x.1]) r j h2 (by rw [cntFs_snoc]; omega) c2 ⟨h3.nb, h3.ar, h3.dp, ?_⟩
        have := h3.wt
        omega
end Go.Proofs.YtjijdgkccfeeaaaGreatDoor
namespace Go.Proofs.YtjijdgkccfeeaaaGreatDoor
open Go Go.Proofs
def Words (p : Pr) : Prop := p.2 = false → ∀ t ∈ p.1, WordT t
theorem Words.app {p q : Pr} (h : Words p) (g : Words q) : Words (Pr.app p q) := fun hb t ht => by
  obtain ⟨h1, h2⟩ := app_bad hb
  rcases List.mem_append.1 (show t ∈ p.1 ++ q.1 from ht) with ht | ht
  · exact h h1 t ht
  · exact g h2 t ht
theorem Words.none (b : Bool) : Words ([], b) := fun _ t ht => by cases ht
theorem Words.sign {s : ByteArray} (h : s.data.toList ∈ printSigns) : Words ([sgT s], false) := fun _ t ht => by
  rw [List.mem_singleton.1 ht]; exact word_sign h
theorem Words.name (s : ByteArray) : Words ([nmT s], badName s) := fun hb t ht => by
  rw [List.mem_singleton.1 ht]; exact word_name hb
theorem Words.num (n : Int) : Words ([nuT n], badNum n) := fun hb t ht => by
  rw [List.mem_singleton.1 ht]; exact word_num hb
theorem Words.text (s : ByteArray) : Words ([txT s], badText s) := fun hb t ht => by
  rw [List.mem_singleton.1 ht]; exact word_text hb
theorem Words.paren {p : Pr} (h : Words p) : Words (sgT ⟨#[40]⟩ :: (p.1 ++ [sgT ⟨#[41]⟩]), p.2) := by
  have h1 := (Words.sign (s := ⟨#[40]⟩) (by decide)).app (h.app (Words.sign (s := ⟨#[41]⟩) (by decide)))
  have e : Pr.app ([sgT ⟨#[40]⟩], false) (Pr.app p ([sgT ⟨#[41]⟩], false)) = (sgT ⟨#[40]⟩ :: (p.1 ++ [sgT ⟨#[41]⟩]), p.2) := by simp [Pr.app]
  rw [e] at h1
  exact h1
theorem Words.opnd {p : Pr} (n : Nat) (op : Int) (h : Words p) : Words (opndX n op p) := by
  unfold opndX
  split
  · exact h
  · exact h.paren
theorem row_word {r : ByteArray × Int × Nat} (h : r ∈ opRows) : r.1.data.toList ∈ printSigns := by
  simp only [opRows, List.mem_cons, List.not_mem_nil, or_false] at h
  rcases h with rfl | rfl | rfl | rfl | rfl | rfl | rfl | rfl | rfl | rfl | rfl | rfl | rfl <;> decide
theorem words_call : ∀ (K : List (Int × Pr)) (m : Nat), (∀ q ∈ K, Words q.2) → Words (callX m K)
  | [], _, _ => Words.none _
  | (op, p) :: K, m, h => by
    unfold callX
    refine Words.app ?_ (((h (op, p) (by simp)).opnd 0 op).app (words_call K (m + 1) fun q hq => h q (List.mem_cons_of_mem _ hq)))
    split
    · exact Words.sign (by decide)
    · exact Words.none _
theorem words_head (op n : Int) (s : ByteArray) (K : List (Int × Pr)) (h : ∀ q ∈ K, Words q.2) : Words (headX op n s K) := by
  unfold headX
  split
  · exact Words.num n
  split
  · exact Words.text s
  split
  · exact Words.name s
  split
  · refine Words.app ?_ ((words_call K 0 h).app (Words.sign (by decide)))
    have h1 := (Words.name s).app (Words.sign (s := ⟨#[40]⟩) (by decide))
    have e : Pr.app ([nmT s], badName s) ([sgT ⟨#[40]⟩], false) = ([nmT s, sgT ⟨#[40]⟩], badName s) := by simp [Pr.app]
    rw [e] at h1
    exact h1
  match K, h with
  | [], _ => exact Words.none _
  | [(p, a)], h =>
    have ha := h (p, a) (by simp)
    dsimp only
    split
    · exact (Words.sign (by decide)).app (ha.opnd 3 p)
    split
    · exact (Words.sign (by decide)).app (ha.opnd 7 p)
    · exact Words.none _
  | [(p, a), (q, b)], h =>
    have ha := h (p, a) (by simp)
    have hb := h (q, b) (by simp)
    dsimp only
    split
    · rename_i r hr
      exact (ha.opnd _ p).app ((Words.sign (row_word (List.mem_of_find?_eq_some hr))).app (hb.opnd _ q))
    · exact Words.none _
  | [(p, a), (q, b), (r, c)], h =>
    have ha := h (p, a) (by simp)
    have hb := h (q, b) (by simp)
    have hc := h (r, c) (by simp)
    dsimp only
    split
    · exact (ha.opnd 1 p).app ((Words.sign (by decide)).app ((hb.opnd 0 q).app ((Words.sign (by decide)).app (hc.opnd 0 r))))
    · exact Words.none _
  | _ :: _ :: _ :: _ :: _, _ => exact Words.none _
mutual
theorem words_X : ∀ x : Ex, Words (showX x).2
  | .mk op n s ks _ => by
    rw [showX]
    exact words_head op n s _ (words_Xs ks)
theorem words_Xs : ∀ (l : List Ex), ∀ q ∈ showXs l, Words q.2
  | [], q, hq => by rw [showXs] at hq; cases hq
  | x :: l, q, hq => by
    rw [showXs] at hq
    rcases List.mem_cons.1 hq with rfl | hq
    · exact words_X x
    · exact words_Xs l q hq
end
theorem words_A (a : Ar) : Words (showA a) := by
  unfold showA
  split
  · exact Words.name _
  split
  · split
    · rename_i hn
      intro hb t ht
      simp only [Bool.or_eq_false_iff, decide_eq_false_iff_not] at hb
      rcases List.mem_cons.1 ht with rfl | ht
      · exact word_sign (by decide)
      · rw [List.mem_singleton.1 ht]; exact word_num hb.1
    · exact Words.num _
  split
  · exact Words.text _
  split
  · exact Words.sign (by decide)
  split
  · exact (words_X a.e).paren
  · exact Words.none _
theorem words_As : ∀ l : List Ar, Words (showAs l)
  | [] => Words.none _
  | a :: l => by
    rw [showAs]
    exact (words_A a).app (words_As l)
mutual
theorem words_F : ∀ f : Fm, Words (showF f)
  | .mk w zs fs _ => by
    rw [showF]
    have hf := words_Fs fs
    refine (Words.name w).app ((words_As zs).app ?_)
    split
    · exact Words.sign (by decide)
    · exact (Words.sign (by decide)).app (hf.app (Words.sign (by decide)))
theorem words_Fs : ∀ l : List Fm, Words (showFs l)
  | [] => by rw [showFs]; exact Words.none _
  | f :: l => by
    rw [showFs]
    exact (words_F f).app (words_Fs l)
end
theorem words_list : ∀ l : List Tok, (∀ t ∈ l, WordT t) → ∃ ps : List (List UInt8 × Tok), Worded ps ∧ ps.map (fun p => p.2.strip) = l.map Tok.strip
  | [], _ => ⟨[], (fun p hp => by cases hp), rfl⟩
  | t :: l, h => by
    obtain ⟨w, u, h1, h2⟩ := h t (by simp)
    obtain ⟨ps, p1, p2⟩ := words_list l fun x hx => h x (List.mem_cons_of_mem _ hx)
    refine ⟨(w, u) :: ps, fun p hp => ?_, by rw [List.map_cons, List.map_cons, p2, h2]⟩
    rcases List.mem_cons.1 hp with rfl | hp
    · exact h1
    · exact p1 p hp
theorem wt_words (l : List Tok) : wt l = ((wordsQ l).map fun w => w.size + 1).sum := by
  induction l with
  | nil => rfl
  | cons t l ih =>
    rw [wt_cons, ih]
    simp [wordsQ, wtT]
theorem text_wt (l : List Tok) : (textQ l).size ≤ wt l := by
  have h := join_len ((wordsQ l).map fun w => (w.data.toList, (⟨0, 0, ⟨#[]⟩, 0⟩ : Tok)))
  rw [wt_words]
  unfold sizes at h
  rw [List.map_map, List.map_map] at h
  have e1 : ((fun p : List UInt8 × Tok => p.1) ∘ fun w : ByteArray => (w.data.toList, (⟨0, 0, ⟨#[]⟩, 0⟩ : Tok))) = fun w => w.data.toList := rfl
  have e2 : ((fun p : List UInt8 × Tok => p.1.length + 1) ∘ fun w : ByteArray => (w.data.toList, (⟨0, 0, ⟨#[]⟩, 0⟩ : Tok))) = fun w => w.size + 1 := by
    funext w
    simp
  rw [e1, e2] at h
  exact h
theorem text_back {l : List Tok} (hw : ∀ t ∈ l, WordT t) (hs : (textQ l).size ≤ 65536) : ∃ us e, tokensP (textQ l) = .ok us ∧ Mt us 0 l ∧ us[l.length]? = some e ∧ e.kind = 5 := by
  obtain ⟨ps, p1, p2⟩ := words_list l hw
  obtain ⟨us, q1, q2⟩ := read_words ps p1 0
  have ht : textQ l = ⟨(Lib.join (ps.map (·.1)) [32]).toArray⟩ := by
    unfold textQ
    rw [wordsQ_strip, ← p2, worded_words ps p1, List.map_map]
    rfl
  have hl : us.map Tok.strip = l.map Tok.strip ++ [endS] := by rw [q2, p2]
  have hlen : us.length = l.length + 1 := by have := congrArg List.length hl; simpa using this
  have hat : ∀ i, i < us.length → ∀ u, us[i]? = some u → (l.map Tok.strip ++ [endS])[i]? = some u.strip := fun i hi u hu => by
    rw [← hl, List.getElem?_map, hu]; rfl
  obtain ⟨e, he⟩ := some_of_lt (show l.length < us.length by omega)
  refine ⟨us, e, ?_, fun i t hi => ?_, he, ?_⟩
  · rw [tokensP_eq, if_neg (by omega), ht]
    exact q1
  · have hlt := lt_of_some hi
    obtain ⟨u, hu⟩ := some_of_lt (show 0 + i < us.length by omega)
    refine ⟨u, hu, ?_⟩
    rw [Nat.zero_add] at hu
    have h3 := hat i (by omega) u hu
    rw [List.getElem?_append_left (by simpa using hlt), List.getElem?_map, hi] at h3
    have h4 : t.strip = u.strip := by simpa using h3
    unfold Tok.strip at h4
    simp only [Prod.mk.injEq] at h4
    exact ⟨h4.1.symm, h4.2.1.symm, h4.2.2.symm⟩
  · have h3 := hat l.length (by omega) e he
    rw [List.getElem?_append_right (by simp)] at h3
    simp only [List.length_map, Nat.sub_self, List.getElem?_cons_zero, Option.some.injEq] at h3
    have h4 : e.strip.1 = 5 := by rw [← h3]; rfl
    exact h4
theorem stop_end {e : Tok} (h : e.kind = 5) (n : Nat) : StopN n e := ⟨fun i _ => opAt_kind5 h i, fun _ => isS_kind5 h _, isS_kind5 h _⟩
section
variable {L : Prop}
theorem expr_round (x : Ex) (hb : (showX x).2.2 = false) (hs : (textQ (showX x).2.1).size ≤ 65536) (hd : 30 < 1 + dpX x → L) (ha : ¬ arX x → L) : (∃ z, exprP (textQ (showX x).2.1) = .ok z ∧ sameX false x z = true) ∨ (L ∧ ∃ a, exprP (textQ (showX x).2.1) = .bad a 2) := by
  obtain ⟨us, e, hT, hM, he, h5⟩ := text_back (words_X x hb) hs
  obtain ⟨ok, hpos, -⟩ := tokens_good hT
  have hr := readE_some ok hpos
  have he0 : us[0 + (showX x).2.1.length]? = some e := by rw [Nat.zero_add]; exact he
  obtain ⟨z, hz, f, hy⟩ := (back_any (L := L) _ x (Nat.le_refl _) hb).whole (d := 1) ok hM he0 (stop_end h5 0) (fun h => hd (by omega)) ha
  unfold exprP
  rw [hT]
  dsimp only
  rcases hy with hy | ⟨hL, i, hy⟩
  · rw [run_det ok hr hy trivial]
    exact .inl ⟨z, by simp only [endP]; rw [he0]; simp [h5], hz⟩
  · rw [run_det ok hr hy trivial]
    exact .inr ⟨hL, _, rfl⟩
theorem forms_round (l : List Fm) (hb : (showFs l).2 = false) (hs : (textQ (showFs l).1).size ≤ 65536) (hd : 30 < dpFs l → L) (ha : ¬ arFs l → L) (hc : 2000 < cntFs l → L) : (∃ m, formsP (textQ (showFs l).1) = .ok m ∧ sameFs false l m = true) ∨ (L ∧ ∃ a, formsP (textQ (showFs l).1) = .bad a 2) := by
  obtain ⟨us, e, hT, hM, he, h5⟩ := text_back (words_Fs l hb) hs
  obtain ⟨ok, hpos, -⟩ := tokens_good hT
  have hr := readF_some ok hpos
  have he0 : us[0 + (showFs l).1.length]? = some e := by rw [Nat.zero_add]; exact he
  obtain ⟨m, hm, f, hy⟩ := top_back (L := L) ok h5 l hb ha [] 0 0 hd (fun h => hc (by omega)) hM he0
  unfold formsP
  rw [hT]
  dsimp only
  have det : ∀ r, formsF us f 0 0 [] = some r → readF us = r := fun r h => by
    have h1 := formsF_mono ok _ _ _ _ _ _ (Nat.le_max_left f (us.length * 32 + 17)) h
    have h2 := formsF_mono ok _ _ _ _ _ _ (Nat.le_max_right f (us.length * 32 + 17)) hr
    rw [h1] at h2
    exact (Option.some.inj h2).symm
  rcases hy with hy | ⟨hL, i, hy⟩
  · rw [det _ hy]
    exact .inl ⟨m, by simp only [endP]; rw [he0]; simp [h5], hm⟩
  · rw [det _ hy]
    exact .inr ⟨hL, _, rfl⟩
end
theorem endP_is {α : Type} {ts : List Tok} {r : PR α} {x : α} (h : endP ts r = .ok x) : ∃ j t, r = .ok x j ∧ ts[j]? = some t ∧ t.kind = 5 := by
  unfold endP at h
  cases r with
  | err j c => cases h
  | ok y j =>
    dsimp only at h
    split at h
    · rename_i h5
      cases h
      cases ht : ts[j]? with
      | none => rw [ht] at h5; cases h5
      | some t => rw [ht] at h5; exact ⟨j, t, rfl, ht, by simpa using h5⟩
    · cases h
theorem src_right {s : ByteArray} {ts : List Tok} (h : tokensP s = .ok ts) : (∀ t ∈ ts, GoodTok t) ∧ wt ts ≤ 2 * s.size := by
  have hs : s.size ≤ 65536 := by
    rcases Nat.lt_or_ge 65536 s.size with h1 | h1
    · unfold tokensP at h; rw [if_pos h1] at h; cases h
    · exact h1
  rw [tokensP_eq, if_neg (by omega)] at h
  have hl : s.data.toList.length = s.size := by simp
  obtain ⟨ps, p1, p2, p3⟩ := lexA_words _ _ ts h
  simp only [List.length_drop] at p3
  refine ⟨fun t ht => ?_, ?_⟩
  · have h1 : t.strip ∈ ps.map (fun p => p.2.strip) ++ [endS] := by rw [← p2]; exact List.mem_map_of_mem ht
    rcases List.mem_append.1 h1 with h1 | h1
    · obtain ⟨p, hp, he⟩ := List.mem_map.1 h1
      have h2 := head_right (p1 p hp)
      unfold Tok.strip at he
      simp only [Prod.mk.injEq] at he
      unfold GoodTok at h2 ⊢
      rw [← he.1, ← he.2.1, ← he.2.2]
      exact h2
    · have he := List.mem_singleton.1 h1
      unfold Tok.strip endS at he
      simp only [Prod.mk.injEq] at he
      exact ⟨(fun h => by omega), (fun h => by omega), fun h => by omega⟩
  · have h1 : wt ts ≤ sizes ps := by
      rw [wt_words, wordsQ_strip, p2, List.flatMap_append, worded_words ps p1]
      have e0 : [endS].flatMap wordS = [] := by simp [endS, wordS, wordQ]
      rw [e0, List.append_nil, List.map_map]
      exact Nat.le_refl _
    omega
theorem pre_le (ts : List Tok) (k : Nat) : pre ts k ≤ wt ts := by
  have : wt ts = wt (ts.take k) + wt (ts.drop k) := by rw [← wt_app, List.take_append_drop]
  unfold pre
  omega
theorem expr_src {s : ByteArray} (hs : s.size ≤ 500) {y : Ex} (h : exprP s = .ok y) : (showX y).2.2 = false ∧ wt (showX y).2.1 ≤ 1000 ∧ ∃ z, exprP (textQ (showX y).2.1) = .ok z ∧ sameX false y z = true := by
  unfold exprP at h
  cases hT : tokensP s with
  | err k c => rw [hT] at h; cases h
  | ok ts =>
    rw [hT] at h
    dsimp only at h
    obtain ⟨ok, hpos, -⟩ := tokens_good hT
    obtain ⟨hg, hw⟩ := src_right hT
    have hr := readE_some ok hpos
    obtain ⟨j, t, hj, -, -⟩ := endP_is h
    rw [hj] at hr
    obtain ⟨hd, r⟩ : _ ∧ RdOk 0 1 y (pre ts 0) (pre ts j) := run_right hg _ _ _ _ _ _ hr
    have w := r.wt
    have d := r.dp
    rw [opnd_zero] at w
    rw [dpAt_zero] at d
    have hp := pre_le ts j
    have ht := text_wt (showX y).2.1
    rcases expr_round (L := False) y r.nb (by omega) (fun h => by omega) (fun h => h r.ar) with h1 | ⟨h1, -⟩
    · exact ⟨r.nb, by omega, h1⟩
    · exact h1.elim
theorem forms_src {s : ByteArray} (hs : s.size ≤ 500) {m : List Fm} (h : formsP s = .ok m) : (showFs m).2 = false ∧ wt (showFs m).1 ≤ 1000 ∧ ∃ n, formsP (textQ (showFs m).1) = .ok n ∧ sameFs false m n = true := by
  unfold formsP at h
  cases hT : tokensP s with
  | err k c => rw [hT] at h; cases h
  | ok ts =>
    rw [hT] at h
    dsimp only at h
    obtain ⟨ok, hpos, -⟩ := tokens_good hT
    obtain ⟨hg, hw⟩ := src_right hT
    have hr := readF_some ok hpos
    obtain ⟨j, t, hj, -, -⟩ := endP_is h
    rw [hj] at hr
    obtain ⟨r, hc⟩ := forms_right hg _ _ _ _ _ _ hr (by rw [cntFs]) (by omega) ⟨by rw [showFs], by rw [arFs]; trivial, by rw [dpFs]; omega, by rw [showFs]; exact Nat.zero_le _⟩
    have w := r.wt
    have d := r.dp
    have hp := pre_le ts j
    have ht := text_wt (showFs m).1
    rcases forms_round (L := False) m r.nb (by omega) (fun h => by omega) (fun h => h r.ar) (fun h => by omega) with h1 | ⟨h1, -⟩
    · exact ⟨r.nb, by omega, h1⟩
    · exact h1.elim
theorem head_same {p n m : Int} {s t : ByteArray} {K J : List (Int × Pr)} (h1 : p = 1 → n = m) (h2 : 2 ≤ p ∧ p ≤ 4 → s = t) (h3 : ¬ (1 ≤ p ∧ p ≤ 3) → K = J) : headX p n s K = headX p m t J := by
  by_cases e1 : p = 1
  · subst e1; rw [h1 rfl]; unfold headX; simp only [↓reduceIte]
  by_cases e2 : p = 2
  · subst e2; rw [h2 (by decide)]; unfold headX; simp only [e1, ↓reduceIte]
  by_cases e3 : p = 3
  · subst e3; rw [h2 (by decide)]; unfold headX; simp only [e1, e2, ↓reduceIte]
  rw [h3 (by omega)]
  by_cases e4 : p = 4
  · rw [h2 (by omega)]; unfold headX; simp only [e1, e2, e3, ↓reduceIte]
  · unfold headX; simp only [e1, e2, e3, e4, ↓reduceIte]
theorem bytes_eq {s t : ByteArray} (h : s.data.toList = t.data.toList) : s = t := by apply ByteArray.ext; apply Array.ext'; exact h
mutual
theorem show_same : ∀ (x y : Ex), sameX false x y = true → showX x = showX y
  | .mk p n s ks a, .mk q m t ls b, h => by
    simp only [sameX, Bool.and_eq_true, Bool.or_eq_true, beq_iff_eq, bne_iff_ne, ne_eq, Bool.not_eq_true', Bool.and_eq_false_iff, decide_eq_false_iff_not, decide_eq_true_eq] at h
    obtain ⟨⟨⟨⟨rfl, h1⟩, h2⟩, -⟩, h3⟩ := h
    rw [showX, showX]
    congr 1
    refine head_same (fun e => ?_) (fun e => ?_) fun e => ?_
    · rcases h1 with h1 | h1
      · exact absurd e h1
      · exact h1
    · rcases h2 with h2 | h2
      · omega
      · exact bytes_eq h2
    · rcases h3 with h3 | h3
      · exact absurd h3 e
      · exact show_sames ks ls h3
theorem show_sames : ∀ (l m : List Ex), sameXs false l m = true → showXs l = showXs m
  | [], [], _ => rfl
  | x :: l, y :: m, h => by
    rw [sameXs, Bool.and_eq_true] at h
    rw [showXs, showXs, show_same x y h.1, show_sames l m h.2]
  | [], _ :: _, h => by simp [sameXs] at h
  | _ :: _, [], h => by simp [sameXs] at h
end
theorem showA_same {x y : Ar} (h : sameA false x y = true) : showA x = showA y := by
  simp only [sameA, Bool.and_eq_true, Bool.or_eq_true, beq_iff_eq, bne_iff_ne, ne_eq, Bool.not_eq_true', Bool.or_eq_false_iff, beq_eq_false_iff_ne, Bool.not_false] at h
  obtain ⟨⟨⟨⟨h0, -⟩, h1⟩, h2⟩, h3⟩ := h
  unfold showA
  rw [← h0]
  by_cases e1 : x.kind = 1
  · rw [if_pos e1, if_pos e1]
    rcases h1 with h1 | h1
    · exact absurd e1 h1.1
    · rw [bytes_eq h1]
  rw [if_neg e1, if_neg e1]
  by_cases e2 : x.kind = 2
  · rw [if_pos e2, if_pos e2]
    rcases h2 with h2 | h2
    · exact absurd e2 h2
    · rw [h2]
  rw [if_neg e2, if_neg e2]
  by_cases e3 : x.kind = 3
  · rw [if_pos e3, if_pos e3]
    rcases h1 with h1 | h1
    · exact absurd e3 h1.2
    · rw [bytes_eq h1]
  rw [if_neg e3, if_neg e3]
  by_cases e5 : x.kind = 5
  · rcases h3 with h3 | h3
    · exact absurd e5 h3
    · rw [show_same _ _ h3]
  · rw [if_neg e5, if_neg e5]
theorem showAs_same : ∀ (l m : List Ar), sameAs false l m = true → showAs l = showAs m
  | [], [], _ => rfl
  | x :: l, y :: m, h => by
    rw [sameAs, Bool.and_eq_true] at h
    rw [showAs, showAs, showA_same h.1, showAs_same l m h.2]
  | [], _ :: _, h => by simp [sameAs] at h
  | _ :: _, [], h => by simp [sameAs] at h
mutual
theorem showF_same : ∀ (x y : Fm), sameF false x y = true → showF x = showF y
  | .mk w zs fs a, .mk v ys gs b, h => by
    simp only [sameF, Bool.and_eq_true, Bool.or_eq_true, beq_iff_eq] at h
    obtain ⟨⟨⟨h1, -⟩, h2⟩, h3⟩ := h
    have h4 := showFs_same fs gs h3
    have h5 : fs.isEmpty = gs.isEmpty := by
      cases fs <;> cases gs <;> simp [sameFs] at h3 <;> rfl
    rw [showF, showF, bytes_eq h1, showAs_same zs ys h2, h4, h5]
theorem showFs_same : ∀ (l m : List Fm), sameFs false l m = true → showFs l = showFs m
  | [], [], _ => rfl
  | x :: l, y :: m, h => by
    rw [sameFs, Bool.and_eq_true] at h
    rw [showFs, showFs, showF_same x y h.1, showFs_same l m h.2]
  | [], _ :: _, h => by simp [sameFs] at h
  | _ :: _, [], h => by simp [sameFs] at h
end
theorem printX_back {x : Ex} {t : ByteArray} (h : printX x = (t, 0)) : ∃ z, exprP t = .ok z ∧ sameX false x z = true := by
  unfold printX printed at h
  cases hb : (showX x).2.2 with
  | true => rw [hb] at h; simp at h
  | false =>
    rw [hb] at h
    simp only [Bool.false_eq_true, ↓reduceIte] at h
    cases hp : exprP (textQ (showX x).2.1) with
    | bad a c => rw [hp] at h; simp [okE] at h
    | ok z =>
      rw [hp] at h
      simp only [okE, ↓reduceIte, Prod.mk.injEq, and_true] at h
      have hs : (textQ (showX x).2.1).size ≤ 65536 := by
        rcases Nat.lt_or_ge 65536 (textQ (showX x).2.1).size with h1 | h1
        · unfold exprP tokensP at hp; rw [if_pos h1] at hp; cases hp
        · exact h1
      rcases expr_round (L := True) x hb hs (fun _ => trivial) (fun _ => trivial) with ⟨z2, h1, h2⟩ | ⟨-, a, h1⟩
      · rw [← h]; exact ⟨z2, h1, h2⟩
      · rw [hp] at h1; cases h1
theorem printFs_back {l : List Fm} {t : ByteArray} (h : printFs l = (t, 0)) : ∃ m, formsP t = .ok m ∧ sameFs false l m = true := by
  unfold printFs printed at h
  cases hb : (showFs l).2 with
  | true => rw [hb] at h; simp at h
  | false =>
    rw [hb] at h
    simp only [Bool.false_eq_true, ↓reduceIte] at h
    cases hp : formsP (textQ (showFs l).1) with
    | bad a c => rw [hp] at h; simp [okE] at h
    | ok z =>
      rw [hp] at h
      simp only [okE, ↓reduceIte, Prod.mk.injEq, and_true] at h
      have hs : (textQ (showFs l).1).size ≤ 65536 := by
        rcases Nat.lt_or_ge 65536 (textQ (showFs l).1).size with h1 | h1
        · unfold formsP tokensP at hp; rw [if_pos h1] at hp; cases hp
        · exact h1
      rcases forms_round (L := True) l hb hs (fun _ => trivial) (fun _ => trivial) (fun _ => trivial) with ⟨z2, h1, h2⟩ | ⟨-, a, h1⟩
      · rw [← h]; exact ⟨z2, h1, h2⟩
      · rw [hp] at h1; cases h1
theorem exprs_trip {s : ByteArray} (hs : s.size ≤ 500) {y : Ex} (h : exprP s = .ok y) : ∃ u z, printX y = (u, 0) ∧ exprP u = .ok z ∧ sameX false y z = true := by
  obtain ⟨hb, -, z, h1, h2⟩ := expr_src hs h
  refine ⟨_, z, ?_, h1, h2⟩
  unfold printX printed
  rw [hb, h1]
  rfl
theorem forms_trip {s : ByteArray} (hs : s.size ≤ 500) {m : List Fm} (h : formsP s = .ok m) : ∃ u n, printFs m = (u, 0) ∧ formsP u = .ok n ∧ sameFs false m n = true ∧ printFs n = (u, 0) ∧ u.size ≤ 1000 := by
  obtain ⟨hb, hw, n, h1, h2⟩ := forms_src hs h
  have e := showFs_same m n h2
  have ht := text_wt (showFs m).1
  refine ⟨textQ (showFs m).1, n, ?_, h1, h2, ?_, by omega⟩
  · unfold printFs printed
    rw [hb, h1]
    rfl
  · unfold printFs printed
    rw [← e, hb, h1]
    rfl
end Go.Proofs.YtjijdgkccfeeaaaGreatDoor
