/- Part 1 of the proof of card: LexPlain, ParPlain, ParFacts, RangeLaw, OutLaw, ParAt, ParShow. Conditions: those of each theorem. -/
import Derived.Lib.Hide
import Derived.Lib.Bytealg
import Derived.RangeFuncNested
import Derived.RangeFuncBound
import Derived.RangeFuncCalls
import Derived.RangeFuncLeaves
import Derived.WalkKit
import Derived.OwnWalkIn
import Derived.TacticsInMore
import Derived.LoopNIn
import Derived.LoopIn
import Derived.Maps.AppendAt
import Derived.Maps.OwnIn
import Derived.Below
namespace Go.Proofs.YtjijdgkccfeeaaaGreatDoor
theorem hao (w : Go.World) (o : Go.Obj) {r : Nat} (h : r < w.heap.size) : (w.alloc o).heap[r]? = w.heap[r]? := by
  show (w.heap.push o)[r]? = w.heap[r]?
  rw [Array.getElem?_push, if_neg (Nat.ne_of_lt h)]
end Go.Proofs.YtjijdgkccfeeaaaGreatDoor
namespace Go.Proofs.YtjijdgkccfeeaaaGreatDoor
def clsI (c : Int) : Int := if c = 95 ∨ (97 ≤ c ∧ c ≤ 122) ∨ (65 ≤ c ∧ c ≤ 90) then 3 else if 48 ≤ c ∧ c ≤ 57 then 2 else if c = 32 ∨ c = 9 ∨ c = 10 ∨ c = 13 then 1 else 0
def cls (b : UInt8) : Int := clsI b.toNat
def spanL (least : Int) (l : List UInt8) : Nat := (l.takeWhile fun b => decide (least ≤ cls b)).length
theorem spanL_nil (least : Int) : spanL least [] = 0 := rfl
theorem spanL_cons_yes {least : Int} {b : UInt8} {l : List UInt8} (h : least ≤ cls b) : spanL least (b :: l) = spanL least l + 1 := by
  unfold spanL
  rw [List.takeWhile_cons_of_pos (by simpa using h)]
  rfl
theorem spanL_cons_no {least : Int} {b : UInt8} {l : List UInt8} (h : cls b < least) : spanL least (b :: l) = 0 := by
  unfold spanL
  rw [List.takeWhile_cons_of_neg (by simp; omega)]
  rfl
theorem spanL_le (least : Int) (l : List UInt8) : spanL least l ≤ l.length := (List.takeWhile_sublist _).length_le
theorem cls_bd (c : Int) : 0 ≤ clsI c ∧ clsI c ≤ 3 := by unfold clsI; split <;> (try split) <;> (try split) <;> omega
def blankL : Bool → List UInt8 → Nat
  | _, [] => 0
  | false, b :: l => if cls b = 1 then blankL false l + 1 else if b = 35 then blankL true l + 1 else 0
  | true, b :: l => if b = 10 then blankL false l + 1 else blankL true l + 1
theorem blankL_le : ∀ (m : Bool) (l : List UInt8), blankL m l ≤ l.length
  | _, [] => Nat.le_refl _
  | false, b :: l => by
    simp only [blankL]
    have h1 := blankL_le false l
    have h2 := blankL_le true l
    split
    · simp; omega
    · split
      · simp; omega
      · simp
  | true, b :: l => by
    simp only [blankL]
    have h1 := blankL_le false l
    have h2 := blankL_le true l
    split <;> simp <;> omega
def rest (s : ByteArray) (k : Nat) : List UInt8 := s.data.toList.drop k
theorem rest_len (s : ByteArray) (k : Nat) : (rest s k).length = s.size - k := by simp [rest]
theorem rest_cons (s : ByteArray) (k : Nat) (h : k < s.size) : rest s k = s[k] :: rest s (k + 1) := by
  unfold rest
  rw [List.drop_eq_getElem_cons (by simpa using h)]
  rfl
theorem rest_nil (s : ByteArray) (k : Nat) (h : s.size ≤ k) : rest s k = [] := by
  unfold rest
  exact List.drop_eq_nil_of_le (by simpa using h)
def spanTo (s : ByteArray) (k : Nat) (least : Int) : Nat := k + spanL least (rest s k)
theorem spanTo_le (s : ByteArray) (k : Nat) (least : Int) (hk : k ≤ s.size) : spanTo s k least ≤ s.size := by
  have := spanL_le least (rest s k)
  rw [rest_len] at this
  unfold spanTo; omega
theorem spanTo_ge (s : ByteArray) (k : Nat) (least : Int) : k ≤ spanTo s k least := by unfold spanTo; omega
def blankTo (s : ByteArray) (k : Nat) : Nat := k + blankL false (rest s k)
theorem blankTo_le (s : ByteArray) (k : Nat) (hk : k ≤ s.size) : blankTo s k ≤ s.size := by
  have := blankL_le false (rest s k)
  rw [rest_len] at this
  unfold blankTo; omega
theorem blankTo_ge (s : ByteArray) (k : Nat) : k ≤ blankTo s k := by unfold blankTo; omega
theorem blankTo_end (s : ByteArray) (k : Nat) (hk : s.size ≤ k) : blankTo s k = k := by
  unfold blankTo; rw [rest_nil s k hk]; rfl
theorem blankTo_blank (s : ByteArray) (k : Nat) (hk : k < s.size) (h : cls s[k] = 1) : blankTo s k = blankTo s (k + 1) := by
  unfold blankTo; rw [rest_cons s k hk]; simp only [blankL]; rw [if_pos h]; omega
theorem blankTo_stop (s : ByteArray) (k : Nat) (hk : k < s.size) (h : cls s[k] ≠ 1) (h2 : s[k] ≠ 35) : blankTo s k = k := by
  unfold blankTo; rw [rest_cons s k hk]; simp only [blankL]; rw [if_neg h, if_neg h2]; rfl
def inComment (s : ByteArray) (k : Nat) : Nat := k + blankL true (rest s k)
theorem blankTo_comment (s : ByteArray) (k : Nat) (hk : k < s.size) (h2 : s[k] = 35) : blankTo s k = inComment s (k + 1) := by
  unfold blankTo inComment
  rw [rest_cons s k hk]
  simp only [blankL]
  rw [if_neg (by rw [h2]; decide), if_pos h2]; omega
theorem inComment_end (s : ByteArray) (k : Nat) (hk : s.size ≤ k) : inComment s k = k := by
  unfold inComment; rw [rest_nil s k hk]; rfl
theorem inComment_line (s : ByteArray) (k : Nat) (hk : k < s.size) (h : s[k] = 10) : inComment s k = blankTo s k := by
  unfold inComment blankTo
  rw [rest_cons s k hk]
  simp only [blankL]
  rw [if_pos h, if_pos (by rw [h]; decide)]
theorem inComment_step (s : ByteArray) (k : Nat) (hk : k < s.size) (h : s[k] ≠ 10) : inComment s k = inComment s (k + 1) := by
  unfold inComment; rw [rest_cons s k hk]; simp only [blankL]; rw [if_neg h]; omega
theorem inComment_far (s : ByteArray) : ∀ (n k : Nat), k + n ≤ s.size → (∀ i (h : i < s.size), k ≤ i → i < k + n → s[i] ≠ 10) → inComment s k = inComment s (k + n)
  | 0, _, _, _ => rfl
  | n + 1, k, h, hn => by
    rw [inComment_step s k (by omega) (hn k (by omega) (Nat.le_refl _) (by omega)), inComment_far s n (k + 1) (by omega) (fun i hi h1 h2 => hn i hi (by omega) (by omega))]
    congr 1; omega
theorem indexByte_spec (c : UInt8) : ∀ (l : List UInt8), (Lib.indexByte l c = -1 ∧ ∀ b ∈ l, b ≠ c) ∨ ∃ n : Nat, Lib.indexByte l c = n ∧ l[n]? = some c ∧ ∀ i b, i < n → l[i]? = some b → b ≠ c
  | [] => .inl ⟨rfl, fun _ h => by cases h⟩
  | b :: l => by
    by_cases h : b = c
    · subst h
      exact .inr ⟨0, by simp [Lib.indexByte], rfl, fun _ _ h => by omega⟩
    · have hb : (b == c) = false := by simpa using h
      rcases indexByte_spec c l with ⟨h1, h2⟩ | ⟨n, h1, h2, h3⟩
      · refine .inl ⟨by simp [Lib.indexByte, hb, h1], fun x hx => ?_⟩
        rcases List.mem_cons.1 hx with rfl | hx
        · exact h
        · exact h2 x hx
      · refine .inr ⟨n + 1, ?_, by simpa using h2, fun i x hi hx => ?_⟩
        · simp only [Lib.indexByte, hb]
          rw [h1]
          have : ((n : Int) == -1) = false := by simp
          simp [this]
        · cases i with
          | zero => simp at hx; subst hx; exact h
          | succ i => exact h3 i x (by omega) (by simpa using hx)
theorem rest_get (s : ByteArray) (k i : Nat) (h : k + i < s.size) : (rest s k)[i]? = some s[k + i] := by
  unfold rest
  rw [List.getElem?_drop, List.getElem?_eq_getElem (by simpa using h)]
  rfl
theorem comment_skip (s : ByteArray) (j : Nat) (hj : j < s.size) (h : s[j] = 35) :
    (Lib.indexByte (rest s j) 10 = -1 ∧ blankTo s j = s.size) ∨ ∃ n : Nat, Lib.indexByte (rest s j) 10 = n ∧ 0 < n ∧ j + n < s.size ∧ blankTo s j = blankTo s (j + n) := by
  have e0 : blankTo s j = inComment s j := by
    rw [blankTo_comment s j hj h, ← inComment_step s j hj (by rw [h]; decide)]
  rcases indexByte_spec 10 (rest s j) with ⟨h1, h2⟩ | ⟨n, h1, h2, h3⟩
  · refine .inl ⟨h1, ?_⟩
    rw [e0, inComment_far s (s.size - j) j (by omega) (fun i hi h4 h5 => ?_), inComment_end s _ (by omega)]
    · omega
    · refine h2 _ (List.mem_of_getElem? (i := i - j) ?_)
      rw [rest_get s j (i - j) (by omega)]
      congr 2; omega
  · have hlt : n < (rest s j).length := (List.getElem?_eq_some_iff.1 h2).1
    rw [rest_len] at hlt
    refine .inr ⟨n, h1, ?_, by omega, ?_⟩
    · rcases Nat.eq_zero_or_pos n with h0 | h0
      · subst h0
        rw [rest_get s j 0 (by omega)] at h2
        simp [h] at h2
      · exact h0
    · rw [rest_get s j n (by omega)] at h2
      rw [e0, inComment_far s n j (by omega) (fun i hi h4 h5 => ?_), inComment_line s (j + n) (by omega) (by simpa using h2)]
      refine h3 (i - j) _ (by omega) ?_
      rw [rest_get s j (i - j) (by omega)]
      congr 2; omega
structure Tok where
  kind : Int
  at_ : Int
  s : ByteArray
  n : Int
end Go.Proofs.YtjijdgkccfeeaaaGreatDoor
namespace Go.Proofs.YtjijdgkccfeeaaaGreatDoor
open Go Go.Proofs
inductive Ex where
  | mk (op n : Int) (s : ByteArray) (kids : List Ex) (at_ : Int)
def Ex.at_ : Ex → Int | .mk _ _ _ _ a => a
def noB : ByteArray := ⟨#[]⟩
structure Ar where
  kind : Int
  n : Int
  s : ByteArray
  e : Ex
  at_ : Int
inductive Fm where
  | mk (word : ByteArray) (args : List Ar) (body : List Fm) (at_ : Int)
inductive PR (α : Type) where
  | ok (x : α) (k : Nat)
  | err (k : Nat) (e : Int)
def noEx : Ex := .mk 0 0 noB [] 0
def isS (t : Tok) (s : ByteArray) : Bool := t.kind == 4 && t.s.data.toList == s.data.toList
def beginsT (t : Tok) : Bool := t.kind == 1 || t.kind == 2 || t.kind == 3 || isS t ⟨#[40]⟩ || isS t ⟨#[45]⟩
def firstP (t : Tok) (d : Int) (no : Bool) : Option Int := if !beginsT t && !(no && isS t ⟨#[33]⟩) then some 5 else if 30 < d then some 2 else none
def opRows : List (ByteArray × Int × Nat) := [(⟨#[42]⟩, 7, 6), (⟨#[47]⟩, 8, 6), (⟨#[37]⟩, 9, 6), (⟨#[43]⟩, 10, 5), (⟨#[45]⟩, 11, 5), (⟨#[61, 61]⟩, 12, 4), (⟨#[33, 61]⟩, 13, 4), (⟨#[60]⟩, 14, 4), (⟨#[60, 61]⟩, 15, 4), (⟨#[62]⟩, 16, 4), (⟨#[62, 61]⟩, 17, 4), (⟨#[38, 38]⟩, 18, 2), (⟨#[124, 124]⟩, 19, 1)]
def opAt (n : Nat) (t : Tok) : Option Int := (opRows.find? fun r => r.2.2 == n && isS t r.1).map (·.2.1)
inductive Qn where
  | expr
  | level (n : Nat)
  | loop (n : Nat) (x : Ex)
  | neg
  | atom
  | args (t : Tok) (kids : List Ex)
def PR.then_ {α β : Type} (r : Option (PR α)) (f : α → Nat → Option (PR β)) : Option (PR β) :=
  match r with
  | none => none
  | some (.err k e) => some (.err k e)
  | some (.ok x k) => f x k
def runF (ts : List Tok) : Nat → Qn → Nat → Int → Option (PR Ex)
  | 0, _, _, _ => none
  | f + 1, q, k, d =>
    match ts[k]? with
    | none => none
    | some t =>
      match q with
      | .expr =>
        match firstP t d true with
        | some c => some (.err k c)
        | none => PR.then_ (runF ts f (.level 1) k d) fun x j =>
          match ts[j]? with
          | none => none
          | some u => if !isS u ⟨#[63]⟩ then some (.ok x j) else
            PR.then_ (runF ts f .expr (j + 1) (d + 1)) fun a j2 =>
              match ts[j2]? with
              | none => none
              | some v => if !isS v ⟨#[58]⟩ then some (.err j2 5) else
                PR.then_ (runF ts f .expr (j2 + 1) (d + 1)) fun b j3 => some (.ok (.mk 20 0 noB [x, a, b] x.at_) j3)
      | .level n =>
        if n = 3 then
          if isS t ⟨#[33]⟩ then
            match ts[k + 1]? with
            | none => none
            | some u =>
              match firstP u (d + 1) true with
              | some c => some (.err (k + 1) c)
              | none => PR.then_ (runF ts f (.level 3) (k + 1) (d + 1)) fun x j => some (.ok (.mk 5 0 noB [x] t.at_) j)
          else runF ts f (.level 4) k d
        else if n = 7 then runF ts f .neg k d
        else PR.then_ (runF ts f (.level (n + 1)) k d) fun x j => runF ts f (.loop n x) j d
      | .loop n x =>
        match opAt n t with
        | none => some (.ok x k)
        | some op => PR.then_ (runF ts f (.level (n + 1)) (k + 1) d) fun y j =>
          if n = 4 then some (.ok (.mk op 0 noB [x, y] x.at_) j) else runF ts f (.loop n (.mk op 0 noB [x, y] x.at_)) j d
      | .neg =>
        if isS t ⟨#[45]⟩ then
          match ts[k + 1]? with
          | none => none
          | some u =>
            match firstP u (d + 1) false with
            | some c => some (.err (k + 1) c)
            | none => PR.then_ (runF ts f .neg (k + 1) (d + 1)) fun x j => some (.ok (.mk 6 0 noB [x] t.at_) j)
        else runF ts f .atom k d
      | .atom =>
        if isS t ⟨#[40]⟩ then PR.then_ (runF ts f .expr (k + 1) (d + 1)) fun x j =>
          match ts[j]? with
          | none => none
          | some u => if isS u ⟨#[41]⟩ then some (.ok x (j + 1)) else some (.err j 5)
        else if t.kind = 2 then some (.ok (.mk 1 t.n noB [] t.at_) (k + 1))
        else if t.kind = 3 then some (.ok (.mk 2 0 t.s [] t.at_) (k + 1))
        else if t.kind = 1 then
          match ts[k + 1]? with
          | none => none
          | some u => if !isS u ⟨#[40]⟩ then some (.ok (.mk 3 0 t.s [] t.at_) (k + 1)) else
            match ts[k + 2]? with
            | none => none
            | some v => if isS v ⟨#[41]⟩ then some (.ok (.mk 4 0 t.s [] t.at_) (k + 3)) else runF ts f (.args t []) (k + 2) d
        else some (.err k 5)
      | .args t0 kids =>
        if kids.length = 40 then some (.err k ((firstP t 0 true).getD 2))
        else PR.then_ (runF ts f .expr k (d + 1)) fun x j =>
          match ts[j]? with
          | none => none
          | some u => if isS u ⟨#[41]⟩ then some (.ok (.mk 4 0 t0.s (kids ++ [x]) t0.at_) (j + 1))
            else if isS u ⟨#[44]⟩ then runF ts f (.args t0 (kids ++ [x])) (j + 1) d
            else some (.err j 5)
def argF (ts : List Tok) (f : Nat) (k : Nat) : Option (PR Ar) :=
  match ts[k]? with
  | none => none
  | some t =>
    if t.kind = 1 ∨ t.kind = 3 then some (.ok ⟨t.kind, 0, t.s, noEx, t.at_⟩ (k + 1))
    else if t.kind = 2 then some (.ok ⟨2, t.n, noB, noEx, t.at_⟩ (k + 1))
    else if isS t ⟨#[45, 62]⟩ then some (.ok ⟨4, 0, noB, noEx, t.at_⟩ (k + 1))
    else if isS t ⟨#[45]⟩ then
      match ts[k + 1]? with
      | none => none
      | some u => if u.kind = 2 then some (.ok ⟨2, -u.n, noB, noEx, t.at_⟩ (k + 2)) else some (.err (k + 1) 5)
    else PR.then_ (runF ts f .expr (k + 1) 1) fun x j =>
      match ts[j]? with
      | none => none
      | some u => if isS u ⟨#[41]⟩ then some (.ok ⟨5, 0, noB, x, t.at_⟩ (j + 1)) else some (.err j 5)
inductive Qf where
  | form
  | args (t : Tok) (as_ : List Ar)
  | body (t : Tok) (as_ : List Ar) (fs : List Fm)
def formF (ts : List Tok) : Nat → Qf → Nat → Int → Nat → Option (PR (Fm × Nat))
  | 0, _, _, _, _ => none
  | f + 1, q, k, d, n =>
    match ts[k]? with
    | none => none
    | some t =>
      match q with
      | .form => if t.kind ≠ 1 then some (.err k 5) else if 30 < d ∨ 2000 ≤ n then some (.err k 2) else formF ts f (.args t []) (k + 1) d (n + 1)
      | .args t0 as_ =>
        if isS t ⟨#[59]⟩ then some (.ok (.mk t0.s as_ [] t0.at_, n) (k + 1))
        else if isS t ⟨#[123]⟩ then formF ts f (.body t0 as_ []) (k + 1) d n
        else if !beginsT t && !isS t ⟨#[45, 62]⟩ then some (.err k 5)
        else if as_.length = 40 then some (.err k 2)
        else PR.then_ (argF ts f k) fun a j => formF ts f (.args t0 (as_ ++ [a])) j d n
      | .body t0 as_ fs =>
        if isS t ⟨#[125]⟩ then some (.ok (.mk t0.s as_ fs t0.at_, n) (k + 1))
        else PR.then_ (formF ts f .form k (d + 1) n) fun x j => formF ts f (.body t0 as_ (fs ++ [x.1])) j d x.2
def formsF (ts : List Tok) : Nat → Nat → Nat → List Fm → Option (PR (List Fm))
  | 0, _, _, _ => none
  | f + 1, k, n, fs =>
    match ts[k]? with
    | none => none
    | some t => if t.kind = 5 then some (.ok fs k) else PR.then_ (formF ts f .form k 1 n) fun x j => formsF ts f j x.2 (fs ++ [x.1])
end Go.Proofs.YtjijdgkccfeeaaaGreatDoor
namespace Go.Proofs.YtjijdgkccfeeaaaGreatDoor
open Go Go.Proofs
structure TokOK (ts : List Tok) : Prop where
  next : ∀ (k : Nat) (t : Tok), ts[k]? = some t → t.kind ≠ 5 → k + 1 < ts.length
  zero : ∀ (k : Nat) (t : Tok), ts[k]? = some t → t.kind = 1 ∨ t.kind = 3 ∨ t.kind = 4 → t.n = 0
  none_ : ∀ (k : Nat) (t : Tok), ts[k]? = some t → t.kind = 2 → t.s = noB ∧ 0 ≤ t.n ∧ t.n ≤ 999999999999999
  len : ts.length ≤ 65537
theorem isS_kind {t : Tok} {s : ByteArray} (h : isS t s = true) : t.kind = 4 := by
  unfold isS at h; simp at h; exact h.1
theorem isS_s {t : Tok} {s : ByteArray} (h : isS t s = true) : t.s = s := by
  unfold isS at h; simp at h
  cases s
  have h2 := h.2
  simp at h2
  subst h2
  rfl
theorem opAt_isS {n : Nat} {t : Tok} {op : Int} (h : opAt n t = some op) : ∃ s, isS t s = true := by
  unfold opAt at h
  obtain ⟨r, hr, -⟩ := Option.map_eq_some_iff.1 h
  have := List.find?_some hr
  simp at this
  exact ⟨_, this.2⟩
theorem TokOK.sign {ts : List Tok} (h : TokOK ts) {k : Nat} {t : Tok} {s : ByteArray} (ht : ts[k]? = some t) (hs : isS t s = true) : k + 1 < ts.length := h.next k t ht (by rw [isS_kind hs]; decide)
theorem PR.then_some {α β : Type} {r : Option (PR α)} {g : α → Nat → Option (PR β)} {y : PR β} (h : PR.then_ r g = some y) :
    (∃ k e, r = some (.err k e) ∧ y = .err k e) ∨ ∃ x j, r = some (.ok x j) ∧ g x j = some y := by
  unfold PR.then_ at h
  split at h
  · cases h
  · cases h; exact .inl ⟨_, _, rfl, rfl⟩
  · exact .inr ⟨_, _, rfl, h⟩
theorem firstP_ne {t : Tok} {d c : Int} {no : Bool} (h : firstP t d no = some c) : c = 5 ∨ c = 2 := by
  unfold firstP at h
  split at h
  · cases h; exact .inl rfl
  · split at h
    · cases h; exact .inr rfl
    · cases h
def Fits {α : Type} (n k : Nat) : PR α → Prop
  | .ok _ j => k ≤ j ∧ j < n
  | .err j c => j < n ∧ (c = 5 ∨ c = 2)
theorem Fits.up {α : Type} {n k k' : Nat} {r : PR α} (h : Fits n k r) (hk : k' ≤ k) : Fits n k' r := by
  cases r with
  | ok x j => exact ⟨Nat.le_trans hk h.1, h.2⟩
  | err j c => exact h
theorem then_fits {α β : Type} {n k k' : Nat} {r : Option (PR α)} {g : α → Nat → Option (PR β)} {y : PR β} (h : PR.then_ r g = some y) (hr : ∀ z, r = some z → Fits n k z) (hg : ∀ x j, r = some (.ok x j) → k ≤ j → j < n → g x j = some y → Fits n k' y) : Fits n k' y := by
  rcases PR.then_some h with ⟨j, e, h1, rfl⟩ | ⟨x, j, h1, h2⟩
  · exact (hr _ h1 : _ ∧ _)
  · exact hg x j h1 (hr _ h1).1 (hr _ h1).2 h2
theorem lt_of_some {α : Type} {l : List α} {k : Nat} {t : α} (h : l[k]? = some t) : k < l.length := (List.getElem?_eq_some_iff.1 h).1
theorem run_fits {ts : List Tok} (ok : TokOK ts) : ∀ (f : Nat) (q : Qn) (k : Nat) (d : Int) (r : PR Ex), runF ts f q k d = some r → Fits ts.length k r := by
  intro f
  induction f with
  | zero => intro q k d r h; cases q <;> simp [runF] at h
  | succ f ih =>
    intro q k d r h
    unfold runF at h
    split at h
    · cases h
    rename_i t ht
    have hk := lt_of_some ht
    split at h
    · 
      split at h
      · rename_i c hc; cases h; exact ⟨hk, firstP_ne hc⟩
      · refine then_fits h (fun z hz => ih _ _ _ _ hz) fun x j _ hj hjn h => ?_
        split at h
        · cases h
        rename_i u hu
        split at h
        · cases h; exact ⟨hj, hjn⟩
        · rename_i hq
          refine then_fits h (fun z hz => ih _ _ _ _ hz) fun a j2 _ hj2 hj2n h => ?_
          split at h
          · cases h
          rename_i v hv
          split at h
          · cases h; exact ⟨hj2n, .inl rfl⟩
          · refine then_fits h (fun z hz => ih _ _ _ _ hz) fun b j3 _ hj3 hj3n h => ?_
            cases h; exact ⟨by omega, hj3n⟩
    · 
      rename_i n
      split at h
      · split at h
        · split at h
          · cases h
          rename_i u hu
          split at h
          · rename_i c hc; cases h; exact ⟨lt_of_some hu, firstP_ne hc⟩
          · refine then_fits h (fun z hz => ih _ _ _ _ hz) fun x j _ hj hjn h => ?_
            cases h; exact ⟨by omega, hjn⟩
        · exact ih _ _ _ _ h
      · split at h
        · exact ih _ _ _ _ h
        · refine then_fits h (fun z hz => ih _ _ _ _ hz) fun x j _ hj hjn h => ?_
          exact (ih _ _ _ _ h).up hj
    · 
      rename_i n x
      split at h
      · cases h; exact ⟨Nat.le_refl _, hk⟩
      · refine then_fits h (fun z hz => ih _ _ _ _ hz) fun y j _ hj hjn h => ?_
        split at h
        · cases h; exact ⟨by omega, hjn⟩
        · exact (ih _ _ _ _ h).up (by omega)
    · 
      split at h
      · split at h
        · cases h
        rename_i u hu
        split at h
        · rename_i c hc; cases h; exact ⟨lt_of_some hu, firstP_ne hc⟩
        · refine then_fits h (fun z hz => ih _ _ _ _ hz) fun x j _ hj hjn h => ?_
          cases h; exact ⟨by omega, hjn⟩
      · exact ih _ _ _ _ h
    · 
      split at h
      · refine then_fits h (fun z hz => ih _ _ _ _ hz) fun x j _ hj hjn h => ?_
        split at h
        · cases h
        rename_i u hu
        split at h
        · rename_i hs; cases h; exact ⟨by omega, ok.sign hu hs⟩
        · cases h; exact ⟨hjn, .inl rfl⟩
      · split at h
        · rename_i h2; cases h; exact ⟨by omega, ok.next _ _ ht (by rw [h2]; decide)⟩
        · split at h
          · rename_i h2; cases h; exact ⟨by omega, ok.next _ _ ht (by rw [h2]; decide)⟩
          · split at h
            · split at h
              · cases h
              rename_i u hu
              split at h
              · cases h; exact ⟨by omega, lt_of_some hu⟩
              · split at h
                · cases h
                rename_i v hv
                split at h
                · rename_i hs; cases h; exact ⟨by omega, ok.sign hv hs⟩
                · exact (ih _ _ _ _ h).up (by omega)
            · cases h; exact ⟨hk, .inl rfl⟩
    · 
      rename_i t0 kids
      split at h
      · cases h
        refine ⟨hk, ?_⟩
        cases hc : firstP t 0 true with
        | none => exact .inr rfl
        | some c => exact firstP_ne hc
      · refine then_fits h (fun z hz => ih _ _ _ _ hz) fun x j _ hj hjn h => ?_
        split at h
        · cases h
        rename_i u hu
        split at h
        · rename_i hs; cases h; exact ⟨by omega, ok.sign hu hs⟩
        · split at h
          · exact (ih _ _ _ _ h).up (by omega)
          · cases h; exact ⟨hjn, .inl rfl⟩
def QOK : Qn → Prop
  | .level n => n ≤ 7
  | .loop n _ => n ≤ 6
  | _ => True
def rankQ : Qn → Nat
  | .expr => 12
  | .level n => 11 - n
  | .loop _ _ => 1
  | .neg => 3
  | .atom => 2
  | .args _ _ => 13
def measQ (ts : List Tok) (q : Qn) (k : Nat) : Nat := (ts.length - k) * 16 + rankQ q
theorem then_total {α β : Type} {r : Option (PR α)} {g : α → Nat → Option (PR β)} (hr : ∃ z, r = some z) (hg : ∀ x j, r = some (.ok x j) → ∃ y, g x j = some y) : ∃ y, PR.then_ r g = some y := by
  obtain ⟨z, rfl⟩ := hr
  cases z with
  | err k e => exact ⟨_, rfl⟩
  | ok x j => exact hg x j rfl
theorem some_of_lt {α : Type} {l : List α} {k : Nat} (h : k < l.length) : ∃ t, l[k]? = some t := ⟨l[k], List.getElem?_eq_getElem h⟩
theorem run_total {ts : List Tok} (ok : TokOK ts) : ∀ (f : Nat) (q : Qn) (k : Nat) (d : Int), QOK q → k < ts.length → measQ ts q k < f → ∃ r, runF ts f q k d = some r := by
  intro f
  induction f with
  | zero => intro q k d _ _ h; omega
  | succ f ih =>
    intro q k d hq hk hf
    obtain ⟨t, ht⟩ := some_of_lt hk
    have fits := fun q k d z h => run_fits ok f q k d z h
    unfold measQ at hf ih
    unfold runF
    rw [ht]
    cases q with
    | expr =>
      simp only [rankQ] at hf
      dsimp only
      split
      · exact ⟨_, rfl⟩
      · refine then_total (ih _ _ _ (by simp [QOK]) hk (by simp [rankQ]; omega)) fun x j hx => ?_
        have h1 : k ≤ j ∧ j < ts.length := fits _ _ _ _ hx
        obtain ⟨u, hu⟩ := some_of_lt h1.2
        rw [hu]
        dsimp only
        split
        · exact ⟨_, rfl⟩
        · rename_i hs
          have hs2 : isS u ⟨#[63]⟩ = true := by simpa using hs
          have h2 := ok.sign hu hs2
          refine then_total (ih _ _ _ trivial h2 (by simp [rankQ]; omega)) fun a j2 ha => ?_
          have h3 : j + 1 ≤ j2 ∧ j2 < ts.length := fits _ _ _ _ ha
          obtain ⟨v, hv⟩ := some_of_lt h3.2
          rw [hv]
          dsimp only
          split
          · exact ⟨_, rfl⟩
          · rename_i hs
            have hs2 : isS v ⟨#[58]⟩ = true := by simpa using hs
            have h4 := ok.sign hv hs2
            exact then_total (ih _ _ _ trivial h4 (by simp [rankQ]; omega)) fun b j3 hb => ⟨_, rfl⟩
    | level n =>
      simp only [rankQ, QOK] at hf hq
      dsimp only
      split
      · rename_i h3
        split
        · rename_i hs
          have h2 := ok.sign ht hs
          obtain ⟨u, hu⟩ := some_of_lt h2
          rw [hu]
          dsimp only
          split
          · exact ⟨_, rfl⟩
          · exact then_total (ih _ _ _ (by simp [QOK]) h2 (by simp [rankQ]; omega)) fun x j hx => ⟨_, rfl⟩
        · exact ih _ _ _ (by simp [QOK]) hk (by simp [rankQ]; omega)
      · split
        · exact ih _ _ _ trivial hk (by simp [rankQ]; omega)
        · refine then_total (ih _ _ _ (by simp [QOK]; omega) hk (by simp [rankQ]; omega)) fun x j hx => ?_
          have h1 : k ≤ j ∧ j < ts.length := fits _ _ _ _ hx
          exact ih _ _ _ (by simp [QOK]; omega) h1.2 (by simp [rankQ]; omega)
    | loop n x =>
      simp only [rankQ, QOK] at hf hq
      dsimp only
      cases ho : opAt n t with
      | none => exact ⟨_, rfl⟩
      | some op =>
        dsimp only
        obtain ⟨s, hs⟩ := opAt_isS ho
        have h2 := ok.sign ht hs
        refine then_total (ih _ _ _ (by simp [QOK]; omega) h2 (by simp [rankQ]; omega)) fun y j hy => ?_
        have h1 : k + 1 ≤ j ∧ j < ts.length := fits _ _ _ _ hy
        split
        · exact ⟨_, rfl⟩
        · exact ih _ _ _ hq h1.2 (by simp [rankQ]; omega)
    | neg =>
      simp only [rankQ] at hf
      dsimp only
      split
      · rename_i hs
        have h2 := ok.sign ht hs
        obtain ⟨u, hu⟩ := some_of_lt h2
        rw [hu]
        dsimp only
        split
        · exact ⟨_, rfl⟩
        · exact then_total (ih _ _ _ trivial h2 (by simp [rankQ]; omega)) fun x j hx => ⟨_, rfl⟩
      · exact ih _ _ _ trivial hk (by simp [rankQ]; omega)
    | atom =>
      simp only [rankQ] at hf
      dsimp only
      split
      · rename_i hs
        have h2 := ok.sign ht hs
        refine then_total (ih _ _ _ trivial h2 (by simp [rankQ]; omega)) fun x j hx => ?_
        have h1 : k + 1 ≤ j ∧ j < ts.length := fits _ _ _ _ hx
        obtain ⟨u, hu⟩ := some_of_lt h1.2
        rw [hu]
        dsimp only
        split
        · exact ⟨_, rfl⟩
        · exact ⟨_, rfl⟩
      · split
        · exact ⟨_, rfl⟩
        · split
          · exact ⟨_, rfl⟩
          · split
            · rename_i h1
              have h2 := ok.next _ _ ht (by rw [h1]; decide)
              obtain ⟨u, hu⟩ := some_of_lt h2
              rw [hu]
              dsimp only
              split
              · exact ⟨_, rfl⟩
              · rename_i hs
                have hs2 : isS u ⟨#[40]⟩ = true := by simpa using hs
                have h3 := ok.sign hu hs2
                obtain ⟨v, hv⟩ := some_of_lt (show k + 2 < ts.length by omega)
                rw [hv]
                dsimp only
                split
                · exact ⟨_, rfl⟩
                · exact ih _ _ _ trivial h3 (by simp [rankQ]; omega)
            · exact ⟨_, rfl⟩
    | args t0 kids =>
      simp only [rankQ] at hf
      dsimp only
      split
      · exact ⟨_, rfl⟩
      · refine then_total (ih _ _ _ trivial hk (by simp [rankQ]; omega)) fun x j hx => ?_
        have h1 : k ≤ j ∧ j < ts.length := fits _ _ _ _ hx
        obtain ⟨u, hu⟩ := some_of_lt h1.2
        rw [hu]
        dsimp only
        split
        · exact ⟨_, rfl⟩
        · split
          · rename_i hs
            exact ih _ _ _ trivial (ok.sign hu hs) (by simp [rankQ]; omega)
          · exact ⟨_, rfl⟩
theorem arg_fits {ts : List Tok} (ok : TokOK ts) {f k : Nat} {r : PR Ar} (h : argF ts f k = some r) (hb : ∀ t, ts[k]? = some t → beginsT t = true ∨ isS t ⟨#[45, 62]⟩ = true) : Fits ts.length (k + 1) r := by
  unfold argF at h
  split at h
  · cases h
  rename_i t ht
  have hk := lt_of_some ht
  have hb := hb t ht
  split at h
  · rename_i h1; cases h; exact ⟨Nat.le_refl _, ok.next _ _ ht (by rcases h1 with h1 | h1 <;> (rw [h1]; decide))⟩
  · split at h
    · rename_i h1; cases h; exact ⟨Nat.le_refl _, ok.next _ _ ht (by rw [h1]; decide)⟩
    · split at h
      · rename_i hs; cases h; exact ⟨Nat.le_refl _, ok.sign ht hs⟩
      · split at h
        · split at h
          · cases h
          rename_i u hu
          split at h
          · rename_i h2; cases h; exact ⟨by omega, ok.next _ _ hu (by rw [h2]; decide)⟩
          · cases h; exact ⟨lt_of_some hu, .inl rfl⟩
        · refine then_fits h (fun z hz => run_fits ok _ _ _ _ _ hz) fun x j _ hj hjn h => ?_
          split at h
          · cases h
          rename_i u hu
          split at h
          · rename_i hs; cases h; exact ⟨by omega, ok.sign hu hs⟩
          · cases h; exact ⟨hjn, .inl rfl⟩
theorem arg_total {ts : List Tok} (ok : TokOK ts) {f k : Nat} (hk : k < ts.length) (hb : ∀ t, ts[k]? = some t → beginsT t = true ∨ isS t ⟨#[45, 62]⟩ = true) (hf : (ts.length - k) * 16 ≤ f) : ∃ r, argF ts f k = some r := by
  obtain ⟨t, ht⟩ := some_of_lt hk
  have hb := hb t ht
  unfold argF
  rw [ht]
  dsimp only
  split
  · exact ⟨_, rfl⟩
  split
  · exact ⟨_, rfl⟩
  split
  · exact ⟨_, rfl⟩
  split
  · rename_i hs
    obtain ⟨u, hu⟩ := some_of_lt (ok.sign ht hs)
    rw [hu]
    dsimp only
    split <;> exact ⟨_, rfl⟩
  · rename_i h1 h2 h3 h4
    have h5 : t.kind = 4 := by
      rcases hb with hb | hb
      · unfold beginsT at hb
        simp only [Bool.or_eq_true, beq_iff_eq] at hb
        rcases hb with (((hb | hb) | hb) | hb) | hb
        · exact absurd (.inl hb) h1
        · exact absurd hb h2
        · exact absurd (.inr hb) h1
        · exact isS_kind hb
        · exact isS_kind hb
      · exact isS_kind hb
    have h6 := ok.next _ _ ht (by rw [h5]; decide)
    refine then_total (run_total ok f .expr (k + 1) 1 trivial h6 (by simp [measQ, rankQ]; omega)) fun x j hx => ?_
    have h7 : k + 1 ≤ j ∧ j < ts.length := run_fits ok _ _ _ _ _ hx
    obtain ⟨u, hu⟩ := some_of_lt h7.2
    rw [hu]
    dsimp only
    split <;> exact ⟨_, rfl⟩
def advF : Qf → Nat
  | .form => 1
  | _ => 0
def QfOK (n : Nat) : Qf → Prop
  | .form => True
  | .args _ as_ => as_.length ≤ 40 ∧ n ≤ 2000
  | .body _ as_ fs => as_.length ≤ 40 ∧ fs.length ≤ n ∧ n ≤ 2000
def CountsQ (q : Qf) (n : Nat) : PR (Fm × Nat) → Prop
  | .ok x _ => (match q with | .form => n < x.2 | _ => n ≤ x.2) ∧ x.2 ≤ 2000
  | .err _ _ => True
theorem form_fits {ts : List Tok} (ok : TokOK ts) : ∀ (f : Nat) (q : Qf) (k : Nat) (d : Int) (n : Nat) (r : PR (Fm × Nat)), formF ts f q k d n = some r → Fits ts.length (k + advF q) r ∧ (QfOK n q → CountsQ q n r) := by
  intro f
  induction f with
  | zero => intro q k d n r h; cases q <;> simp [formF] at h
  | succ f ih =>
    intro q k d n r h
    unfold formF at h
    split at h
    · cases h
    rename_i t ht
    have hk := lt_of_some ht
    split at h
    · 
      split at h
      · cases h; exact ⟨⟨hk, .inl rfl⟩, fun _ => trivial⟩
      · split at h
        · cases h; exact ⟨⟨hk, .inr rfl⟩, fun _ => trivial⟩
        · rename_i h1 h2
          obtain ⟨i1, i2⟩ := ih _ _ _ _ _ h
          refine ⟨i1.up (by simp [advF]), fun _ => ?_⟩
          have i3 := i2 (by simp [QfOK]; omega)
          cases r with
          | err _ _ => trivial
          | ok x j => exact ⟨by have := i3.1; simp only at this ⊢; omega, i3.2⟩
    · 
      rename_i t0 as_
      split at h
      · rename_i hs; cases h; exact ⟨⟨by simp [advF], ok.sign ht hs⟩, fun hq => ⟨Nat.le_refl _, hq.2⟩⟩
      · split at h
        · obtain ⟨i1, i2⟩ := ih _ _ _ _ _ h
          refine ⟨i1.up (by simp [advF]; try omega), fun hq => ?_⟩
          have i3 := i2 ⟨hq.1, by simp, hq.2⟩
          cases r with
          | err _ _ => trivial
          | ok x j => exact i3
        · split at h
          · cases h; exact ⟨⟨hk, .inl rfl⟩, fun _ => trivial⟩
          · rename_i hb
            split at h
            · cases h; exact ⟨⟨hk, .inr rfl⟩, fun _ => trivial⟩
            · rename_i h40
              have hb2 : ∀ t, ts[k]? = some t → beginsT t = true ∨ isS t ⟨#[45, 62]⟩ = true := by
                intro t' ht'
                rw [ht] at ht'; cases ht'
                simp only [Bool.and_eq_true, Bool.not_eq_true', not_and, Bool.not_eq_false] at hb
                cases hbt : beginsT t with
                | true => exact .inl rfl
                | false => exact .inr (hb hbt)
              rcases PR.then_some h with ⟨j, e, h1, rfl⟩ | ⟨x, j, h1, h2⟩
              · exact ⟨(arg_fits ok h1 hb2 : _ ∧ _), fun _ => trivial⟩
              · have h3 : k + 1 ≤ j ∧ j < ts.length := arg_fits ok h1 hb2
                obtain ⟨i1, i2⟩ := ih _ _ _ _ _ h2
                refine ⟨i1.up (by simp [advF]; try omega), fun hq => ?_⟩
                have i3 := i2 ⟨by have := hq.1; simp; omega, hq.2⟩
                cases r with
                | err _ _ => trivial
                | ok x j => exact i3
    · 
      rename_i t0 as_ fs
      split at h
      · rename_i hs; cases h; exact ⟨⟨by simp [advF], ok.sign ht hs⟩, fun hq => ⟨Nat.le_refl _, hq.2.2⟩⟩
      · rcases PR.then_some h with ⟨j, e, h1, rfl⟩ | ⟨x, j, h1, h2⟩
        · exact ⟨((ih _ _ _ _ _ h1).1 : _ ∧ _), fun _ => trivial⟩
        · obtain ⟨j1, j2⟩ := ih _ _ _ _ _ h1
          have j3 := j2 trivial
          obtain ⟨i1, i2⟩ := ih _ _ _ _ _ h2
          refine ⟨i1.up (by have := j1.1; simp [advF] at *; omega), fun hq => ?_⟩
          have i3 := i2 ⟨hq.1, by have := j3.1; have := hq.2.1; simp only [List.length_append, List.length_singleton] at *; omega, j3.2⟩
          cases r with
          | err _ _ => trivial
          | ok y m => exact ⟨by have := j3.1; have := i3.1; simp only at *; omega, i3.2⟩
def rankF : Qf → Nat
  | .form => 15
  | .args _ _ => 16
  | .body _ _ _ => 17
theorem form_total {ts : List Tok} (ok : TokOK ts) : ∀ (f : Nat) (q : Qf) (k : Nat) (d : Int) (n : Nat), k < ts.length → (ts.length - k) * 32 + rankF q < f → ∃ r, formF ts f q k d n = some r := by
  intro f
  induction f with
  | zero => intro q k d n _ h; omega
  | succ f ih =>
    intro q k d n hk hf
    obtain ⟨t, ht⟩ := some_of_lt hk
    unfold formF
    rw [ht]
    cases q with
    | form =>
      simp only [rankF] at hf
      dsimp only
      split
      · exact ⟨_, rfl⟩
      · rename_i h1
        split
        · exact ⟨_, rfl⟩
        · exact ih _ _ _ _ (ok.next _ _ ht (by simp at h1; rw [h1]; decide)) (by simp [rankF]; omega)
    | args t0 as_ =>
      simp only [rankF] at hf
      dsimp only
      split
      · exact ⟨_, rfl⟩
      · split
        · rename_i hs
          exact ih _ _ _ _ (ok.sign ht hs) (by simp [rankF]; omega)
        · split
          · exact ⟨_, rfl⟩
          · rename_i hb
            split
            · exact ⟨_, rfl⟩
            · have hb2 : ∀ t, ts[k]? = some t → beginsT t = true ∨ isS t ⟨#[45, 62]⟩ = true := by
                intro t' ht'
                rw [ht] at ht'; cases ht'
                simp only [Bool.and_eq_true, Bool.not_eq_true', not_and, Bool.not_eq_false] at hb
                cases hbt : beginsT t with
                | true => exact .inl rfl
                | false => exact .inr (hb hbt)
              refine then_total (arg_total ok hk hb2 (by omega)) fun x j hx => ?_
              have h3 : k + 1 ≤ j ∧ j < ts.length := arg_fits ok hx hb2
              exact ih _ _ _ _ h3.2 (by simp [rankF]; omega)
    | body t0 as_ fs =>
      simp only [rankF] at hf
      dsimp only
      split
      · exact ⟨_, rfl⟩
      · rename_i hs0
        have hfm : ∃ r, formF ts f .form k (d + 1) n = some r := ih _ _ _ _ hk (by simp [rankF]; omega)
        refine then_total hfm fun x j hx => ?_
        have h5 : k + 1 ≤ j ∧ j < ts.length := (form_fits ok _ _ _ _ _ _ hx).1
        exact ih _ _ _ _ h5.2 (by simp [rankF]; omega)
theorem forms_total {ts : List Tok} (ok : TokOK ts) : ∀ (f k n : Nat) (fs : List Fm), k < ts.length → (ts.length - k) * 32 + 16 < f → ∃ r, formsF ts f k n fs = some r := by
  intro f
  induction f with
  | zero => intro k n fs _ h; omega
  | succ f ih =>
    intro k n fs hk hf
    obtain ⟨t, ht⟩ := some_of_lt hk
    unfold formsF
    rw [ht]
    dsimp only
    split
    · exact ⟨_, rfl⟩
    · refine then_total (form_total ok f .form k 1 n hk (by simp [rankF]; omega)) fun x j hx => ?_
      have h5 : k + 1 ≤ j ∧ j < ts.length := (form_fits ok _ _ _ _ _ _ hx).1
      exact ih _ _ _ h5.2 (by omega)
theorem forms_fits {ts : List Tok} (ok : TokOK ts) : ∀ (f k n : Nat) (fs : List Fm) (r : PR (List Fm)), formsF ts f k n fs = some r → Fits ts.length k r := by
  intro f
  induction f with
  | zero => intro k n fs r h; simp [formsF] at h
  | succ f ih =>
    intro k n fs r h
    unfold formsF at h
    split at h
    · cases h
    rename_i t ht
    split at h
    · cases h; exact ⟨Nat.le_refl _, lt_of_some ht⟩
    · rcases PR.then_some h with ⟨j, e, h1, rfl⟩ | ⟨x, j, h1, h2⟩
      · exact ((form_fits ok _ _ _ _ _ _ h1).1 : _ ∧ _)
      · have h5 : k + 1 ≤ j ∧ j < ts.length := (form_fits ok _ _ _ _ _ _ h1).1
        exact (ih _ _ _ _ h2).up (by omega)
end Go.Proofs.YtjijdgkccfeeaaaGreatDoor
namespace Go.Proofs.YtjijdgkccfeeaaaGreatDoor
open Go Go.Proofs Go.RowKit
structure Turned (C : Nat → Prop) (A B : World) : Prop where
  os : B.os = A.os
  tape : B.tape = A.tape
  output : B.output = A.output
  size : A.heap.size ≤ B.heap.size
  block : ∀ k, k < A.heap.size → ¬ C k → B.heap[k]? = A.heap[k]?
theorem Turned.refl (C : Nat → Prop) (A : World) : Turned C A A := ⟨rfl, rfl, rfl, Nat.le_refl _, fun _ _ _ => rfl⟩
theorem Turned.trans {C : Nat → Prop} {a b c : World} (h : Turned C a b) (k : Turned C b c) : Turned C a c :=
  ⟨k.os.trans h.os, k.tape.trans h.tape, k.output.trans h.output, Nat.le_trans h.size k.size, fun i hi hc => (k.block i (Nat.lt_of_lt_of_le hi h.size) hc).trans (h.block i hi hc)⟩
theorem Turned.mono {C C' : Nat → Prop} {a b : World} (h : Turned C a b) (hc : ∀ k, C k → C' k) : Turned C' a b := ⟨h.os, h.tape, h.output, h.size, fun i hi hn => h.block i hi (fun x => hn (hc i x))⟩
theorem Turned.alloc {C : Nat → Prop} {a w : World} (h : Turned C a w) (o : Obj) : Turned C a (w.alloc o) :=
  h.trans ⟨rfl, rfl, rfl, by simp, fun k hk _ => Below.heap_alloc _ _ _ hk⟩
theorem Turned.setCell {C : Nat → Prop} {a w : World} (h : Turned C a w) {p : Addr} (hp : C p.block) (u : Value) : Turned C a (w.setCell p u) :=
  h.trans ⟨rfl, rfl, rfl, by simp [World.setCell], fun k _ hn => Below.heap_setCell _ _ _ _ (fun e => hn (e ▸ hp))⟩
theorem Turned.drew {C : Nat → Prop} {a w : World} (h : Turned C a w) : Turned C a w.drew := ⟨h.os, h.tape, h.output, h.size, h.block⟩
theorem Turned.below {C : Nat → Prop} {a b : World} (h : Turned C a b) {B : Nat} (hB : B ≤ a.heap.size) (hc : ∀ k, C k → B ≤ k) : Below B a b := ⟨h.os, h.tape, h.output, h.size, fun k hk => h.block k (by omega) (fun x => by have := hc k x; omega)⟩
theorem Turned.of_new {C : Nat → Prop} {a b : World} (h : Below a.heap.size a b) : Turned C a b := ⟨h.os, h.tape, h.output, h.size, fun k hk _ => h.block k hk⟩
theorem Turned.cell {C : Nat → Prop} {a b : World} (h : Turned C a b) {p : Addr} (hp : p.block < a.heap.size) (hn : ¬ C p.block) : b.cell? p = a.cell? p := World.cell?_of_block (w := a) (h.block p.block hp hn)
theorem Turned.of_grown {C : Nat → Prop} {a b : World} {row : Option Nat} (h : a.grownBy b row) (hr : ∀ k, row = some k → C k) : Turned C a b :=
  ⟨h.os, h.tape, h.output, h.size, fun k hk hn => h.block k hk (fun e => hn (hr k e.symm))⟩
structure Kept (T : Nat → Prop) (A B : World) : Prop where
  size : A.heap.size ≤ B.heap.size
  block : ∀ k, T k → B.heap[k]? = A.heap[k]?
theorem Kept.refl (T : Nat → Prop) (A : World) : Kept T A A := ⟨Nat.le_refl _, fun _ _ => rfl⟩
theorem Kept.trans {T : Nat → Prop} {a b c : World} (h : Kept T a b) (k : Kept T b c) : Kept T a c := ⟨Nat.le_trans h.size k.size, fun i hi => (k.block i hi).trans (h.block i hi)⟩
end Go.Proofs.YtjijdgkccfeeaaaGreatDoor
namespace Go.Proofs.YtjijdgkccfeeaaaGreatDoor
open Go Go.Proofs Go.RowKit
theorem getElem?_lt {w : World} {k : Nat} {o : Obj} (h : w.heap[k]? = some o) : k < w.heap.size := (Array.getElem?_eq_some_iff.1 h).1
theorem ownsRow_turned {C : Nat → Prop} {A B : World} {base e size n : Nat} {v : Value} {xs : List Value} (ht : Turned C A B) (hC : ∀ k, C k → k < base) (h : A.ownsRow base e size v n xs) : B.ownsRow base e size v n xs := by
  obtain ⟨h1, h2⟩ := h
  refine ⟨h1, ?_⟩
  rcases h2 with h2 | ⟨g, cap, cur, hv, hg, hh, r⟩
  · exact .inl h2
  · exact .inr ⟨g, cap, cur, hv, hg, (ht.block g (getElem?_lt hh) (fun h => by have := hC g h; omega)).trans hh, r⟩
theorem ownsRow_block {A : World} {base e size n : Nat} {v : Value} {xs : List Value} (h : A.ownsRow base e size v n xs) : ∀ g, v.ownBlock = some g → base ≤ g ∧ g < A.heap.size := by
  intro g hg
  obtain ⟨-, h2⟩ := h
  rcases h2 with ⟨rfl, -⟩ | ⟨g', cap, cur, rfl, hb, hh, -⟩
  · simp [Value.ownBlock] at hg
  · simp [Value.ownBlock] at hg
    subst hg
    exact ⟨hb, getElem?_lt hh⟩
def Out {α : Type} (W : World) (B T base N e size : Nat) (enc : α → List Value) (bs : List α) : Prop :=
  ∃ v, W.heap[B]? = some (.cells #[v] T (0, 0)) ∧ W.ownsRow base e size v bs.length (bs.flatMap enc) ∧ (∀ g, v.ownBlock = some g → g < N) ∧ B < N
section
variable {α : Type} {W : World} {B T base N e size : Nat} {enc : α → List Value} {bs : List α}
theorem Out.mono {N' : Nat} (h : Out W B T base N e size enc bs) (hN : N ≤ N') : Out W B T base N' e size enc bs := by
  obtain ⟨v, h1, h2, h3, h4⟩ := h
  exact ⟨v, h1, h2, fun g hg => Nat.lt_of_lt_of_le (h3 g hg) hN, Nat.lt_of_lt_of_le h4 hN⟩
theorem Out.turned {C : Nat → Prop} {W' : World} (h : Out W B T base N e size enc bs) (ht : Turned C W W') (hC : ∀ k, C k → k < base ∧ k ≠ B) : Out W' B T base N e size enc bs := by
  obtain ⟨v, h1, h2, h3, h4⟩ := h
  exact ⟨v, (ht.block B (getElem?_lt h1) (fun hb => (hC B hb).2 rfl)).trans h1, ownsRow_turned ht (fun k hk => (hC k hk).1) h2, h3, h4⟩
theorem Out.start (h : W.heap[B]? = some (.cells #[.slice none 0 0] T (0, 0))) (hN : B < N) : Out W B T base N e size enc ([] : List α) :=
  ⟨_, h, ⟨by simp, .inl ⟨rfl, rfl⟩⟩, fun g hg => by simp [Value.ownBlock] at hg, hN⟩
end
theorem cell_of_box {W : World} {B T : Nat} {v : Value} (h : W.heap[B]? = some (.cells #[v] T (0, 0))) : W.cell? ⟨B, 0, none⟩ = some v := by simp [World.cell?, h]
theorem free_of_box {W : World} {B T : Nat} {cs : Array Value} (h : W.heap[B]? = some (.cells cs T (0, 0))) (o : Nat) : W.frozen? ⟨B, o, none⟩ = false := by simp [World.frozen?, h]
theorem box_setCell {W : World} {B T : Nat} {v : Value} (u : Value) (h : W.heap[B]? = some (.cells #[v] T (0, 0))) : (W.setCell ⟨B, 0, none⟩ u).heap[B]? = some (.cells #[u] T (0, 0)) := by
  simp [World.setCell, Array.getElem?_modify, h]
theorem flatMap_at {α : Type} (enc : α → List Value) (s : Nat) (henc : ∀ x, (enc x).length = s) : ∀ (bs : List α) (i j : Nat) (hi : i < bs.length), j < s → (bs.flatMap enc)[i * s + j]? = (enc bs[i])[j]?
  | [], i, j, hi, _ => by simp at hi
  | b :: bs, 0, j, _, hj => by
    simp only [List.flatMap_cons, Nat.zero_mul, Nat.zero_add, List.getElem_cons_zero]
    rw [List.getElem?_append_left (by rw [henc]; exact hj)]
  | b :: bs, i + 1, j, hi, hj => by
    simp only [List.flatMap_cons, List.getElem_cons_succ]
    rw [List.getElem?_append_right (by rw [henc, Nat.add_mul]; omega), henc, ← flatMap_at enc s henc bs i j (by simpa using hi) hj]
    congr 1
    rw [Nat.add_mul]; omega
theorem owns_shape {W : World} {base e s n : Nat} {xs : List Value} {v : Value} (h : W.ownsRow base e s v n xs) : ∃ a c, v = .slice a n c := by
  obtain ⟨-, ⟨rfl, rfl⟩ | ⟨g, cap, cur, rfl, -⟩⟩ := h
  · exact ⟨none, 0, rfl⟩
  · exact ⟨_, cap, rfl⟩
theorem owns_cell {α : Type} {W : World} {base e s : Nat} {enc : α → List Value} {bs : List α} {v : Value} (henc : ∀ x, (enc x).length = s) (h : W.ownsRow base e s v bs.length (bs.flatMap enc)) :
    (v = .slice none 0 0 ∧ bs = []) ∨ ∃ g cap, v = .slice (some ⟨g, 0, none⟩) bs.length cap ∧ bs.length ≤ cap ∧ cap ≤ maxLen ∧ base ≤ g ∧ g < W.heap.size ∧ ∀ (i j : Nat) (hi : i < bs.length), j < s → W.cell? ⟨g, 0 + i * s + j, none⟩ = (enc bs[i])[j]? := by
  obtain ⟨h1, h2⟩ := h
  rcases h2 with ⟨hv, hn⟩ | ⟨g, cap, cur, hv, hg, hh, hc1, hc2, hcs, ht⟩
  · exact .inl ⟨hv, List.length_eq_zero_iff.1 hn⟩
  · refine .inr ⟨g, cap, hv, hc1, hc2, hg, getElem?_lt hh, fun i j hi hj => ?_⟩
    have hlt : i * s + j < bs.length * s := by
      have : (i + 1) * s ≤ bs.length * s := Nat.mul_le_mul_right _ hi
      rw [Nat.add_mul] at this; omega
    rw [← flatMap_at enc s henc bs i j hi hj, ← ht, List.getElem?_take_of_lt hlt]
    simp [World.cell?, hh]
end Go.Proofs.YtjijdgkccfeeaaaGreatDoor
namespace Go.Proofs.YtjijdgkccfeeaaaGreatDoor
open Go Go.Proofs Go.RowKit
def Ex.op : Ex → Int | .mk o _ _ _ _ => o
def Ex.n : Ex → Int | .mk _ n _ _ _ => n
def Ex.s : Ex → ByteArray | .mk _ _ s _ _ => s
def Ex.kids : Ex → List Ex | .mk _ _ _ k _ => k
def Fm.word : Fm → ByteArray | .mk w _ _ _ => w
def Fm.args : Fm → List Ar | .mk _ a _ _ => a
def Fm.body : Fm → List Fm | .mk _ _ b _ => b
def Fm.at_ : Fm → Int | .mk _ _ _ a => a
def exV (x : Ex) (k : Value) : List Value := [(.int .i64 (x.op)), (.int .i64 (x.n)), .string x.s, k, (.int .i64 (x.at_))]
def arV (x : Ar) (k : Value) : List Value := [(.int .i64 (x.kind)), (.int .i64 (x.n)), .string x.s, (.int .i64 (x.e.op)), (.int .i64 (x.e.n)), .string x.e.s, k, (.int .i64 (x.e.at_)), (.int .i64 (x.at_))]
def fmV (x : Fm) (a b : Value) : List Value := [.string x.word, a, b, (.int .i64 (x.at_))]
def RowAt (W : World) (b a s : Nat) (n : Nat) (f : Nat → List Value) : Prop := ∀ i, i < n → ∀ j u, (f i)[j]? = some u → W.cell? ⟨b, a + i * s + j, none⟩ = some u
theorem cell_turned {C : Nat → Prop} {W W' : World} (h : Turned C W W') {b o : Nat} {u : Value} (hb : ¬ C b) (hc : W.cell? ⟨b, o, none⟩ = some u) : W'.cell? ⟨b, o, none⟩ = some u := by
  have hlt : b < W.heap.size := by
    rcases Nat.lt_or_ge b W.heap.size with h1 | h1
    · exact h1
    · simp [World.cell?, h1] at hc
  have hb2 := h.block b hlt hb
  simp only [World.cell?] at hc ⊢
  rw [hb2]
  exact hc
theorem RowAt.turned {C : Nat → Prop} {W W' : World} {b a s n : Nat} {f : Nat → List Value} (h : RowAt W b a s n f) (ht : Turned C W W') (hb : ¬ C b) : RowAt W' b a s n f := fun i hi j u hu => cell_turned ht hb (h i hi j u hu)
inductive KidsAt (W : World) (N : Nat → Prop) : List Ex → Value → Prop
  | nil (p : Option Addr) (c : Nat) : KidsAt W N [] (.slice p 0 c)
  | some (kids : List Ex) (b a c : Nat) (k : Nat → Value) (hN : N b) (hl : kids.length ≤ maxLen) (hcell : RowAt W b a 5 kids.length fun i => match kids[i]? with | .some x => exV x (k i) | .none => [])
      (hk : ∀ i x, kids[i]? = .some x → KidsAt W N x.kids (k i)) : KidsAt W N kids (.slice (some ⟨b, a, none⟩) kids.length c)
inductive ArgsAt (W : World) (N : Nat → Prop) : List Ar → Value → Prop
  | nil (p : Option Addr) (c : Nat) : ArgsAt W N [] (.slice p 0 c)
  | some (as_ : List Ar) (b a c : Nat) (k : Nat → Value) (hN : N b) (hl : as_.length ≤ maxLen) (hcell : RowAt W b a 9 as_.length fun i => match as_[i]? with | .some x => arV x (k i) | .none => [])
      (hk : ∀ i x, as_[i]? = .some x → KidsAt W N x.e.kids (k i)) : ArgsAt W N as_ (.slice (some ⟨b, a, none⟩) as_.length c)
inductive FormsAt (W : World) (N : Nat → Prop) : List Fm → Value → Prop
  | nil (p : Option Addr) (c : Nat) : FormsAt W N [] (.slice p 0 c)
  | some (fs : List Fm) (b a c : Nat) (k l : Nat → Value) (hN : N b) (hl : fs.length ≤ maxLen) (hcell : RowAt W b a 4 fs.length fun i => match fs[i]? with | .some x => fmV x (k i) (l i) | .none => [])
      (ha : ∀ i x, fs[i]? = .some x → ArgsAt W N x.args (k i)) (hb : ∀ i x, fs[i]? = .some x → FormsAt W N x.body (l i)) : FormsAt W N fs (.slice (some ⟨b, a, none⟩) fs.length c)
theorem KidsAt.move {W W' : World} {N M C : Nat → Prop} {l : List Ex} {v : Value} (h : KidsAt W N l v) (ht : Turned C W W') (hC : ∀ b, N b → ¬ C b) (hM : ∀ b, N b → b < W.heap.size → M b) : KidsAt W' M l v := by
  induction h with
  | nil p c => exact .nil p c
  | some kids b a c k hN hl hcell hk ih =>
    cases kids with
    | nil => exact .nil _ _
    | cons x xs =>
      have h0 := hcell 0 (by simp) 0 (.int .i64 (x.op)) (by simp [exV])
      have hlt : b < W.heap.size := by
        rcases Nat.lt_or_ge b W.heap.size with h1 | h1
        · exact h1
        · simp [World.cell?, h1] at h0
      exact .some _ b a c k (hM b hN hlt) hl (hcell.turned ht (hC b hN)) ih
theorem ArgsAt.move {W W' : World} {N M C : Nat → Prop} {l : List Ar} {v : Value} (h : ArgsAt W N l v) (ht : Turned C W W') (hC : ∀ b, N b → ¬ C b) (hM : ∀ b, N b → b < W.heap.size → M b) : ArgsAt W' M l v := by
  cases h with
  | nil p c => exact .nil p c
  | some _ b a c k hN hl hcell hk =>
    cases l with
    | nil => exact .nil _ _
    | cons x xs =>
      have h0 := hcell 0 (by simp) 0 (.int .i64 (x.kind)) (by simp [arV])
      have hlt : b < W.heap.size := by
        rcases Nat.lt_or_ge b W.heap.size with h1 | h1
        · exact h1
        · simp [World.cell?, h1] at h0
      exact .some _ b a c k (hM b hN hlt) hl (hcell.turned ht (hC b hN)) fun i x hx => (hk i x hx).move ht hC hM
theorem FormsAt.move {W W' : World} {N M C : Nat → Prop} {l : List Fm} {v : Value} (h : FormsAt W N l v) (ht : Turned C W W') (hC : ∀ b, N b → ¬ C b) (hM : ∀ b, N b → b < W.heap.size → M b) : FormsAt W' M l v := by
  induction h with
  | nil p c => exact .nil p c
  | some fs b a c k m hN hl hcell ha hb ih =>
    cases fs with
    | nil => exact .nil _ _
    | cons x xs =>
      have h0 := hcell 0 (by simp) 0 (.string x.word) (by simp [fmV])
      have hlt : b < W.heap.size := by
        rcases Nat.lt_or_ge b W.heap.size with h1 | h1
        · exact h1
        · simp [World.cell?, h1] at h0
      exact .some _ b a c k m (hM b hN hlt) hl (hcell.turned ht (hC b hN)) (fun i x hx => (ha i x hx).move ht hC hM) ih
theorem KidsAt.shape {W : World} {N : Nat → Prop} {l : List Ex} {v : Value} (h : KidsAt W N l v) : ∃ p c, v = .slice p l.length c := by
  cases h with
  | nil p c => exact ⟨p, c, rfl⟩
  | some => exact ⟨_, _, rfl⟩
theorem ArgsAt.shape {W : World} {N : Nat → Prop} {l : List Ar} {v : Value} (h : ArgsAt W N l v) : ∃ p c, v = .slice p l.length c := by
  cases h with
  | nil p c => exact ⟨p, c, rfl⟩
  | some => exact ⟨_, _, rfl⟩
theorem FormsAt.shape {W : World} {N : Nat → Prop} {l : List Fm} {v : Value} (h : FormsAt W N l v) : ∃ p c, v = .slice p l.length c := by
  cases h with
  | nil p c => exact ⟨p, c, rfl⟩
  | some => exact ⟨_, _, rfl⟩
theorem kids_of_owns {W : World} {base e n : Nat} {v : Value} {N : Nat → Prop} {ps : List (Ex × Value)} (h : W.ownsRow base e 5 v n (ps.flatMap fun p => exV p.1 p.2)) (hn : n = ps.length) (hN : ∀ g, v.ownBlock = some g → N g) (hk : ∀ p ∈ ps, KidsAt W N p.1.kids p.2) : KidsAt W N (ps.map (·.1)) v := by
  subst hn
  rcases owns_cell (enc := fun p : Ex × Value => exV p.1 p.2) (fun _ => rfl) h with ⟨rfl, rfl⟩ | ⟨g, cap, rfl, h1, h2, h3, h4, h5⟩
  · exact .nil _ _
  · have := KidsAt.some (W := W) (N := N) (ps.map (·.1)) g 0 cap (fun i => ((ps[i]?).map (·.2)).getD undef) (hN g (by simp [Value.ownBlock])) (by rw [List.length_map]; omega) (fun i hi j u hu => ?_) (fun i x hx => ?_)
    · simpa using this
    · simp only [List.length_map] at hi
      simp only [List.getElem?_map, List.getElem?_eq_getElem hi, Option.map_some, Option.getD_some] at hu
      have hj : j < 5 := by
        have := (List.getElem?_eq_some_iff.1 hu).1
        simpa [exV] using this
      rw [h5 i j hi hj]
      exact hu
    · simp only [List.getElem?_map] at hx ⊢
      obtain ⟨p, hp, rfl⟩ := Option.map_eq_some_iff.1 hx
      simp only [hp, Option.map_some, Option.getD_some]
      exact hk p (List.mem_of_getElem? hp)
theorem args_of_owns {W : World} {base e n : Nat} {v : Value} {N : Nat → Prop} {ps : List (Ar × Value)} (h : W.ownsRow base e 9 v n (ps.flatMap fun p => arV p.1 p.2)) (hn : n = ps.length) (hN : ∀ g, v.ownBlock = some g → N g) (hk : ∀ p ∈ ps, KidsAt W N p.1.e.kids p.2) : ArgsAt W N (ps.map (·.1)) v := by
  subst hn
  rcases owns_cell (enc := fun p : Ar × Value => arV p.1 p.2) (fun _ => rfl) h with ⟨rfl, rfl⟩ | ⟨g, cap, rfl, h1, h2, h3, h4, h5⟩
  · exact .nil _ _
  · have := ArgsAt.some (W := W) (N := N) (ps.map (·.1)) g 0 cap (fun i => ((ps[i]?).map (·.2)).getD undef) (hN g (by simp [Value.ownBlock])) (by rw [List.length_map]; omega) (fun i hi j u hu => ?_) (fun i x hx => ?_)
    · simpa using this
    · simp only [List.length_map] at hi
      simp only [List.getElem?_map, List.getElem?_eq_getElem hi, Option.map_some, Option.getD_some] at hu
      have hj : j < 9 := by
        have := (List.getElem?_eq_some_iff.1 hu).1
        simpa [arV] using this
      rw [h5 i j hi hj]
      exact hu
    · simp only [List.getElem?_map] at hx ⊢
      obtain ⟨p, hp, rfl⟩ := Option.map_eq_some_iff.1 hx
      simp only [hp, Option.map_some, Option.getD_some]
      exact hk p (List.mem_of_getElem? hp)
theorem forms_of_owns {W : World} {base e n : Nat} {v : Value} {N : Nat → Prop} {ps : List (Fm × Value × Value)} (h : W.ownsRow base e 4 v n (ps.flatMap fun p => fmV p.1 p.2.1 p.2.2)) (hn : n = ps.length) (hN : ∀ g, v.ownBlock = some g → N g) (ha : ∀ p ∈ ps, ArgsAt W N p.1.args p.2.1) (hb : ∀ p ∈ ps, FormsAt W N p.1.body p.2.2) : FormsAt W N (ps.map (·.1)) v := by
  subst hn
  rcases owns_cell (enc := fun p : Fm × Value × Value => fmV p.1 p.2.1 p.2.2) (fun _ => rfl) h with ⟨rfl, rfl⟩ | ⟨g, cap, rfl, h1, h2, h3, h4, h5⟩
  · exact .nil _ _
  · have := FormsAt.some (W := W) (N := N) (ps.map (·.1)) g 0 cap (fun i => ((ps[i]?).map (·.2.1)).getD undef) (fun i => ((ps[i]?).map (·.2.2)).getD undef) (hN g (by simp [Value.ownBlock])) (by rw [List.length_map]; omega) (fun i hi j u hu => ?_) (fun i x hx => ?_) (fun i x hx => ?_)
    · simpa using this
    · simp only [List.length_map] at hi
      simp only [List.getElem?_map, List.getElem?_eq_getElem hi, Option.map_some, Option.getD_some] at hu
      have hj : j < 4 := by
        have := (List.getElem?_eq_some_iff.1 hu).1
        simpa [fmV] using this
      rw [h5 i j hi hj]
      exact hu
    · simp only [List.getElem?_map] at hx ⊢
      obtain ⟨p, hp, rfl⟩ := Option.map_eq_some_iff.1 hx
      simp only [hp, Option.map_some, Option.getD_some]
      exact ha p (List.mem_of_getElem? hp)
    · simp only [List.getElem?_map] at hx ⊢
      obtain ⟨p, hp, rfl⟩ := Option.map_eq_some_iff.1 hx
      simp only [hp, Option.map_some, Option.getD_some]
      exact hb p (List.mem_of_getElem? hp)
end Go.Proofs.YtjijdgkccfeeaaaGreatDoor
namespace Go.Proofs.YtjijdgkccfeeaaaGreatDoor
open Go Go.Proofs Go.RowKit
def sgT (s : ByteArray) : Tok := ⟨4, 0, s, 0⟩
def nmT (s : ByteArray) : Tok := ⟨1, 0, s, 0⟩
def nuT (n : Int) : Tok := ⟨2, 0, noB, n⟩
def txT (s : ByteArray) : Tok := ⟨3, 0, s, 0⟩
def letterB (c : UInt8) : Bool := (decide (97 ≤ c) && decide (c ≤ 122)) || (decide (65 ≤ c) && decide (c ≤ 90)) || c == 95
def digitB (c : UInt8) : Bool := decide (48 ≤ c) && decide (c ≤ 57)
def nameTo (s : ByteArray) : Nat → Bool
  | 0 => decide (0 < s.size) && decide (s.size ≤ 32)
  | k + 1 => nameTo s k && (letterB (s.data.toList.getD k 0) || (decide (0 < k) && digitB (s.data.toList.getD k 0)))
def badName (s : ByteArray) : Bool := !nameTo s s.size
def textTo (s : ByteArray) : Nat → Bool
  | 0 => decide (200 < s.size)
  | k + 1 => textTo s k || (s.data.toList.getD k 0 != 10 && (decide (s.data.toList.getD k 0 < 32) || decide (126 < s.data.toList.getD k 0)))
def badText (s : ByteArray) : Bool := textTo s s.size
def badNum (n : Int) : Bool := decide (n < 0) || decide (999999999999999 < n)
def lvlX (op : Int) : Nat := if op = 20 then 0 else if op = 5 then 3 else if op = 6 then 7 else match opRows.find? fun r => r.2.1 == op with | some r => r.2.2 | none => 8
abbrev Pr := List Tok × Bool
def Pr.app (a b : Pr) : Pr := (a.1 ++ b.1, a.2 || b.2)
def opndX (need : Nat) (op : Int) (p : Pr) : Pr := if need ≤ lvlX op then p else (sgT ⟨#[40]⟩ :: (p.1 ++ [sgT ⟨#[41]⟩]), p.2)
def callX : Nat → List (Int × Pr) → Pr
  | _, [] => ([], false)
  | k, (op, p) :: r => Pr.app (if 0 < k then [sgT ⟨#[44]⟩] else [], false) (Pr.app (opndX 0 op p) (callX (k + 1) r))
def headX (op n : Int) (s : ByteArray) (K : List (Int × Pr)) : Pr :=
  if op = 1 then ([nuT n], badNum n)
  else if op = 2 then ([txT s], badText s)
  else if op = 3 then ([nmT s], badName s)
  else if op = 4 then Pr.app ([nmT s, sgT ⟨#[40]⟩], badName s) (Pr.app (callX 0 K) ([sgT ⟨#[41]⟩], false))
  else match K with
    | [(p, a)] => if op = 5 then Pr.app ([sgT ⟨#[33]⟩], false) (opndX 3 p a) else if op = 6 then Pr.app ([sgT ⟨#[45]⟩], false) (opndX 7 p a) else ([], true)
    | [(p, a), (q, b)] => match opRows.find? fun r => r.2.1 == op with
      | some r => Pr.app (opndX (if r.2.2 = 4 then 5 else r.2.2) p a) (Pr.app ([sgT r.1], false) (opndX (r.2.2 + 1) q b))
      | none => ([], true)
    | [(p, a), (q, b), (r, c)] => if op = 20 then Pr.app (opndX 1 p a) (Pr.app ([sgT ⟨#[63]⟩], false) (Pr.app (opndX 0 q b) (Pr.app ([sgT ⟨#[58]⟩], false) (opndX 0 r c)))) else ([], true)
    | _ => ([], true)
mutual
def showX : Ex → Int × Pr
  | .mk op n s ks _ => (op, headX op n s (showXs ks))
def showXs : List Ex → List (Int × Pr)
  | [] => []
  | x :: xs => showX x :: showXs xs
end
def showA (a : Ar) : Pr :=
  if a.kind = 1 then ([nmT a.s], badName a.s)
  else if a.kind = 2 then if a.n < 0 then ([sgT ⟨#[45]⟩, nuT (max (wrap64 (-a.n)) 0)], badNum (max (wrap64 (-a.n)) 0) || decide (a.n < -999999999999999)) else ([nuT a.n], badNum a.n)
  else if a.kind = 3 then ([txT a.s], badText a.s)
  else if a.kind = 4 then ([sgT ⟨#[45, 62]⟩], false)
  else if a.kind = 5 then (sgT ⟨#[40]⟩ :: ((showX a.e).2.1 ++ [sgT ⟨#[41]⟩]), (showX a.e).2.2)
  else ([], true)
def showAs : List Ar → Pr
  | [] => ([], false)
  | a :: as_ => Pr.app (showA a) (showAs as_)
mutual
def showF : Fm → Pr
  | .mk w as_ fs _ => Pr.app ([nmT w], badName w) (Pr.app (showAs as_) (if fs.isEmpty then ([sgT ⟨#[59]⟩], false) else Pr.app ([sgT ⟨#[123]⟩], false) (Pr.app (showFs fs) ([sgT ⟨#[125]⟩], false))))
def showFs : List Fm → Pr
  | [] => ([], false)
  | x :: xs => Pr.app (showF x) (showFs xs)
end
theorem Pr.app_nil (a : Pr) : Pr.app a ([], false) = a := by simp [Pr.app]
theorem Pr.nil_app (a : Pr) : Pr.app ([], false) a = a := by simp [Pr.app]
theorem Pr.app_assoc (a b c : Pr) : Pr.app (Pr.app a b) c = Pr.app a (Pr.app b c) := by simp [Pr.app, Bool.or_assoc]
theorem showXs_map (l : List Ex) : showXs l = l.map showX := by
  induction l with
  | nil => rfl
  | cons x xs ih => simp [showXs, ih]
end Go.Proofs.YtjijdgkccfeeaaaGreatDoor
