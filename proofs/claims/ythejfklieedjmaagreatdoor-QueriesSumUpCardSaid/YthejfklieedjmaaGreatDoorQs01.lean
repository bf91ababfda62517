/- Part 1 of the proof of lawSum.card: LexPlain, ParPlain, NatPlain, NatKnuth, NatOps, RatPlain, CalPlain, CalWalkA, CalWalkB. Conditions: those of each theorem. -/
import Derived.Lib.Hide
import Derived.Lib.Bytealg
import Derived.Test.YthejfklieedjmaaGreatDoorProg
import Derived.WalkKit
import Derived.Below
set_option maxHeartbeats 1000000
namespace Go.Proofs.YthejfklieedjmaaGreatDoor
theorem zz0 {α : Type} {xs : List α} {i : Nat} (h : i < xs.toArray.size) : xs.toArray[i] = xs[i]'(by simpa using h) := rfl
theorem zz1 {α : Type} {a : α} {l : List α} (h : 0 < (a :: l).length) : (a :: l)[0] = a := rfl
theorem zz2 {α : Type} {a : α} {l : List α} {i : Nat} (h : i + 1 < (a :: l).length) : (a :: l)[i + 1] = l[i]'(Nat.lt_of_succ_lt_succ h) := rfl
theorem zz3 {α : Type} {l : List α} {i : Nat} {a : α} : l.toArray.setIfInBounds i a = (l.set i a).toArray := List.setIfInBounds_toArray ..
theorem zz4 {α : Type} {a b : α} {l : List α} : (a :: l).set 0 b = b :: l := rfl
theorem zz5 {α : Type} {a b : α} {l : List α} {n : Nat} : (a :: l).set (n + 1) b = a :: l.set n b := rfl
theorem hao (w : Go.World) (o : Go.Obj) {r : Nat} (h : r < w.heap.size) : (w.alloc o).heap[r]? = w.heap[r]? := by
 show (w.heap.push o)[r]? = w.heap[r]?
 rw [Array.getElem?_push, if_neg (Nat.ne_of_lt h)]
def clsI (c : Int) : Int := if c = 95 \/ (97 <= c /\ c <= 122) \/ (65 <= c /\ c <= 90) then 3 else if 48 <= c /\ c <= 57 then 2 else if c = 32 \/ c = 9 \/ c = 10 \/ c = 13 then 1 else 0
def cls (b : UInt8) : Int := clsI b.toNat
def spanL (least : Int) (l : List UInt8) : Nat := (l.takeWhile fun b => decide (least <= cls b)).length
theorem spanL_cons_yes {least : Int} {b : UInt8} {l : List UInt8} (h : least <= cls b) : spanL least (b :: l) = spanL least l + 1 := by
 unfold spanL
 rw [List.takeWhile_cons_of_pos (by simpa using h)]
 rfl
theorem spanL_le (least : Int) (l : List UInt8) : spanL least l <= l.length := (List.takeWhile_sublist _).length_le
def blankL : Bool -> List UInt8 -> Nat
 | _, [] => 0
 | false, b :: l => if cls b = 1 then blankL false l + 1 else if b = 35 then blankL true l + 1 else 0
 | true, b :: l => if b = 10 then blankL false l + 1 else blankL true l + 1
theorem blankL_le : ∀ (m : Bool) (l : List UInt8), blankL m l <= l.length
 | _, [] => Nat.le_refl _
 | false, b :: l => by
  simp only [blankL]
  have h1 := blankL_le false l
  have h2 := blankL_le true l
  split
  ·simp; omega
  ·split
   ·simp; omega
   ·simp
 | true, b :: l => by
  simp only [blankL]
  have h1 := blankL_le false l
  have h2 := blankL_le true l
  split <;> simp <;> omega
def rest (s : ByteArray) (k : Nat) : List UInt8 := s.data.toList.drop k
theorem rest_len (s : ByteArray) (k : Nat) : (rest s k).length = s.size - k := by simp [rest]
theorem rest_cons (s : ByteArray) (k : Nat) (h : k < s.size) : rest s k = s[k] :: rest s (k + 1) := by
 unfold rest
 rw [List.drop_eq_getElem_cons (by simpa using h)]
 rfl
theorem rest_nil (s : ByteArray) (k : Nat) (h : s.size <= k) : rest s k = [] := by
 unfold rest
 exact List.drop_eq_nil_of_le (by simpa using h)
def spanTo (s : ByteArray) (k : Nat) (least : Int) : Nat := k + spanL least (rest s k)
theorem spanTo_le (s : ByteArray) (k : Nat) (least : Int) (hk : k <= s.size) : spanTo s k least <= s.size := by
 have := spanL_le least (rest s k)
 rw [rest_len] at this
 unfold spanTo; omega
def blankTo (s : ByteArray) (k : Nat) : Nat := k + blankL false (rest s k)
theorem blankTo_le (s : ByteArray) (k : Nat) (hk : k <= s.size) : blankTo s k <= s.size := by
 have := blankL_le false (rest s k)
 rw [rest_len] at this
 unfold blankTo; omega
theorem blankTo_ge (s : ByteArray) (k : Nat) : k <= blankTo s k := by unfold blankTo; omega
theorem blankTo_end (s : ByteArray) (k : Nat) (hk : s.size <= k) : blankTo s k = k := by
 unfold blankTo; rw [rest_nil s k hk]; rfl
theorem blankTo_blank (s : ByteArray) (k : Nat) (hk : k < s.size) (h : cls s[k] = 1) : blankTo s k = blankTo s (k + 1) := by
 unfold blankTo; rw [rest_cons s k hk]; simp only [blankL]; rw [if_pos h]; omega
theorem blankTo_stop (s : ByteArray) (k : Nat) (hk : k < s.size) (h : cls s[k] ≠ 1) (h2 : s[k] ≠ 35) : blankTo s k = k := by
 unfold blankTo; rw [rest_cons s k hk]; simp only [blankL]; rw [if_neg h, if_neg h2]; rfl
def inComment (s : ByteArray) (k : Nat) : Nat := k + blankL true (rest s k)
theorem blankTo_comment (s : ByteArray) (k : Nat) (hk : k < s.size) (h2 : s[k] = 35) : blankTo s k = inComment s (k + 1) := by
 unfold blankTo inComment
 rw [rest_cons s k hk]
 simp only [blankL]
 rw [if_neg (by rw [h2]; decide), if_pos h2]; omega
theorem inComment_end (s : ByteArray) (k : Nat) (hk : s.size <= k) : inComment s k = k := by
 unfold inComment; rw [rest_nil s k hk]; rfl
theorem inComment_line (s : ByteArray) (k : Nat) (hk : k < s.size) (h : s[k] = 10) : inComment s k = blankTo s k := by
 unfold inComment blankTo
 rw [rest_cons s k hk]
 simp only [blankL]
 rw [if_pos h, if_pos (by rw [h]; decide)]
theorem inComment_step (s : ByteArray) (k : Nat) (hk : k < s.size) (h : s[k] ≠ 10) : inComment s k = inComment s (k + 1) := by
 unfold inComment; rw [rest_cons s k hk]; simp only [blankL]; rw [if_neg h]; omega
theorem inComment_far (s : ByteArray) : ∀ (n k : Nat), k + n <= s.size -> (∀ i (h : i < s.size), k <= i -> i < k + n -> s[i] ≠ 10) -> inComment s k = inComment s (k + n)
 | 0, _, _, _ => rfl
 | n + 1, k, h, hn => by
  rw [inComment_step s k (by omega) (hn k (by omega) (Nat.le_refl _) (by omega)), inComment_far s n (k + 1) (by omega) (fun i hi h1 h2 => hn i hi (by omega) (by omega))]
  congr 1; omega
theorem indexByte_spec (c : UInt8) : ∀ (l : List UInt8), (Lib.indexByte l c = -1 /\ ∀ b ∈ l, b ≠ c) \/ ∃ n : Nat, Lib.indexByte l c = n /\ l[n]? = some c /\ ∀ i b, i < n -> l[i]? = some b -> b ≠ c
 | [] => .inl ⟨rfl, fun _ h => by cases h⟩
 | b :: l => by
  by_cases h : b = c
  ·subst h
   exact .inr ⟨0, by simp [Lib.indexByte], rfl, fun _ _ h => by omega⟩
  ·have hb : (b == c) = false := by simpa using h
   rcases indexByte_spec c l with ⟨h1, h2⟩ | ⟨n, h1, h2, h3⟩
   ·refine .inl ⟨by simp [Lib.indexByte, hb, h1], fun x hx => ?_⟩
    rcases List.mem_cons.1 hx with rfl | hx
    ·exact h
    ·exact h2 x hx
   ·refine .inr ⟨n + 1, ?_, by simpa using h2, fun i x hi hx => ?_⟩
    ·simp only [Lib.indexByte, hb]
     rw [h1]
     have : ((n : Int) == -1) = false := by simp
     simp [this]
    ·cases i with
     | zero => simp at hx; subst hx; exact h
     | succ i => exact h3 i x (by omega) (by simpa using hx)
theorem rest_get (s : ByteArray) (k i : Nat) (h : k + i < s.size) : (rest s k)[i]? = some s[k + i] := by
 unfold rest
 rw [List.getElem?_drop, List.getElem?_eq_getElem (by simpa using h)]
 rfl
theorem comment_skip (s : ByteArray) (j : Nat) (hj : j < s.size) (h : s[j] = 35) :
  (Lib.indexByte (rest s j) 10 = -1 /\ blankTo s j = s.size) \/ ∃ n : Nat, Lib.indexByte (rest s j) 10 = n /\ 0 < n /\ j + n < s.size /\ blankTo s j = blankTo s (j + n) := by
 have e0 : blankTo s j = inComment s j := by
  rw [blankTo_comment s j hj h, <- inComment_step s j hj (by rw [h]; decide)]
 rcases indexByte_spec 10 (rest s j) with ⟨h1, h2⟩ | ⟨n, h1, h2, h3⟩
 ·refine .inl ⟨h1, ?_⟩
  rw [e0, inComment_far s (s.size - j) j (by omega) (fun i hi h4 h5 => ?_), inComment_end s _ (by omega)]
  ·omega
  ·refine h2 _ (List.mem_of_getElem? (i := i - j) ?_)
   rw [rest_get s j (i - j) (by omega)]
   congr 2; omega
 ·have hlt : n < (rest s j).length := (List.getElem?_eq_some_iff.1 h2).1
  rw [rest_len] at hlt
  refine .inr ⟨n, h1, ?_, by omega, ?_⟩
  ·rcases Nat.eq_zero_or_pos n with h0 | h0
   ·subst h0
    rw [rest_get s j 0 (by omega)] at h2
    simp [h] at h2
   ·exact h0
  ·rw [rest_get s j n (by omega)] at h2
   rw [e0, inComment_far s n j (by omega) (fun i hi h4 h5 => ?_), inComment_line s (j + n) (by omega) (by simpa using h2)]
   refine h3 (i - j) _ (by omega) ?_
   rw [rest_get s j (i - j) (by omega)]
   congr 2; omega
structure Tok where
 kind : Int
 at_ : Int
 s : ByteArray
 n : Int
open Go Go.Proofs
inductive Ex where
 | mk (op n : Int) (s : ByteArray) (kids : List Ex) (at_ : Int)
def Ex.at_ : Ex -> Int | .mk _ _ _ _ a => a
def noB : ByteArray := ⟨#[]⟩
structure Ar where
 kind : Int
 n : Int
 s : ByteArray
 e : Ex
 at_ : Int
inductive Fm where
 | mk (word : ByteArray) (args : List Ar) (body : List Fm) (at_ : Int)
def noEx : Ex := .mk 0 0 noB [] 0
def isS (t : Tok) (s : ByteArray) : Bool := t.kind == 4 && t.s.data.toList == s.data.toList
def opRows : List (ByteArray × Int × Nat) := [(⟨#[42]⟩, 7, 6), (⟨#[47]⟩, 8, 6), (⟨#[37]⟩, 9, 6), (⟨#[43]⟩, 10, 5), (⟨#[45]⟩, 11, 5), (⟨#[61, 61]⟩, 12, 4), (⟨#[33, 61]⟩, 13, 4), (⟨#[60]⟩, 14, 4), (⟨#[60, 61]⟩, 15, 4), (⟨#[62]⟩, 16, 4), (⟨#[62, 61]⟩, 17, 4), (⟨#[38, 38]⟩, 18, 2), (⟨#[124, 124]⟩, 19, 1)]
def valB : List UInt8 -> Nat
 | [] => 0
 | b :: l => b.toNat * 256 ^ l.length + valB l
theorem valB_app (a b : List UInt8) : valB (a ++ b) = valB a * 256 ^ b.length + valB b := by
 induction a with
 | nil => simp [valB]
 | cons x a ih =>
  rw [List.cons_append, valB, valB, ih, List.length_append, Nat.pow_add, Nat.add_mul, Nat.mul_assoc, Nat.add_assoc]
theorem valB_snoc (a : List UInt8) (x : UInt8) : valB (a ++ [x]) = valB a * 256 + x.toNat := by
 rw [valB_app]; simp [valB]
theorem valB_lt : ∀ l : List UInt8, valB l < 256 ^ l.length
 | [] => by simp [valB]
 | b :: l => by
  have h1 := valB_lt l
  have h2 : b.toNat < 256 := b.toNat_lt
  rw [valB, List.length_cons, Nat.pow_succ]
  have h3 : b.toNat * 256 ^ l.length <= 255 * 256 ^ l.length := Nat.mul_le_mul_right _ (by omega)
  omega
def encN (n : Nat) : List UInt8 := if _h : n = 0 then [] else encN (n / 256) ++ [UInt8.ofNat (n % 256)]
termination_by n
decreasing_by omega
theorem encN_zero : encN 0 = [] := by rw [encN]; rfl
theorem encN_pos {n : Nat} (h : n ≠ 0) : encN n = encN (n / 256) ++ [UInt8.ofNat (n % 256)] := by rw [encN, dif_neg h]
theorem byte_nat (n : Nat) (h : n < 256) : (UInt8.ofNat n).toNat = n := by simp [UInt8.toNat_ofNat']; omega
theorem valB_encN : ∀ n : Nat, valB (encN n) = n := by
 intro n
 induction n using Nat.strongRecOn with
 | _ n ih =>
  by_cases h : n = 0
  ·subst h; rw [encN_zero]; rfl
  ·rw [encN_pos h, valB_snoc, ih (n / 256) (by omega), byte_nat _ (by omega)]; omega
def cleanB (l : List UInt8) : List UInt8 := l.dropWhile (· == 0)
theorem cleanB_zero (l : List UInt8) : cleanB (0 :: l) = cleanB l := by simp [cleanB]
theorem cleanB_cons {b : UInt8} (h : b ≠ 0) (l : List UInt8) : cleanB (b :: l) = b :: l := by simp [cleanB, h]
theorem clean_snoc : ∀ (l : List UInt8) (x : UInt8), cleanB (l ++ [x]) = if valB l = 0 then (if x = 0 then [] else [x]) else cleanB l ++ [x]
 | [], x => by
  by_cases h : x = 0
  ·subst h; simp [cleanB, valB]
  ·rw [List.nil_append, cleanB_cons h]; simp [valB, h]
 | b :: l, x => by
  by_cases h : b = 0
  ·subst h
   rw [List.cons_append, cleanB_zero, clean_snoc l x, cleanB_zero, valB]
   simp
  ·rw [List.cons_append, cleanB_cons h, cleanB_cons h]
   have h2 : 0 < b.toNat := by
    rcases Nat.eq_zero_or_pos b.toNat with h3 | h3
    ·exact absurd (UInt8.toNat_inj.1 (by simpa using h3)) h
    ·exact h3
   have h3 : 0 < 256 ^ l.length := Nat.pow_pos (by decide)
   have h4 := Nat.mul_pos h2 h3
   rw [if_neg (by rw [valB]; omega)]
   rfl
theorem encN_val (l : List UInt8) : encN (valB l) = cleanB l := by
 induction h : l.length generalizing l with
 | zero =>
  have : l = [] := List.length_eq_zero_iff.1 h
  subst this
  exact encN_zero
 | succ n ih =>
  obtain ⟨a, x, rfl⟩ : ∃ a x, l = a ++ [x] := ⟨l.dropLast, l.getLast (by intro e; rw [e] at h; simp at h), (List.dropLast_concat_getLast _).symm⟩
  have ha : a.length = n := by simpa using h
  have hx : x.toNat < 256 := x.toNat_lt
  rw [valB_snoc, clean_snoc]
  by_cases h0 : valB a = 0
  ·rw [if_pos h0, h0]
   by_cases hx0 : x = 0
   ·subst hx0; simp [encN_zero]
   ·have h2 : x.toNat ≠ 0 := fun h3 => hx0 (UInt8.toNat_inj.1 (by simpa using h3))
    rw [if_neg hx0, encN_pos (by omega), show (0 * 256 + x.toNat) / 256 = 0 by omega, encN_zero, List.nil_append, show (0 * 256 + x.toNat) % 256 = x.toNat by omega]
    simp
  ·rw [if_neg h0, encN_pos (by omega), show (valB a * 256 + x.toNat) / 256 = valB a by omega, show (valB a * 256 + x.toNat) % 256 = x.toNat by omega, ih a ha]
   simp
theorem encN_len_le {n k : Nat} (h : n < 256 ^ k) : (encN n).length <= k := by
 induction k generalizing n with
 | zero =>
  have : n = 0 := by simpa using h
  subst this
  rw [encN_zero]; simp
 | succ k ih =>
  by_cases h0 : n = 0
  ·subst h0; rw [encN_zero]; simp
  ·rw [encN_pos h0, List.length_append, List.length_singleton]
   have := ih (n := n / 256) (by rw [Nat.pow_succ] at h; omega)
   omega
theorem cleanB_len (l : List UInt8) : (cleanB l).length <= l.length := (List.dropWhile_sublist _).length_le
def vL (b : Nat) : List Nat -> Nat
 | [] => 0
 | d :: l => d + b * vL b l
theorem vL_app (b : Nat) (x y : List Nat) : vL b (x ++ y) = vL b x + b ^ x.length * vL b y := by
 induction x with
 | nil => simp [vL]
 | cons d x ih =>
  rw [List.cons_append, vL, vL, ih, List.length_cons, Nat.pow_succ, Nat.mul_add, Nat.mul_comm (b ^ x.length) b, Nat.mul_assoc, Nat.add_assoc]
theorem vL_snoc (b : Nat) (x : List Nat) (d : Nat) : vL b (x ++ [d]) = vL b x + b ^ x.length * d := by
 rw [vL_app]; simp [vL]
theorem vL_lt {b : Nat} (hb : 0 < b) : ∀ {l : List Nat}, (∀ d ∈ l, d < b) -> vL b l < b ^ l.length
 | [], _ => by simp [vL]
 | d :: l, h => by
  have h1 := vL_lt hb fun x hx => h x (List.mem_cons_of_mem _ hx)
  have h2 := h d (by simp)
  rw [vL, List.length_cons, Nat.pow_succ]
  have h3 : vL b l + 1 <= b ^ l.length := h1
  have h4 : b * (vL b l + 1) <= b * b ^ l.length := Nat.mul_le_mul_left _ h3
  rw [Nat.mul_add, Nat.mul_one, Nat.mul_comm b (b ^ l.length)] at h4
  omega
def trimL : List Nat -> List Nat
 | [] => []
 | d :: l => if d = 0 /\ trimL l = [] then [] else d :: trimL l
theorem vL_trim (b : Nat) : ∀ l : List Nat, vL b (trimL l) = vL b l
 | [] => rfl
 | d :: l => by
  have ih := vL_trim b l
  rw [trimL]
  split
  ·rename_i h
   have h2 : vL b l = 0 := by rw [<- ih, h.2]; rfl
   show 0 = d + b * vL b l
   rw [h2, h.1]; simp
  ·rw [vL, vL, ih]
theorem trimL_prefix (l : List Nat) : ∃ k, trimL l = l.take k /\ k <= l.length := by
 induction l with
 | nil => exact ⟨0, rfl, Nat.le_refl _⟩
 | cons d l ih =>
  obtain ⟨k, h1, h2⟩ := ih
  rw [trimL]
  split
  ·exact ⟨0, rfl, Nat.zero_le _⟩
  ·exact ⟨k + 1, by rw [List.take_succ_cons, h1], by simp; omega⟩
theorem trimL_len (l : List Nat) : (trimL l).length <= l.length := by
 obtain ⟨k, h, hk⟩ := trimL_prefix l
 rw [h, List.length_take]; omega
theorem trimL_take (l : List Nat) : trimL l = l.take (trimL l).length := by
 obtain ⟨k, h, hk⟩ := trimL_prefix l
 rw [h, List.length_take, Nat.min_eq_left hk]
theorem trim_snoc_zero (l : List Nat) : trimL (l ++ [0]) = trimL l := by
 induction l with
 | nil => simp [trimL]
 | cons d l ih => rw [List.cons_append, trimL, trimL, ih]
theorem trim_snoc {d : Nat} (hd : d ≠ 0) (l : List Nat) : trimL (l ++ [d]) = l ++ [d] := by
 induction l with
 | nil => simp [trimL, hd]
 | cons x l ih =>
  rw [List.cons_append, trimL, ih, if_neg]
  rintro ⟨-, h⟩
  simp at h
theorem trim_trim (l : List Nat) : trimL (trimL l) = trimL l := by
 induction l with
 | nil => rfl
 | cons d l ih =>
  rw [trimL]
  split
  ·rfl
  ·rename_i h
   rw [trimL, ih, if_neg h]
def digs (b n : Nat) : List Nat := if _h : n = 0 \/ b < 2 then [] else n % b :: digs b (n / b)
termination_by n
decreasing_by
 exact Nat.div_lt_self (by omega) (by omega)
theorem digs_zero (b : Nat) : digs b 0 = [] := by rw [digs, dif_pos (.inl rfl)]
theorem digs_pos {b n : Nat} (hb : 2 <= b) (h : n ≠ 0) : digs b n = n % b :: digs b (n / b) := by rw [digs, dif_neg (by omega)]
theorem digs_vL {b : Nat} (hb : 2 <= b) : ∀ {l : List Nat}, (∀ d ∈ l, d < b) -> digs b (vL b l) = trimL l
 | [], _ => digs_zero b
 | d :: l, h => by
  have ih := digs_vL hb (l := l) fun x hx => h x (List.mem_cons_of_mem _ hx)
  have hd := h d (by simp)
  rw [trimL, vL]
  by_cases h0 : d + b * vL b l = 0
  ·have h1 : d = 0 := by omega
   have h2 : vL b l = 0 := by
    rcases Nat.eq_zero_or_pos (vL b l) with h3 | h3
    ·exact h3
    ·have := Nat.mul_pos (show 0 < b by omega) h3; omega
   rw [h0, digs_zero, if_pos ⟨h1, by rw [<- ih, h2, digs_zero]⟩]
  ·rw [digs_pos hb h0, if_neg, <- ih]
   ·congr 1
    ·rw [Nat.add_mul_mod_self_left, Nat.mod_eq_of_lt hd]
    ·congr 1
     rw [Nat.add_mul_div_left _ _ (by omega), Nat.div_eq_of_lt hd, Nat.zero_add]
   ·rintro ⟨h1, h2⟩
    apply h0
    rw [h1, <- vL_trim, h2]
    simp [vL]
theorem vL_digs {b : Nat} (hb : 2 <= b) (n : Nat) : vL b (digs b n) = n := by
 induction n using Nat.strongRecOn with
 | _ n ih =>
  by_cases h : n = 0
  ·subst h; rw [digs_zero]; rfl
  ·rw [digs_pos hb h, vL, ih (n / b) (Nat.div_lt_self (by omega) (by omega))]
   exact Nat.mod_add_div n b
theorem digs_lt {b : Nat} (hb : 2 <= b) (n : Nat) : ∀ d ∈ digs b n, d < b := by
 induction n using Nat.strongRecOn with
 | _ n ih =>
  intro d hd
  by_cases h : n = 0
  ·subst h; rw [digs_zero] at hd; cases hd
  ·rw [digs_pos hb h] at hd
   rcases List.mem_cons.1 hd with rfl | hd
   ·exact Nat.mod_lt _ (by omega)
   ·exact ih (n / b) (Nat.div_lt_self (by omega) (by omega)) d hd
theorem digs_trim {b : Nat} (hb : 2 <= b) (n : Nat) : trimL (digs b n) = digs b n := by
 have := digs_vL hb (digs_lt hb n)
 rw [vL_digs hb] at this
 exact this.symm
theorem digs_len_le {b n k : Nat} (hb : 2 <= b) (h : n < b ^ k) : (digs b n).length <= k := by
 induction k generalizing n with
 | zero =>
  have : n = 0 := by simpa using h
  subst this; rw [digs_zero]; simp
 | succ k ih =>
  by_cases h0 : n = 0
  ·subst h0; rw [digs_zero]; simp
  ·rw [digs_pos hb h0, List.length_cons]
   have := ih (n := n / b) (by
    rw [Nat.pow_succ, Nat.mul_comm] at h
    exact Nat.div_lt_of_lt_mul h)
   omega
theorem digs_nil {b n : Nat} (hb : 2 <= b) : digs b n = [] ↔ n = 0 := by
 constructor
 ·intro h
  rw [<- vL_digs hb n, h]; rfl
 ·rintro rfl; exact digs_zero b
theorem lt_of_len {b : Nat} (hb : 2 <= b) {m n : Nat} (h : (digs b m).length < (digs b n).length) : m < n := by
 rcases Nat.lt_or_ge m n with h1 | h1
 ·exact h1
 ·have h2 : n < b ^ (digs b m).length := by
   have := vL_lt (show 0 < b by omega) (digs_lt hb m)
   rw [vL_digs hb] at this
   omega
  have := digs_len_le hb h2
  omega
theorem guess_top {P V K t v1 tp : Nat} (hV : v1 * K <= V) (hP : P < (tp + 1) * K) (ht : t * V <= P) : t * v1 <= tp := by
 have h1 : t * v1 * K <= t * V := by rw [Nat.mul_assoc]; exact Nat.mul_le_mul_left _ hV
 have h2 : t * v1 * K < (tp + 1) * K := by omega
 have h3 := Nat.lt_of_mul_lt_mul_right h2
 omega
theorem guess_div {P V K t v1 tp : Nat} (h0 : 0 < v1) (hV : v1 * K <= V) (hP : P < (tp + 1) * K) (ht : t * V <= P) : t <= tp / v1 :=
 (Nat.le_div_iff_mul_le h0).2 (guess_top hV hP ht)
theorem guess_less {P V K2 b g v1 v0 tp r left t : Nat} (hV : (v1 * b + v0) * K2 <= V) (hP : P < (tp * b + r + 1) * K2) (hl : left + g * v1 = tp) (hg : left * b + r < g * v0) (ht : t * V <= P) (_hK : 0 < K2) : t + 1 <= g := by
 have h1 : tp * b + r + 1 <= g * (v1 * b + v0) := by
  rw [Nat.mul_add, <- Nat.mul_assoc, <- hl, Nat.add_mul]
  omega
 have h2 : (tp * b + r + 1) * K2 <= g * (v1 * b + v0) * K2 := Nat.mul_le_mul_right _ h1
 have h3 : g * (v1 * b + v0) * K2 <= g * V := by rw [Nat.mul_assoc]; exact Nat.mul_le_mul_left _ hV
 have h4 : t * V < g * V := by omega
 exact Nat.lt_of_mul_lt_mul_right h4
theorem digit_found {P V g t : Nat} (hV : 0 < V) (ht : t = P / V) (h1 : g * V <= P) (h2 : t <= g) : g = t := by
 have h3 : g <= P / V := (Nat.le_div_iff_mul_le hV).2 h1
 omega
theorem vL_cons (b d : Nat) (l : List Nat) : vL b (d :: l) = d + b * vL b l := rfl
theorem vL_top {b : Nat} (hb : 0 < b) {l : List Nat} {d : Nat} (h : ∀ x ∈ l ++ [d], x < b) : d * b ^ l.length <= vL b (l ++ [d]) /\ vL b (l ++ [d]) < (d + 1) * b ^ l.length := by
 rw [vL_snoc]
 have h1 := vL_lt hb (l := l) fun x hx => h x (List.mem_append_left _ hx)
 rw [Nat.mul_comm d, Nat.add_mul, Nat.mul_comm d, Nat.one_mul]
 omega
theorem vL_top2 {b : Nat} (hb : 0 < b) {l : List Nat} {c d : Nat} (h : ∀ x ∈ l ++ [c, d], x < b) : (d * b + c) * b ^ l.length <= vL b (l ++ [c, d]) /\ vL b (l ++ [c, d]) < (d * b + c + 1) * b ^ l.length := by
 rw [vL_app]
 have h1 := vL_lt hb (l := l) fun x hx => h x (List.mem_append_left _ hx)
 have e : vL b [c, d] = d * b + c := by simp [vL]; rw [Nat.mul_comm]; omega
 rw [e, Nat.mul_comm (b ^ l.length)]
 rw [Nat.add_mul (d * b + c) 1, Nat.one_mul]
 omega
theorem vL_top3 {b : Nat} (hb : 0 < b) {l : List Nat} {r c d : Nat} (h : ∀ x ∈ l ++ [r, c, d], x < b) : vL b (l ++ [r, c, d]) < ((d * b + c) * b + r + 1) * b ^ l.length := by
 rw [vL_app]
 have h1 := vL_lt hb (l := l) fun x hx => h x (List.mem_append_left _ hx)
 have e : vL b [r, c, d] = (d * b + c) * b + r := by
  simp only [vL, Nat.mul_zero, Nat.add_zero]
  rw [Nat.mul_add, Nat.add_mul, Nat.mul_comm b c, Nat.mul_comm d b, Nat.mul_assoc b d b, Nat.mul_comm d b]
  omega
 rw [e, Nat.mul_comm (b ^ l.length), Nat.add_mul ((d * b + c) * b + r) 1, Nat.one_mul]
 omega
def digAt (l : List Nat) (k : Nat) : Nat := l.getD k 0
theorem digAt_lt {b : Nat} (hb : 0 < b) {l : List Nat} (h : ∀ d ∈ l, d < b) (k : Nat) : digAt l k < b := by
 unfold digAt
 rw [List.getD_eq_getElem?_getD]
 cases hk : l[k]? with
 | none => exact hb
 | some d => exact h d (List.mem_of_getElem? hk)
theorem digAt_some {l : List Nat} {k d : Nat} (h : l[k]? = some d) : digAt l k = d := by
 unfold digAt; rw [List.getD_eq_getElem?_getD, h]; rfl
theorem digAt_none {l : List Nat} {k : Nat} (h : l.length <= k) : digAt l k = 0 := by
 unfold digAt; rw [List.getD_eq_getElem?_getD, List.getElem?_eq_none h]; rfl
theorem take_succ (b : Nat) (l : List Nat) (k : Nat) : vL b (l.take (k + 1)) = vL b (l.take k) + b ^ k * digAt l k := by
 rcases Nat.lt_or_ge k l.length with h | h
 ·obtain ⟨d, hd⟩ : ∃ d, l[k]? = some d := ⟨l[k], List.getElem?_eq_getElem h⟩
  rw [List.take_add_one, hd, Option.toList_some, vL_snoc, List.length_take, Nat.min_eq_left (by omega), digAt_some hd]
 ·rw [digAt_none h, List.take_of_length_le (by omega), List.take_of_length_le h]; simp
theorem takeAll {l : List Nat} {k : Nat} (h : l.length <= k) : l.take k = l := List.take_of_length_le h
structure Plus (b : Nat) (x y : List Nat) (k : Nat) (L : List Nat) (c : Nat) : Prop where
 len : L.length = k
 dig : ∀ d ∈ L, d < b
 car : c <= 1
 val : vL b L + b ^ k * c = vL b (x.take k) + vL b (y.take k)
theorem Plus.start (b : Nat) (x y : List Nat) : Plus b x y 0 [] 0 := ⟨rfl, fun _ h => (by cases h), by omega, by simp [vL]⟩
theorem Plus.step {b : Nat} {x y L : List Nat} {k c : Nat} (hb : 2 <= b) (hx : ∀ d ∈ x, d < b) (hy : ∀ d ∈ y, d < b) (h : Plus b x y k L c) : Plus b x y (k + 1) (L ++ [(digAt x k + digAt y k + c) % b]) ((digAt x k + digAt y k + c) / b) := by
 have h1 := digAt_lt (by omega) hx k
 have h2 := digAt_lt (by omega) hy k
 have h3 := h.car
 refine ⟨by rw [List.length_append, h.len]; rfl, fun d hd => ?_, ?_, ?_⟩
 ·rcases List.mem_append.1 hd with hd | hd
  ·exact h.dig d hd
  ·rw [List.mem_singleton.1 hd]; exact Nat.mod_lt _ (by omega)
 ·have : digAt x k + digAt y k + c < 2 * b := by omega
  have := Nat.div_lt_of_lt_mul (show digAt x k + digAt y k + c < b * 2 by omega)
  omega
 ·have hv := h.val
  rw [vL_snoc, h.len, take_succ, take_succ, Nat.pow_succ, Nat.mul_assoc]
  have e := Nat.mod_add_div (digAt x k + digAt y k + c) b
  have e2 : b ^ k * ((digAt x k + digAt y k + c) % b) + b ^ k * (b * ((digAt x k + digAt y k + c) / b)) = b ^ k * digAt x k + b ^ k * digAt y k + b ^ k * c := by
   rw [<- Nat.mul_add, e, Nat.mul_add, Nat.mul_add]
  omega
theorem Plus.done {b : Nat} {x y L : List Nat} {k c : Nat} (hb : 2 <= b) (hx : ∀ d ∈ x, d < b) (hy : ∀ d ∈ y, d < b) (hk : k = max x.length y.length + 1) (h : Plus b x y k L c) : vL b L = vL b x + vL b y /\ ∀ d ∈ L, d < b := by
 have hv := h.val
 rw [takeAll (by omega), takeAll (by omega)] at hv
 have h1 := vL_lt (show 0 < b by omega) hx
 have h2 := vL_lt (show 0 < b by omega) hy
 have h3 : b ^ x.length <= b ^ max x.length y.length := Nat.pow_le_pow_right (by omega) (by omega)
 have h4 : b ^ y.length <= b ^ max x.length y.length := Nat.pow_le_pow_right (by omega) (by omega)
 have hc : c = 0 := by
  rcases Nat.eq_zero_or_pos c with h0 | h0
  ·exact h0
  ·exfalso
   have h5 : b ^ k * 1 <= b ^ k * c := Nat.mul_le_mul_left _ h0
   rw [hk, Nat.pow_succ] at h5
   have h6 : b ^ max x.length y.length * 2 <= b ^ max x.length y.length * b := Nat.mul_le_mul_left _ hb
   rw [hk, Nat.pow_succ] at hv
   omega
 rw [hc] at hv
 exact ⟨by omega, h.dig⟩
structure Minus (b : Nat) (x y : List Nat) (k : Nat) (L : List Nat) (c : Nat) : Prop where
 len : L.length = k
 dig : ∀ d ∈ L, d < b
 car : c <= 1
 val : vL b L + vL b (y.take k) = vL b (x.take k) + b ^ k * c
theorem Minus.start (b : Nat) (x y : List Nat) : Minus b x y 0 [] 0 := ⟨rfl, fun _ h => (by cases h), by omega, by simp [vL]⟩
def subD (b u v c : Nat) : Nat := if u < v + c then u + b - (v + c) else u - (v + c)
def subC (u v c : Nat) : Nat := if u < v + c then 1 else 0
theorem Minus.step {b : Nat} {x y L : List Nat} {k c : Nat} (hb : 2 <= b) (hx : ∀ d ∈ x, d < b) (hy : ∀ d ∈ y, d < b) (h : Minus b x y k L c) : Minus b x y (k + 1) (L ++ [subD b (digAt x k) (digAt y k) c]) (subC (digAt x k) (digAt y k) c) := by
 have h1 := digAt_lt (by omega) hx k
 have h2 := digAt_lt (by omega) hy k
 have h3 := h.car
 have hd0 : subD b (digAt x k) (digAt y k) c < b := by unfold subD; split <;> omega
 refine ⟨by rw [List.length_append, h.len]; rfl, fun d hd => ?_, by unfold subC; split <;> omega, ?_⟩
 ·rcases List.mem_append.1 hd with hd | hd
  ·exact h.dig d hd
  ·rw [List.mem_singleton.1 hd]; exact hd0
 ·have hv := h.val
  rw [vL_snoc, h.len, take_succ, take_succ, Nat.pow_succ, Nat.mul_assoc]
  have e : subD b (digAt x k) (digAt y k) c + digAt y k + c = digAt x k + b * subC (digAt x k) (digAt y k) c := by
   unfold subD subC; split <;> omega
  have e2 := congrArg (fun z => b ^ k * z) e
  simp only [Nat.mul_add] at e2
  omega
theorem Minus.done {b : Nat} {x y L : List Nat} {k c : Nat} (hb : 2 <= b) (hk : k = x.length) (hl : y.length <= x.length) (hle : vL b y <= vL b x) (h : Minus b x y k L c) : vL b L = vL b x - vL b y /\ ∀ d ∈ L, d < b := by
 have hv := h.val
 rw [takeAll (by omega), takeAll (by omega)] at hv
 have h1 := vL_lt (show 0 < b by omega) h.dig
 rw [h.len] at h1
 have hc : c = 0 := by
  rcases Nat.eq_zero_or_pos c with h0 | h0
  ·exact h0
  ·have h5 : b ^ k * 1 <= b ^ k * c := Nat.mul_le_mul_left _ h0
   omega
 rw [hc] at hv
 exact ⟨by omega, h.dig⟩
theorem vL_set (b : Nat) : ∀ (l : List Nat) (i v : Nat), i < l.length -> vL b (l.set i v) + b ^ i * digAt l i = vL b l + b ^ i * v
 | [], _, _, h => by simp at h
 | d :: l, 0, v, _ => by
  simp [vL, digAt]; omega
 | d :: l, i + 1, v, h => by
  have ih := vL_set b l i v (by simpa using h)
  have e : digAt (d :: l) (i + 1) = digAt l i := rfl
  rw [zz5, vL, vL, e, Nat.pow_succ, Nat.mul_comm (b ^ i) b, Nat.mul_assoc, Nat.mul_assoc]
  have e2 := congrArg (fun z => b * z) ih
  simp only [Nat.mul_add] at e2
  omega
theorem set_lt {b : Nat} {l : List Nat} {i v : Nat} (h : ∀ d ∈ l, d < b) (hv : v < b) : ∀ d ∈ l.set i v, d < b := fun d hd => by
 rcases List.mem_or_eq_of_mem_set hd with h1 | h1
 ·exact h d h1
 ·rw [h1]; exact hv
theorem vL_zeros (b : Nat) : ∀ n : Nat, vL b (List.replicate n 0) = 0
 | 0 => rfl
 | n + 1 => by rw [List.replicate_succ, vL, vL_zeros b n]; simp
theorem digAt_set_ne {l : List Nat} {i j v : Nat} (h : i ≠ j) : digAt (l.set i v) j = digAt l j := by
 unfold digAt
 rw [List.getD_eq_getElem?_getD, List.getD_eq_getElem?_getD, List.getElem?_set_ne h]
theorem digAt_set {l : List Nat} {i v : Nat} (h : i < l.length) : digAt (l.set i v) i = v := by
 unfold digAt
 rw [List.getD_eq_getElem?_getD, List.getElem?_set_self h]; rfl
structure Row (b : Nat) (y out0 : List Nat) (a i k : Nat) (out : List Nat) (c : Nat) : Prop where
 len : out.length = out0.length
 dig : ∀ d ∈ out, d < b
 car : c < b
 val : vL b out + b ^ (i + k) * c = vL b out0 + b ^ i * (a * vL b (y.take k))
theorem Row.start {b : Nat} {y out0 : List Nat} {a i : Nat} (hb : 0 < b) (h : ∀ d ∈ out0, d < b) : Row b y out0 a i 0 out0 0 := ⟨rfl, h, hb, by simp [vL]⟩
theorem Row.step {b : Nat} {y out0 out : List Nat} {a i k c : Nat} (hb : 2 <= b) (ha : a < b) (hy : ∀ d ∈ y, d < b) (hi : i + k < out0.length) (h : Row b y out0 a i k out c) :
  a * digAt y k + digAt out (i + k) + c < b * b /\ Row b y out0 a i (k + 1) (out.set (i + k) ((a * digAt y k + digAt out (i + k) + c) % b)) ((a * digAt y k + digAt out (i + k) + c) / b) := by
 have h1 := digAt_lt (by omega) hy k
 have h2 := digAt_lt (by omega) h.dig (i + k)
 have h3 := h.car
 have hs : a * digAt y k + digAt out (i + k) + c < b * b := by
  have h4 : a * digAt y k <= (b - 1) * (b - 1) := Nat.mul_le_mul (by omega) (by omega)
  obtain ⟨m, rfl⟩ : ∃ m, b = m + 1 := ⟨b - 1, by omega⟩
  rw [Nat.add_sub_cancel] at h4
  have e : (m + 1) * (m + 1) = m * m + m + m + 1 := by rw [Nat.add_mul, Nat.mul_add]; omega
  omega
 refine ⟨hs, by rw [List.length_set, h.len], set_lt h.dig (Nat.mod_lt _ (by omega)), Nat.div_lt_of_lt_mul hs, ?_⟩
 have hv := h.val
 have e1 := vL_set b out (i + k) ((a * digAt y k + digAt out (i + k) + c) % b) (by rw [h.len]; exact hi)
 have e := Nat.mod_add_div (a * digAt y k + digAt out (i + k) + c) b
 have e2 := congrArg (fun z => b ^ (i + k) * z) e
 simp only [Nat.mul_add] at e2
 rw [take_succ, Nat.mul_add, Nat.mul_add, <- Nat.add_assoc i k 1, Nat.pow_succ, Nat.mul_assoc (b ^ (i + k)) b]
 have e3 : b ^ i * (a * (b ^ k * digAt y k)) = b ^ (i + k) * (a * digAt y k) := by
  rw [Nat.pow_add, Nat.mul_left_comm a, Nat.mul_assoc]
 rw [e3]
 omega
theorem Row.inside {b : Nat} {y out0 out : List Nat} {a i k c n : Nat} (hb : 2 <= b) (h : Row b y out0 a i k out c) (hn : vL b out0 + b ^ i * (a * vL b y) < b ^ n) (hc : 0 < c) : i + k < n := by
 have hv := h.val
 have h1 : vL b (y.take k) <= vL b y := by
  have : vL b y = vL b (y.take k) + b ^ (y.take k).length * vL b (y.drop k) := by rw [<- vL_app, List.take_append_drop]
  omega
 have h2 : b ^ i * (a * vL b (y.take k)) <= b ^ i * (a * vL b y) := Nat.mul_le_mul_left _ (Nat.mul_le_mul_left _ h1)
 have h3 : b ^ (i + k) * 1 <= b ^ (i + k) * c := Nat.mul_le_mul_left _ hc
 rcases Nat.lt_or_ge (i + k) n with h4 | h4
 ·exact h4
 ·have h5 : b ^ n <= b ^ (i + k) := Nat.pow_le_pow_right (by omega) h4
  omega
theorem Row.done {b : Nat} {y out0 out : List Nat} {a i k : Nat} (hk : y.length <= k) (h : Row b y out0 a i k out 0) : vL b out = vL b out0 + b ^ i * (a * vL b y) := by
 have hv := h.val
 rw [takeAll hk] at hv
 omega
theorem rows_step {b : Nat} {x y : List Nat} {i a : Nat} (h : x[i]? = some a) : vL b (x.take (i + 1)) * vL b y = vL b (x.take i) * vL b y + b ^ i * (a * vL b y) := by
 rw [take_succ, digAt_some h, Nat.add_mul, Nat.mul_assoc]
theorem rows_lt {b : Nat} (hb : 2 <= b) {x y : List Nat} (hx : ∀ d ∈ x, d < b) (hy : ∀ d ∈ y, d < b) {i a : Nat} (h : x[i]? = some a) : vL b (x.take i) * vL b y + b ^ i * (a * vL b y) < b ^ (x.length + y.length) := by
 rw [<- rows_step h]
 have hi : i < x.length := (List.getElem?_eq_some_iff.1 h).1
 have h1 := vL_lt (show 0 < b by omega) (l := x.take (i + 1)) fun d hd => hx d (List.mem_of_mem_take hd)
 have h2 := vL_lt (show 0 < b by omega) hy
 rw [List.length_take, Nat.min_eq_left (by omega)] at h1
 have h3 : b ^ (i + 1) <= b ^ x.length := Nat.pow_le_pow_right (by omega) (by omega)
 rw [Nat.pow_add]
 have h4 : 0 < b ^ x.length := Nat.pow_pos (by omega)
 calc vL b (x.take (i + 1)) * vL b y <= b ^ x.length * vL b y := Nat.mul_le_mul_right _ (by omega)
  _ < b ^ x.length * b ^ y.length := Nat.mul_lt_mul_of_pos_left h2 h4
structure Sml (b by_ : Nat) (x : List Nat) (k : Nat) (q : List Nat) (r : Nat) : Prop where
 len : q.length + k = x.length
 dig : ∀ d ∈ q, d < b
 rem : r < by_
 val : vL b (x.drop k) = by_ * vL b q + r
theorem Sml.start {b by_ : Nat} {x : List Nat} (h : 0 < by_) : Sml b by_ x x.length [] 0 := ⟨by simp, fun _ h => (by cases h), h, by simp [vL]⟩
theorem Sml.step {b by_ : Nat} {x q : List Nat} {k r d : Nat} (hd : x[k]? = some d) (hdb : d < b) (h : Sml b by_ x (k + 1) q r) : r * b + d < by_ * b /\ Sml b by_ x k ((r * b + d) / by_ :: q) ((r * b + d) % by_) := by
 have h1 := h.rem
 have hs : r * b + d < by_ * b := by
  have h2 : (r + 1) * b <= by_ * b := Nat.mul_le_mul_right _ h1
  rw [Nat.add_mul] at h2
  omega
 have hk : k < x.length := (List.getElem?_eq_some_iff.1 hd).1
 refine ⟨hs, by have := h.len; simp; omega, fun e he => ?_, Nat.mod_lt _ (by omega), ?_⟩
 ·rcases List.mem_cons.1 he with rfl | he
  ·exact Nat.div_lt_of_lt_mul hs
  ·exact h.dig e he
 ·rw [List.drop_eq_getElem_cons hk]
  rw [List.getElem?_eq_getElem hk] at hd
  cases hd
  have hv := h.val
  rw [vL, hv, vL, Nat.mul_add, Nat.mul_add]
  have e := Nat.div_add_mod (r * b + x[k]) by_
  have e2 : b * (by_ * vL b q) = by_ * (b * vL b q) := Nat.mul_left_comm _ _ _
  have e3 : b * r = r * b := Nat.mul_comm _ _
  omega
theorem Sml.done {b by_ : Nat} {x q : List Nat} {r : Nat} (h : Sml b by_ x 0 q r) : vL b q = vL b x / by_ /\ r = vL b x % by_ := by
 have hv := h.val
 rw [List.drop_zero] at hv
 have hr := h.rem
 rw [hv]
 constructor
 ·rw [Nat.mul_add_div (by omega), Nat.div_eq_of_lt hr, Nat.add_zero]
 ·rw [Nat.mul_add_mod, Nat.mod_eq_of_lt hr]
theorem cmp_digits {b : Nat} {x y : List Nat} {k u v : Nat} (hx : ∀ d ∈ x, d < b) (hy : ∀ d ∈ y, d < b) (hu : x[k]? = some u) (hv : y[k]? = some v) (ht : x.drop (k + 1) = y.drop (k + 1)) : (u < v -> vL b x < vL b y) /\ (v < u -> vL b y < vL b x) /\ (u = v -> x.drop k = y.drop k) := by
 have hkx : k < x.length := (List.getElem?_eq_some_iff.1 hu).1
 have hky : k < y.length := (List.getElem?_eq_some_iff.1 hv).1
 have hb : 0 < b := by have := hx u (List.mem_of_getElem? hu); omega
 have ex : vL b x = vL b (x.take k) + b ^ k * u + b ^ (k + 1) * vL b (x.drop (k + 1)) := by
  have : vL b x = vL b (x.take (k + 1)) + b ^ (x.take (k + 1)).length * vL b (x.drop (k + 1)) := by rw [<- vL_app, List.take_append_drop]
  rw [this, take_succ, digAt_some hu, List.length_take, Nat.min_eq_left (by omega)]
 have ey : vL b y = vL b (y.take k) + b ^ k * v + b ^ (k + 1) * vL b (y.drop (k + 1)) := by
  have : vL b y = vL b (y.take (k + 1)) + b ^ (y.take (k + 1)).length * vL b (y.drop (k + 1)) := by rw [<- vL_app, List.take_append_drop]
  rw [this, take_succ, digAt_some hv, List.length_take, Nat.min_eq_left (by omega)]
 have lx := vL_lt hb (l := x.take k) fun d hd => hx d (List.mem_of_mem_take hd)
 have ly := vL_lt hb (l := y.take k) fun d hd => hy d (List.mem_of_mem_take hd)
 rw [List.length_take, Nat.min_eq_left (by omega)] at lx ly
 rw [ex, ey, ht]
 refine ⟨fun h => ?_, fun h => ?_, fun h => ?_⟩
 ·have h1 : b ^ k * (u + 1) <= b ^ k * v := Nat.mul_le_mul_left _ h
  rw [Nat.mul_add, Nat.mul_one] at h1
  omega
 ·have h1 : b ^ k * (v + 1) <= b ^ k * u := Nat.mul_le_mul_left _ h
  rw [Nat.mul_add, Nat.mul_one] at h1
  omega
 ·rw [List.drop_eq_getElem_cons hkx, List.drop_eq_getElem_cons hky, ht]
  rw [List.getElem?_eq_getElem hkx] at hu
  rw [List.getElem?_eq_getElem hky] at hv
  cases hu; cases hv
  rw [h]
theorem trim_len_lt {b : Nat} (hb : 2 <= b) {x y : List Nat} (hx : ∀ d ∈ x, d < b) (hy : ∀ d ∈ y, d < b) (tx : trimL x = x) (ty : trimL y = y) (h : x.length < y.length) : vL b x < vL b y := by
 have h1 := digs_vL hb hx
 have h2 := digs_vL hb hy
 rw [tx] at h1
 rw [ty] at h2
 exact lt_of_len hb (by rw [h1, h2]; exact h)
def natB (s : ByteArray) : Nat := valB s.data.toList
def encB (n : Nat) : ByteArray := ⟨(encN n).toArray⟩
theorem natB_encB (n : Nat) : natB (encB n) = n := valB_encN n
theorem encB_inj {a b : Nat} (h : encB a = encB b) : a = b := by rw [<- natB_encB a, h, natB_encB]
theorem encB_zero : encB 0 = ⟨#[]⟩ := by unfold encB; rw [encN_zero]
theorem encB_nil {n : Nat} : encB n = ⟨#[]⟩ ↔ n = 0 := by
 constructor
 ·intro h
  rw [<- natB_encB n, h]; rfl
 ·rintro rfl; exact encB_zero
structure Rv where
 neg : Bool
 num : ByteArray
 den : ByteArray
def zeroR : Rv := ⟨false, ⟨#[]⟩, ⟨#[]⟩⟩
def goodR (u : Rv) : Prop := u.num ≠ ⟨#[]⟩ /\ u.den ≠ ⟨#[]⟩ /\ encB (natB u.num) = u.num /\ encB (natB u.den) = u.den /\ Nat.gcd (natB u.num) (natB u.den) = 1
def validR (u : Rv) : Prop := u = zeroR \/ goodR u
instance : DecidableEq ByteArray := inferInstance
instance (u : Rv) : Decidable (goodR u) := by unfold goodR; infer_instance
instance (u v : Rv) : Decidable (u = v) := decidable_of_iff (u.neg = v.neg /\ u.num = v.num /\ u.den = v.den) (by cases u; cases v; simp)
instance (u : Rv) : Decidable (validR u) := by unfold validR; infer_instance
def sgn (neg : Bool) (n : Nat) : Int := if neg then -(n : Int) else n
def fracR (u : Rv) : Bool × Nat × Nat := if goodR u then (u.neg, natB u.num, natB u.den) else (false, 0, 1)
theorem goodR_pos {u : Rv} (h : goodR u) : natB u.num ≠ 0 /\ natB u.den ≠ 0 := by
 obtain ⟨h1, h2, h3, h4, -⟩ := h
 constructor
 ·intro h5; rw [h5, encB_zero] at h3; exact h1 h3.symm
 ·intro h5; rw [h5, encB_zero] at h4; exact h2 h4.symm
theorem fracR_den (u : Rv) : (fracR u).2.2 ≠ 0 := by
 unfold fracR
 split
 ·rename_i h; exact (goodR_pos h).2
 ·show 1 ≠ 0; decide
def qR (u : Rv) : Rat := mkRat (sgn (fracR u).1 (fracR u).2.1) (fracR u).2.2
def lowR (neg : Bool) (n d : Nat) : Rv := if n = 0 then zeroR else ⟨neg, encB (n / Nat.gcd n d), encB (d / Nat.gcd n d)⟩
def repR (q : Rat) : Rv := lowR (decide (q.num < 0)) q.num.natAbs q.den
theorem sgn_natAbs (neg : Bool) (n : Nat) : (sgn neg n).natAbs = n := by unfold sgn; split <;> simp
theorem repR_zero : repR 0 = zeroR := rfl
theorem sgn_zero (neg : Bool) : sgn neg 0 = 0 := by unfold sgn; split <;> rfl
theorem low_rep (neg : Bool) (n d : Nat) (hd : d ≠ 0) : lowR neg n d = repR (mkRat (sgn neg n) d) := by
 by_cases h0 : n = 0
 ·subst h0
  rw [sgn_zero, Rat.zero_mkRat, repR_zero]
  exact if_pos rfl
 have hg : 0 < Nat.gcd n d := Nat.gcd_pos_of_pos_left _ (by omega)
 rw [<- Rat.normalize_eq_mkRat hd, Rat.normalize_eq hd]
 unfold repR
 simp only [sgn_natAbs]
 have e1 : (sgn neg n / ((Nat.gcd n d : Nat) : Int)).natAbs = n / Nat.gcd n d := by
  obtain ⟨m, hm⟩ := Nat.gcd_dvd_left n d
  have : sgn neg n = ((Nat.gcd n d : Nat) : Int) * sgn neg m := by
   unfold sgn
   split
   ·rw [Int.mul_neg, <- Int.natCast_mul, <- hm]
   ·rw [<- Int.natCast_mul, <- hm]
  rw [this, Int.mul_ediv_cancel_left _ (by omega), sgn_natAbs]
  conv => rhs; lhs; rw [hm]
  rw [Nat.mul_div_cancel_left _ hg]
 have e2 : decide (sgn neg n / ((Nat.gcd n d : Nat) : Int) < 0) = neg := by
  obtain ⟨m, hm⟩ := Nat.gcd_dvd_left n d
  have hm0 : m ≠ 0 := by rintro rfl; rw [Nat.mul_zero] at hm; exact h0 hm
  have : sgn neg n = ((Nat.gcd n d : Nat) : Int) * sgn neg m := by
   unfold sgn
   split
   ·rw [Int.mul_neg, <- Int.natCast_mul, <- hm]
   ·rw [<- Int.natCast_mul, <- hm]
  rw [this, Int.mul_ediv_cancel_left _ (by omega)]
  unfold sgn
  cases neg
  ·simp
  ·simp; omega
 rw [e1, e2]
 have h1 : n / Nat.gcd n d ≠ 0 := by
  have := Nat.div_pos (Nat.le_of_dvd (by omega) (Nat.gcd_dvd_left n d)) hg
  omega
 unfold lowR
 rw [if_neg h0, if_neg h1, show Nat.gcd (n / Nat.gcd n d) (d / Nat.gcd n d) = 1 from Nat.coprime_div_gcd_div_gcd hg, Nat.div_one, Nat.div_one]
theorem repR_good {q : Rat} (h : q ≠ 0) : goodR (repR q) /\ fracR (repR q) = (decide (q.num < 0), q.num.natAbs, q.den) := by
 have h0 : q.num.natAbs ≠ 0 := fun h1 => h (Rat.num_eq_zero.1 (by omega))
 have hc : Nat.gcd q.num.natAbs q.den = 1 := q.reduced
 have e : repR q = ⟨decide (q.num < 0), encB q.num.natAbs, encB q.den⟩ := by
  unfold repR lowR
  rw [if_neg h0, hc, Nat.div_one, Nat.div_one]
 have hg : goodR (repR q) := by
  rw [e]
  refine ⟨fun h1 => h0 (encB_nil.1 h1), fun h1 => q.den_nz (encB_nil.1 h1), ?_, ?_, ?_⟩
  ·show encB (natB (encB _)) = _; rw [natB_encB]
  ·show encB (natB (encB _)) = _; rw [natB_encB]
  ·show Nat.gcd (natB (encB _)) (natB (encB _)) = 1; rw [natB_encB, natB_encB]; exact hc
 refine ⟨hg, ?_⟩
 unfold fracR
 rw [if_pos hg, e]
 show (_, natB (encB _), natB (encB _)) = _
 rw [natB_encB, natB_encB]
theorem not_good_zero : ¬ goodR zeroR := fun h => h.1 rfl
theorem qR_repR (q : Rat) : qR (repR q) = q := by
 by_cases h : q = 0
 ·subst h
  rw [repR_zero]
  unfold qR fracR
  rw [if_neg not_good_zero, sgn_zero, Rat.zero_mkRat]
 ·unfold qR
  rw [(repR_good h).2]
  have e : sgn (decide (q.num < 0)) q.num.natAbs = q.num := by
   unfold sgn
   by_cases h1 : q.num < 0
   ·simp only [h1, decide_true, ↓reduceIte]; omega
   ·simp only [h1, decide_false, Bool.false_eq_true, ↓reduceIte]; omega
  show mkRat (sgn _ _) _ = q
  rw [e, Rat.mkRat_self]
theorem repR_valid (q : Rat) : validR (repR q) := by
 by_cases h : q = 0
 ·subst h; exact .inl repR_zero
 ·exact .inr (repR_good h).1
def plusF (f g : Bool × Nat × Nat) : Bool × Nat × Nat :=
 if f.1 = g.1 then (f.1, f.2.1 * g.2.2 + g.2.1 * f.2.2, f.2.2 * g.2.2)
 else if f.2.1 * g.2.2 < g.2.1 * f.2.2 then (g.1, g.2.1 * f.2.2 - f.2.1 * g.2.2, f.2.2 * g.2.2)
 else (f.1, f.2.1 * g.2.2 - g.2.1 * f.2.2, f.2.2 * g.2.2)
def qF (f : Bool × Nat × Nat) : Rat := mkRat (sgn f.1 f.2.1) f.2.2
theorem qF_plus (f g : Bool × Nat × Nat) (hf : f.2.2 ≠ 0) (hg : g.2.2 ≠ 0) : qF (plusF f g) = qF f + qF g /\ (plusF f g).2.2 ≠ 0 := by
 obtain ⟨a, n, d⟩ := f
 obtain ⟨b, m, e⟩ := g
 simp only at hf hg
 have hde : d * e ≠ 0 := Nat.mul_ne_zero hf hg
 have key : qF (a, n, d) + qF (b, m, e) = mkRat (sgn a n * e + sgn b m * d) (d * e) := Rat.mkRat_add_mkRat _ _ hf hg
 rw [key]
 unfold plusF qF
 dsimp only
 split
 ·rename_i h
  subst h
  refine ⟨?_, hde⟩
  congr 1
  unfold sgn
  cases a <;> simp [Int.natCast_add, Int.natCast_mul] <;> grind
 ·rename_i h
  split
  ·rename_i h2
   refine ⟨?_, hde⟩
   congr 1
   unfold sgn
   have h3 : ((m * d - n * e : Nat) : Int) = (m : Int) * d - n * e := by rw [Int.natCast_sub (by omega)]; simp
   cases a <;> cases b <;> simp_all <;> grind
  ·rename_i h2
   refine ⟨?_, hde⟩
   congr 1
   unfold sgn
   have h3 : ((n * e - m * d : Nat) : Int) = (n : Int) * e - m * d := by rw [Int.natCast_sub (by omega)]; simp
   cases a <;> cases b <;> simp_all <;> grind
theorem qF_times (f g : Bool × Nat × Nat) : qF (f.1 != g.1, f.2.1 * g.2.1, f.2.2 * g.2.2) = qF f * qF g := by
 obtain ⟨a, n, d⟩ := f
 obtain ⟨b, m, e⟩ := g
 unfold qF
 dsimp only
 rw [Rat.mkRat_mul_mkRat]
 congr 1
 unfold sgn
 cases a <;> cases b <;> simp <;> grind
theorem qF_neg (f : Bool × Nat × Nat) : qF (!f.1, f.2) = - qF f := by
 obtain ⟨a, n, d⟩ := f
 unfold qF
 dsimp only
 rw [Rat.neg_mkRat]
 congr 1
 unfold sgn
 cases a <;> simp
theorem qF_inv (f : Bool × Nat × Nat) (h1 : f.2.1 ≠ 0) (h2 : f.2.2 ≠ 0) : qF (f.1, f.2.2, f.2.1) = (qF f)⁻¹ := by
 obtain ⟨a, n, d⟩ := f
 simp only at h1 h2
 have h : qF (a, d, n) * qF (a, n, d) = 1 := by
  rw [<- qF_times]
  unfold qF
  dsimp only
  have e : sgn (a != a) (d * n) = ((d * n : Nat) : Int) := by unfold sgn; simp
  rw [e, Nat.mul_comm n d, Rat.mkRat_eq_div]
  have h3 : ((d * n : Nat) : Rat) ≠ 0 := by
   intro h4
   have h5 : ((d * n : Nat) : Int) = 0 := by exact_mod_cast h4
   have h6 : d * n = 0 := by omega
   rcases Nat.mul_eq_zero.1 h6 with h7 | h7
   ·exact h2 h7
   ·exact h1 h7
  rw [Rat.div_def]
  exact Rat.mul_inv_cancel _ h3
 have h0 : qF (a, n, d) ≠ 0 := by
  intro h3
  rw [h3, Rat.mul_zero] at h
  exact absurd h (by decide)
 rw [<- Rat.mul_one (qF (a, d, n)), <- Rat.mul_inv_cancel _ h0, <- Rat.mul_assoc, h, Rat.one_mul]
theorem low_qF (f : Bool × Nat × Nat) (h : f.2.2 ≠ 0) : lowR f.1 f.2.1 f.2.2 = repR (qF f) := low_rep _ _ _ h
theorem qF_sign (f : Bool × Nat × Nat) (h : f.2.2 ≠ 0) : (f.2.1 = 0 ↔ qF f = 0) /\ (f.2.1 ≠ 0 -> (f.1 = true ↔ qF f < 0)) := by
 obtain ⟨a, n, d⟩ := f
 simp only at h
 have hz : n = 0 ↔ qF (a, n, d) = 0 := by
  unfold qF
  dsimp only
  constructor
  ·rintro rfl; rw [sgn_zero, Rat.zero_mkRat]
  ·intro h1
   have h2 := congrArg Rat.num h1
   rw [Rat.num_mkRat, if_neg h, sgn_natAbs] at h2
   have h3 : lowR a n d = zeroR := by rw [low_rep a n d h, h1]; rfl
   unfold lowR at h3
   split at h3
   ·assumption
   ·rename_i h4
    have h5 := congrArg Rv.num h3
    have h6 := encB_nil.1 h5
    have hg : 0 < Nat.gcd n d := Nat.gcd_pos_of_pos_left _ (by omega)
    have := Nat.div_pos (Nat.le_of_dvd (by omega) (Nat.gcd_dvd_left n d)) hg
    omega
 refine ⟨hz, fun hn => ?_⟩
 have hn0 : n ≠ 0 := hn
 unfold qF
 dsimp only
 have hd : (0 : Rat) < (d : Rat) := by exact_mod_cast Nat.pos_of_ne_zero h
 have hnn : (0 : Rat) < (n : Rat) := by exact_mod_cast Nat.pos_of_ne_zero hn0
 rw [Rat.mkRat_eq_div, Rat.div_def]
 have hi := Rat.inv_pos.2 hd
 unfold sgn
 cases a
 ·have h1 : (0 : Rat) < ((n : Int) : Rat) * ((d : Nat) : Rat)⁻¹ := Rat.mul_pos (by exact_mod_cast hnn) hi
  simp
  grind
 ·have h1 : (0 : Rat) < ((n : Int) : Rat) * ((d : Nat) : Rat)⁻¹ := Rat.mul_pos (by exact_mod_cast hnn) hi
  simp
  grind
def leapB (y : Int) : Bool := (y.tmod 4 == 0 && y.tmod 100 != 0) || y.tmod 400 == 0
def ylen (y : Int) : Int := if leapB y then 366 else 365
def tab (i : Nat) : Int := ([31, 28, 31, 30, 31, 30, 31, 31, 30, 31, 30, 31] : List Int).getD i 0
def mlen (y m : Int) : Int := if m = 2 /\ leapB y = true then 29 else tab (m - 1).toNat
def ys (y : Int) : Int := 365 * (y - 2000) + (y - 1997) / 4
def cumTab (i : Nat) : Int := ([0, 31, 59, 90, 120, 151, 181, 212, 243, 273, 304, 334, 365] : List Int).getD i 0
def ms (y m : Int) : Int := cumTab (m - 1).toNat + if 3 <= m /\ leapB y = true then 1 else 0
theorem leapB_iff (y : Int) (h1 : 2000 <= y) (h2 : y <= 2040) : leapB y = true ↔ y % 4 = 0 := by
 unfold leapB
 rw [Int.tmod_eq_emod_of_nonneg (by omega), Int.tmod_eq_emod_of_nonneg (by omega), Int.tmod_eq_emod_of_nonneg (by omega)]
 simp only [Bool.or_eq_true, Bool.and_eq_true, beq_iff_eq, bne_iff_ne, ne_eq]
 omega
theorem leapB_false_iff (y : Int) (h1 : 2000 <= y) (h2 : y <= 2040) : leapB y = false ↔ y % 4 ≠ 0 := by
 have := leapB_iff y h1 h2
 cases h : leapB y <;> simp_all
theorem ylen_bd (y : Int) : 365 <= ylen y /\ ylen y <= 366 := by unfold ylen; split <;> omega
theorem ys_succ (y : Int) (h1 : 2000 <= y) (h2 : y <= 2040) : ys (y + 1) = ys y + ylen y := by
 unfold ys ylen
 cases h : leapB y
 ·have := (leapB_false_iff y h1 h2).1 h
  simp; omega
 ·have := (leapB_iff y h1 h2).1 h
  simp; omega
theorem ys_0 : ys 2000 = 0 := by decide
theorem ys_bd (y : Int) (h1 : 2000 <= y) (h2 : y <= 2040) : 0 <= ys y /\ ys y <= 14610 := by unfold ys; omega
theorem m_cases {m : Int} (h1 : 1 <= m) (h2 : m <= 12) : m = 1 \/ m = 2 \/ m = 3 \/ m = 4 \/ m = 5 \/ m = 6 \/ m = 7 \/ m = 8 \/ m = 9 \/ m = 10 \/ m = 11 \/ m = 12 := by omega
theorem mlen_bd (y m : Int) (h1 : 1 <= m) (h2 : m <= 12) : 28 <= mlen y m /\ mlen y m <= 31 := by
 rcases m_cases h1 h2 with rfl | rfl | rfl | rfl | rfl | rfl | rfl | rfl | rfl | rfl | rfl | rfl <;> cases h : leapB y <;> simp [mlen, h, tab]
theorem ms_succ (y m : Int) (h1 : 1 <= m) (h2 : m <= 12) : ms y (m + 1) = ms y m + mlen y m := by
 rcases m_cases h1 h2 with rfl | rfl | rfl | rfl | rfl | rfl | rfl | rfl | rfl | rfl | rfl | rfl <;> cases h : leapB y <;> simp [ms, mlen, h, tab, cumTab]
theorem ms_1 (y : Int) : ms y 1 = 0 := by simp [ms, cumTab]
theorem ms_13 (y : Int) : ms y 13 = ylen y := by cases h : leapB y <;> simp [ms, ylen, h, cumTab]
theorem ms_bd (y m : Int) (h1 : 1 <= m) (h2 : m <= 13) : 0 <= ms y m /\ ms y m <= 366 := by
 have : m = 13 \/ m <= 12 := by omega
 rcases this with rfl | h2
 ·have := ylen_bd y; rw [ms_13]; omega
 rcases m_cases h1 h2 with rfl | rfl | rfl | rfl | rfl | rfl | rfl | rfl | rfl | rfl | rfl | rfl <;> cases h : leapB y <;> simp [ms, h, cumTab]
theorem ms_mono (y a b : Int) (h1 : 1 <= a) (h : a <= b) (h2 : b <= 13) : ms y a <= ms y b := by
 have : ∀ n : Nat, a + n <= 13 -> ms y a <= ms y (a + n) := by
  intro n
  induction n with
  | zero => intro _; simp
  | succ n ih =>
   intro hn
   have := ih (by omega)
   have e := ms_succ y (a + n) (by omega) (by omega)
   have b := mlen_bd y (a + n) (by omega) (by omega)
   rw [show a + ((n + 1 : Nat) : Int) = a + n + 1 from by omega, e]; omega
 have := this (b - a).toNat (by omega)
 rwa [show a + ((b - a).toNat : Int) = b from by omega] at this
structure IsDate (day y m d : Int) : Prop where
 y1 : 2000 <= y
 y2 : y <= 2039
 m1 : 1 <= m
 m2 : m <= 12
 d1 : 1 <= d
 d2 : d <= mlen y m
 eq : day = ys y + ms y m + d - 1
theorem IsDate.lt {day y m d : Int} (h : IsDate day y m d) : ys y <= day /\ day < ys (y + 1) /\ ys y + ms y m <= day /\ day < ys y + ms y (m + 1) := by
 obtain ⟨y1, y2, m1, m2, d1, d2, eq⟩ := h
 have a := ys_succ y y1 (by omega)
 have b := ms_succ y m m1 m2
 have c := ms_mono y (m + 1) 13 (by omega) (by omega) (by omega)
 have c' := ms_bd y m m1 (by omega)
 rw [ms_13] at c
 omega
def fm : Nat -> Int -> Int -> Int -> Int
 | 0, _, _, m => m
 | n + 1, r, y, m => if r < ms y (m + 1) then m else fm n r y (m + 1)
open Go.RowKit
def TabOK (w : World) : Prop := ∀ i, i < 12 -> w.cell? ⟨0, i, none⟩ = some (.int .i64 (tab i))
theorem TabOK.pos {w : World} (h : TabOK w) : 0 < w.heap.size := by
 have h' := h 0 (by omega)
 rcases Nat.eq_zero_or_pos w.heap.size with e | e
 ·exfalso
  have : w.heap = #[] := by simpa using e
  simp [World.cell?, this] at h'
 ·exact e
theorem TabOK.below {w w' : World} (h : TabOK w) (hb : Below w.heap.size w w') : TabOK w' := fun i hi => by
 have h' := h i hi
 have : 0 < w.heap.size := h.pos
 exact (hb.cell (p := ⟨0, i, none⟩) this).trans h'
theorem leap_any (y : Int) (w : World) : Calls Tryz.prog 163 #[.int .i64 y] w fun e w' => e = .returned (.bool (leapB y)) /\ w = w' := by
 go_enter Tryz.func163, Tryz.ntmps163
 go_wp2
 all_goals go_ret
 all_goals exact ⟨by simp [leapB, *], rfl⟩
theorem days_any (y : Int) (w : World) : Calls Tryz.prog 139 #[.int .i64 y] w fun e w' => e = .returned (.int .i64 (ylen y)) /\ w = w' := by
 go_enter Tryz.func139, Tryz.ntmps139
 cases h : leapB y
 all_goals
  go_wp2_with (go_at_call 163; refine (leap_any _ _).mono ?_; rintro e w' ⟨rfl, rfl⟩)
  go_ret
  exact ⟨by simp [ylen, h], rfl⟩
theorem length_any (y m : Int) (w : World) (hT : Hid (TabOK w)) (h1 : 1 <= m) (h2 : m <= 12) : Calls Tryz.prog 138 #[.int .i64 y, .int .i64 m] w fun e w' => e = .returned (.int .i64 (mlen y m)) /\ w = w' := by
 by_cases hm : m = 2
 ·subst hm
  have hc : w.cell? ⟨0, 1, none⟩ = some (.int .i64 28) := hT.out 1 (by omega)
  cases h : leapB y
  all_goals
   go_enter Tryz.func138, Tryz.ntmps138
   go_wp2_with (go_at_call 163; refine (leap_any _ _).mono ?_; rintro e w' ⟨rfl, rfl⟩)
   go_ret
   exact ⟨by simp [mlen, h, tab], rfl⟩
 ·have hc : w.cell? ⟨0, m.toNat - 1, none⟩ = some (.int .i64 (tab (m.toNat - 1))) := hT.out _ (by omega)
  have hb : (m == 2) = false := by simpa using hm
  go_enter Tryz.func138, Tryz.ntmps138
  go_wp2_with fail
  go_ret
  exact ⟨by simp [mlen, hm], rfl⟩
def okDate (y m d : Int) : Bool := decide (2000 <= y) && decide (y <= 2039) && decide (1 <= m) && decide (m <= 12) && decide (1 <= d) && decide (d <= mlen y m)
theorem okDate_iff {y m d : Int} : okDate y m d = true ↔ 2000 <= y /\ y <= 2039 /\ 1 <= m /\ m <= 12 /\ 1 <= d /\ d <= mlen y m := by simp [okDate, and_assoc]
def dayN (y m d : Int) : Int := if okDate y m d = true then ys y + ms y m + d - 1 else 0
def dayE (y m d : Int) : Int := if okDate y m d = true then 0 else 3
theorem day_no {y m d : Int} (h : ¬ (2000 <= y /\ y <= 2039 /\ 1 <= m /\ m <= 12 /\ 1 <= d /\ d <= mlen y m)) : dayN y m d = 0 /\ dayE y m d = 3 := by
 rw [<- okDate_iff] at h; exact ⟨by simp [dayN, h], by simp [dayE, h]⟩
theorem day_yes {y m d : Int} (h : 2000 <= y /\ y <= 2039 /\ 1 <= m /\ m <= 12 /\ 1 <= d /\ d <= mlen y m) : dayN y m d = ys y + ms y m + d - 1 /\ dayE y m d = 0 := by
 rw [<- okDate_iff] at h; exact ⟨by simp [dayN, h], by simp [dayE, h]⟩
theorem bad_cases {y m d : Int} (h : ¬ (2000 <= y /\ y <= 2039 /\ 1 <= m /\ m <= 12 /\ 1 <= d /\ d <= mlen y m)) :
  y < 2000 \/ (2000 <= y /\ 2039 < y) \/ (2000 <= y /\ y <= 2039 /\ m < 1) \/ (2000 <= y /\ y <= 2039 /\ 12 < m) \/ (2000 <= y /\ y <= 2039 /\ 1 <= m /\ m <= 12 /\ d < 1) \/ (2000 <= y /\ y <= 2039 /\ 1 <= m /\ m <= 12 /\ 1 <= d /\ mlen y m < d) := by omega
theorem day_any (y m d : Int) (w : World) (hT : Hid (TabOK w)) : Calls Tryz.prog 103 #[.int .i64 y, .int .i64 m, .int .i64 d] w fun e w' => e = .returned (.tuple #[.int .i64 (dayN y m d), .int .i64 (dayE y m d)]) /\ w = w' := by
 by_cases hok : 2000 <= y /\ y <= 2039 /\ 1 <= m /\ m <= 12 /\ 1 <= d /\ d <= mlen y m
 ·obtain ⟨hn, he⟩ := day_yes hok
  have HN : Hid (dayN y m d = ys y + ms y m + d - 1) := hn
  have HE : Hid (dayE y m d = 0) := he
  clear hn he
  obtain ⟨y1, y2, m1, m2, d1, d2⟩ := hok
  have ml := mlen_bd y m m1 m2
  have H0 : Hid (ys 2000 = 0) := ys_0
  have hm1 : Hid (ms y 1 = 0) := ms_1 y
  have b1 : decide (y < 2000) = false := by simp; omega
  have b2 : decide (2040 <= y) = false := by simp; omega
  have b3 : decide (m < 1) = false := by simp; omega
  have b4 : decide (12 < m) = false := by simp; omega
  have b5 : decide (d < 1) = false := by simp; omega
  have b6 : decide (mlen y m < d) = false := by simp; omega
  go_enter Tryz.func103, Tryz.ntmps103
  go_wp2_with (go_at_call 138; refine (length_any _ _ _ hT m1 m2).mono ?_; rintro e w' ⟨rfl, rfl⟩)
  go_loop [8, 9] (fun t i => ∃ z : Int, 2000 <= z /\ z <= y /\ i = .int .i64 z /\ t = .int .i64 (ys z + (d - 1))) (fun _ i => (2040 - intOf i).toNat)
  case atStart => exact ⟨2000, by omega, by omega, rfl, by rw [H0.out]; simp⟩
  case round =>
   obtain ⟨z, z1, z2, rfl, rfl⟩ := hrel
   have zb := ys_bd z z1 (by omega)
   have yl := ylen_bd z
   have HS : Hid (ys (z + 1) = ys z + ylen z) := ys_succ z z1 (by omega)
   by_cases hz : z < y
   ·go_wp2_with (go_at_call 139; refine (days_any _ _).mono ?_; rintro e w' ⟨rfl, rfl⟩)
    go_round
    case rel => exact ⟨z + 1, by omega, by omega, rfl, by rw [HS.out]; go_num⟩
    case measure => simp [intOf]; omega
   ·obtain rfl : z = y := by omega
    go_wp2
    go_loop [8, 10] (fun t i => ∃ k : Int, 1 <= k /\ k <= m /\ i = .int .i64 k /\ t = .int .i64 (ys z + (d - 1) + ms z k)) (fun _ i => (13 - intOf i).toNat)
    case atStart => exact ⟨1, by omega, by omega, rfl, by rw [hm1.out]; simp⟩
    case round =>
     obtain ⟨k, k1, k2, rfl, rfl⟩ := hrel
     have kb := ms_bd z k k1 (by omega)
     have kl := mlen_bd z k k1 (by omega)
     have HM : Hid (ms z (k + 1) = ms z k + mlen z k) := ms_succ z k k1 (by omega)
     by_cases hk : k < m
     ·go_wp2_with (go_at_call 138; refine (length_any _ _ _ hT k1 (by omega)).mono ?_; rintro e w' ⟨rfl, rfl⟩)
      go_round
      case rel => exact ⟨k + 1, by omega, by omega, rfl, by rw [HM.out]; go_num⟩
      case measure => simp [intOf]; omega
     ·obtain rfl : k = m := by omega
      go_wp2
      go_ret2
      exact ⟨by rw [HN.out, HE.out, show ys z + ms z k + d - 1 = ys z + (d - 1) + ms z k from by omega]; rfl, rfl⟩
 ·obtain ⟨hn, he⟩ := day_no hok
  have HN : Hid (dayN y m d = 0) := hn
  have HE : Hid (dayE y m d = 3) := he
  clear hn he
  have c1 : y < 2000 -> decide (y < 2000) = true := fun h => by simpa using h
  have c1' : 2000 <= y -> decide (y < 2000) = false := fun h => by simp; omega
  have c2 : 2039 < y -> decide (2040 <= y) = true := fun h => by simp; omega
  have c2' : y <= 2039 -> decide (2040 <= y) = false := fun h => by simp; omega
  have c3 : m < 1 -> decide (m < 1) = true := fun h => by simpa using h
  have c3' : 1 <= m -> decide (m < 1) = false := fun h => by simp; omega
  have c4 : 12 < m -> decide (12 < m) = true := fun h => by simpa using h
  have c4' : m <= 12 -> decide (12 < m) = false := fun h => by simp; omega
  have c5 : d < 1 -> decide (d < 1) = true := fun h => by simpa using h
  have c5' : 1 <= d -> decide (d < 1) = false := fun h => by simp; omega
  have c6 : mlen y m < d -> decide (mlen y m < d) = true := fun h => by simpa using h
  rcases bad_cases hok with h | ⟨h, h2⟩ | ⟨h, h2, h3⟩ | ⟨h, h2, h3⟩ | ⟨h, h2, h3, h4, h5⟩ | ⟨h, h2, h3, h4, h5, h6⟩
  ·have := c1 h
   clear hok c1 c1' c2 c2' c3 c3' c4 c4' c5 c5' c6
   go_enter Tryz.func103, Tryz.ntmps103
   go_wp2_with fail
   go_ret2
   exact ⟨by rw [HN.out, HE.out]; rfl, rfl⟩
  ·have := c1' h; have := c2 h2
   clear hok c1 c1' c2 c2' c3 c3' c4 c4' c5 c5' c6
   go_enter Tryz.func103, Tryz.ntmps103
   go_wp2_with fail
   go_ret2
   exact ⟨by rw [HN.out, HE.out]; rfl, rfl⟩
  ·have := c1' h; have := c2' h2; have := c3 h3
   clear hok c1 c1' c2 c2' c3 c3' c4 c4' c5 c5' c6
   go_enter Tryz.func103, Tryz.ntmps103
   go_wp2_with fail
   go_ret2
   exact ⟨by rw [HN.out, HE.out]; rfl, rfl⟩
  ·have := c1' h; have := c2' h2; have := c4 h3
   have : decide (m < 1) = false := by simp; omega
   clear hok c1 c1' c2 c2' c3 c3' c4 c4' c5 c5' c6
   go_enter Tryz.func103, Tryz.ntmps103
   go_wp2_with fail
   go_ret2
   exact ⟨by rw [HN.out, HE.out]; rfl, rfl⟩
  ·have := c1' h; have := c2' h2; have := c3' h3; have := c4' h4; have := c5 h5
   clear hok c1 c1' c2 c2' c3 c3' c4 c4' c5 c5' c6
   go_enter Tryz.func103, Tryz.ntmps103
   go_wp2_with fail
   go_ret2
   exact ⟨by rw [HN.out, HE.out]; rfl, rfl⟩
  ·have := c1' h; have := c2' h2; have := c3' h3; have := c4' h4; have := c5' h5; have := c6 h6
   clear hok c1 c1' c2 c2' c3 c3' c4 c4' c5 c5' c6
   go_enter Tryz.func103, Tryz.ntmps103
   go_wp2_with (go_at_call 138; refine (length_any _ _ _ hT h3 h4).mono ?_; rintro e w' ⟨rfl, rfl⟩)
   go_ret2
   exact ⟨by rw [HN.out, HE.out]; rfl, rfl⟩
end Go.Proofs.YthejfklieedjmaaGreatDoor
