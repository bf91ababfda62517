/- Part 18 of the proof of lawSum.card: QryWalkN, QrySums, QryShape, QryRefA, QryRefB, QryNms. Conditions: those of each theorem. -/
import Derived.BigQuiet
import Derived.Test.YthejfklieedjmaaGreatDoorQs01
import Derived.Test.YthejfklieedjmaaGreatDoorQs02
import Derived.Test.YthejfklieedjmaaGreatDoorQs10
import Derived.Test.YthejfklieedjmaaGreatDoorQs14
import Derived.Test.YthejfklieedjmaaGreatDoorQs17
set_option linter.unusedSimpArgs false
set_option maxRecDepth 20000
set_option maxHeartbeats 4000000
namespace Go.Proofs.YthejfklieedjmaaGreatDoor
open Go Go.Proofs Go.RowKit Go.Maps
theorem RvOK.sz {k : Nat} {u : Rv} (h : RvOK k u) (hk : k <= 2000000) : SzR u 2000000 := by
 obtain ⟨q, rfl, h⟩ := h
 exact (SzR.rep h).mono hk
theorem sum_sz {k : Nat} {l : List Pt} (h : QvOK k (.sum l)) (hk : k <= 2000000) : l ≠ [] /\ l.length <= 40 /\ ∀ p ∈ l, SzR p.coef 2000000 := ⟨h.1, h.2.1, fun p hp => (h.2.2 p hp).sz hk⟩
theorem nodes_mem : ∀ {l : List Ex} {y : Ex}, y ∈ l -> nodes y <= nodesL l
 | x :: r, y, h => by
  rw [nodesL]
  rcases List.mem_cons.1 h with rfl | h
  ·omega
  ·have := nodes_mem h; omega
theorem typed_kids : ∀ {l : List Ex} {ks : List Int}, typedL l = .ok ks -> ∀ y ∈ l, ∃ t, typedE y = .ok t
 | x :: r, ks, h, y, hy => by
  rw [typedL] at h
  cases h1 : typedE x with
  | error p => rw [h1] at h; cases h
  | ok t =>
   rw [h1] at h
   cases h2 : typedL r with
   | error p => rw [h2] at h; cases h
   | ok ts =>
    rcases List.mem_cons.1 hy with rfl | hy
    ·exact ⟨t, h1⟩
    ·exact typed_kids h2 y hy
theorem vc_of {x : Ex} {t : Int} (ht : typedE x = .ok t) (hn : nodes x <= 100000) : VC x := by
 cases hx : valueL x.kids with
 | error c => exact .bad c hx
 | ok xs =>
  obtain ⟨op, n, s, kids, at_⟩ := x
  change valueL kids = .ok xs at hx
  rw [nodes] at hn
  have i1 : SzR (intR 1) 2000000 := (RvOK.int (n := 1) (by decide) (by decide)).sz (by decide)
  have im : SzR (intR (-1)) 2000000 := (RvOK.int (n := -1) (by decide) (by decide)).sz (by decide)
  rcases typed_ok ht with ⟨rfl, rfl, h1, h2, rfl⟩ | ⟨rfl, ks, hk, hs⟩ | ⟨rfl, a, rfl, ha, h1⟩ | ⟨ho, a, b, x, y, rfl, ha, hb, hp, h0⟩
  ·exact .one rfl ⟨h1, h2⟩
  ·exact .call xs ks t rfl hx hs (values_type hk hx) fun u hu => (RvOK.sz (values_size hk hx _ hu) (by omega)).mono (by decide)
  ·obtain ⟨v, rfl, hv⟩ := valueL_one hx
   have hvt := value_type ha hv
   have hvs := (value_size ha hv).mono (k := 2000000) (by simp only [nodesL] at hn; omega)
   rcases h1 with rfl | rfl
   ·cases v with
    | num u => exact .ngn u rfl hx (RvOK.sz hvs (by decide)) im
    | tick n => exact absurd hvt (by simp [tyOf])
    | sum l => exact absurd hvt (by simp [tyOf])
    | wish l => exact absurd hvt (by simp [tyOf])
   ·cases v with
    | sum l => exact .ngs l rfl hx (sum_sz hvs (by decide)) im
    | num l => exact absurd hvt (by simp [tyOf])
    | tick n => exact absurd hvt (by simp [tyOf])
    | wish l => exact absurd hvt (by simp [tyOf])
  ·obtain ⟨v, w, rfl, hv, hw⟩ := valueL_two hx
   have h1 := value_type ha hv
   have h2 := value_type hb hw
   have z1 := (value_size ha hv).mono (k := 1900000) (by simp only [nodesL] at hn; omega)
   have z2 := (value_size hb hw).mono (k := 1900000) (by simp only [nodesL] at hn; omega)
   rw [<- hp, <- h1, <- h2] at h0
   clear hp
   cases v <;> cases w <;> rcases ho with rfl | rfl | rfl | rfl <;> first | exact absurd rfl h0 | skip
   ·exact .nn7 _ _ rfl hx (RvOK.sz z1 (by decide)) (RvOK.sz z2 (by decide))
   ·rename_i v
    by_cases hz : qR v = 0
    ·exact .nn8z _ _ rfl hx (RvOK.sz z1 (by decide)) (RvOK.sz z2 (by decide)) hz
    ·exact .nn8 _ _ rfl hx (RvOK.sz z1 (by decide)) (RvOK.sz z2 (by decide)) hz
   ·exact .nn10 _ _ rfl hx (RvOK.sz z1 (by decide)) (RvOK.sz z2 (by decide))
   ·exact .nn11 _ _ rfl hx (RvOK.sz z1 (by decide)) (RvOK.sz z2 (by decide))
   ·exact .ns7 _ _ rfl hx (sum_sz z2 (by decide)) (RvOK.sz z1 (by decide))
   ·exact .tn10 _ _ rfl hx z1 (RvOK.sz z2 (by decide))
   ·exact .tn11 _ _ rfl hx z1 (RvOK.sz z2 (by decide))
   ·exact .tt _ _ rfl hx z1 z2
   ·exact .sn7 _ _ rfl hx (sum_sz z1 (by decide)) (RvOK.sz z2 (by decide))
   ·exact .sn8 _ _ rfl hx (sum_sz z1 (by decide)) (RvOK.sz z2 (by decide)) i1 ((RvOK.inv z2).sz (by decide))
   ·exact .ss10 _ _ rfl hx (sum_sz z1 (by decide)) (sum_sz z2 (by decide))
   ·exact .ss11 _ _ rfl hx (sum_sz z1 (by decide)) (sum_sz z2 (by decide)) im
theorem typed_kids_of {x : Ex} {t : Int} (h : typedE x = .ok t) : ∀ y ∈ x.kids, ∃ t, typedE y = .ok t := by
 obtain ⟨op, n, s, kids, at_⟩ := x
 rw [typedE] at h
 split at h
 ·cases h
 ·cases hk : typedL kids with
  | error p => rw [hk] at h; cases h
  | ok ks => exact typed_kids hk
theorem value_any : ∀ (m : Nat) (x : Ex), SizeOf.sizeOf x <= m -> SmX x -> nodes x <= 100000 -> ∀ (t : Int), typedE x = .ok t -> ∀ (a : Value) (w : World), TabOK w -> KidsAt w (fun _ => True) x.kids a -> Calls Tryz.prog 51 #[exA x a] w fun e w' => Back w' (valueE x) e /\ Turned (fun _ => False) w w'
 | 0, x, hm => by cases x; simp at hm
 | m + 1, x, hm => by
  intro sm hn t ht a w hT hk
  obtain ⟨s1, s2, s3⟩ := sm.parts
  refine value_step x (vc_of ht hn) ⟨s1, s2⟩ (fun y hy a w hT hk => ?_) a w hT hk
  obtain ⟨ty, hty⟩ := typed_kids_of ht y hy
  refine value_any m y ?_ (s3 y hy) ?_ ty hty a w hT hk
  ·have h1 := List.sizeOf_lt_of_mem hy
   obtain ⟨p, n, s, ks, at_⟩ := x
   simp only [Ex.mk.sizeOf_spec] at hm
   simp only [Ex.kids] at h1
   omega
  ·obtain ⟨p, n, s, ks, at_⟩ := x
   rw [nodes] at hn
   have := nodes_mem (show y ∈ ks from hy)
   omega
def sumW (l : List Pt) : Ws := { noWs with kind := 1, parts := l }
def twoX (op : Int) (a b : Ex) : Ex := .mk op 0 noB [a, b] 0
def negX (a : Ex) : Ex := .mk 6 0 noB [a] 0
theorem checkW_sum (l : List Pt) : checkW (sumW l) = if 40 < l.length then 2 else if l = [] then 1 else checkPts l := by
 simp [checkW, sumW, noWs]
theorem of_ok {e : Ex} {ts : List Int} {q : Qv} (h : ofP e ts = .ok q) : ∃ t v, typedE e = .ok t /\ ts.contains t = true /\ valueE e = .ok v /\ wishOf v = q /\ ∀ w, q = .wish w -> checkW w = 0 := by
 unfold ofP at h
 cases ht : typedE e with
 | error p => rw [ht] at h; cases h
 | ok t =>
  rw [ht] at h
  dsimp only at h
  split at h
  ·rename_i hc
   cases hv : valueE e with
   | error c => rw [hv] at h; cases h
   | ok v =>
    rw [hv] at h
    dsimp only at h
    split at h
    ·rename_i w hw
     split at h
     ·rename_i h0
      cases h
      exact ⟨t, v, rfl, hc, rfl, hw, fun w2 h2 => by cases h2; exact h0⟩
     ·cases h
    ·rename_i hn
     cases h
     exact ⟨t, v, rfl, hc, rfl, rfl, fun w2 h2 => (hn w2 h2).elim⟩
  ·cases h
theorem of_num {e : Ex} {q : Qv} (h : ofP e [1] = .ok q) : ∃ c, q = .num c /\ typedE e = .ok 1 /\ valueE e = .ok (.num c) := by
 obtain ⟨t, v, ht, hc, hv, hq, -⟩ := of_ok h
 have ht1 : t = 1 := by simpa using hc
 subst ht1
 have h1 := value_type ht hv
 cases v with
 | num c => exact ⟨c, hq.symm, ht, hv⟩
 | tick n => simp [tyOf] at h1
 | sum l => simp [tyOf] at h1
 | wish w => simp [tyOf] at h1
theorem of_sum {e : Ex} {w : Ws} (h : ofP e [3, 4] = .ok (.wish w)) (hk : w.kind = 1) : typedE e = .ok 3 /\ valueE e = .ok (.sum w.parts) /\ w = sumW w.parts /\ checkPts w.parts = 0 /\ w.parts ≠ [] := by
 obtain ⟨t, v, ht, hc, hv, hq, h0⟩ := of_ok h
 have h1 := value_type ht hv
 have hz := value_size ht hv
 have hw := h0 w rfl
 have h34 : t = 3 \/ t = 4 := by simpa using hc
 cases v with
 | num c => cases hq
 | tick n => cases hq
 | sum l =>
  have : t = 3 := h1.symm
  subst this
  cases hq
  have h2 : checkW (sumW l) = 0 := hw
  rw [checkW_sum] at h2
  split at h2
  ·cases h2
  ·split at h2
   ·cases h2
   ·rename_i hn
    exact ⟨ht, hv, rfl, h2, hn⟩
 | wish u =>
  cases hq
  exfalso
  unfold checkW at hw
  rw [if_pos hk, hz.1] at hw
  simp at hw
theorem sum_of {e : Ex} {l : List Pt} (ht : typedE e = .ok 3) (hv : valueE e = .ok (.sum l)) (hn : l ≠ []) (hl : l.length <= 40) (hc : checkPts l = 0) : ofP e [3, 4] = .ok (.wish (sumW l)) := by
 unfold ofP
 rw [ht]
 dsimp only
 rw [if_pos (by decide), hv]
 have h0 : checkW (sumW l) = 0 := by rw [checkW_sum, if_neg (by omega), if_neg hn, hc]
 show (match wishOf (.sum l) with
  | .wish w => if checkW w = 0 then Of.ok (.wish w) else .err (checkW w)
  | u => .ok u) = _
 show (if checkW (sumW l) = 0 then Of.ok (.wish (sumW l)) else .err (checkW (sumW l))) = _
 rw [if_pos h0]
theorem checkPts_append : ∀ {l m : List Pt}, checkPts l = 0 -> checkPts m = 0 -> checkPts (l ++ m) = 0
 | [], _, _, h => h
 | p :: l, m, h, g => by
  rw [checkPts] at h
  rw [List.cons_append, checkPts]
  split at h
  ·rename_i h1
   rw [if_pos h1]
   exact checkPts_append h g
  ·rename_i h1
   exact absurd h h1
theorem checkPts_scaled (u : Rv) : ∀ {l : List Pt}, checkPts l = 0 -> checkPts (scaledP l u) = 0
 | [], _ => rfl
 | p :: l, h => by
  rw [checkPts] at h
  split at h
  ·rename_i h1
   have h2 : checkPt { p with coef := mulR p.coef u } = 0 := by
    unfold checkPt at h1 ⊢
    have hv : validR (mulR p.coef u) := repR_valid _
    split at h1
    ·cases h1
    ·rename_i hn
     rw [if_neg (by
      rintro (h | h | h | h)
      ·exact hn (.inl h)
      ·exact hn (.inr (.inl h))
      ·exact h hv
      ·exact hn (.inr (.inr (.inr h))))]
     exact h1
   show checkPts ({ p with coef := mulR p.coef u } :: scaledP l u) = 0
   rw [checkPts, if_pos h2]
   exact checkPts_scaled u h
  ·rename_i h1
   exact absurd h h1
theorem two_typed {op x y : Int} {a b : Ex} (ho : op = 7 \/ op = 8 \/ op = 10 \/ op = 11) (ha : typedE a = .ok x) (hb : typedE b = .ok y) (h0 : binaryP op x y ≠ 0) : typedE (twoX op a b) = .ok (binaryP op x y) := by
 have h2 : operandsP op = 2 := by rcases ho with rfl | rfl | rfl | rfl <;> rfl
 have h1 : op ≠ 1 /\ op ≠ 2 /\ op ≠ 3 /\ op ≠ 4 /\ op ≠ 6 := by omega
 have hT : typeOf op noB [x, y] = (binaryP op x y, 0) := by
  unfold typeOf
  rw [if_neg h1.1, if_neg h1.2.1, if_neg h1.2.2.1, if_neg h1.2.2.2.1, if_neg h1.2.2.2.2]
  show (if binaryP op x y = 0 then ((0 : Int), (7 : Int)) else (binaryP op x y, 0)) = _
  rw [if_neg h0]
 unfold twoX
 rw [typedE, h2, if_neg (by
  rintro (h | h | h)
  ·cases h
  ·exact h.2 rfl
  ·exact h1.1 h.1), typedL, ha, typedL, hb, typedL]
 dsimp only
 rw [hT, if_pos rfl]
theorem two_value {op : Int} {a b : Ex} {v w : Qv} (ho : op = 7 \/ op = 8 \/ op = 10 \/ op = 11) (ha : valueE a = .ok v) (hb : valueE b = .ok w) : valueE (twoX op a b) = bothP op v w := by
 have h1 : op ≠ 1 /\ op ≠ 4 /\ op ≠ 6 := by omega
 unfold twoX
 rw [valueE, valueL, ha, valueL, hb, valueL]
 dsimp only
 rw [if_neg h1.1, if_neg h1.2.1, if_neg h1.2.2]
theorem sums_law {s z n : Ex} {a b : Ws} {c : Rv} (hs : ofP s [3, 4] = .ok (.wish a)) (hz : ofP z [3, 4] = .ok (.wish b)) (hn : ofP n [1] = .ok (.num c)) (ka : a.kind = 1) (kb : b.kind = 1) (la : a.parts.length <= 20) (lb : b.parts.length <= 20) :
  ofP (twoX 10 s z) [3, 4] = .ok (.wish (sumW (a.parts ++ b.parts))) /\ ofP (twoX 11 s z) [3, 4] = .ok (.wish (sumW (a.parts ++ scaledP b.parts (intR (-1))))) /\ ofP (negX z) [3, 4] = .ok (.wish (sumW (scaledP b.parts (intR (-1))))) /\
  ofP (twoX 7 n s) [3, 4] = .ok (.wish (sumW (scaledP a.parts c))) /\ ofP (twoX 7 s n) [3, 4] = .ok (.wish (sumW (scaledP a.parts c))) /\
  (qR c = 0 -> ofP (twoX 8 s n) [3, 4] = .err 1) /\ (qR c ≠ 0 -> ofP (twoX 8 s n) [3, 4] = .ok (.wish (sumW (scaledP a.parts (repR (1 / qR c)))))) := by
 obtain ⟨ts, vs, -, cs, ns⟩ := of_sum hs ka
 obtain ⟨tz, vz, -, cz, nz⟩ := of_sum hz kb
 obtain ⟨c', h1, tn, vn⟩ := of_num hn
 cases h1
 have sn : ∀ u l, l ≠ [] -> scaledP l u ≠ [] := fun u l h he => h (List.map_eq_nil_iff.1 he)
 refine ⟨?_, ?_, ?_, ?_, ?_, fun h0 => ?_, fun h0 => ?_⟩
 ·refine sum_of (two_typed (by omega) ts tz (by decide)) ?_ (by simp [ns]) (by rw [List.length_append]; omega) (checkPts_append cs cz)
  rw [two_value (by omega) vs vz]
  show (if 40 < a.parts.length + b.parts.length then Except.error (2 : Int) else .ok (Qv.sum (a.parts ++ b.parts))) = _
  rw [if_neg (by omega)]
 ·refine sum_of (two_typed (by omega) ts tz (by decide)) ?_ (by simp [ns]) (by rw [List.length_append, scaled_len]; omega) (checkPts_append cs (checkPts_scaled _ cz))
  rw [two_value (by omega) vs vz]
  show (if 40 < a.parts.length + b.parts.length then Except.error (2 : Int) else .ok (Qv.sum (a.parts ++ scaledP b.parts (intR (-1))))) = _
  rw [if_neg (by omega)]
 ·refine sum_of ?_ ?_ (sn _ _ nz) (by rw [scaled_len]; omega) (checkPts_scaled _ cz)
  ·unfold negX
   rw [typedE, if_neg (by simp [operandsP]), typedL, tz, typedL]
   rfl
  ·unfold negX
   rw [valueE, valueL, vz, valueL]
   rfl
 ·exact sum_of (two_typed (by omega) tn ts (by decide)) (by rw [two_value (by omega) vn vs]; rfl) (sn _ _ ns) (by rw [scaled_len]; omega) (checkPts_scaled _ cs)
 ·refine sum_of (two_typed (by omega) ts tn (by decide)) ?_ (sn _ _ ns) (by rw [scaled_len]; omega) (checkPts_scaled _ cs)
  rw [two_value (by omega) vs vn]
  rfl
 ·have hv : valueE (twoX 8 s n) = .error 1 := by
   rw [two_value (by omega) vs vn]
   show (if qR c = 0 then Except.error (1 : Int) else _) = _
   rw [if_pos h0]
  unfold ofP
  rw [two_typed (by omega) ts tn (by decide)]
  dsimp only
  rw [if_pos (by decide), hv]
 ·refine sum_of (two_typed (by omega) ts tn (by decide)) ?_ (sn _ _ ns) (by rw [scaled_len]; omega) (checkPts_scaled _ cs)
  rw [two_value (by omega) vs vn]
  show (if qR c = 0 then Except.error (1 : Int) else _) = _
  rw [if_neg h0]
def PtW (p : Pt) : Prop := (p.kind = 1 \/ p.kind = 2 \/ p.kind = 3) /\ (p.other ≠ 0 -> p.kind = 2) /\ 0 <= p.from_ /\ p.to_ <= maxT
def WsW (w : Ws) : Prop := w.parts = [] /\ 0 <= w.from_ /\ w.to_ <= maxT /\ (((w.kind = 2 \/ w.kind = 3) /\ w.other = 0 /\ w.lag = 0 /\ w.level = zeroR /\ w.level2 = zeroR) \/ (w.kind = 4 /\ w.other = 0 /\ w.lag = 0 /\ w.level2 = zeroR) \/ w.kind = 5)
def QvW : Qv -> Prop
 | .num _ => True
 | .tick n => 0 <= n /\ n <= maxT
 | .sum l => ∀ p ∈ l, PtW p
 | .wish w => WsW w
theorem at_shape {n : Int} {q : Qv} (h : atP n = .ok q) : QvW q := by
 obtain ⟨rfl, h1⟩ := at_ok h
 exact h1
theorem scaled_shape {l : List Pt} {u : Rv} (h : QvW (.sum l)) : QvW (.sum (scaledP l u)) := fun p hp => by
 obtain ⟨a, ha, rfl⟩ := List.mem_map.1 hp
 exact h a ha
theorem part_shape {k t u : Int} {l : List Rv} {q : Qv} (hk : (k = 2 /\ l.length = 2) \/ ((k = 1 \/ k = 3) /\ l.length = 1)) (ht : 0 <= t) (hu : u <= maxT) (h : partF k l t u = .ok q) : QvW q := by
 unfold partF at h
 split at h
 ·rename_i g r hw
  cases h
  intro p hp
  rw [List.mem_singleton] at hp
  subst hp
  refine ⟨by show k = 1 \/ k = 2 \/ k = 3; omega, fun ho => ?_, ht, hu⟩
  rcases hk with ⟨hk, -⟩ | ⟨-, hl⟩
  ·exact hk
  ·exfalso
   match l, hl, hw with
   | [x], _, hw =>
    rw [wholes] at hw
    split at hw
    ·cases hw
    ·rw [wholes] at hw
     cases hw
     exact ho rfl
 ·cases h
theorem called_shape {k : Nat} {xs : List Qv} {q : Qv} (hx : ∀ x ∈ xs, QvW x) (h : calledN k xs = .ok q) : QvW q := by
 have tk : ∀ {n : Int}, Qv.tick n ∈ xs -> 0 <= n /\ n <= maxT := fun h => hx _ h
 unfold calledN at h
 split at h
 ·unfold dayF at h
  split at h
  ·split at h
   ·exact at_shape h
   ·cases h
  ·cases h
 ·unfold tickF at h
  split at h
  ·cases h
  ·exact at_shape h
 ·exact part_shape (.inr ⟨.inl rfl, rfl⟩) (tk (by simp)).1 (tk (by simp)).2 h
 ·exact part_shape (.inl ⟨rfl, rfl⟩) (tk (by simp)).1 (tk (by simp)).2 h
 ·exact part_shape (.inr ⟨.inr rfl, rfl⟩) (tk (by simp)).1 (tk (by simp)).2 h
 ·rename_i t u
  unfold extremeF at h
  split at h
  ·cases h
  ·cases h
   exact ⟨rfl, (tk (n := t) (by simp)).1, (tk (n := u) (by simp)).2, .inl ⟨.inl rfl, rfl, rfl, rfl, rfl⟩⟩
 ·rename_i t u
  unfold extremeF at h
  split at h
  ·cases h
  ·cases h
   exact ⟨rfl, (tk (n := t) (by simp)).1, (tk (n := u) (by simp)).2, .inl ⟨.inr rfl, rfl, rfl, rfl, rfl⟩⟩
 ·rename_i t u
  unfold aboveF at h
  split at h
  ·cases h
  ·cases h
   exact ⟨rfl, (tk (n := t) (by simp)).1, (tk (n := u) (by simp)).2, .inr (.inl ⟨rfl, rfl, rfl, rfl⟩)⟩
 ·rename_i t u
  unfold bothF at h
  split at h
  ·cases h
   exact ⟨rfl, (tk (n := t) (by simp)).1, (tk (n := u) (by simp)).2, .inr (.inr rfl)⟩
  ·cases h
 ·cases h
theorem both_shape {op : Int} {a b q : Qv} (ha : QvW a) (hb : QvW b) (h : bothP op a b = .ok q) : QvW q := by
 cases a <;> cases b <;> simp only [bothP] at h <;> repeat' split at h
 all_goals first
  | exact at_shape h
  | (cases h; done)
  | (cases h; trivial)
  | (cases h; exact scaled_shape ha)
  | (cases h; exact scaled_shape hb)
  | skip
 all_goals
  cases h
  intro p hp
  rcases List.mem_append.1 hp with h1 | h1
  ·exact ha p h1
  ·first | exact hb p h1 | exact scaled_shape hb p h1
mutual
theorem value_shape : ∀ {e : Ex} {q : Qv}, valueE e = .ok q -> QvW q
 | .mk op n s kids at_, q, h => by
  rw [valueE] at h
  cases hx : valueL kids with
  | error d => rw [hx] at h; cases h
  | ok xs =>
   rw [hx] at h
   dsimp only at h
   have hv := fun x hm => values_shape hx x hm
   repeat' split at h
   all_goals first
    | (cases h; done)
    | (cases h; trivial)
    | exact called_shape hv h
    | (refine both_shape ?_ ?_ h <;> first | trivial | exact hv _ (List.mem_cons_self ..) | exact hv _ (List.mem_cons_of_mem _ (List.mem_cons_self ..)))
theorem values_shape : ∀ {l : List Ex} {xs : List Qv}, valueL l = .ok xs -> ∀ x ∈ xs, QvW x
 | [], xs, h => by
  rw [valueL] at h
  cases h
  intro x hx; cases hx
 | e :: r, xs, h => by
  rw [valueL] at h
  cases h3 : valueE e with
  | error c => rw [h3] at h; cases h
  | ok v =>
   rw [h3] at h
   cases h4 : valueL r with
   | error c => rw [h4] at h; cases h
   | ok vs =>
    rw [h4] at h
    cases h
    intro x hx
    rcases List.mem_cons.1 hx with rfl | hx
    ·exact value_shape h3
    ·exact values_shape h4 x hx
end
def CkW (w : Ws) : Prop := (w = sumW w.parts /\ w.parts ≠ [] /\ w.parts.length <= 40 /\ ∀ p ∈ w.parts, PtW p /\ RvOK 1900000 p.coef) \/ (WsW w /\ RvOK 1900000 w.level /\ RvOK 1900000 w.level2)
theorem ck_of {e : Ex} {t : Int} {q : Qv} {w : Ws} (ht : typedE e = .ok t) (h : valueE e = .ok q) (hn : nodes e <= 100000) (hw : wishOf q = .wish w) : CkW w := by
 have h1 := (value_size ht h).mono (k := 1900000) (by omega)
 have h2 := value_shape h
 cases q with
 | num u => cases hw
 | tick n => cases hw
 | sum l =>
  cases hw
  exact .inl ⟨rfl, h1.1, h1.2.1, fun p hp => ⟨h2 p hp, h1.2.2 p hp⟩⟩
 | wish w =>
  cases hw
  exact .inr ⟨h2, h1.2⟩
attribute [local go_sem] Oper.semAt_some
mutual
def cntE : Ex -> Int -> Int
 | .mk _ _ _ ks _, m => cntL ks m 1
def cntL : List Ex -> Int -> Int -> Int
 | [], _, n => n
 | x :: r, m, n => if n <= m then cntL r m (n + cntE x (m - n)) else n
end
theorem cntL_over {l : List Ex} {m n : Int} (h : m < n) : cntL l m n = n := by
 cases l with
 | nil => rw [cntL]
 | cons x r => rw [cntL, if_neg (by omega)]
mutual
theorem cnt_le : ∀ (x : Ex) (m : Int), 0 <= m -> 1 <= cntE x m /\ cntE x m <= m + 1
 | .mk _ _ _ ks _, m, h => by
  rw [cntE]
  have := cntL_le ks m 1 (by omega) (by omega)
  omega
theorem cntL_le : ∀ (l : List Ex) (m n : Int), 1 <= n -> n <= m + 1 -> n <= cntL l m n /\ cntL l m n <= m + 1
 | [], m, n, h1, h2 => by rw [cntL]; omega
 | x :: r, m, n, h1, h2 => by
  rw [cntL]
  split
  ·rename_i h
   have a := cnt_le x (m - n) (by omega)
   have b := cntL_le r m (n + cntE x (m - n)) (by omega) (by omega)
   omega
  ·omega
end
mutual
theorem cnt_nodes : ∀ (x : Ex) (m : Int), 0 <= m -> cntE x m <= m -> (nodes x : Int) <= m
 | .mk _ _ _ ks _, m, h, hc => by
  rw [cntE] at hc
  rw [nodes]
  have := cntL_nodes ks m 1 (by omega) hc
  omega
theorem cntL_nodes : ∀ (l : List Ex) (m n : Int), 1 <= n -> cntL l m n <= m -> n + (nodesL l : Int) <= m
 | [], m, n, h1, hc => by rw [cntL] at hc; rw [nodesL]; omega
 | x :: r, m, n, h1, hc => by
  rw [cntL] at hc
  rw [nodesL]
  split at hc
  ·rename_i h
   have c1 := cnt_le x (m - n) (by omega)
   have b := cntL_nodes r m (n + cntE x (m - n)) (by omega) hc
   have a := cnt_nodes x (m - n) (by omega)
   rcases Int.lt_or_le (m - n) (cntE x (m - n)) with h3 | h3
   ·rw [cntL_over (by omega)] at hc
    omega
   ·have h5 := cnt_exact x (m - n) (by omega) h3
    omega
  ·omega
theorem cnt_exact : ∀ (x : Ex) (m : Int), 0 <= m -> cntE x m <= m -> cntE x m = nodes x
 | .mk _ _ _ ks _, m, h, hc => by
  rw [cntE] at hc ⊢
  rw [nodes, cntL_exact ks m 1 (by omega) hc]
  omega
theorem cntL_exact : ∀ (l : List Ex) (m n : Int), 1 <= n -> cntL l m n <= m -> cntL l m n = n + nodesL l
 | [], m, n, h1, hc => by rw [cntL, nodesL]; omega
 | x :: r, m, n, h1, hc => by
  rw [cntL] at hc ⊢
  rw [nodesL]
  split at hc
  ·rename_i h
   rw [if_pos h]
   have c1 := cnt_le x (m - n) (by omega)
   rcases Int.lt_or_le (m - n) (cntE x (m - n)) with h3 | h3
   ·rw [cntL_over (by omega)] at hc
    omega
   ·rw [cntL_exact r m (n + cntE x (m - n)) (by omega) hc, cnt_exact x (m - n) (by omega) h3]
    omega
  ·rename_i h
   rw [if_neg h]
   omega
end
theorem cntL_step {l : List Ex} {k : Nat} {y : Ex} {m n : Int} (hy : l[k]? = some y) (h : n <= m) : cntL (l.drop k) m n = cntL (l.drop (k + 1)) m (n + cntE y (m - n)) := by
 have hlt := (List.getElem?_eq_some_iff.1 hy).1
 rw [List.drop_eq_getElem_cons hlt, cntL, if_pos h]
 rw [List.getElem?_eq_getElem hlt] at hy
 cases hy; rfl
theorem cntN_any : ∀ (s : Nat) (x : Ex), SizeOf.sizeOf x <= s -> ∀ (m : Int) (a : Value) (w : World), 0 <= m -> m <= 1000 -> KidsAt w (fun _ => True) x.kids a -> Calls Tryz.prog 36 #[exA x a, .int .i64 m] w fun e w' => e = .returned (.int .i64 (cntE x m)) /\ Turned (fun _ => False) w w'
 | 0, x, hm => by cases x; simp at hm
 | s + 1, x, hm => by
  intro m a w h0 h1 hk
  have HF : Hid (∀ y ∈ x.kids, ∀ (m : Int) (a : Value) (w : World), 0 <= m -> m <= 1000 -> KidsAt w (fun _ => True) y.kids a -> Calls Tryz.prog 36 #[exA y a, .int .i64 m] w fun e w' => e = .returned (.int .i64 (cntE y m)) /\ Turned (fun _ => False) w w') :=
   Lib.hid fun y hy n a w h0 h1 hk => cntN_any s y (by
    have h1 := List.sizeOf_lt_of_mem hy
    obtain ⟨p, n, s, ks, at_⟩ := x
    simp only [Ex.mk.sizeOf_spec] at hm
    simp only [Ex.kids] at h1
    omega) n a w h0 h1 hk
  have HE : Hid (cntE x m = cntL x.kids m 1) := Lib.hid (by cases x; rw [cntE]; rfl)
  obtain ⟨pa, ca, rfl⟩ := hk.shape
  have hlk := hk.len
  unfold maxLen at hlk
  have HK := Lib.hid hk
  clear hk hm
  obtain ⟨w1, hw1⟩ : ∃ w1, w1 = w.alloc (.cells #[.int .i64 x.op, .int .i64 x.n, .string x.s, .slice pa x.kids.length ca, .int .i64 x.at_] 42) := ⟨_, rfl⟩
  have HB : Hid (w1.heap[w.heap.size]? = some (.cells #[.int .i64 x.op, .int .i64 x.n, .string x.s, .slice pa x.kids.length ca, .int .i64 x.at_] 42 (0, 0))) := Lib.hid (by rw [hw1]; exact World.alloc_heap_new _ _)
  have HT : Hid (Turned (fun _ => False) w w1) := Lib.hid (by rw [hw1]; exact (Turned.refl _ _).alloc _)
  have HW := Lib.hid hw1
  have HM := Lib.hid (And.intro h0 h1)
  clear hw1 h0 h1
  unfold exA
  go_enter Tryz.func36, Tryz.ntmps36
  go_upto_region 3 with fail
  rw [<- HW.out]
  clear HW
  go_loopw [5, 6] (fun v i wr => ∃ (k : Nat) (z : Int), k <= x.kids.length /\ 1 <= z /\ z <= 1001 /\ v = (.int .i64 z) /\ i = (.int .i64 k) /\ Hid (z <= m + 1 /\ Turned (fun _ => False) w1 wr /\ cntL (x.kids.drop k) m z = cntE x m)) (fun _ i _ => x.kids.length - (intOf i).toNat)
  case atStart => exact ⟨0, 1, by omega, by omega, by omega, rfl, rfl, Lib.hid ⟨by have := HM.out.1; omega, Turned.refl _ _, by rw [HE.out]; rfl⟩⟩
  case round =>
   obtain ⟨k, z, hk, hz1, hz2, rfl, rfl, HR⟩ := hrel
   obtain ⟨x0, x1, x2, x3, x4⟩ := cellsFive ((HR.out.2.1.block _ (getElem?_lt HB.out) id).trans HB.out)
   by_cases hlt : k < x.kids.length
   ·have hix : (k : Int) < (x.kids.length : Int) := by omega
    by_cases hz : z <= m
    ·obtain ⟨y, hy⟩ := some_of_lt hlt
     obtain ⟨yb, ya, yk, rfl, ⟨y0, y1, y2, y3, y4⟩, HKy⟩ := kidsAt_get (HK.out.all (HT.out.trans HR.out.2.1)) hy
     obtain ⟨py, cy, rfl⟩ := HKy.shape
     have hm2 := HM.out
     have hw : IntKind.i64.wrap (m - z) = m - z := IntWalk.i64_in _ (by omega)
     have HC := Lib.hid (HF.out y (List.mem_of_getElem? hy) (m - z) _ wr (by omega) (by omega) HKy)
     have hle := cnt_le y (m - z) (by omega)
     have HR2 : Hid (cntL (x.kids.drop (k + 1)) m (z + cntE y (m - z)) = cntE x m) := Lib.hid (by rw [<- cntL_step hy hz]; exact HR.out.2.2)
     generalize cntE y (m - z) = z2 at HC hle HR2
     have hw2 : IntKind.i64.wrap (z + z2) = z + z2 := IntWalk.i64_in _ (by omega)
     have HL := Lib.hid hle
     unfold exA at HC
     clear hy HKy hle hm2
     go_wp2_with (go_at_call 36; refine HC.out.mono ?_; rintro e W9 ⟨rfl, ht⟩; have HT9 := Lib.hid (HR.out.2.1.trans ht); clear ht)
     go_roundw
     case rel => exact ⟨k + 1, z + z2, by omega, by have := HL.out; omega, by have := HL.out; have := HM.out; omega, rfl, by go_num, Lib.hid ⟨by have := HL.out; omega, HT9.out, HR2.out⟩⟩
     case measure => simp [intOf]; omega
    ·have HR2 : Hid (z = cntE x m) := Lib.hid (by have := HR.out.2.2; rw [cntL_over (by omega)] at this; exact this)
     go_wp2_with fail
     go_ret
     rw [<- HR2.out]
     exact ⟨rfl, HT.out.trans HR.out.2.1⟩
   ·have hix : ¬ (k : Int) < (x.kids.length : Int) := by omega
    obtain rfl : k = x.kids.length := by omega
    have HR2 : Hid (z = cntE x m) := Lib.hid (by have := HR.out.2.2; rw [List.drop_length, cntL] at this; exact this)
    go_wp2_with fail
    go_ret
    rw [<- HR2.out]
    exact ⟨rfl, HT.out.trans HR.out.2.1⟩
theorem few_nodes (x : Ex) (m : Int) (a : Value) (w : World) (h0 : 0 <= m) (h1 : m <= 1000) (hk : KidsAt w (fun _ => True) x.kids a) : Calls Tryz.prog 9 #[exA x a, .int .i64 m] w fun e w' => e = .returned (.bool (decide (cntE x m <= m))) /\ Turned (fun _ => False) w w' := by
 obtain ⟨pa, ca, rfl⟩ := hk.shape
 have tV : Turned (fun _ => False) w (w.alloc (.cells #[.int .i64 x.op, .int .i64 x.n, .string x.s, .slice pa x.kids.length ca, .int .i64 x.at_] 42)) := (Turned.refl _ _).alloc _
 have HC := Lib.hid (cntN_any _ x (Nat.le_refl _) m _ _ h0 h1 (hk.all tV))
 have HT := Lib.hid tV
 clear hk tV
 unfold exA at HC ⊢
 go_enter Tryz.func9, Tryz.ntmps9
 go_wp2_with (go_at_call 36; refine HC.out.mono ?_; rintro e W9 ⟨rfl, ht⟩; have HT9 := Lib.hid (HT.out.trans ht); clear ht)
 go_ret
 exact ⟨rfl, HT9.out⟩
theorem run_neq_part (x : Pt) (W : World) : (binOp .neq 51 (partV x) (partV x)).run Tryz.prog W = .ok (.bool false) W := by
 have hS : Tryz.prog.underlying 51 = some (.struct (Tryz.prog.fieldsOf 51)) := by kernel_rfl
 have hp : Tryz.prog.stoodInHeld 51 = false := by kernel_rfl
 have a1 := Tryz.isAgg9
 have z1 := Tryz.sizeOf9
 have u1 := Tryz.underlying9
 have h : (Op.equalIn 10000 51 (partV x) (partV x)).run Tryz.prog W = .ok true W := by
  rw [show (10000 : Nat) = 9999 + 1 from rfl, run_equalIn_agg W 9999 51 _ _ hS hp]
  simp only [Program.fieldsOf, Tryz.underlying51]
  go_simp
 rw [run_neq_struct, h]
 rfl
theorem Lst.eight {N c : Nat} {W : World} {p : Option Addr} {l : List Pt} (h : Lst N W 8 partCells l p c) {i : Nat} {x : Pt} (hi : l[i]? = some x) : ∃ b a, p = some ⟨b, a, none⟩ /\ b < N /\ W.cell? ⟨b, a + i * 8, none⟩ = some (.bool x.coef.neg) /\ W.cell? ⟨b, a + i * 8 + 1, none⟩ = some (.string x.coef.num) /\ W.cell? ⟨b, a + i * 8 + 2, none⟩ = some (.string x.coef.den) /\ W.cell? ⟨b, a + i * 8 + 3, none⟩ = some (.int .i64 x.kind) /\ W.cell? ⟨b, a + i * 8 + 4, none⟩ = some (.int .i64 x.place) /\ W.cell? ⟨b, a + i * 8 + 5, none⟩ = some (.int .i64 x.other) /\ W.cell? ⟨b, a + i * 8 + 6, none⟩ = some (.int .i64 x.from_) /\ W.cell? ⟨b, a + i * 8 + 7, none⟩ = some (.int .i64 x.to_) := by
 obtain ⟨b, a, h1, h2, h3⟩ := h.cel i x hi
 exact ⟨b, a, h1, h2, h3 0 _ rfl, h3 1 _ rfl, h3 2 _ rfl, h3 3 _ rfl, h3 4 _ rfl, h3 5 _ rfl, h3 6 _ rfl, h3 7 _ rfl⟩
theorem thirteen {V : World} {b t : Nat} {x0 x1 x2 x3 x4 x5 x6 x7 x8 x9 x10 x11 x12 : Value} (h : V.heap[b]? = some (.cells #[x0, x1, x2, x3, x4, x5, x6, x7, x8, x9, x10, x11, x12] t (0, 0))) : V.cell? ⟨b, 0, none⟩ = some x0 /\ V.cell? ⟨b, 1, none⟩ = some x1 /\ V.cell? ⟨b, 2, none⟩ = some x2 /\ V.cell? ⟨b, 3, none⟩ = some x3 /\ V.cell? ⟨b, 4, none⟩ = some x4 /\ V.cell? ⟨b, 5, none⟩ = some x5 /\ V.cell? ⟨b, 6, none⟩ = some x6 /\ V.cell? ⟨b, 7, none⟩ = some x7 /\ V.cell? ⟨b, 8, none⟩ = some x8 /\ V.cell? ⟨b, 9, none⟩ = some x9 /\ V.cell? ⟨b, 10, none⟩ = some x10 /\ V.cell? ⟨b, 11, none⟩ = some x11 /\ V.cell? ⟨b, 12, none⟩ = some x12 := by
 simp [World.cell?, h]
attribute [local go_sem ↓] run_neq_rat'
theorem rsame_w (w : Ws) (u v : Value) (W : World) (h1 : PtsAt W w.parts u) (h2 : PtsAt W w.parts v) : Calls Tryz.prog 16 #[.agg (wishC w u), .agg (wishC w v)] W fun e w' => e = .returned (.bool true) /\ Turned (fun _ => False) W w' := by
 obtain ⟨p, c, rfl, h1, -⟩ := h1
 obtain ⟨q, d, rfl, h2, -⟩ := h2
 obtain ⟨k, us, g, o, lg, f, t, ⟨an, ax, ad⟩, ⟨bn, bx, bd⟩⟩ := w
 dsimp only at *
 have mx : (us.length : Int) <= 9223372036854775807 := by have := h1.len; unfold maxLen at this; omega
 obtain ⟨n, hn⟩ : ∃ n, us.length = n := ⟨_, rfl⟩
 have s1 : sameR ⟨an, ax, ad⟩ ⟨an, ax, ad⟩ = true := by unfold sameR; simp
 have s2 : sameR ⟨bn, bx, bd⟩ ⟨bn, bx, bd⟩ = true := by unfold sameR; simp
 have HN := Lib.hid hn
 have H1 := Lib.hid h1
 have H2 := Lib.hid h2
 rw [hn] at mx ⊢
 obtain ⟨W1, hW1⟩ : ∃ W1, W1 = (W.alloc (.cells #[.int .i64 k, .slice p n c, .int .i64 g, .int .i64 o, .int .i64 lg, .int .i64 f, .int .i64 t, .bool an, .string ax, .string ad, .bool bn, .string bx, .string bd] 33)).alloc (.cells #[.int .i64 k, .slice q n d, .int .i64 g, .int .i64 o, .int .i64 lg, .int .i64 f, .int .i64 t, .bool an, .string ax, .string ad, .bool bn, .string bx, .string bd] 33) := ⟨_, rfl⟩
 have HB : Hid (W1.heap[W.heap.size]? = some (.cells #[.int .i64 k, .slice p n c, .int .i64 g, .int .i64 o, .int .i64 lg, .int .i64 f, .int .i64 t, .bool an, .string ax, .string ad, .bool bn, .string bx, .string bd] 33 (0, 0)) /\ W1.heap[W.heap.size + 1]? = some (.cells #[.int .i64 k, .slice q n d, .int .i64 g, .int .i64 o, .int .i64 lg, .int .i64 f, .int .i64 t, .bool an, .string ax, .string ad, .bool bn, .string bx, .string bd] 33 (0, 0))) := Lib.hid (by
  refine ⟨by rw [hW1, hao _ _ (by simp)]; exact World.alloc_heap_new _ _, ?_⟩
  have h2 := World.alloc_heap_new (W.alloc (.cells #[.int .i64 k, .slice p n c, .int .i64 g, .int .i64 o, .int .i64 lg, .int .i64 f, .int .i64 t, .bool an, .string ax, .string ad, .bool bn, .string bx, .string bd] 33)) (.cells #[.int .i64 k, .slice q n d, .int .i64 g, .int .i64 o, .int .i64 lg, .int .i64 f, .int .i64 t, .bool an, .string ax, .string ad, .bool bn, .string bx, .string bd] 33)
  rw [hW1]; simpa using h2)
 have HT : Hid (Turned (fun _ => False) W W1) := Lib.hid (by rw [hW1]; exact ((Turned.refl _ _).alloc _).alloc _)
 have HW := Lib.hid hW1
 clear hn h1 h2 hW1
 obtain ⟨c0, c1, c2, c3, c4, c5, c6, c7, c8, c9, c10, c11, c12⟩ := thirteen HB.out.1
 obtain ⟨d0, d1, d2, d3, d4, d5, d6, d7, d8, d9, d10, d11, d12⟩ := thirteen HB.out.2
 go_enter Tryz.func16, Tryz.ntmps16
 go_upto_region 1 with fail
 rw [<- HW.out]
 clear HW
 go_upto_region 4 with fail
 clear c0 c1 c2 c3 c4 c5 c6 c7 c8 c9 c10 c11 c12 d0 d1 d2 d3 d4 d5 d6 d7 d8 d9 d10 d11 d12 s1 s2
 go_loopw [5] (fun i wr => ∃ k : Nat, k <= n /\ i = (.int .i64 k) /\ Hid (Turned (fun _ => False) W1 wr)) (fun i _ => n - (intOf i).toNat)
 case atStart => exact ⟨0, Nat.zero_le _, rfl, Lib.hid (Turned.refl _ _)⟩
 case round =>
  obtain ⟨k, hk, rfl, HI⟩ := hrel
  have c1 := (thirteen (keepB HI.out HB.out.1)).2.1
  have d1 := (thirteen (keepB HI.out HB.out.2)).2.1
  by_cases hlt : k < n
  ·obtain ⟨x, hx⟩ := some_of_lt (show k < us.length by rw [HN.out]; exact hlt)
   obtain ⟨⟨xn, xx, xd⟩, x3, x4, x5, x6, x7⟩ := x
   obtain ⟨b, a, rfl, -, e0, e1, e2, e3, e4, e5, e6, e7⟩ := (H1.out.turned (HT.out.trans HI.out)).eight hx
   obtain ⟨b', a', rfl, -, g0, g1, g2, g3, g4, g5, g6, g7⟩ := (H2.out.turned (HT.out.trans HI.out)).eight hx
   have hk0 : (0 : Int) <= k := by omega
   have hk1 : (k : Int) < n := by omega
   have hrn := run_neq_part ⟨⟨xn, xx, xd⟩, x3, x4, x5, x6, x7⟩
   clear hx
   go_wp2_with fail
   go_quiet (fail)
   go_wp2_with fail
   go_roundw
   case rel => exact ⟨k + 1, by omega, by go_num, Lib.hid (HI.out.trans (drewNT _ _ nq))⟩
   case measure => simp [intOf]; omega
  ·obtain rfl : k = n := by omega
   go_wp2_with fail
   go_ret
   exact ⟨rfl, HT.out.trans HI.out⟩
abbrev nmCells (x : Nm × Value) : List Value := [.string x.1.name, .int .i64 x.1.known, .int .i64 x.1.wish.kind, x.2, .int .i64 x.1.wish.gauge, .int .i64 x.1.wish.other, .int .i64 x.1.wish.lag, .int .i64 x.1.wish.from_, .int .i64 x.1.wish.to_, .bool x.1.wish.level.neg, .string x.1.wish.level.num, .string x.1.wish.level.den, .bool x.1.wish.level2.neg, .string x.1.wish.level2.num, .string x.1.wish.level2.den]
theorem Lst.fifteen {N c : Nat} {W : World} {p : Option Addr} {l : List (Nm × Value)} (h : Lst N W 15 nmCells l p c) {i : Nat} {x : Nm × Value} (hi : l[i]? = some x) : ∃ b a, p = some ⟨b, a, none⟩ /\ b < N /\ W.cell? ⟨b, a + i * 15, none⟩ = some (.string x.1.name) /\ W.cell? ⟨b, a + i * 15 + 1, none⟩ = some (.int .i64 x.1.known) /\
  W.cell? ⟨b, a + i * 15 + 2, none⟩ = some (.int .i64 x.1.wish.kind) /\ W.cell? ⟨b, a + i * 15 + 3, none⟩ = some x.2 /\ W.cell? ⟨b, a + i * 15 + 4, none⟩ = some (.int .i64 x.1.wish.gauge) /\ W.cell? ⟨b, a + i * 15 + 5, none⟩ = some (.int .i64 x.1.wish.other) /\ W.cell? ⟨b, a + i * 15 + 6, none⟩ = some (.int .i64 x.1.wish.lag) /\ W.cell? ⟨b, a + i * 15 + 7, none⟩ = some (.int .i64 x.1.wish.from_) /\ W.cell? ⟨b, a + i * 15 + 8, none⟩ = some (.int .i64 x.1.wish.to_) /\
  W.cell? ⟨b, a + i * 15 + 9, none⟩ = some (.bool x.1.wish.level.neg) /\ W.cell? ⟨b, a + i * 15 + 10, none⟩ = some (.string x.1.wish.level.num) /\ W.cell? ⟨b, a + i * 15 + 11, none⟩ = some (.string x.1.wish.level.den) /\ W.cell? ⟨b, a + i * 15 + 12, none⟩ = some (.bool x.1.wish.level2.neg) /\ W.cell? ⟨b, a + i * 15 + 13, none⟩ = some (.string x.1.wish.level2.num) /\ W.cell? ⟨b, a + i * 15 + 14, none⟩ = some (.string x.1.wish.level2.den) := by
 obtain ⟨b, a, h1, h2, h3⟩ := h.cel i x hi
 exact ⟨b, a, h1, h2, h3 0 _ rfl, h3 1 _ rfl, h3 2 _ rfl, h3 3 _ rfl, h3 4 _ rfl, h3 5 _ rfl, h3 6 _ rfl, h3 7 _ rfl, h3 8 _ rfl, h3 9 _ rfl, h3 10 _ rfl, h3 11 _ rfl, h3 12 _ rfl, h3 13 _ rfl, h3 14 _ rfl⟩
def NmsAt (W : World) (l : List Nm) (p : Option Addr) (n c : Nat) : Prop := ∃ L : List (Nm × Value), L.map (·.1) = l /\ n = L.length /\ Lst W.heap.size W 15 nmCells L p c /\ ∀ x ∈ L, PtsAt W x.1.wish.parts x.2
theorem NmsAt.len {W : World} {l : List Nm} {p : Option Addr} {n c : Nat} (h : NmsAt W l p n c) : l.length = n /\ n <= maxLen := by
 obtain ⟨L, h1, h2, h3, -⟩ := h
 subst h1
 subst h2
 exact ⟨by simp, h3.len⟩
theorem NmsAt.turned {W V : World} {l : List Nm} {p : Option Addr} {n c : Nat} (h : NmsAt W l p n c) (t : Turned (fun _ => False) W V) : NmsAt V l p n c := by
 obtain ⟨L, h1, h2, h3, h4⟩ := h
 exact ⟨L, h1, h2, (h3.turned t).mono t.size, fun x hx => (h4 x hx).turned t⟩
theorem NmsAt.get {W : World} {l : List Nm} {p : Option Addr} {n c : Nat} (h : NmsAt W l p n c) {k : Nat} {m : Nm} (hk : l[k]? = some m) : ∃ b a q r d, p = some ⟨b, a, none⟩ /\ PtsAt W m.wish.parts (.slice q r d) /\ W.cell? ⟨b, a + k * 15, none⟩ = some (.string m.name) /\ W.cell? ⟨b, a + k * 15 + 1, none⟩ = some (.int .i64 m.known) /\
  W.cell? ⟨b, a + k * 15 + 2, none⟩ = some (.int .i64 m.wish.kind) /\ W.cell? ⟨b, a + k * 15 + 3, none⟩ = some (.slice q r d) /\ W.cell? ⟨b, a + k * 15 + 4, none⟩ = some (.int .i64 m.wish.gauge) /\ W.cell? ⟨b, a + k * 15 + 5, none⟩ = some (.int .i64 m.wish.other) /\ W.cell? ⟨b, a + k * 15 + 6, none⟩ = some (.int .i64 m.wish.lag) /\ W.cell? ⟨b, a + k * 15 + 7, none⟩ = some (.int .i64 m.wish.from_) /\ W.cell? ⟨b, a + k * 15 + 8, none⟩ = some (.int .i64 m.wish.to_) /\
  W.cell? ⟨b, a + k * 15 + 9, none⟩ = some (.bool m.wish.level.neg) /\ W.cell? ⟨b, a + k * 15 + 10, none⟩ = some (.string m.wish.level.num) /\ W.cell? ⟨b, a + k * 15 + 11, none⟩ = some (.string m.wish.level.den) /\ W.cell? ⟨b, a + k * 15 + 12, none⟩ = some (.bool m.wish.level2.neg) /\ W.cell? ⟨b, a + k * 15 + 13, none⟩ = some (.string m.wish.level2.num) /\ W.cell? ⟨b, a + k * 15 + 14, none⟩ = some (.string m.wish.level2.den) := by
 obtain ⟨L, rfl, -, h3, h4⟩ := h
 rw [List.getElem?_map] at hk
 obtain ⟨x, hx, rfl⟩ := Option.map_eq_some_iff.1 hk
 obtain ⟨b, a, h5, -, h6⟩ := h3.fifteen hx
 obtain ⟨q, d, h7, h8⟩ := h4 x (List.mem_of_getElem? hx)
 rw [h7] at h6
 exact ⟨b, a, q, _, d, h5, ⟨q, d, rfl, h8⟩, h6⟩
end Go.Proofs.YthejfklieedjmaaGreatDoor
