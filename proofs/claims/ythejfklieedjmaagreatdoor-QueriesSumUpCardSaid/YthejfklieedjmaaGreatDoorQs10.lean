/- Part 10 of the proof of lawSum.card: QryWalkH, QryWalkI. Conditions: those of each theorem. -/
import Derived.Maps.OwnOps
import Derived.Test.YthejfklieedjmaaGreatDoorQs01
import Derived.Test.YthejfklieedjmaaGreatDoorQs09
set_option linter.unusedSimpArgs false
set_option maxRecDepth 20000
set_option maxHeartbeats 8000000
namespace Go.Proofs.YthejfklieedjmaaGreatDoor
open Go Go.Proofs Go.RowKit
attribute [local go_sem] Oper.semAt_some
attribute [local go_sem ↓] is_tick
theorem box8 {w : World} {b t : Nat} {a c d e f g h k : Value} (hb : w.heap[b]? = some (.cells #[a, c, d, e, f, g, h, k] t (0, 0))) :
  (w.cell? ⟨b, 0, none⟩ = some a /\ w.cell? ⟨b, 1, none⟩ = some c /\ w.cell? ⟨b, 2, none⟩ = some d /\ w.cell? ⟨b, 3, none⟩ = some e /\ w.cell? ⟨b, 4, none⟩ = some f /\ w.cell? ⟨b, 5, none⟩ = some g /\ w.cell? ⟨b, 6, none⟩ = some h /\ w.cell? ⟨b, 7, none⟩ = some k) /\ ∀ o, w.frozen? ⟨b, o, none⟩ = false := by
 refine ⟨by simp [World.cell?, hb], fun o => free_of_box hb o⟩
theorem set8 {w : World} {b t : Nat} {a c d e f g h k : Value} (hb : w.heap[b]? = some (.cells #[a, c, d, e, f, g, h, k] t (0, 0))) (q r s u v x y z : Value) :
  ((((((((w.setCell ⟨b, 0, none⟩ q).setCell ⟨b, 1, none⟩ r).setCell ⟨b, 2, none⟩ s).setCell ⟨b, 3, none⟩ u).setCell ⟨b, 4, none⟩ v).setCell ⟨b, 5, none⟩ x).setCell ⟨b, 6, none⟩ y).setCell ⟨b, 7, none⟩ z).heap[b]? = some (.cells #[q, r, s, u, v, x, y, z] t (0, 0)) := by
 simp [World.setCell, Array.getElem?_modify, hb]
theorem turned8 (w : World) (b : Nat) (q r s u v x y z : Value) :
  Turned (fun i => i = b) w ((((((((w.setCell ⟨b, 0, none⟩ q).setCell ⟨b, 1, none⟩ r).setCell ⟨b, 2, none⟩ s).setCell ⟨b, 3, none⟩ u).setCell ⟨b, 4, none⟩ v).setCell ⟨b, 5, none⟩ x).setCell ⟨b, 6, none⟩ y).setCell ⟨b, 7, none⟩ z) :=
 ((((((((Turned.refl (fun i => i = b) w).setCell (p := ⟨b, 0, none⟩) rfl q).setCell (p := ⟨b, 1, none⟩) rfl r).setCell (p := ⟨b, 2, none⟩) rfl s).setCell (p := ⟨b, 3, none⟩) rfl u).setCell (p := ⟨b, 4, none⟩) rfl v).setCell (p := ⟨b, 5, none⟩) rfl x).setCell (p := ⟨b, 6, none⟩) rfl y).setCell (p := ⟨b, 7, none⟩) rfl z
theorem Lst.front {α : Type} {N s c : Nat} {W : World} {enc : α -> List Value} {l m : List α} {p : Option Addr} (h : Lst N W s enc (l ++ m) p c) : Lst N W s enc l p c :=
 ⟨by have := h.cap; rw [List.length_append] at this; omega, h.mx, fun i x hx => h.cel i x (by rw [List.getElem?_append_left (List.getElem?_eq_some_iff.1 hx).1]; exact hx)⟩
theorem call_part (kind : Int) (l : List Rv) (t u : Int) (p : Option Addr) (c kb : Nat) (W : World) (hk : W.cell? ⟨kb, 0, none⟩ = some (.int .i64 kind)) (h : Lst W.heap.size W 1 anyCells (l.map numA ++ [tickA t, tickA u]) p c) (h0 : 0 < l.length) (hl : l.length <= 1000) (hs : ∀ u ∈ l, SzR u 100000000) :
  Calls Tryz.prog 140 #[.slice p (l.length + 2) c, .pointer (some ⟨kb, 0, none⟩)] W fun e w' => BackT W w' (partF kind l t u) e := by
 obtain ⟨b, o, rfl, -, e1⟩ := h.anys (i := l.length) (x := tickA t) (by simp)
 obtain ⟨b', o', h2, -, e2⟩ := h.anys (i := l.length + 1) (x := tickA u) (by rw [List.getElem?_append_right (by simp)]; simp)
 cases h2
 simp only [tickA] at e1 e2
 have HX : Hid (partF kind l t u = match wholes l with | some (g :: r) => .ok (.sum [⟨intR 1, kind, g, r.headD 0, t, u⟩]) | _ => .error 3) := Lib.hid rfl
 have HC : Hid (Calls Tryz.prog 102 #[.slice (some ⟨b, o, none⟩) l.length c] W fun e w' => IntsR l W w' e) := Lib.hid (integers_any l _ _ _ W (Lst.front h) hs (by omega))
 unfold IntsR at HC
 have HI := Lib.hid (fun V => qIntZ_any 1 V (by decide) (by decide))
 have hcap := h.cap
 rw [List.length_append, List.length_map] at hcap
 have hc3 : (l.length : Int) <= (c : Int) := by simp at hcap; omega
 obtain ⟨s, hw⟩ : ∃ s, wholes l = s := ⟨_, rfl⟩
 have hwl : ∀ ns, s = some ns -> ns.length = l.length := fun ns h => wholes_len (hw.trans h)
 rw [hw] at HC HX
 obtain ⟨n, hn⟩ : ∃ n, l.length = n := ⟨_, rfl⟩
 rw [hn] at e1 e2 HC hc3 h0 hl hwl ⊢
 have q1 : wrap64 (((n + 2 : Nat) : Int) - 2) = n := by unfold wrap64; omega
 have q2 : IntKind.i64.wrap (((n + 2 : Nat) : Int) - 2) = n := by rw [show ((n + 2 : Nat) : Int) - 2 = n by omega]; exact IntWalk.i64_in _ (by omega)
 have q3 : IntKind.i64.wrap (((n + 2 : Nat) : Int) - 1) = ((n + 1 : Nat) : Int) := by rw [show ((n + 2 : Nat) : Int) - 1 = ((n + 1 : Nat) : Int) by omega]; exact IntWalk.i64_in _ (by omega)
 clear h hs hcap hn hw
 cases s with
 | none =>
  go_enter Tryz.func140, Tryz.ntmps140
  go_wp2_with fail
  refine HC.out.mono ?_
  rintro e w1 ⟨rfl, t1⟩
  have T1 := Lib.hid t1
  clear t1
  go_wp2_with fail
  go_ret2
  rw [HX.out]
  exact ⟨Back.err _ _ _, T1.out⟩
 | some ns =>
  have hl2 := hwl ns rfl
  obtain ⟨z, zs, rfl⟩ : ∃ z zs, ns = z :: zs := by
   cases ns with
   | nil => simp at hl2; omega
   | cons z zs => exact ⟨z, zs, rfl⟩
  replace HC : Hid (Calls Tryz.prog 102 #[.slice (some ⟨b, o, none⟩) n c] W fun e w' => (∃ q d, e = .returned (.tuple #[.slice q n d, .int .i64 0]) /\ Lst w'.heap.size w' 1 intCells (z :: zs) q d) /\ Turned (fun _ => False) W w') := Lib.hid (HC.out.mono fun e w' h => ⟨by obtain ⟨⟨q, d, h1, h2⟩, -⟩ := h; exact ⟨q, d, by rw [h1, hl2], h2⟩, h.2⟩)
  have HL2 := Lib.hid hl2
  clear hwl hl2
  simp only at HX
  obtain ⟨⟨xn, xx, xd⟩, hi⟩ : ∃ s, intR 1 = s := ⟨_, rfl⟩
  rw [hi] at HI HX
  clear hi
  go_enter Tryz.func140, Tryz.ntmps140
  go_wp2_with fail
  refine HC.out.mono ?_
  rintro e w1 ⟨⟨q, f, rfl, hl3⟩, t1⟩
  have HLI := Lib.hid hl3
  obtain ⟨g, r, rfl, -, i0⟩ := hl3.ints (i := 0) rfl
  simp only [Nat.add_zero] at i0
  have k0 := cellT t1 id hk
  have k1 := cellT t1 id e1
  have k2 := cellT t1 id e2
  have l0 := cellLt k0
  have l1 := cellLt k1
  have l2 := cellLt i0
  have HK : Hid (∀ V, Turned (fun k => w1.heap.size <= k) w1 V -> V.cell? ⟨kb, 0, none⟩ = some (.int .i64 kind) /\ V.cell? ⟨g, r, none⟩ = some (.int .i64 z) /\ V.cell? ⟨b, o + n, none⟩ = some (.iface 79 (.int .i64 t)) /\ V.cell? ⟨b, o + (n + 1), none⟩ = some (.iface 79 (.int .i64 u))) := Lib.hid fun V hV => ⟨cellT hV (by omega) k0, cellT hV (by omega) i0, cellT hV (by omega) k1, cellT hV (by omega) k2⟩
  have T1 := Lib.hid t1
  clear t1 hl3 i0 hk e1 e2 k0 k1 k2 l0 l1 l2
  have n0 : (0 : Int) < n := by omega
  have n1 : ¬ (n : Int) + 2 <= n := by omega
  have n2 : ¬ (n : Int) + 1 < 0 := by omega
  have n3 : ¬ (n : Int) + 2 <= n + 1 := by omega
  have q4 : IntKind.i64.wrap (n : Int) = n := IntWalk.i64_in _ (by omega)
  have q5 : IntKind.i64.wrap ((n : Int) + 2 - 1) = n + 1 := by rw [show (n : Int) + 2 - 1 = n + 1 by omega]; exact IntWalk.i64_in _ (by omega)
  clear q1 q2 q3
  go_wp2_with fail
  refine wp_region_held_drew (S := fun V => V.cell? ⟨kb, 0, none⟩ = some (.int .i64 kind) /\ V.cell? ⟨g, r, none⟩ = some (.int .i64 z) /\ V.cell? ⟨b, o + n, none⟩ = some (.iface 79 (.int .i64 t)) /\ V.cell? ⟨b, o + (n + 1), none⟩ = some (.iface 79 (.int .i64 u))) (by kernel_rfl) (HK.out _ (Turned.refl _ w1).drew) (fun _ => ?_)
  obtain ⟨wd, hwd⟩ : ∃ wd, wd = w1.drew := ⟨_, rfl⟩
  have T0 : Hid (Turned (fun k => w1.heap.size <= k) w1 wd) := Lib.hid (by rw [hwd]; exact (Turned.refl _ w1).drew)
  have S0 := Lib.hid (HK.out _ T0.out)
  rw [<- hwd]
  clear hwd
  refine wpAnyH_take (i := 1) (oi := _) (v := (.int .i64 kind)) rfl (by kernel_rfl) (by kernel_rfl) (by kernel_rfl) (fun _ _ _ h => h) (Or.inl ⟨by kernel_rfl, fun V hV => ?_⟩) S0.out ?_
  ·obtain ⟨s0, s1, s2, s3⟩ := hV
   go_simp
  try simp only [zz0, zz1, zz2, Act.put, zz3, zz4, zz5]
  refine wpAnyH_take (i := 2) (oi := _) (v := .slice (some ⟨g, r, none⟩) n f) rfl (by kernel_rfl) (by kernel_rfl) (by kernel_rfl) (fun _ _ _ h => h) (Or.inl ⟨by kernel_rfl, fun V hV => ?_⟩) S0.out ?_
  ·clear hV
   go_simp
  try simp only [zz0, zz1, zz2, Act.put, zz3, zz4, zz5]
  refine wpAnyH_take (i := 3) (oi := _) (v := .pointer (some ⟨g, r, none⟩)) rfl (by kernel_rfl) (by kernel_rfl) (by kernel_rfl) (fun _ _ _ h => h) (Or.inl ⟨by kernel_rfl, fun V hV => ?_⟩) S0.out ?_
  ·clear hV
   go_simp
  try simp only [zz0, zz1, zz2, Act.put, zz3, zz4, zz5]
  refine wpAnyH_take (i := 4) (oi := _) (v := (.int .i64 z)) rfl (by kernel_rfl) (by kernel_rfl) (by kernel_rfl) (fun _ _ _ h => h) (Or.inl ⟨by kernel_rfl, fun V hV => ?_⟩) S0.out ?_
  ·obtain ⟨s0, s1, s2, s3⟩ := hV
   go_simp
  try simp only [zz0, zz1, zz2, Act.put, zz3, zz4, zz5]
  refine wpAnyH_take (i := 5) (oi := _) (v := .slice (some ⟨b, o, none⟩) (n + 2) c) rfl (by kernel_rfl) (by kernel_rfl) (by kernel_rfl) (fun _ _ _ h => h) (Or.inl ⟨by kernel_rfl, fun V hV => ?_⟩) S0.out ?_
  ·clear hV
   go_simp
  try simp only [zz0, zz1, zz2, Act.put, zz3, zz4, zz5]
  refine wpAnyH_take (i := 6) (oi := _) (v := .slice (some ⟨b, o, none⟩) (n + 2) c) rfl (by kernel_rfl) (by kernel_rfl) (by kernel_rfl) (fun _ _ _ h => h) (Or.inl ⟨by kernel_rfl, fun V hV => ?_⟩) S0.out ?_
  ·clear hV
   go_simp
  try simp only [zz0, zz1, zz2, Act.put, zz3, zz4, zz5]
  refine wpAnyH_take (i := 7) (oi := _) (v := (.int .i64 (((n + 2 : Nat) : Int)))) rfl (by kernel_rfl) (by kernel_rfl) (by kernel_rfl) (fun _ _ _ h => h) (Or.inl ⟨by kernel_rfl, fun V hV => ?_⟩) S0.out ?_
  ·clear hV
   go_simp
  try simp only [zz0, zz1, zz2, Act.put, zz3, zz4, zz5]
  refine wpAnyH_take (i := 8) (oi := _) (v := (.int .i64 ((n : Int)))) rfl (by kernel_rfl) (by kernel_rfl) (by kernel_rfl) (fun _ _ _ h => h) (Or.inl ⟨by kernel_rfl, fun V hV => ?_⟩) S0.out ?_
  ·clear hV
   go_simp
  try simp only [zz0, zz1, zz2, Act.put, zz3, zz4, zz5]
  refine wpAnyH_take (i := 9) (oi := _) (v := .pointer (some ⟨b, o + n, none⟩)) rfl (by kernel_rfl) (by kernel_rfl) (by kernel_rfl) (fun _ _ _ h => h) (Or.inl ⟨by kernel_rfl, fun V hV => ?_⟩) S0.out ?_
  ·clear hV
   go_simp
  try simp only [zz0, zz1, zz2, Act.put, zz3, zz4, zz5]
  refine wpAnyH_take (i := 10) (oi := _) (v := .iface 79 (.int .i64 t)) rfl (by kernel_rfl) (by kernel_rfl) (by kernel_rfl) (fun _ _ _ h => h) (Or.inl ⟨by kernel_rfl, fun V hV => ?_⟩) S0.out ?_
  ·obtain ⟨s0, s1, s2, s3⟩ := hV
   go_simp
  try simp only [zz0, zz1, zz2, Act.put, zz3, zz4, zz5]
  refine wpAnyH_take (i := 11) (oi := _) (v := (.int .i64 t)) rfl (by kernel_rfl) (by kernel_rfl) (by kernel_rfl) (fun _ _ _ h => h) (Or.inl ⟨by kernel_rfl, fun V hV => ?_⟩) S0.out ?_
  ·clear hV
   go_simp
  try simp only [zz0, zz1, zz2, Act.put, zz3, zz4, zz5]
  refine wpAnyH_take (i := 12) (oi := _) (v := .slice (some ⟨b, o, none⟩) (n + 2) c) rfl (by kernel_rfl) (by kernel_rfl) (by kernel_rfl) (fun _ _ _ h => h) (Or.inl ⟨by kernel_rfl, fun V hV => ?_⟩) S0.out ?_
  ·clear hV
   go_simp
  try simp only [zz0, zz1, zz2, Act.put, zz3, zz4, zz5]
  refine wpAnyH_take (i := 13) (oi := _) (v := .slice (some ⟨b, o, none⟩) (n + 2) c) rfl (by kernel_rfl) (by kernel_rfl) (by kernel_rfl) (fun _ _ _ h => h) (Or.inl ⟨by kernel_rfl, fun V hV => ?_⟩) S0.out ?_
  ·clear hV
   go_simp
  try simp only [zz0, zz1, zz2, Act.put, zz3, zz4, zz5]
  refine wpAnyH_take (i := 14) (oi := _) (v := (.int .i64 (((n + 2 : Nat) : Int)))) rfl (by kernel_rfl) (by kernel_rfl) (by kernel_rfl) (fun _ _ _ h => h) (Or.inl ⟨by kernel_rfl, fun V hV => ?_⟩) S0.out ?_
  ·clear hV
   go_simp
  try simp only [zz0, zz1, zz2, Act.put, zz3, zz4, zz5]
  refine wpAnyH_take (i := 15) (oi := _) (v := (.int .i64 (((n + 1 : Nat) : Int)))) rfl (by kernel_rfl) (by kernel_rfl) (by kernel_rfl) (fun _ _ _ h => h) (Or.inl ⟨by kernel_rfl, fun V hV => ?_⟩) S0.out ?_
  ·clear hV
   go_simp
  try simp only [zz0, zz1, zz2, Act.put, zz3, zz4, zz5]
  refine wpAnyH_take (i := 16) (oi := _) (v := .pointer (some ⟨b, o + (n + 1), none⟩)) rfl (by kernel_rfl) (by kernel_rfl) (by kernel_rfl) (fun _ _ _ h => h) (Or.inl ⟨by kernel_rfl, fun V hV => ?_⟩) S0.out ?_
  ·clear hV
   go_simp
  try simp only [zz0, zz1, zz2, Act.put, zz3, zz4, zz5]
  refine wpAnyH_take (i := 17) (oi := _) (v := .iface 79 (.int .i64 u)) rfl (by kernel_rfl) (by kernel_rfl) (by kernel_rfl) (fun _ _ _ h => h) (Or.inl ⟨by kernel_rfl, fun V hV => ?_⟩) S0.out ?_
  ·obtain ⟨s0, s1, s2, s3⟩ := hV
   go_simp
  try simp only [zz0, zz1, zz2, Act.put, zz3, zz4, zz5]
  refine wpAnyH_take (i := 18) (oi := _) (v := (.int .i64 u)) rfl (by kernel_rfl) (by kernel_rfl) (by kernel_rfl) (fun _ _ _ h => h) (Or.inl ⟨by kernel_rfl, fun V hV => ?_⟩) S0.out ?_
  ·clear hV
   go_simp
  try simp only [zz0, zz1, zz2, Act.put, zz3, zz4, zz5]
  refine wpAnyH_ready (rs := [0, 20]) (by kernel_rfl) (by simp) ?_
  refine AllReadyH.cons (o := _) rfl (fun K hK => ?_) ?_
  go_simp
  refine (HI.out wd).mono ?_
  rintro e w2 ⟨rfl, t2⟩
  have TA := Lib.hid (T0.out.trans (t2.mono fun _ h => h.elim))
  refine hK.out _ _ (HK.out _ TA.out) (fun _ => ?_)
  clear hK K t2
  try simp only [zz0, zz1, zz2, Act.put, zz3, zz4, zz5]
  refine wpAnyH_take (i := 19) (oi := _) (v := .agg #[.bool xn, .string xx, .string xd, .int .i64 kind, .int .i64 z, .int .i64 0, .int .i64 t, .int .i64 u]) rfl (by kernel_rfl) (by kernel_rfl) (by kernel_rfl) (fun _ _ _ h => h) (Or.inl ⟨by kernel_rfl, fun V hV => ?_⟩) (HK.out _ TA.out) ?_
  ·clear hV
   go_simp
  try simp only [zz0, zz1, zz2, Act.put, zz3, zz4, zz5]
  refine wpAnyH_ready (rs := [20]) (by kernel_rfl) (by simp) ?_
  refine AllReadyH.cons (o := _) rfl (fun K hK => ?_) ?_
  obtain ⟨M, hM⟩ : ∃ M, w2.heap.size = M := ⟨_, rfl⟩
  obtain ⟨w3, h3⟩ : ∃ w, w = w2.alloc (.cells #[.bool false, .string ⟨#[]⟩, .string ⟨#[]⟩, .int .i64 0, .int .i64 0, .int .i64 0, .int .i64 0, .int .i64 0] 51) := ⟨_, rfl⟩
  have b3 : (w2.alloc (.cells #[.bool false, .string ⟨#[]⟩, .string ⟨#[]⟩, .int .i64 0, .int .i64 0, .int .i64 0, .int .i64 0, .int .i64 0] 51)).heap[w2.heap.size]? = some _ := World.alloc_heap_new _ _
  have TB := Lib.hid (TA.out.alloc (.cells #[.bool false, .string ⟨#[]⟩, .string ⟨#[]⟩, .int .i64 0, .int .i64 0, .int .i64 0, .int .i64 0, .int .i64 0] 51))
  have HMM : Hid (w1.heap.size <= M) := Lib.hid (by rw [<- hM]; exact TA.out.size)
  rw [<- h3] at TB b3
  rw [hM] at b3
  have HBX := Lib.hid b3
  go_simp
  try rw [hM]
  try rw [<- h3]
  refine hK.out _ _ (HK.out _ TB.out) (fun _ => ?_)
  clear hK K h3 hM b3
  try simp only [zz0, zz1, zz2, Act.put, zz3, zz4, zz5]
  refine wpAnyH_ready (rs := [21]) (by kernel_rfl) (by simp) ?_
  refine AllReadyH.cons (o := _) rfl (fun K hK => ?_) ?_
  obtain ⟨⟨b0, b1, b2, b3, b4, b5, b6, b7⟩, bf⟩ := box8 HBX.out
  have bf0 := bf 0
  have bf1 := bf 1
  have bf2 := bf 2
  have bf3 := bf 3
  have bf4 := bf 4
  have bf5 := bf 5
  have bf6 := bf 6
  have bf7 := bf 7
  have HBZ := Lib.hid (set8 HBX.out (.bool xn) (.string xx) (.string xd) (.int .i64 kind) (.int .i64 z) (.int .i64 0) (.int .i64 t) (.int .i64 u))
  have TZ := Lib.hid (TB.out.trans ((turned8 w3 M (.bool xn) (.string xx) (.string xd) (.int .i64 kind) (.int .i64 z) (.int .i64 0) (.int .i64 t) (.int .i64 u)).mono fun i hi => by rw [hi]; exact HMM.out))
  go_simp
  refine hK.out _ _ (HK.out _ TZ.out) (fun _ => ?_)
  clear hK K b0 b1 b2 b3 b4 b5 b6 b7 bf bf0 bf1 bf2 bf3 bf4 bf5 bf6 bf7
  try simp only [zz0, zz1, zz2, Act.put, zz3, zz4, zz5]
  refine wpAnyH_done (by kernel_rfl) ?_ _
  obtain ⟨wz, hwz⟩ : ∃ wz, wz = ((((((((w3.setCell ⟨M, 0, none⟩ (.bool xn)).setCell ⟨M, 1, none⟩ (.string xx)).setCell ⟨M, 2, none⟩ (.string xd)).setCell ⟨M, 3, none⟩ (.int .i64 kind)).setCell ⟨M, 4, none⟩ (.int .i64 z)).setCell ⟨M, 5, none⟩ (.int .i64 0)).setCell ⟨M, 6, none⟩ (.int .i64 t)).setCell ⟨M, 7, none⟩ (.int .i64 u)) := ⟨_, rfl⟩
  rw [<- hwz] at HBZ TZ ⊢
  clear hwz
  rotate_left
  exact AllReadyH.nil
  exact AllReadyH.nil
  refine AllReadyH.cons (o := _) rfl (fun K hK => ?_) ?_
  obtain ⟨M, hM⟩ : ∃ M, wd.heap.size = M := ⟨_, rfl⟩
  obtain ⟨w2, h3⟩ : ∃ w, w = wd.alloc (.cells #[.bool false, .string ⟨#[]⟩, .string ⟨#[]⟩, .int .i64 0, .int .i64 0, .int .i64 0, .int .i64 0, .int .i64 0] 51) := ⟨_, rfl⟩
  have b3 : (wd.alloc (.cells #[.bool false, .string ⟨#[]⟩, .string ⟨#[]⟩, .int .i64 0, .int .i64 0, .int .i64 0, .int .i64 0, .int .i64 0] 51)).heap[wd.heap.size]? = some _ := World.alloc_heap_new _ _
  have TA := Lib.hid (T0.out.alloc (.cells #[.bool false, .string ⟨#[]⟩, .string ⟨#[]⟩, .int .i64 0, .int .i64 0, .int .i64 0, .int .i64 0, .int .i64 0] 51))
  have HMM : Hid (w1.heap.size <= M) := Lib.hid (by rw [<- hM]; exact T0.out.size)
  rw [<- h3] at TA b3
  rw [hM] at b3
  have HBX := Lib.hid b3
  go_simp
  try rw [hM]
  try rw [<- h3]
  refine hK.out _ _ (HK.out _ TA.out) (fun _ => ?_)
  clear hK K h3 hM b3
  try simp only [zz0, zz1, zz2, Act.put, zz3, zz4, zz5]
  refine wpAnyH_ready (rs := [0]) (by kernel_rfl) (by simp) ?_
  refine AllReadyH.cons (o := _) rfl (fun K hK => ?_) ?_
  go_simp
  refine (HI.out w2).mono ?_
  rintro e w3 ⟨rfl, t2⟩
  have TB := Lib.hid (TA.out.trans (t2.mono fun _ h => h.elim))
  replace HBX := Lib.hid (keepB t2 HBX.out)
  refine hK.out _ _ (HK.out _ TB.out) (fun _ => ?_)
  clear hK K t2
  try simp only [zz0, zz1, zz2, Act.put, zz3, zz4, zz5]
  refine wpAnyH_take (i := 19) (oi := _) (v := .agg #[.bool xn, .string xx, .string xd, .int .i64 kind, .int .i64 z, .int .i64 0, .int .i64 t, .int .i64 u]) rfl (by kernel_rfl) (by kernel_rfl) (by kernel_rfl) (fun _ _ _ h => h) (Or.inl ⟨by kernel_rfl, fun V hV => ?_⟩) (HK.out _ TB.out) ?_
  ·clear hV
   go_simp
  try simp only [zz0, zz1, zz2, Act.put, zz3, zz4, zz5]
  refine wpAnyH_ready (rs := [21]) (by kernel_rfl) (by simp) ?_
  refine AllReadyH.cons (o := _) rfl (fun K hK => ?_) ?_
  obtain ⟨⟨b0, b1, b2, b3, b4, b5, b6, b7⟩, bf⟩ := box8 HBX.out
  have bf0 := bf 0
  have bf1 := bf 1
  have bf2 := bf 2
  have bf3 := bf 3
  have bf4 := bf 4
  have bf5 := bf 5
  have bf6 := bf 6
  have bf7 := bf 7
  have HBZ := Lib.hid (set8 HBX.out (.bool xn) (.string xx) (.string xd) (.int .i64 kind) (.int .i64 z) (.int .i64 0) (.int .i64 t) (.int .i64 u))
  have TZ := Lib.hid (TB.out.trans ((turned8 w3 M (.bool xn) (.string xx) (.string xd) (.int .i64 kind) (.int .i64 z) (.int .i64 0) (.int .i64 t) (.int .i64 u)).mono fun i hi => by rw [hi]; exact HMM.out))
  go_simp
  refine hK.out _ _ (HK.out _ TZ.out) (fun _ => ?_)
  clear hK K b0 b1 b2 b3 b4 b5 b6 b7 bf bf0 bf1 bf2 bf3 bf4 bf5 bf6 bf7
  try simp only [zz0, zz1, zz2, Act.put, zz3, zz4, zz5]
  refine wpAnyH_done (by kernel_rfl) ?_ _
  obtain ⟨wz, hwz⟩ : ∃ wz, wz = ((((((((w3.setCell ⟨M, 0, none⟩ (.bool xn)).setCell ⟨M, 1, none⟩ (.string xx)).setCell ⟨M, 2, none⟩ (.string xd)).setCell ⟨M, 3, none⟩ (.int .i64 kind)).setCell ⟨M, 4, none⟩ (.int .i64 z)).setCell ⟨M, 5, none⟩ (.int .i64 0)).setCell ⟨M, 6, none⟩ (.int .i64 t)).setCell ⟨M, 7, none⟩ (.int .i64 u)) := ⟨_, rfl⟩
  rw [<- hwz] at HBZ TZ ⊢
  clear hwz
  rotate_left
  exact AllReadyH.nil
  exact AllReadyH.nil
  exact AllReadyH.nil
  all_goals
   have TW := Lib.hid (T1.out.fresh TZ.out fun i hi => Nat.le_trans T1.out.size hi)
   cases zs with
   | nil =>
    have hn1 : n = 1 := by have := HL2.out; simpa using this.symm
    subst hn1
    obtain ⟨⟨b0, b1, b2, b3, b4, b5, b6, b7⟩, -⟩ := box8 HBZ.out
    go_wp2_with fail
    go_ret2
    rw [HX.out]
    exact ⟨Back.ok ⟨_, rfl, some ⟨wz.heap.size, 0, none⟩, 1, rfl, Lst.block (World.alloc_heap_new _ _) rfl (fun _ => rfl) (Nat.le_refl _) (by decide), fun _ he => by cases he; exact ⟨_, World.alloc_heap_new _ _⟩⟩, TW.out.alloc _⟩
   | cons y ys =>
    have hn1 : (1 : Int) < (n : Int) := by have := HL2.out; simp at this; omega
    obtain ⟨g', r', h2, hg, i1⟩ := HLI.out.ints (i := 1) rfl
    cases h2
    have i1 := cellT TZ.out (by omega) i1
    have hbf := free_of_box HBZ.out 5
    obtain ⟨⟨b0, b1, b2, b3, b4, b5, b6, b7⟩, -⟩ := box8 HBZ.out
    have HBY := Lib.hid (setB (i := 5) (v := (.int .i64 y)) HBZ.out)
    have TY := Lib.hid (TW.out.fresh ((Turned.refl (fun i => i = M) wz).setCell (p := ⟨M, 5, none⟩) rfl (.int .i64 y)) fun i hi => by rw [hi]; exact Nat.le_trans T1.out.size HMM.out)
    clear hg
    go_wp2_with fail
    go_ret2
    rw [HX.out]
    exact ⟨Back.ok ⟨_, rfl, some ⟨wz.heap.size, 0, none⟩, 1, rfl, Lst.block (b := wz.heap.size) (t := 51) (cs := #[.bool xn, .string xx, .string xd, .int .i64 kind, .int .i64 z, .int .i64 y, .int .i64 t, .int .i64 u]) (by have h := World.alloc_heap_new (wz.setCell ⟨M, 5, none⟩ (.int .i64 y)) (.cells #[.bool xn, .string xx, .string xd, .int .i64 kind, .int .i64 z, .int .i64 y, .int .i64 t, .int .i64 u] 51); simpa [World.setCell] using h) rfl (fun _ => rfl) (Nat.le_refl _) (by decide), fun _ he => by cases he; exact ⟨#[.bool xn, .string xx, .string xd, .int .i64 kind, .int .i64 z, .int .i64 y, .int .i64 t, .int .i64 u], (by have h := World.alloc_heap_new (wz.setCell ⟨M, 5, none⟩ (.int .i64 y)) (.cells #[.bool xn, .string xx, .string xd, .int .i64 kind, .int .i64 z, .int .i64 y, .int .i64 t, .int .i64 u] 51); simpa [World.setCell] using h)⟩⟩, TY.out.alloc _⟩
open Go.Maps
theorem results_part (tmps : Array Value) (w : World) (g : Nat) (a b c : Value) (hp : tmps.getD 4 undef = .pointer (some ⟨g, 0, none⟩)) (hg : w.heap[g]? = some (.cells #[a, b, c] 133 (0, 0))) :
  (results Tryz.f105 tmps).run Tryz.prog w = .ok (.agg #[a, b, c]) w :=
 results_cell_row (fn := Tryz.f105) rfl tmps w g 133 #[a, b, c] (0, 0) _ hp hg Tryz.underlying133 rfl (by kernel_rfl)
theorem results_extreme (tmps : Array Value) (w : World) (g : Nat) (a b c : Value) (hp : tmps.getD 2 undef = .pointer (some ⟨g, 0, none⟩)) (hg : w.heap[g]? = some (.cells #[a, b, c] 133 (0, 0))) :
  (results Tryz.f106 tmps).run Tryz.prog w = .ok (.agg #[a, b, c]) w :=
 results_cell_row (fn := Tryz.f106) rfl tmps w g 133 #[a, b, c] (0, 0) _ hp hg Tryz.underlying133 rfl (by kernel_rfl)
theorem extreme_any (kind : Int) (W : World) : Calls Tryz.prog 106 #[.int .i64 kind] W fun e w' => (∃ g kb, e = .returned (.agg #[.slice (some ⟨g, 0, none⟩) 3 3, .int .i64 4, .func (.func 141) #[] #[.pointer (some ⟨kb, 0, none⟩)]]) /\
  w'.heap[g]? = some (.cells #[.int .i64 1, .int .i64 2, .int .i64 2] 3 (0, 0)) /\ w'.heap[kb]? = some (.cells #[.int .i64 kind] 3 (0, 0)) /\ W.heap.size <= g /\ W.heap.size <= kb) /\ Turned (fun _ => False) W w' := by
 have hmf : ∀ (fn : Fn) (first cap : Array Value) (w : World), (Instr.makeFunc fn first cap).run Tryz.prog w = .ok (.func fn first cap) w := fun _ _ _ _ => rfl
 go_enter Tryz.func106, Tryz.ntmps106
 go_wp2_with fail
 have h3 := new3 W (.cells #[.int .i64 kind] 3) (.cells #[.slice (some ⟨W.heap.size + 1 + 1, 0, none⟩) 3 3, .int .i64 4, .func (.func 141) #[] #[.pointer (some ⟨W.heap.size, 0, none⟩)]] 133) (.cells #[.int .i64 1, .int .i64 2, .int .i64 2] 3)
 refine bodyPost_ret (results_extreme _ _ (W.heap.size + 1) _ _ _ rfl h3.2.1) rfl ?_
 exact ⟨⟨_, _, rfl, h3.2.2, h3.1, by omega, by omega⟩, (((Turned.refl _ W).alloc _).alloc _).alloc _⟩
theorem Turned.freshC {C D : Nat -> Prop} {W V U : World} (h : Turned C W V) (k : Turned D V U) (hD : ∀ i, D i -> W.heap.size <= i) : Turned C W U := by
 have h2 := (h.mono (C' := fun i => C i \/ W.heap.size <= i) fun _ h => .inl h).trans (k.mono fun i hi => .inr (hD i hi))
 refine ⟨h2.os, h2.tape, h2.output, h2.size, fun b hb hc => h2.block b hb ?_⟩
 rintro (h | h)
 ·exact hc h
 ·omega
theorem own_ints {W : World} {base n : Nat} {v : Value} {xs : List Value} (h : W.ownsRow base 3 1 v n xs) (hn : 0 < n) : ∃ b d cs, v = .slice (some ⟨b, 0, none⟩) n d /\ W.heap[b]? = some (.cells cs 3 (0, 0)) /\ cs.toList.take n = xs /\ n <= d /\ d <= maxLen /\ base <= b := by
 obtain ⟨h1, h2⟩ := h
 rcases h2 with ⟨-, h3⟩ | ⟨b, d, cs, hv, hb, hg, h4, h5, h6, h7⟩
 ·omega
 ·exact ⟨b, d, cs, hv, hg, by simpa using h7, h4, h5, hb⟩
theorem cells_two (W : World) (a b : Value) (t : TypeId) {j : Nat} {u : Value} (hj : [a, b][j]? = some u) : (W.alloc (.cells #[a, b] t)).cell? ((⟨W.heap.size, 0, none⟩ : Addr).add j) = some u := by
 rw [Addr.add_lit]
 simp only [World.cell?, World.alloc_heap_new]
 simpa using hj
theorem ints_flat (l : List Int) : l.flatMap intCells = l.map fun n : Int => ((.int .i64 n) : Value) := by
 induction l with
 | nil => rfl
 | cons x r ih => simpa using ih
theorem part_any (kind : Int) (l : List Int) (g : Nat) (W : World) (hg : W.heap[g]? = some (.cells (l.map fun n : Int => ((.int .i64 n) : Value)).toArray 3 (0, 0))) (hl : l.length <= 100) : Calls Tryz.prog 105 #[.int .i64 kind, .slice (some ⟨g, 0, none⟩) l.length l.length] W fun e w' => (∃ b cs c kb, e = .returned (.agg #[.slice (some ⟨b, 0, none⟩) (l.length + 2) c, .int .i64 3, .func (.func 140) #[] #[.pointer (some ⟨kb, 0, none⟩)]]) /\
  (w'.heap[b]? = some (.cells cs 3 (0, 0)) /\ cs.toList.take (l.length + 2) = (l ++ [2, 2]).map (fun n : Int => ((.int .i64 n) : Value)) /\ l.length + 2 <= c /\ c <= maxLen /\ (b = g \/ W.heap.size <= b)) /\ w'.heap[kb]? = some (.cells #[.int .i64 kind] 3 (0, 0)) /\ W.heap.size <= kb) /\ Turned (fun i => i = g) W w' := by
 have hmf : ∀ (fn : Fn) (first cap : Array Value) (w : World), (Instr.makeFunc fn first cap).run Tryz.prog w = .ok (.func fn first cap) w := fun _ _ _ _ => rfl
 obtain ⟨i0, hif, hz0, hz1, hz2⟩ := info_parts infoI
 have hfl := ints_flat l
 obtain ⟨W2, hW2⟩ : ∃ W2, W2 = (W.alloc (.cells #[.int .i64 kind] 3)).alloc (.cells #[.slice none 0 0, .int .i64 0, .nilFunc] 133) := ⟨_, rfl⟩
 have T2 : Turned (fun _ => False) W W2 := by rw [hW2]; exact ((Turned.refl _ W).alloc _).alloc _
 have hgl := getElem?_lt hg
 have hn2 := new_first W (.cells #[.int .i64 kind] 3) (.cells #[.slice none 0 0, .int .i64 0, .nilFunc] 133)
 have hn3 := new_second W (.cells #[.int .i64 kind] 3) (.cells #[.slice none 0 0, .int .i64 0, .nilFunc] 133)
 rw [<- hW2] at hn2 hn3
 have HN := Lib.hid (And.intro hn2 (And.intro hn3 (And.intro hgl T2)))
 have hown : W2.ownsRow g 3 1 (.slice (some ⟨g, 0, none⟩) l.length l.length) l.length (l.flatMap intCells) := by
  rw [hfl]
  refine ⟨by simp, .inr ⟨g, l.length, _, rfl, Nat.le_refl _, keepB T2 hg, Nat.le_refl _, by unfold maxLen; omega, by simp, List.take_of_length_le (by simp)⟩⟩
 have HO := Lib.hid hown
 have HW := Lib.hid hW2
 have HSZ : Hid (W2.heap.size = W.heap.size + 1 + 1) := Lib.hid (by rw [hW2]; simp)
 clear hg hown hfl hn2 hn3 T2 hgl hW2
 go_enter Tryz.func105, Tryz.ntmps105
 go_wp2_with (at_builtin; rw [<- HW.out]; refine wpList_append_exact _ rfl _ _ 75 rfl g 3 i0 (.int .i64 0) 1 8 Tryz.underlying75 hif hz0 hz1 hz2 rfl (by decide) (.slice (some ⟨g, 0, none⟩) l.length l.length) l.length (l.flatMap intCells) rfl (ownsRow_turned ((Turned.refl (fun _ => False) _).alloc _) (fun k hk => hk.elim) HO.out) ⟨W.heap.size + 1 + 1, 0, none⟩ 2 2 [(.int .i64 2), .int .i64 2] rfl rfl (fun j u hj => by rw [<- HSZ.out]; exact cells_two W2 (.int .i64 2) (.int .i64 2) 3 hj) (by intro u hu; simp at hu; subst hu; rfl) (by unfold maxLen; omega) (by omega) (by have h1 := HN.out.2.2.1; have h2 := HSZ.out; simp; omega) ?_; intro v' w' h1 h2 h3; obtain ⟨b, d, cs, rfl, hb1, hb2, hb3, hb4, hb5⟩ := own_ints h1 (by omega); have tg : Turned (fun i => i = g) W2 w' := ((Turned.refl (fun i => i = g) W2).alloc _).trans (Turned.of_grown h2 fun k hk => by simpa [Value.ownBlock] using hk.symm); have n3 := (tg.block (W.heap.size + 1) (by rw [HSZ.out]; omega) (by have := HN.out.2.2.1; omega)).trans HN.out.2.1; have n2 := (tg.block W.heap.size (by rw [HSZ.out]; omega) (by have := HN.out.2.2.1; omega)).trans HN.out.1; obtain ⟨d0, d1, d2, q0, q1, q2⟩ := box3 n3; have hbb : b = g \/ W.heap.size + 1 + 1 <= b := (by have h4 := h3 b rfl; have h5 := HSZ.out; simp [Value.ownBlock] at h4; omega); have HS := Lib.hid (And.intro (And.intro hb1 (And.intro hb2 (And.intro hb3 (And.intro hb4 hbb)))) (And.intro tg (And.intro n2 n3))); clear h1 h2 h3 tg n2 n3 hb1 hb2 hb3 hb4 hb5 hbb)
 obtain ⟨k1, k2⟩ := set3 HS.out.2.2.2 (.slice (some ⟨b, 0, none⟩) (l.length + 2) d) (.int .i64 3) (.func (.func 140) #[] #[.pointer (some ⟨W.heap.size, 0, none⟩)])
 refine bodyPost_ret (results_part _ _ (W.heap.size + 1) _ _ _ rfl k1) rfl ?_
 obtain ⟨hb1, hb2, hb3, hb4, hbb⟩ := HS.out.1
 have hgl := HN.out.2.2.1
 refine ⟨⟨b, cs, d, W.heap.size, rfl, ⟨?_, ?_, hb3, hb4, by omega⟩, ?_, Nat.le_refl _⟩, ?_⟩
 ·exact (k2.block b (getElem?_lt hb1) (by omega)).trans hb1
 ·rw [<- ints_flat, List.flatMap_append]; exact hb2
 ·exact (k2.block W.heap.size (getElem?_lt HS.out.2.2.1) (by omega)).trans HS.out.2.2.1
 ·exact ((HN.out.2.2.2.mono fun _ h => h.elim : Turned (fun i => i = g) W W2).trans HS.out.2.1).freshC k2 fun i hi => by omega
end Go.Proofs.YthejfklieedjmaaGreatDoor
