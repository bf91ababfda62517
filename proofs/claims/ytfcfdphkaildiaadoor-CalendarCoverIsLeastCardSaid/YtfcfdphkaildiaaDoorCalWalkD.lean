/- Walks of the calendar: around with its closure. Conditions: TabOK; the level and the tick exist. -/
import Derived.Test.YtfcfdphkaildiaaDoorCalWalkC
import Derived.Test.YtfcfdphkaildiaaDoorCalPlainB
import Derived.Deep.QuietTactic
import Derived.BigQuiet
namespace Go.Proofs.YtfcfdphkaildiaaDoor
open Go Go.Proofs Go.RowKit

theorem even_any (n l t : Int) (bl bt : Nat) (w : World) (hl : w.cell? ⟨bl, 0, none⟩ = some (.int .i64 l)) (ht : w.cell? ⟨bt, 0, none⟩ = some (.int .i64 t)) (h0 : 0 ≤ t) (h1 : t < 1402560) (h2 : 1 ≤ n) (h3 : n ≤ 96)
    (sl : bl < w.heap.size) (st : bt < w.heap.size) :
    Calls Tryd.prog 44 #[(.int .i64 n), .pointer (some ⟨bl, 0, none⟩), .pointer (some ⟨bt, 0, none⟩)] w fun e w' => e = .returned (.agg #[(.int .i64 l), (.int .i64 (t - t % n)), (.int .i64 (t - t % n + n))]) ∧ Below w.heap.size w w' := by
  have m0 : 0 ≤ t % n := Int.emod_nonneg _ (by omega)
  have m1 : t % n < n := Int.emod_lt_of_pos _ (by omega)
  go_enter Tryd.func44, Tryd.ntmps44
  go_wp2
  go_region
  go_wp2
  exact bodyPost_ret (v := .agg #[(.int .i64 l), (.int .i64 (t - t % n)), (.int .i64 (t - t % n + n))]) (by simp [results, Tryd.results44, go_sem]) rfl ⟨rfl, (Below.alloc (Below.refl _ _) (Nat.le_refl _) _).drew⟩

theorem bcell {W w1 : World} (hb : Below W.heap.size W w1) : (∀ b o, b < W.heap.size → w1.cell? ⟨b, o, none⟩ = W.cell? ⟨b, o, none⟩) ∧ (∀ b o, b < W.heap.size → w1.frozen? ⟨b, o, none⟩ = W.frozen? ⟨b, o, none⟩) :=
  ⟨fun b o h => hb.cell (p := ⟨b, o, none⟩) h, fun b o h => hb.frozen (p := ⟨b, o, none⟩) h⟩

set_option maxHeartbeats 1000000 in
theorem around_even (l t : Int) (n : Int) (hln : l = 0 ∧ n = 1 ∨ l = 1 ∧ n = 4 ∨ l = 2 ∧ n = 96) (w : World) (t0 : 0 ≤ t) (t1 : t < 1402560) : Calls Tryd.prog 38 #[(.int .i64 l), (.int .i64 t)] w fun e w' => e = .returned (.agg #[(.int .i64 l), (.int .i64 (lo l t)), (.int .i64 (hi l t))]) ∧ Below w.heap.size w w' := by
  have hv : Hid (∀ l' n', l' = l → n' = n → Value.agg #[(.int .i64 (l')), (.int .i64 (t - t % n')), (.int .i64 (t - t % n' + n'))] = (.agg #[(.int .i64 l), (.int .i64 (lo l t)), (.int .i64 (hi l t))])) := by
    rintro _ _ rfl rfl
    rcases hln with ⟨rfl, rfl⟩ | ⟨rfl, rfl⟩ | ⟨rfl, rfl⟩ <;> simp [lo, hi]
  rcases hln with ⟨rfl, rfl⟩ | ⟨rfl, rfl⟩ | ⟨rfl, rfl⟩
  · go_enter Tryd.func38, Tryd.ntmps38
    go_wp2_with fail
    refine (even_any 1 0 t w.heap.size (w.heap.size + 1) _ (by go_simp) (by go_simp) t0 t1 (by omega) (by omega) (by simp; omega) (by simp)).mono ?_
    rintro e w1 ⟨rfl, hb⟩
    have hB : Below w.heap.size w w1 := ((((Below.refl _ _).alloc (Nat.le_refl _) _).alloc (by simp) _).alloc (by simp; omega) _).trans (hb.mono (by simp; omega))
    obtain ⟨hc, hf⟩ := bcell hb
    have hz : w.heap.size + 2 < w1.heap.size := by have := hb.size; simp at this; omega
    go_wp2
    exact bodyPost_ret (v := .agg #[(.int .i64 0), (.int .i64 (t - t % 1)), (.int .i64 (t - t % 1 + 1))]) (by simp [results, Tryd.results38, go_sem, hc]) rfl ⟨by rw [← hv.out 0 1 rfl rfl], ((hB.setCell (by simp; omega) _).setCell (by simp; omega) _).setCell (by simp; omega) _⟩
  · go_enter Tryd.func38, Tryd.ntmps38
    go_wp2_with fail
    refine (even_any 4 1 t w.heap.size (w.heap.size + 1) _ (by go_simp) (by go_simp) t0 t1 (by omega) (by omega) (by simp; omega) (by simp)).mono ?_
    rintro e w1 ⟨rfl, hb⟩
    have hB : Below w.heap.size w w1 := ((((Below.refl _ _).alloc (Nat.le_refl _) _).alloc (by simp) _).alloc (by simp; omega) _).trans (hb.mono (by simp; omega))
    obtain ⟨hc, hf⟩ := bcell hb
    have hz : w.heap.size + 2 < w1.heap.size := by have := hb.size; simp at this; omega
    go_wp2
    exact bodyPost_ret (v := .agg #[(.int .i64 1), (.int .i64 (t - t % 4)), (.int .i64 (t - t % 4 + 4))]) (by simp [results, Tryd.results38, go_sem, hc]) rfl ⟨by rw [← hv.out 1 4 rfl rfl], ((hB.setCell (by simp; omega) _).setCell (by simp; omega) _).setCell (by simp; omega) _⟩
  · go_enter Tryd.func38, Tryd.ntmps38
    go_wp2_with fail
    refine (even_any 96 2 t w.heap.size (w.heap.size + 1) _ (by go_simp) (by go_simp) t0 t1 (by omega) (by omega) (by simp; omega) (by simp)).mono ?_
    rintro e w1 ⟨rfl, hb⟩
    have hB : Below w.heap.size w w1 := ((((Below.refl _ _).alloc (Nat.le_refl _) _).alloc (by simp) _).alloc (by simp; omega) _).trans (hb.mono (by simp; omega))
    obtain ⟨hc, hf⟩ := bcell hb
    have hz : w.heap.size + 2 < w1.heap.size := by have := hb.size; simp at this; omega
    go_wp2
    exact bodyPost_ret (v := .agg #[(.int .i64 2), (.int .i64 (t - t % 96)), (.int .i64 (t - t % 96 + 96))]) (by simp [results, Tryd.results38, go_sem, hc]) rfl ⟨by rw [← hv.out 2 96 rfl rfl], ((hB.setCell (by simp; omega) _).setCell (by simp; omega) _).setCell (by simp; omega) _⟩

set_option maxHeartbeats 1000000 in
theorem around_month (t : Int) (w : World) (hT : Hid (TabOK w)) (t0 : 0 ≤ t) (t1 : t < 1402560) : Calls Tryd.prog 38 #[(.int .i64 3), (.int .i64 t)] w fun e w' => e = .returned (.agg #[(.int .i64 3), (.int .i64 (lo 3 t)), (.int .i64 (hi 3 t))]) ∧ Below w.heap.size w w' := by
  obtain ⟨day, hday⟩ : ∃ day, day = t / 96 := ⟨_, rfl⟩
  obtain ⟨p1, p2, -, -⟩ := lohi_34 hday
  have d0 : 0 ≤ day := by omega
  have d1 : day ≤ 14609 := by omega
  have hv : Hid (dateV day = .tuple #[(.int .i64 (dY day)), (.int .i64 (dM day)), (.int .i64 (dD day)), (.int .i64 0)]) := if_pos ⟨d0, d1⟩
  have hi' := isDate_of day d0 d1
  obtain ⟨y1, y2, m1, m2, e1, e2, eq⟩ := hi'
  have yb := ys_bd (dY day) y1 (by omega)
  have mb := ms_bd (dY day) (dM day) m1 (by omega)
  have ml := mlen_bd (dY day) (dM day) m1 m2
  have HM : Hid (ms (dY day) (dM day + 1) = ms (dY day) (dM day) + mlen (dY day) (dM day)) := ms_succ (dY day) (dM day) m1 m2
  have EQ : Hid (day = ys (dY day) + ms (dY day) (dM day) + dD day - 1) := eq
  have P1 : Hid (lo 3 t = (ys (dY day) + ms (dY day) (dM day)) * 96) := p1
  have P2 : Hid (hi 3 t = (ys (dY day) + ms (dY day) (dM day + 1)) * 96) := p2
  have hd1 : 1 ≤ dD day := e1
  have hd2 : dD day ≤ 31 := by omega
  have HD : Hid (day = t / 96) := hday
  clear eq p1 p2 e1 e2 hday
  generalize dY day = y at *
  generalize dM day = m at *
  generalize dD day = d at *
  have hdate : Hid (∀ W, TabOK W → Calls Tryd.prog 9 #[(.int .i64 day)] W fun e w' => e = .returned (.tuple #[(.int .i64 y), (.int .i64 m), (.int .i64 d), (.int .i64 0)]) ∧ W = w') := fun W h => by
    have := date_any day W h
    rwa [hv.out] at this
  have hB : ∀ a b c, Below w.heap.size w (((w.alloc a).alloc b).alloc c) := fun a b c => (((Below.refl _ _).alloc (Nat.le_refl _) _).alloc (by simp) _).alloc (by simp; omega) _
  have HB : Hid (∀ a b c, Below w.heap.size w (((w.alloc a).alloc b).alloc c)) := hB
  clear hB
  go_enter Tryd.func38, Tryd.ntmps38
  go_wp2_with fail
  rw [← HD.out]
  refine (hdate.out _ (hT.out.below (HB.out _ _ _))).mono ?_
  rintro e w' ⟨rfl, rfl⟩
  go_wp2_with fail
  refine (length_any _ _ _ (hT.out.below (HB.out _ _ _)) m1 m2).mono ?_
  rintro e w' ⟨rfl, rfl⟩
  go_wp2_with fail
  exact bodyPost_ret (v := .agg #[(.int .i64 3), (.int .i64 ((day - d + 1) * 96)), (.int .i64 ((day - d + 1 + mlen y m) * 96))]) (by simp [results, Tryd.results38, go_sem]) rfl
    ⟨by rw [P1.out, P2.out, HM.out]; have := EQ.out; rw [show ys y + ms y m = day - d + 1 from by omega, show ys y + (ms y m + mlen y m) = day - d + 1 + mlen y m from by omega], HB.out _ _ _⟩

set_option maxHeartbeats 1000000 in
theorem around_year (t : Int) (w : World) (hT : Hid (TabOK w)) (t0 : 0 ≤ t) (t1 : t < 1402560) : Calls Tryd.prog 38 #[(.int .i64 4), (.int .i64 t)] w fun e w' => e = .returned (.agg #[(.int .i64 4), (.int .i64 (lo 4 t)), (.int .i64 (hi 4 t))]) ∧ Below w.heap.size w w' := by
  obtain ⟨day, hday⟩ : ∃ day, day = t / 96 := ⟨_, rfl⟩
  obtain ⟨-, -, p1, p2⟩ := lohi_34 hday
  have d0 : 0 ≤ day := by omega
  have d1 : day ≤ 14609 := by omega
  have hv : Hid (dateV day = .tuple #[(.int .i64 (dY day)), (.int .i64 (dM day)), (.int .i64 (dD day)), (.int .i64 0)]) := if_pos ⟨d0, d1⟩
  have hi' := isDate_of day d0 d1
  obtain ⟨y1, y2, m1, m2, e1, e2, -⟩ := hi'
  have yb := ys_bd (dY day) y1 (by omega)
  have yl := ylen_bd (dY day)
  have ml := mlen_bd (dY day) (dM day) m1 m2
  have HY : Hid (ys (dY day + 1) = ys (dY day) + ylen (dY day)) := ys_succ (dY day) y1 (by omega)
  have hdn := day_yes (y := dY day) (m := 1) (d := 1) ⟨y1, y2, by omega, by omega, by omega, by have := mlen_bd (dY day) 1 (by omega) (by omega); omega⟩
  rw [ms_1] at hdn
  have HN : Hid (dayN (dY day) 1 1 = ys (dY day)) := by show _ = _; omega
  have HE : Hid (dayE (dY day) 1 1 = 0) := hdn.2
  have P1 : Hid (lo 4 t = ys (dY day) * 96) := p1
  have P2 : Hid (hi 4 t = ys (dY day + 1) * 96) := p2
  have hd1 : 1 ≤ dD day := e1
  have hd2 : dD day ≤ 31 := by omega
  have HD : Hid (day = t / 96) := hday
  clear p1 p2 e1 e2 hday hdn
  generalize dY day = y at *
  generalize dM day = m at *
  generalize dD day = d at *
  have hdate : Hid (∀ W, TabOK W → Calls Tryd.prog 9 #[(.int .i64 day)] W fun e w' => e = .returned (.tuple #[(.int .i64 y), (.int .i64 m), (.int .i64 d), (.int .i64 0)]) ∧ W = w') := fun W h => by
    have := date_any day W h
    rwa [hv.out] at this
  have hdayc : Hid (∀ W, TabOK W → Calls Tryd.prog 11 #[(.int .i64 y), (.int .i64 1), (.int .i64 1)] W fun e w' => e = .returned (.tuple #[(.int .i64 (ys y)), (.int .i64 0)]) ∧ W = w') := fun W h => by
    have := day_any y 1 1 W h
    rwa [HN.out, HE.out] at this
  have hB : ∀ a b c, Below w.heap.size w (((w.alloc a).alloc b).alloc c) := fun a b c => (((Below.refl _ _).alloc (Nat.le_refl _) _).alloc (by simp) _).alloc (by simp; omega) _
  have HB : Hid (∀ a b c, Below w.heap.size w (((w.alloc a).alloc b).alloc c)) := hB
  clear hB
  go_enter Tryd.func38, Tryd.ntmps38
  go_wp2_with fail
  rw [← HD.out]
  refine (hdate.out _ (hT.out.below (HB.out _ _ _))).mono ?_
  rintro e w' ⟨rfl, rfl⟩
  go_wp2_with fail
  refine (length_any _ _ _ (hT.out.below (HB.out _ _ _)) m1 m2).mono ?_
  rintro e w' ⟨rfl, rfl⟩
  go_wp2_with fail
  refine (hdayc.out _ (hT.out.below (HB.out _ _ _))).mono ?_
  rintro e w' ⟨rfl, rfl⟩
  go_wp2_with fail
  refine (days_any _ _).mono ?_
  rintro e w' ⟨rfl, rfl⟩
  go_wp2_with fail
  exact bodyPost_ret (v := .agg #[(.int .i64 4), (.int .i64 (ys y * 96)), (.int .i64 ((ys y + ylen y) * 96))]) (by simp [results, Tryd.results38, go_sem]) rfl
    ⟨by rw [P1.out, P2.out, HY.out], HB.out _ _ _⟩

theorem around_any (l t : Int) (w : World) (hT : Hid (TabOK w)) (l0 : 0 ≤ l) (l1 : l ≤ 4) (t0 : 0 ≤ t) (t1 : t < 1402560) : Calls Tryd.prog 38 #[(.int .i64 l), (.int .i64 t)] w fun e w' => e = .returned (.agg #[(.int .i64 l), (.int .i64 (lo l t)), (.int .i64 (hi l t))]) ∧ Below w.heap.size w w' := by
  have : l = 0 ∨ l = 1 ∨ l = 2 ∨ l = 3 ∨ l = 4 := by omega
  rcases this with rfl | rfl | rfl | rfl | rfl
  · exact around_even 0 t 1 (by omega) w t0 t1
  · exact around_even 1 t 4 (by omega) w t0 t1
  · exact around_even 2 t 96 (by omega) w t0 t1
  · exact around_month t w hT t0 t1
  · exact around_year t w hT t0 t1
end Go.Proofs.YtfcfdphkaildiaaDoor
