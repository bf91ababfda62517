/- Walks of the calendar's reference: start, Block, Valid, Parent. Conditions: none. -/
import Derived.Test.YtfcfdphkaildiaaDoorCalWalkE
namespace Go.Proofs.YtfcfdphkaildiaaDoor
open Go Go.Proofs Go.RowKit

theorem rdate_in (day y m d : Int) (w : World) (h0 : 0 ≤ day) (h1 : day ≤ 14609) (hy : dY day = y) (hm : dM day = m) (hd : dD day = d) : Calls Tryd.prog 10 #[(.int .i64 day)] w fun e w' => e = .returned (.agg #[(.int .i64 y), (.int .i64 m), (.int .i64 d), (.int .i64 0)]) ∧ Below w.heap.size w w' := by
  have := rdate_any day w
  rwa [show rdateV day = (.agg #[(.int .i64 y), (.int .i64 m), (.int .i64 d), (.int .i64 0)]) from by rw [← hy, ← hm, ← hd]; exact if_pos ⟨h0, h1⟩] at this

set_option maxHeartbeats 1000000 in
theorem rstart_any (l t : Int) (w : World) (l0 : 0 ≤ l) (l1 : l ≤ 4) (t0 : 0 ≤ t) (t1 : t ≤ 1402560) : Calls Tryd.prog 39 #[(.int .i64 l), (.int .i64 t)] w fun e w' => e = .returned (.bool (startB l t)) ∧ Below w.heap.size w w' := by
  by_cases c0 : l = 0
  · subst c0
    have fin : Hid (startB 0 t = true) := by simp [startB, Hid]
    go_enter Tryd.func39, Tryd.ntmps39
    go_wp2_with fail
    go_ret
    exact ⟨by rw [fin.out]; rfl, Below.refl _ _⟩
  by_cases c1 : t = 1402560
  · subst c1
    have fin : Hid (startB l 1402560 = true) := by simp [startB, Hid]
    have b0 : (l == 0) = false := by simpa using c0
    go_enter Tryd.func39, Tryd.ntmps39
    go_wp2_with fail
    go_ret
    exact ⟨by rw [fin.out]; rfl, Below.refl _ _⟩
  have b0 : (l == 0) = false := by simpa using c0
  have b1 : (t == 1402560) = false := by simpa using c1
  by_cases c2 : l = 1
  · subst c2
    have fin : Hid (startB 1 t = (t % 4 == 0)) := by simp [startB, Hid, b1]
    go_enter Tryd.func39, Tryd.ntmps39
    go_wp2_with fail
    go_ret
    exact ⟨by rw [fin.out]; rfl, Below.refl _ _⟩
  have b2 : (l == 1) = false := by simpa using c2
  by_cases c3 : t % 96 = 0
  · have H3 : (t % 96 != 0) = false := by simpa using c3
    obtain ⟨day, hday⟩ : ∃ day, t / 96 = day := ⟨_, rfl⟩
    have hd0 : 0 ≤ day := by omega
    have hd1 : day ≤ 14609 := by omega
    have HD : Hid (t / 96 = day) := hday
    have fin0 : startB l t = (l == 2 || (l == 3 && dD day == 1) || (l == 4 && dD day == 1 && dM day == 1)) := by simp [startB, hday, c0, c1, c2, c3]
    have c3 := Lib.hid c3
    clear hday
    obtain ⟨y, hy⟩ : ∃ y, dY day = y := ⟨_, rfl⟩
    obtain ⟨m, hm⟩ : ∃ m, dM day = m := ⟨_, rfl⟩
    obtain ⟨d, hd⟩ : ∃ d, dD day = d := ⟨_, rfl⟩
    have HR : Hid (∀ W, Calls Tryd.prog 10 #[(.int .i64 day)] W fun e w' => e = .returned (.agg #[(.int .i64 y), (.int .i64 m), (.int .i64 d), (.int .i64 0)]) ∧ Below W.heap.size W w') := fun W => rdate_in day y m d W hd0 hd1 hy hm hd
    rw [hd, hm] at fin0
    clear hy hm hd
    have main : ∀ l2 d1 m1 : Bool, (l == 2) = l2 → (d == 1) = d1 → (m == 1) = m1 → Calls Tryd.prog 39 #[(.int .i64 l), (.int .i64 t)] w fun e w' => e = .returned (.bool (startB l t)) ∧ Below w.heap.size w w' := by
      intro l2 d1 m1 e1 e2 e3
      have main2 : ∀ l3 l4 : Bool, (l == 3) = l3 → (l == 4) = l4 → Calls Tryd.prog 39 #[(.int .i64 l), (.int .i64 t)] w fun e w' => e = .returned (.bool (startB l t)) ∧ Below w.heap.size w w' := by
        intro l3 l4 e4 e5
        have fin : Hid (startB l t = (l2 || (l3 && d1) || (l4 && d1 && m1))) := by rw [fin0, e1, e2, e3, e4, e5]; rfl
        have hex : (l2 = true ∧ l3 = false ∧ l4 = false) ∨ (l2 = false ∧ l3 = true ∧ l4 = false) ∨ (l2 = false ∧ l3 = false ∧ l4 = true) := by
          have : l = 2 ∨ l = 3 ∨ l = 4 := by omega
          rcases this with rfl | rfl | rfl
          · exact .inl ⟨e1.symm, e4.symm, e5.symm⟩
          · exact .inr (.inl ⟨e1.symm, e4.symm, e5.symm⟩)
          · exact .inr (.inr ⟨e1.symm, e4.symm, e5.symm⟩)
        clear fin0
        rcases hex with ⟨rfl, rfl, rfl⟩ | ⟨rfl, rfl, rfl⟩ | ⟨rfl, rfl, rfl⟩
        · go_enter Tryd.func39, Tryd.ntmps39
          go_wp2_with fail
          rw [HD.out]
          refine (HR.out _).mono ?_
          rintro e w1 ⟨rfl, hb⟩
          go_wp2_with fail
          go_ret
          exact ⟨by rw [fin.out]; rfl, hb.alloc hb.size _⟩
        · cases d1
          all_goals
            go_enter Tryd.func39, Tryd.ntmps39
            go_wp2_with fail
            rw [HD.out]
            refine (HR.out _).mono ?_
            rintro e w1 ⟨rfl, hb⟩
            go_wp2_with fail
            go_ret
            exact ⟨by rw [fin.out]; rfl, hb.alloc hb.size _⟩
        · cases d1 <;> cases m1
          all_goals
            go_enter Tryd.func39, Tryd.ntmps39
            go_wp2_with fail
            rw [HD.out]
            refine (HR.out _).mono ?_
            rintro e w1 ⟨rfl, hb⟩
            go_wp2_with fail
            go_ret
            exact ⟨by rw [fin.out]; rfl, hb.alloc hb.size _⟩
      exact main2 _ _ rfl rfl
    exact main _ _ _ rfl rfl rfl
  · have H3 : (t % 96 != 0) = true := by simpa using c3
    have fin : Hid (startB l t = false) := by simp [startB, Hid, b0, b1, c2, c3]
    clear c3
    go_enter Tryd.func39, Tryd.ntmps39
    go_wp2_with fail
    go_ret
    exact ⟨by rw [fin.out]; rfl, Below.refl _ _⟩

/-- the part of Block behind the step: from a first tick that is in step with the block's begin -/
theorem rblock_aux (l t s f0 : Int) (l0 : 0 ≤ l) (l1 : l ≤ 4) (t0 : 0 ≤ t) (t1 : t < 1402560) (hs : l = 0 ∧ s = 1 ∧ f0 = t ∨ l = 1 ∧ s = 4 ∧ f0 = t - t % 4 ∨ 2 ≤ l ∧ s = 96 ∧ f0 = t - t % 4 - (t - t % 4) % 96) :
    lo l t ≤ f0 ∧ f0 ≤ t ∧ (f0 - lo l t) % s = 0 ∧ (hi l t - lo l t) % s = 0 ∧ 1 ≤ s ∧ s ≤ 96 ∧ 0 ≤ f0 := by
  obtain ⟨a, b, c⟩ := align l t l0 l1
  obtain ⟨h1, h2, h3, h4, -, -, -⟩ := lh l t l0 l1 t0 t1
  rcases hs with ⟨e, rfl, rfl⟩ | ⟨e, rfl, rfl⟩ | ⟨e, rfl, rfl⟩
  · obtain ⟨a, a'⟩ := a e; omega
  · obtain ⟨b, b'⟩ := b e; omega
  · obtain ⟨c, c'⟩ := c e; omega

theorem rblock_stop {l t x : Int} (h : LH l t (lo l t) (hi l t)) (h1 : lo l t ≤ x) (h2 : x ≤ t) (hb : startB l x = true) : x = lo l t := by
  rcases Int.lt_or_le (lo l t) x with c | c
  · have := h.sm x c (by have := h.hi; omega); rw [this] at hb; cases hb
  · omega
theorem rblock_stop2 {l t x : Int} (h : LH l t (lo l t) (hi l t)) (h1 : lo l t < x) (h2 : x ≤ hi l t) (hb : startB l x = true) : x = hi l t := by
  rcases Int.lt_or_le x (hi l t) with c | c
  · have := h.sm x h1 c; rw [this] at hb; cases hb
  · omega
theorem rblock_go {l t x : Int} (h : LH l t (lo l t) (hi l t)) (h1 : lo l t ≤ x) (hb : startB l x = false) : lo l t < x := by
  rcases Int.lt_or_le (lo l t) x with c | c
  · exact c
  · have e : x = lo l t := by omega
    rw [e, h.sa] at hb; cases hb
theorem rblock_go2 {l t x : Int} (h : LH l t (lo l t) (hi l t)) (h1 : x ≤ hi l t) (hb : startB l x = false) : x < hi l t := by
  rcases Int.lt_or_le x (hi l t) with c | c
  · exact c
  · have e : x = hi l t := by omega
    rw [e, h.sb] at hb; cases hb
theorem step_down {a x s : Int} (h : (x - a) % s = 0) (h1 : a < x) (hs : 1 ≤ s) : a ≤ x - s ∧ (x - s - a) % s = 0 := by
  obtain ⟨k, hk⟩ := Int.dvd_of_emod_eq_zero h
  have hk1 : 1 ≤ k := by
    rcases Int.lt_or_le k 1 with c | c
    · have : s * k ≤ s * 0 := Int.mul_le_mul_of_nonneg_left (by omega) (by omega); omega
    · exact c
  have e : s * k = s * (k - 1) + s := by rw [Int.mul_sub, Int.mul_one]; omega
  have hp : 0 ≤ s * (k - 1) := Int.mul_nonneg (by omega) (by omega)
  exact ⟨by omega, Int.emod_eq_zero_of_dvd ⟨k - 1, by omega⟩⟩
theorem step_up {b x s : Int} (h : (b - x) % s = 0) (h1 : x < b) (hs : 1 ≤ s) : x + s ≤ b ∧ (b - (x + s)) % s = 0 := by
  have := step_down (a := x) (x := b) (s := s) h h1 hs
  exact ⟨by omega, by rw [show b - (x + s) = b - s - x from by omega]; exact this.2⟩

set_option maxHeartbeats 1000000 in
theorem rblock_yes (l t : Int) (w : World) (l0 : 0 ≤ l) (l1 : l ≤ 4) (t0 : 0 ≤ t) (t1 : t < 1402560) :
    Calls Tryd.prog 17 #[(.int .i64 l), (.int .i64 t)] w fun e w' => e = .returned (.agg #[(.int .i64 l), (.int .i64 (lo l t)), (.int .i64 (hi l t)), (.int .i64 0)]) ∧ Below w.heap.size w w' := by
  have b1 : decide (l < 0) = false := by simp; omega
  have b2 : decide (4 < l) = false := by simp; omega
  have b3 : decide (t < 0) = false := by simp; omega
  have b4 : decide (1402560 ≤ t) = false := by simp; omega
  obtain ⟨s, f0, hs⟩ : ∃ s f0 : Int, l = 0 ∧ s = 1 ∧ f0 = t ∨ l = 1 ∧ s = 4 ∧ f0 = t - t % 4 ∨ 2 ≤ l ∧ s = 96 ∧ f0 = t - t % 4 - (t - t % 4) % 96 := by
    by_cases h0 : l = 0
    · exact ⟨1, _, .inl ⟨h0, rfl, rfl⟩⟩
    · by_cases h1 : l = 1
      · exact ⟨4, _, .inr (.inl ⟨h1, rfl, rfl⟩)⟩
      · exact ⟨96, _, .inr (.inr ⟨by omega, rfl, rfl⟩)⟩
  obtain ⟨q1, q2, q3, q4, q5, q6, q7⟩ := rblock_aux l t s f0 l0 l1 t0 t1 hs
  have LH0 : LH l t (lo l t) (hi l t) := lh l t l0 l1 t0 t1
  have LHx : Hid (LH l t (lo l t) (hi l t)) := LH0
  have HR : Hid (∀ W x b, 0 ≤ x → x ≤ 1402560 → startB l x = b → Calls Tryd.prog 39 #[(.int .i64 l), (.int .i64 x)] W fun e w' => e = .returned (.bool b) ∧ Below W.heap.size W w') := fun W x b h0 h1 h2 => by
    rw [← h2]; exact rstart_any l x W l0 l1 h0 h1
  have a0 := LH0.a0
  have bmax := LH0.b1
  have ahi := LH0.hi
  clear LH0
  have hl5 : l = 0 ∨ l = 1 ∨ l = 2 ∨ l = 3 ∨ l = 4 := by omega
  have ST1 : Hid (∀ x, lo l t ≤ x → x ≤ t → startB l x = true → x = lo l t) := fun x => rblock_stop LHx.out
  have ST2 : Hid (∀ x, lo l t < x → x ≤ hi l t → startB l x = true → x = hi l t) := fun x => rblock_stop2 LHx.out
  have GO1 : Hid (∀ x, lo l t ≤ x → startB l x = false → lo l t < x) := fun x => rblock_go LHx.out
  have GO2 : Hid (∀ x, x ≤ hi l t → startB l x = false → x < hi l t) := fun x => rblock_go2 LHx.out
  generalize lo l t = a at *
  generalize hi l t = b at *
  clear LHx
  have Q3 := Lib.hid q3
  have Q4 := Lib.hid q4
  clear q3 q4
  have SD : Hid (∀ x, (x - a) % s = 0 → a < x → ∃ c, startB l (x - s) = c ∧ a ≤ x - s ∧ (x - s - a) % s = 0) := fun x h1 h2 => ⟨_, rfl, step_down h1 h2 q5⟩
  have SU : Hid (∀ x, (b - x) % s = 0 → x < b → ∃ c, startB l (x + s) = c ∧ x + s ≤ b ∧ (b - (x + s)) % s = 0) := fun x h1 h2 => ⟨_, rfl, step_up h1 h2 q5⟩
  have hmain : ∀ l' s' : Int, l' = l → s' = s → (l' = 0 ∧ s' = 1 ∧ f0 = t ∨ l' = 1 ∧ s' = 4 ∧ f0 = t - t % 4 ∨ l' = 2 ∧ s' = 96 ∧ f0 = t - t % 4 - (t - t % 4) % 96 ∨ l' = 3 ∧ s' = 96 ∧ f0 = t - t % 4 - (t - t % 4) % 96 ∨ l' = 4 ∧ s' = 96 ∧ f0 = t - t % 4 - (t - t % 4) % 96) →
      Calls Tryd.prog 17 #[(.int .i64 (l')), (.int .i64 t)] w fun e w' => e = .returned (.agg #[(.int .i64 (l')), (.int .i64 a), (.int .i64 b), (.int .i64 0)]) ∧ Below w.heap.size w w' := by
    intro l' s' el es hc
    have HR' : Hid (∀ W x b, 0 ≤ x → x ≤ 1402560 → startB l x = b → Calls Tryd.prog 39 #[(.int .i64 (l')), (.int .i64 x)] W fun e w' => e = .returned (.bool b) ∧ Below W.heap.size W w') := by rw [el]; exact HR.out
    have SD' : Hid (∀ x, (x - a) % s = 0 → a < x → ∃ c, startB l (x - s') = c ∧ a ≤ x - s' ∧ (x - s' - a) % s = 0) := by rw [es]; exact SD.out
    have SU' : Hid (∀ x, (b - x) % s = 0 → x < b → ∃ c, startB l (x + s') = c ∧ x + s' ≤ b ∧ (b - (x + s')) % s = 0) := by rw [es]; exact SU.out
    have sb1 : 1 ≤ s' := by omega
    have sb2 : s' ≤ 96 := by omega
    have d1 : decide (l' < 0) = false := by simp; omega
    have d2 : decide (4 < l') = false := by simp; omega
    clear HR SD SU el es hs b1 b2 hl5
    obtain ⟨st, hst⟩ : ∃ st, startB l f0 = st := ⟨_, rfl⟩
    have HST := Lib.hid hst
    clear hst
    rcases hc with ⟨rfl, rfl, e0⟩ | ⟨rfl, rfl, e0⟩ | ⟨rfl, rfl, e0⟩ | ⟨rfl, rfl, e0⟩ | ⟨rfl, rfl, e0⟩
    all_goals
      have E0 := Lib.hid e0
      clear e0
      go_enter Tryd.func17, Tryd.ntmps17
      go_wp2_with fail
      rw [← E0.out]
      refine (HR'.out _ f0 st q7 (by omega) HST.out).mono ?_
      rintro e w1 ⟨rfl, hb1⟩
      have hB1 : Below (w.alloc (.cells #[(.int .i64 0), (.int .i64 0), (.int .i64 0), (.int .i64 0)] 42)).heap.size (w.alloc (.cells #[(.int .i64 0), (.int .i64 0), (.int .i64 0), (.int .i64 0)] 42)) w1 := ((Below.refl _ _).alloc (Nat.le_refl _) _).trans (hb1.mono (by simp))
      go_wp2_with fail
      go_loopw [5, 7] (fun u v wr => ∃ (x : Int) (c : Bool), u = (.int .i64 x) ∧ v = .bool c ∧ a ≤ x ∧ x ≤ t ∧ Hid (startB l x = c) ∧ Hid ((x - a) % s = 0) ∧ Below (w.alloc (.cells #[(.int .i64 0), (.int .i64 0), (.int .i64 0), (.int .i64 0)] 42)).heap.size (w.alloc (.cells #[(.int .i64 0), (.int .i64 0), (.int .i64 0), (.int .i64 0)] 42)) wr) (fun u _ _ => (intOf u).toNat)
      case atStart => exact ⟨f0, st, rfl, rfl, q1, q2, HST.out, Q3.out, hB1⟩
      case round =>
        obtain ⟨x, c, rfl, rfl, x1, x2, HX, HA, hB2⟩ := hrel
        cases c
        · have hlt := GO1.out x x1 HX.out
          obtain ⟨c2, hc2, x3, HA2⟩ := SD'.out x HA.out hlt
          have HA3 := Lib.hid HA2
          clear HA2
          go_wp2_with fail
          refine (HR'.out _ _ c2 (by omega) (by omega) hc2).mono ?_
          rintro e w2 ⟨rfl, hb2⟩
          have HC := Lib.hid hc2
          clear hc2
          have hB3 := hB2.trans (hb2.mono hB2.size)
          go_wp2_with fail
          go_roundw
          case rel => exact ⟨_, c2, rfl, rfl, x3, by omega, HC.out, HA3.out, hB3⟩
          case measure => simp [intOf]; omega
        · obtain rfl := ST1.out x x1 x2 HX.out
          clear HX HA ST1 GO1 SD' HST E0
          obtain ⟨c2, hc2, x3, HA2⟩ := SU'.out x Q4.out (by omega)
          have HA3 := Lib.hid HA2
          clear HA2
          go_wp2_with fail
          refine (HR'.out _ _ c2 (by omega) (by omega) hc2).mono ?_
          rintro e w2 ⟨rfl, hb2⟩
          have HC := Lib.hid hc2
          clear hc2
          have hB3 := hB2.trans (hb2.mono hB2.size)
          go_wp2_with fail
          go_loopw [8, 9] (fun u v wr => ∃ (z : Int) (c : Bool), u = (.int .i64 z) ∧ v = .bool c ∧ x < z ∧ z ≤ b ∧ Hid (startB l z = c) ∧ Hid ((b - z) % s = 0) ∧ Below (w.alloc (.cells #[(.int .i64 0), (.int .i64 0), (.int .i64 0), (.int .i64 0)] 42)).heap.size (w.alloc (.cells #[(.int .i64 0), (.int .i64 0), (.int .i64 0), (.int .i64 0)] 42)) wr) (fun u _ _ => (1402561 - intOf u).toNat)
          case atStart => exact ⟨_, c2, rfl, rfl, by omega, x3, HC.out, HA3.out, hB3⟩
          case round =>
            obtain ⟨z, c, rfl, rfl, z1, z2, HX, HA, hB4⟩ := hrel
            cases c
            · have hlt := GO2.out z z2 HX.out
              obtain ⟨c3, hc3, x4, HA4⟩ := SU'.out z HA.out hlt
              have HA5 := Lib.hid HA4
              clear HA4
              go_wp2_with fail
              refine (HR'.out _ _ c3 (by omega) (by omega) hc3).mono ?_
              rintro e w3 ⟨rfl, hb3⟩
              have HC3 := Lib.hid hc3
              clear hc3
              have hB5 := hB4.trans (hb3.mono hB4.size)
              go_wp2_with fail
              go_roundw
              case rel => exact ⟨_, c3, rfl, rfl, by omega, x4, HC3.out, HA5.out, hB5⟩
              case measure => simp [intOf]; omega
            · obtain rfl := ST2.out z z1 z2 HX.out
              obtain ⟨hcc, hff⟩ := bcell hB4
              have hz : w.heap.size < wr.heap.size := by have := hB4.size; simp at this; omega
              have hB6 : Below w.heap.size w wr := ((Below.refl _ _).alloc (Nat.le_refl _) _).trans (hB4.mono (by simp))
              clear HX HA hB4 hB3 hB2 hB1 hb1 hb2 SU' HR' ST2 GO2
              go_wp2_with fail
              exact bodyPost_ret (v := _) (by simp [results, Tryd.results17, go_sem, hcc]) rfl ⟨rfl, (((hB6.setCell (by simp) _).setCell (by simp) _).setCell (by simp) _).setCell (by simp) _⟩
  exact hmain l s rfl rfl (by omega)

theorem rblock_no (l t : Int) (w : World) (h : ¬ (0 ≤ l ∧ l ≤ 4 ∧ 0 ≤ t ∧ t < 1402560)) :
    Calls Tryd.prog 17 #[(.int .i64 l), (.int .i64 t)] w fun e w' => e = .returned (.agg #[(.int .i64 0), (.int .i64 0), (.int .i64 0), (.int .i64 3)]) ∧ Below w.heap.size w w' := by
  have c : decide (l < 0) = true ∨ decide (l < 0) = false ∧ (decide (4 < l) = true ∨ decide (4 < l) = false ∧ (decide (t < 0) = true ∨ decide (t < 0) = false ∧ decide (1402560 ≤ t) = true)) := by
    simp only [decide_eq_true_eq, decide_eq_false_iff_not]; omega
  clear h
  rcases c with h1 | ⟨h1, h2 | ⟨h2, h3 | ⟨h3, h4⟩⟩⟩
  all_goals
    go_enter Tryd.func17, Tryd.ntmps17
    go_wp2_with fail
    exact bodyPost_ret (v := (.agg #[(.int .i64 0), (.int .i64 0), (.int .i64 0), (.int .i64 3)])) (by simp [results, Tryd.results17, go_sem]) rfl ⟨rfl, (Below.refl _ _).alloc (Nat.le_refl _) _⟩

theorem rvalid_any (l f t : Int) (w : World) : Calls Tryd.prog 23 #[(.agg #[(.int .i64 l), (.int .i64 f), (.int .i64 t)])] w fun e w' => e = .returned (.bool (validB l f t)) ∧ Below w.heap.size w w' := by
  by_cases h : 0 ≤ l ∧ l ≤ 4 ∧ 0 ≤ f ∧ f < 1402560
  · have fin : Hid (validB l f t = (lo l f == f && hi l f == t)) := by simp [validB, h, Hid]
    have he := fun W => bin_eql l (lo l f) (hi l f) l f t W
    obtain ⟨h1, h2, h3, h4⟩ := h
    go_enter Tryd.func23, Tryd.ntmps23
    go_wp2_with fail
    refine (rblock_yes l f _ h1 h2 h3 h4).mono ?_
    rintro e w1 ⟨rfl, hb⟩
    have hB : Below w.heap.size w w1 := ((Below.refl _ _).alloc (Nat.le_refl _) _).trans (hb.mono (by simp))
    obtain ⟨hc, hf⟩ := bcell hb
    have hz : w.heap.size < w1.heap.size := by have := hb.size; simp at this; omega
    go_wp2_with fail
    go_ret
    exact ⟨by rw [fin.out]; simp, hB.alloc hB.size _⟩
  · have fin : Hid (validB l f t = false) := by
      show validB l f t = false
      simp only [validB, Bool.and_eq_false_iff, decide_eq_false_iff_not]; omega
    go_enter Tryd.func23, Tryd.ntmps23
    go_wp2_with fail
    refine (rblock_no l f _ h).mono ?_
    rintro e w1 ⟨rfl, hb⟩
    have hB : Below w.heap.size w w1 := ((Below.refl _ _).alloc (Nat.le_refl _) _).trans (hb.mono (by simp))
    obtain ⟨hc, hf⟩ := bcell hb
    have hz : w.heap.size < w1.heap.size := by have := hb.size; simp at this; omega
    go_wp2_with fail
    go_ret
    exact ⟨by rw [fin.out]; rfl, hB.alloc hB.size _⟩

theorem rvalid_eq (l f t : Int) (b : Bool) (w : World) (h : validB l f t = b) : Calls Tryd.prog 23 #[(.agg #[(.int .i64 l), (.int .i64 f), (.int .i64 t)])] w fun e w' => e = .returned (.bool b) ∧ Below w.heap.size w w' := by
  rw [← h]; exact rvalid_any l f t w
theorem validB_iff {l f t : Int} : validB l f t = true ↔ 0 ≤ l ∧ l ≤ 4 ∧ 0 ≤ f ∧ f < 1402560 ∧ lo l f = f ∧ hi l f = t := by simp [validB, and_assoc]

theorem rparent_no (l f t : Int) (w : World) (h : validB l f t = false ∨ validB l f t = true ∧ l = 4) :
    Calls Tryd.prog 19 #[(.agg #[(.int .i64 l), (.int .i64 f), (.int .i64 t)])] w fun e w' => e = .returned (.agg #[(.int .i64 0), (.int .i64 0), (.int .i64 0), (.int .i64 (parE l f t))]) ∧ Below w.heap.size w w' := by
  have fin : ∀ b : Bool, validB l f t = b → (b = false ∧ parE l f t = 1 ∨ b = true ∧ (l == 4) = true ∧ parE l f t = 8) → Calls Tryd.prog 19 #[(.agg #[(.int .i64 l), (.int .i64 f), (.int .i64 t)])] w fun e w' => e = .returned (.agg #[(.int .i64 0), (.int .i64 0), (.int .i64 0), (.int .i64 (parE l f t))]) ∧ Below w.heap.size w w' := by
    intro b hb hf
    have HV : Hid (∀ W, Calls Tryd.prog 23 #[(.agg #[(.int .i64 l), (.int .i64 f), (.int .i64 t)])] W fun e w' => e = .returned (.bool b) ∧ Below W.heap.size W w') := fun W => rvalid_eq l f t b W hb
    clear hb h
    rcases hf with ⟨rfl, hp⟩ | ⟨rfl, h1, hp⟩
    all_goals
      have HP := Lib.hid hp
      clear hp
      go_enter Tryd.func19, Tryd.ntmps19
      go_wp2_with fail
      refine (HV.out _).mono ?_
      rintro e w1 ⟨rfl, hb⟩
      have hB : Below w.heap.size w w1 := (((Below.refl _ _).alloc (Nat.le_refl _) _).alloc (by simp) _).trans (hb.mono (by simp; omega))
      obtain ⟨hc, hf⟩ := bcell hb
      have hz : w.heap.size + 1 < w1.heap.size := by have := hb.size; simp at this; omega
      go_wp2
      refine bodyPost_ret (v := (.agg #[(.int .i64 0), (.int .i64 0), (.int .i64 0), (.int .i64 (parE l f t))])) ?_ rfl ⟨rfl, (((hB.setCell (by simp) _).setCell (by simp) _).setCell (by simp) _).setCell (by simp) _⟩
      rw [HP.out]
      simp [results, Tryd.results19, go_sem, hc]
  refine fin _ rfl ?_
  rcases h with h | ⟨h, rfl⟩
  · exact .inl ⟨h, by simp [parE, h]⟩
  · exact .inr ⟨h, rfl, by simp [parE, h]⟩

theorem rparent_yes (l f t : Int) (w : World) (h : validB l f t = true) (h4 : l ≠ 4) :
    Calls Tryd.prog 19 #[(.agg #[(.int .i64 l), (.int .i64 f), (.int .i64 t)])] w fun e w' => e = .returned (.agg #[(.int .i64 (l + 1)), (.int .i64 (lo (l + 1) f)), (.int .i64 (hi (l + 1) f)), (.int .i64 0)]) ∧ Below w.heap.size w w' := by
  have HV : Hid (∀ W, Calls Tryd.prog 23 #[(.agg #[(.int .i64 l), (.int .i64 f), (.int .i64 t)])] W fun e w' => e = .returned (.bool true) ∧ Below W.heap.size W w') := fun W => rvalid_eq l f t true W h
  obtain ⟨h1, h2, h3, h5, -, -⟩ := validB_iff.1 h
  clear h
  have hb4 : (l == 4) = false := by simpa using h4
  go_enter Tryd.func19, Tryd.ntmps19
  go_wp2_with fail
  refine (HV.out _).mono ?_
  rintro e w1 ⟨rfl, hb⟩
  have hB : Below w.heap.size w w1 := (((Below.refl _ _).alloc (Nat.le_refl _) _).alloc (by simp) _).trans (hb.mono (by simp; omega))
  obtain ⟨hc, hf⟩ := bcell hb
  have hz : w.heap.size + 1 < w1.heap.size := by have := hb.size; simp at this; omega
  go_wp2_with fail
  refine (rblock_yes (l + 1) f _ (by omega) (by omega) h3 h5).mono ?_
  rintro e w2 ⟨rfl, hb2⟩
  have hB2 : Below w.heap.size w w2 := hB.trans (hb2.mono (by have := hb.size; simp at this; omega))
  obtain ⟨hc2, hf2⟩ := bcell hb2
  have hz2 : w1.heap.size ≤ w2.heap.size := hb2.size
  go_wp2
  exact bodyPost_ret (v := (.agg #[(.int .i64 (l + 1)), (.int .i64 (lo (l + 1) f)), (.int .i64 (hi (l + 1) f)), (.int .i64 0)])) (by simp [results, Tryd.results19, go_sem, hc, hc2, hz]) rfl ⟨rfl, (((hB2.setCell (by simp) _).setCell (by simp) _).setCell (by simp) _).setCell (by simp) _⟩
end Go.Proofs.YtfcfdphkaildiaaDoor
