/- Walks of the lexer: skip, put. Conditions: those of each theorem. -/
import Derived.Test.YtdjjifljlkjafaaGreatDoorLexWalkA
import Derived.Test.YtdjjifljlkjafaaGreatDoorShelf
import Derived.Test.YtdjjifljlkjafaaGreatDoorColLaw
import Derived.Lib.IndexBytes
import Derived.Test.YtdjjifljlkjafaaGreatDoorQuiet
namespace Go.Proofs.YtdjjifljlkjafaaGreatDoor
open Go Go.Proofs Go.RowKit
attribute [local go_sem] Oper.semAt_some

theorem Rd.turned {C : Nat → Prop} {W W' : World} {B : Nat} {s : ByteArray} {k : Int} {v : Value} (h : Rd W B s k v) (ht : Turned C W W') (hB : ¬ C B) : Rd W' B s k v := (ht.block B (getElem?_lt h) hB).trans h
theorem Rd.setAt {W : World} {B : Nat} {s : ByteArray} {k k' : Int} {v : Value} (h : Rd W B s k v) : Rd (W.setCell ⟨B, 1, none⟩ (.int .i64 (k'))) B s k' v := by
  unfold Rd at h ⊢
  simp [World.setCell, Array.getElem?_modify, h]
theorem Rd.setOut {W : World} {B : Nat} {s : ByteArray} {k : Int} {v v' : Value} (h : Rd W B s k v) : Rd (W.setCell ⟨B, 2, none⟩ v') B s k v' := by
  unfold Rd at h ⊢
  simp [World.setCell, Array.getElem?_modify, h]
theorem drewN_turned (C : Nat → Prop) (W : World) (n : Nat) : Turned C W (W.drewN n) := ⟨rfl, rfl, rfl, Nat.le_refl _, fun _ _ _ => rfl⟩

/-- where the reader stands when it has gone on from w -/
structure SkipR (w : World) (B : Nat) (s : ByteArray) (v : Value) (k j : Nat) (wr : World) : Prop where
  le : j ≤ s.size
  eq : blankTo s j = blankTo s k
  rd : Rd wr B s j v
  tur : Turned (fun i => i = B) w wr
theorem SkipR.step {w : World} {B : Nat} {s : ByteArray} {v : Value} {k j : Nat} {wr : World} (h : Hid (SkipR w B s v k j wr)) (j' : Nat) (x : Int) (hx : x = j') (h1 : j' ≤ s.size) (h2 : blankTo s j' = blankTo s j) : Hid (∀ n, SkipR w B s v k j' ((wr.drewN n).setCell ⟨B, 1, none⟩ (.int .i64 x))) :=
  Lib.hid fun n => by subst hx; exact ⟨h1, h2.trans h.out.eq, Rd.setAt (k := j) h.out.rd, (h.out.tur.trans (drewN_turned _ _ n)).setCell (p := ⟨B, 1, none⟩) rfl _⟩
theorem SkipR.meas {w : World} {B : Nat} {s : ByteArray} {v : Value} {k j : Nat} {wr : World} (h : SkipR w B s v k j wr) : intOf ((wr.cell? ⟨B, 1, none⟩).getD undef) = j := by
  rw [h.rd.cells.2.1]; rfl
theorem SkipR.fin {w : World} {B : Nat} {s : ByteArray} {v : Value} {k j : Nat} {wr : World} (h : Hid (SkipR w B s v k j wr)) (h2 : blankTo s j = j) : Hid (∀ n, Rd (wr.drewN n) B s (blankTo s k) v ∧ Turned (fun i => i = B) w (wr.drewN n)) :=
  Lib.hid fun n => ⟨by rw [← h.out.eq, h2]; exact h.out.rd, h.out.tur.trans (drewN_turned _ _ _)⟩
theorem idx_any (s : ByteArray) (j : Nat) (W : World) : Calls Tryz.prog 30 #[.string (s.extract j s.size), .int .u8 10] W fun e w' => e = .returned (.int .i64 (Lib.indexByte (rest s j) 10)) ∧ w' = W := by
  have := Tryz.strings_IndexByte (s.extract j s.size) 10 W
  rw [Lib.extract_to_end] at this
  exact this

set_option maxHeartbeats 2000000 in
theorem skip_any (B : Nat) (s : ByteArray) (k : Nat) (v : Value) (w : World) (hR : Rd w B s k v) (hs : s.size ≤ 9223372036854775807) (hk : k ≤ s.size) :
    Calls Tryz.prog 20 #[.pointer (some ⟨B, 0, none⟩)] w fun e w' => e = .returned (.tuple #[]) ∧ Rd w' B s (blankTo s k) v ∧ Turned (fun i => i = B) w w' := by
  have H0 : Hid (SkipR w B s v k k w) := ⟨hk, rfl, hR, Turned.refl _ _⟩
  clear hR
  go_enter Tryz.func20, Tryz.ntmps20
  go_wp2_with fail
  go_loopw [2] (fun _ wr => ∃ j : Nat, Hid (SkipR w B s v k j wr)) (fun _ wr => s.size - (intOf ((wr.cell? ⟨B, 1, none⟩).getD undef)).toNat)
  case atStart => exact ⟨k, H0⟩
  case round =>
    clear H0
    obtain ⟨j, HS⟩ := hrel
    obtain ⟨c0, c1, c2⟩ := HS.out.rd.cells
    have f1 := HS.out.rd.free 1
    have hj := HS.out.le
    have HM : Hid (intOf ((wr.cell? ⟨B, 1, none⟩).getD undef) = j) := by show _ = _; rw [c1]; rfl
    by_cases hlt : j < s.size
    · have kl : decide ((j : Int) < s.size) = true := by simpa using hlt
      have kl2 : decide (j < s.size) = true := by simpa using hlt
      have hb : (s[j].toNat : Int) ≤ 255 := by have := s[j].toNat_lt; omega
      have HC := Lib.hid (fun (W : World) => class_any (s[j].toNat : Int) W (by omega) hb)
      by_cases hh : s[j] = 35
      · have kh : ((s[j].toNat : Int) == 35) = true := by rw [hh]; rfl
        have HI := Lib.hid (fun (W : World) => idx_any s j W)
        rcases comment_skip s j hlt hh with ⟨h1, h2⟩ | ⟨n, h1, h2, h3, h4⟩
        · have HF := SkipR.step HS s.size ((j : Int) + ((s.size : Int) - j)) (by omega) (Nat.le_refl _) (by rw [h2, blankTo_end s s.size (Nat.le_refl _)])
          have hw : IntKind.i64.wrap ((s.size : Int) - j) = (s.size : Int) - j := IntWalk.i64_in _ (by omega)
          have hw0 : (0 : Int) ≤ (s.size : Int) - j := by omega
          clear hh h2
          go_wp2_with fail
          go_quiet (fail)
          go_wp2_with fail
          go_quiet (fail)
          go_wp2_with fail
          go_quiet ((go_at_call 30; (first | exact quiet_add_same (HI.out _) | exact Calls.quiet_of_same (HI.out _))))
          rw [h1]
          go_wp2_with fail
          go_quiet (fail)
          go_wp2_with fail
          exact ⟨⟨s.size, Lib.hid (HF.out _)⟩, by rw [(HF.out _).meas, HM.out]; omega⟩
        · have HF := SkipR.step HS (j + n) ((j : Int) + n) (by omega) (by omega) h4.symm
          have kn : decide ((n : Int) < 0) = false := by simp
          clear hh h4
          go_wp2_with fail
          go_quiet (fail)
          go_wp2_with fail
          go_quiet (fail)
          go_wp2_with fail
          go_quiet ((go_at_call 30; (first | exact quiet_add_same (HI.out _) | exact Calls.quiet_of_same (HI.out _))))
          rw [h1]
          go_wp2_with fail
          exact ⟨⟨j + n, Lib.hid (HF.out _)⟩, by rw [(HF.out _).meas, HM.out]; omega⟩
      · have kh : ((s[j].toNat : Int) == 35) = false := by
          have : s[j].toNat ≠ 35 := fun h => hh (UInt8.toNat_inj.1 h)
          simp; omega
        by_cases hc : cls s[j] = 1
        · have HF := SkipR.step HS (j + 1) ((j : Int) + 1) (by omega) (by omega) (blankTo_blank s j hlt hc).symm
          have kc : (clsI (s[j].toNat : Int) == 1) = true := by simpa [cls] using hc
          clear hh hc
          go_wp2_with fail
          go_quiet (fail)
          go_wp2_with fail
          go_quiet (fail)
          go_wp2_with fail
          refine (HC.out _).mono ?_
          rintro e w' ⟨rfl, rfl⟩
          go_wp2_with fail
          exact ⟨⟨j + 1, Lib.hid (HF.out _)⟩, by rw [(HF.out _).meas, HM.out]; omega⟩
        · have HF := SkipR.fin HS (blankTo_stop s j hlt hc hh)
          have kc : (clsI (s[j].toNat : Int) == 1) = false := by simpa [cls] using hc
          clear hh hc
          go_wp2_with fail
          go_quiet (fail)
          go_wp2_with fail
          go_quiet (fail)
          go_wp2_with fail
          refine (HC.out _).mono ?_
          rintro e w' ⟨rfl, rfl⟩
          go_wp2_with fail
          refine bodyPost_ret (results_none rfl _ _ _) rfl ?_
          exact ⟨rfl, HF.out _⟩
    · have HF := SkipR.fin HS (blankTo_end s j (by omega))
      have kl : decide ((j : Int) < s.size) = false := by simp; omega
      have kl2 : decide (j < s.size) = false := by simp; omega
      go_wp2_with fail
      go_quiet (fail)
      go_wp2_with fail
      go_end0
      exact ⟨rfl, HF.out _⟩

end Go.Proofs.YtdjjifljlkjafaaGreatDoor
