/- How a list of calendar blocks that came in is opened. Conditions: those of the theorem. -/
import Derived.Test.YtfcfdphkaildiaaDoorOpenS
import Derived.Test.YtfcfdphkaildiaaDoorCalWalkG
namespace Go.Proofs.YtfcfdphkaildiaaDoor
open Go Go.RowKit Go.WideShapes Go.ChangeShapes Go.Deep

theorem open_bins {H : Type} {enc : TypeId × Value → H} {w : World} {base b0 : Nat} {held : Bool} {r : Reach} {v : Value} {d : DataW H} {p : List MemPlace}
    (hv : Value.okWide Tryd.prog w r b0 46 v) (h : DataW.Trod enc Tryd.prog w base (fun _ => true) held 46 v d p) :
    (∃ a c, v = .slice a 0 c) ∨ ∃ b off cap ls, v = .slice (some ⟨b, off, none⟩) (List.length (α := Int × Int × Int) ls) cap ∧ ls ≠ [] ∧ ls.length ≤ cap ∧ cap ≤ maxLen ∧ CellsAt w b off ls := by
  rcases open_fields Tryd.underlying46 Tryd.underlying38 (by kernel_rfl) (by kernel_rfl) (by decide) hv h with h0 | ⟨b, off, len, cap, rfl, hpos, hlc, hcm, hbl, hf⟩
  · exact .inl h0
  · have key : ∀ i, i < len → ∃ x : Int × Int × Int, w.cell? ⟨b, off + i * 3, none⟩ = some (.int .i64 (x.1)) ∧ w.cell? ⟨b, off + i * 3 + 1, none⟩ = some (.int .i64 (x.2.1)) ∧ w.cell? ⟨b, off + i * 3 + 2, none⟩ = some (.int .i64 (x.2.2)) := by
      intro i hi
      obtain ⟨u0, n0, y0, c0, t0⟩ := hf i hi 0 _ rfl
      obtain ⟨u1, n1, y1, c1, t1⟩ := hf i hi 1 _ rfl
      obtain ⟨u2, n2, y2, c2, t2⟩ := hf i hi 2 _ rfl
      obtain ⟨z0, e0, -, -⟩ := DataW.trod_int Tryd.underlying3 t0
      obtain ⟨z1, e1, -, -⟩ := DataW.trod_int Tryd.underlying3 t1
      obtain ⟨z2, e2, -, -⟩ := DataW.trod_int Tryd.underlying3 t2
      injection e0 with e0 _; injection e1 with e1 _; injection e2 with e2 _
      subst e0; subst e1; subst e2
      exact ⟨(z0, z1, z2), c0, c1, c2⟩
    obtain ⟨ls, hl, hq⟩ := exists_list (0, 0, 0) _ len key
    subst hl
    exact .inr ⟨b, off, cap, ls, rfl, fun h => by rw [h] at hpos; simp at hpos, hlc, hcm, hq⟩
end Go.Proofs.YtfcfdphkaildiaaDoor
