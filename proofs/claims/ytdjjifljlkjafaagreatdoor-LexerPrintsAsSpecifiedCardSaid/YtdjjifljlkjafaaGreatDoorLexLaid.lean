/- What the lexer's rows list of the package variables, and a world for the witness. Conditions: the rows' own. -/
import Derived.Test.YtdjjifljlkjafaaGreatDoorPost
import Derived.Test.YtdjjifljlkjafaaGreatDoorLexSanity
import Derived.Stop.LaidErr
import Derived.LaidSub
import Derived.LaidMore
import Derived.Lib.LaidTab
namespace Go.Proofs.YtdjjifljlkjafaaGreatDoor
open Go Go.Proofs Go.RowKit Go.WideShapes Go.ChangeShapes Go.Shelf

def lexLaid : List (String × DataW Unit) := [("math/bits.deBruijn32tab", Rows.laid_math_bits_deBruijn32tab), ("math/bits.deBruijn64tab", Rows.laid_math_bits_deBruijn64tab), ("internal/strconv.uint64pow10", Rows.laid_internal_strconv_uint64pow10), ("strconv.ErrRange", Rows.laid_strconv_ErrRange), ("strconv.ErrSyntax", Rows.laid_strconv_ErrSyntax), ("unicode.White_Space", Rows.laid_unicode_White_Space), ("strings.asciiSpace", Rows.laid_strings_asciiSpace)]
theorem gES : Tryz.prog.globalNamed "strconv.ErrSyntax" = some 4 := by kernel_rfl
theorem gER : Tryz.prog.globalNamed "strconv.ErrRange" = some 5 := by kernel_rfl
theorem gAS : Tryz.prog.globalNamed "strings.asciiSpace" = some 0 := by kernel_rfl
theorem gPW : Tryz.prog.globalNamed "internal/strconv.uint64pow10" = some 3 := by kernel_rfl
theorem gESType : (Tryz.prog.globals[4]?).map (·.type) = some 92 := by kernel_rfl
theorem gERType : (Tryz.prog.globals[5]?).map (·.type) = some 92 := by kernel_rfl
theorem gASType : (Tryz.prog.globals[0]?).map (·.type) = some 105 := by kernel_rfl
theorem starErr : "*" ++ "errors.errorString" = "*errors.errorString" := by decide
theorem rowErrStr (u : TypeId) (h : Tryz.prog.typeName? 3 u = some "*errors.errorString") : u = 190 :=
  typeName_ptr_named (nm := "errors.errorString") (by rw [starErr]; kernel_rfl) (by kernel_rfl) (by decide) u (by rw [starErr]; exact h)
theorem cellsErrStr : Tryz.prog.cellsOf 192 = 1 := by kernel_rfl
theorem cellsStr : Tryz.prog.cellsOf 9 = 1 := by kernel_rfl
theorem cellsU8 : Tryz.prog.cellsOf 5 = 1 := by kernel_rfl
theorem cellsA256 : Tryz.prog.cellsOf 105 = 256 := by kernel_rfl
theorem gPWType : (Tryz.prog.globals[3]?).map (·.type) = some 144 := by kernel_rfl
theorem cellsU64 : Tryz.prog.cellsOf 110 = 1 := by kernel_rfl
theorem cellsA20 : Tryz.prog.cellsOf 144 = 20 := by kernel_rfl
theorem laid_one {W : World} (h : laidMetH Tryz.prog lexLaid W) (nm : String) (d : DataW Unit) (hf : lexLaid.filter (fun x => x.1 == nm) = [(nm, d)]) (hh : d.handleName?.isNone = true) : laidMet Tryz.prog [(nm, d)] W := by
  have h1 := h.filter fun x => x.1 == nm
  rw [hf] at h1
  have h2 := (laidMetH_iff.1 h1).1
  simpa [hh] using h2
theorem var_lt {W : World} {nm : String} {cs : Array Value} {g : Nat} (h : W.var? Tryz.prog nm = some cs) (hg : Tryz.prog.globalNamed nm = some g) : g < W.heap.size := by
  unfold World.var? at h
  rw [hg] at h
  simp only [Option.bind_some] at h
  rcases Nat.lt_or_ge g W.heap.size with h' | h'
  · exact h'
  · simp [Array.getElem?_eq_none h'] at h
theorem lv_of_laid {W : World} (h : laidMetH Tryz.prog lexLaid W) : LV W.heap.size W := by
  obtain ⟨a0, s0, hv0, -, -, -⟩ := laid_sentinel (r := []) (laid_one h "strconv.ErrSyntax" Rows.laid_strconv_ErrSyntax (by kernel_rfl) (by kernel_rfl)) gES gESType Tryz.underlying92 rowErrStr Tryz.underlying190 Tryz.underlying192 rfl rfl Tryz.underlying9 cellsErrStr cellsStr
  obtain ⟨a1, s1, hv1, -, -, -⟩ := laid_sentinel (r := []) (laid_one h "strconv.ErrRange" Rows.laid_strconv_ErrRange (by kernel_rfl) (by kernel_rfl)) gER gERType Tryz.underlying92 rowErrStr Tryz.underlying190 Tryz.underlying192 rfl rfl Tryz.underlying9 cellsErrStr cellsStr
  have h2 : Lib.TabIs Tryz.prog W "strings.asciiSpace" .u8 Lib.asciiSpaceTab :=
    Lib.tabIs_of_head (rest := []) gAS gASType Tryz.underlying105 Tryz.underlying5 cellsU8 cellsA256 (laid_one h "strings.asciiSpace" (Lib.tabData .u8 Lib.asciiSpaceTab) (by kernel_rfl) (by kernel_rfl))
  have h3 : Lib.TabIs Tryz.prog W "internal/strconv.uint64pow10" .u64 Lib.pow10Tab :=
    Lib.tabIs_of_head (rest := []) gPW gPWType Tryz.underlying144 Tryz.underlying110 cellsU64 cellsA20 (laid_one h "internal/strconv.uint64pow10" (Lib.tabData .u64 Lib.pow10Tab) (by kernel_rfl) (by kernel_rfl))
  have hs := var_lt hv1 gER
  have lt : ∀ {nm : String} {g0 : Nat}, Tryz.prog.globalNamed nm = some g0 → g0 < 6 → ∀ g, Tryz.prog.globalNamed nm = some g → g < W.heap.size := fun h0 hl g hg => by
    rw [h0] at hg; cases hg; omega
  refine ⟨⟨⟨_, _, hv0, lt gES (by omega)⟩, ⟨_, _, hv1, lt gER (by omega)⟩, h2, lt gAS (by omega)⟩, h3, lt gPW (by omega)⟩
end Go.Proofs.YtdjjifljlkjafaaGreatDoor
