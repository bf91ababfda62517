/-
  NARROWER THAN 'FOR EVERY INPUT', by the rows' own cells (each row's printed sentence says how): OrdersAreAsSpecified: laid · OrdersAreDue: laid · OrdersStay: laid.
  DERIVED. THE GIVEN ROWS OF THIS SEAT. 3 by the template 'for every input the law returns true; each argument reads behind the call as it read before'; 0 by the template 'total and deterministic' (their statements: YtanhhdndgkhcfaaGreatDoorTotals.lean).
  GIVEN WITH THE SEED: the statements are not yours to turn. If you find one false, say at which input.
  Laid BY PROGRAM, IN A SANDBOX (cutbox-rows.mjs): the forced cells as the released guide's own fill.sh prints them over the translation 731d00536fc7f103… (all of the seat's roots in one cut). By AI agents, Wed Nov 11 2026. No macro, syntax, notation, axiom, sorry.
-/
import Derived.Test.YtanhhdndgkhcfaaGreatDoorChecked
import GoSem.PinnedTables
import GoSem.Claim
import GoSem.ClaimJoined
import GoSem.ClaimMapViews
import Derived.JoinedTies
import Derived.KernelRfl
namespace Go.Proofs.YtanhhdndgkhcfaaGreatDoor
/- THE CELL 'sum', in the pinned program and in every row, IS THE sha256 OF THE DUMP (.gsa) THAT YtanhhdndgkhcfaaGreatDoorProg.lean LOADS. Nothing in Lean hashes anything: it is a label: what it is worth is what the hold of that sum in a sandbox is worth. -/
noncomputable def Tryz.pinned : Pinned := { name := "ytanhhdndgkhcfaagreatdoor", sum := "731d00536fc7f103f521dfd58cdec21aba3aaf705ed3ff5d8a4f32590b1cda50", checked := Tryz.checked }
namespace Rows
def none {H : Type} : Left H := { results := [], args := [] }

/- WHAT THE LISTED PACKAGE-LEVEL VARIABLES READ AS WHEN THE CALL BEGINS. Each datum BY PROGRAM (the guide's laid-datum.mjs) off the statement by which the dump's own 'gosem.cut.vars' lays the variable. In a bare row this is a premise. The card (YtanhhdndgkhcfaaGreatDoorCards.lean) ties it to the program's text. -/
def laid_unicode_utf8_acceptRanges {H : Type} : DataW H := .agg [.agg [.lit (.int .u8 128), .lit (.int .u8 191)], .agg [.lit (.int .u8 160), .lit (.int .u8 191)], .agg [.lit (.int .u8 128), .lit (.int .u8 159)], .agg [.lit (.int .u8 144), .lit (.int .u8 191)], .agg [.lit (.int .u8 128), .lit (.int .u8 143)], .agg [.lit (.int .u8 0), .lit (.int .u8 0)], .agg [.lit (.int .u8 0), .lit (.int .u8 0)], .agg [.lit (.int .u8 0), .lit (.int .u8 0)], .agg [.lit (.int .u8 0), .lit (.int .u8 0)], .agg [.lit (.int .u8 0), .lit (.int .u8 0)], .agg [.lit (.int .u8 0), .lit (.int .u8 0)], .agg [.lit (.int .u8 0), .lit (.int .u8 0)], .agg [.lit (.int .u8 0), .lit (.int .u8 0)], .agg [.lit (.int .u8 0), .lit (.int .u8 0)], .agg [.lit (.int .u8 0), .lit (.int .u8 0)], .agg [.lit (.int .u8 0), .lit (.int .u8 0)]]
/-- One of Go's own tables, pinned by name: the form's constant. -/
def laid_unicode_utf8_first : DataW Unit := Go.Pinned.utf8First

/-- 'rivermarklaw42.OrdersAreAsSpecified': WHATEVER THE INPUT: true; the input reads as it did. -/
def ordersAreAsSpecifiedSpec : ChangeSpec := { name := "ordersAreAsSpecified", fn := fun _ => fun
  | [d1, d2, d3] => { results := [.lit (.bool true)], args := [d1, d2, d3] }
  | _ => none }
def ordersAreAsSpecifiedRow : OpenClaim := { program := "ytanhhdndgkhcfaagreatdoor", sum := "731d00536fc7f103f521dfd58cdec21aba3aaf705ed3ff5d8a4f32590b1cda50", func := "rivermark/rivermarklaw42.OrdersAreAsSpecified", spec := "ordersAreAsSpecified", inPlace := ["internal/bytealg.IndexByteString", "internal/bytealg.IndexString"], unfollowed := true, recurses := true, named := ["unicode/utf8.first", "unicode/utf8.acceptRanges", "internal/bytealg.MaxLen"], apart := false, laid := [("unicode/utf8.acceptRanges", laid_unicode_utf8_acceptRanges), ("unicode/utf8.first", laid_unicode_utf8_first)] }
def OrdersAreAsSpecifiedSaid : Prop := ordersAreAsSpecifiedRow.holds Tryz.pinned (OpenSpec.ofChange ordersAreAsSpecifiedSpec)

/-- ITS FALSE NEIGHBOUR: 'it returns false'. Refute it at one input. -/
def ordersAreAsSpecifiedWrong : ChangeSpec := { name := "ordersAreAsSpecified", fn := fun _ => fun
  | [d1, d2, d3] => { results := [.lit (.bool false)], args := [d1, d2, d3] }
  | _ => none }
def OrdersAreAsSpecifiedWrongFalsely : Prop := ordersAreAsSpecifiedRow.holds Tryz.pinned (OpenSpec.ofChange ordersAreAsSpecifiedWrong)

/-- 'rivermarklaw42.OrdersAreDue': WHATEVER THE INPUT: true; the input reads as it did. -/
def ordersAreDueSpec : ChangeSpec := { name := "ordersAreDue", fn := fun _ => fun
  | [d1, d2, d3] => { results := [.lit (.bool true)], args := [d1, d2, d3] }
  | _ => none }
def ordersAreDueRow : OpenClaim := { program := "ytanhhdndgkhcfaagreatdoor", sum := "731d00536fc7f103f521dfd58cdec21aba3aaf705ed3ff5d8a4f32590b1cda50", func := "rivermark/rivermarklaw42.OrdersAreDue", spec := "ordersAreDue", inPlace := ["internal/bytealg.IndexByteString", "internal/bytealg.IndexString"], unfollowed := true, recurses := true, named := ["unicode/utf8.first", "unicode/utf8.acceptRanges", "internal/bytealg.MaxLen"], apart := false, laid := [("unicode/utf8.acceptRanges", laid_unicode_utf8_acceptRanges), ("unicode/utf8.first", laid_unicode_utf8_first)] }
def OrdersAreDueSaid : Prop := ordersAreDueRow.holds Tryz.pinned (OpenSpec.ofChange ordersAreDueSpec)

/-- ITS FALSE NEIGHBOUR: 'it returns false'. Refute it at one input. -/
def ordersAreDueWrong : ChangeSpec := { name := "ordersAreDue", fn := fun _ => fun
  | [d1, d2, d3] => { results := [.lit (.bool false)], args := [d1, d2, d3] }
  | _ => none }
def OrdersAreDueWrongFalsely : Prop := ordersAreDueRow.holds Tryz.pinned (OpenSpec.ofChange ordersAreDueWrong)

/-- 'rivermarklaw42.OrdersStay': WHATEVER THE INPUT: true; the input reads as it did. -/
def ordersStaySpec : ChangeSpec := { name := "ordersStay", fn := fun _ => fun
  | [d1, d2, d3] => { results := [.lit (.bool true)], args := [d1, d2, d3] }
  | _ => none }
def ordersStayRow : OpenClaim := { program := "ytanhhdndgkhcfaagreatdoor", sum := "731d00536fc7f103f521dfd58cdec21aba3aaf705ed3ff5d8a4f32590b1cda50", func := "rivermark/rivermarklaw42.OrdersStay", spec := "ordersStay", inPlace := ["internal/bytealg.IndexByteString", "internal/bytealg.IndexString"], unfollowed := true, recurses := true, named := ["unicode/utf8.first", "unicode/utf8.acceptRanges", "internal/bytealg.MaxLen"], apart := false, laid := [("unicode/utf8.acceptRanges", laid_unicode_utf8_acceptRanges), ("unicode/utf8.first", laid_unicode_utf8_first)] }
def OrdersStaySaid : Prop := ordersStayRow.holds Tryz.pinned (OpenSpec.ofChange ordersStaySpec)

/-- ITS FALSE NEIGHBOUR: 'it returns false'. Refute it at one input. -/
def ordersStayWrong : ChangeSpec := { name := "ordersStay", fn := fun _ => fun
  | [d1, d2, d3] => { results := [.lit (.bool false)], args := [d1, d2, d3] }
  | _ => none }
def OrdersStayWrongFalsely : Prop := ordersStayRow.holds Tryz.pinned (OpenSpec.ofChange ordersStayWrong)

/- THE SECOND FORM. 'bulk': how many values and letters a reading holds, each counted each time it is reached (what is shared counts as often as it is met; a slice's spare places count too). A statement '..UptoSaid' is the law's where the arguments, and the package variables that the reading takes, are together of bulk at most 1048576: NARROWER than '..Said'. Prove '..Said' where nothing that the law and all that it calls make is longer than what came in: it says more and counts as full. Else prove '..UptoSaid'. A law counts once. -/
mutual
def uptoBulk {H : Type} : DataW H → Nat
  | .lit (.string bytes) => bytes.length + 1
  | .lit _ => 1
  | .nil => 1
  | .ptr d => uptoBulk d + 1
  | .slice elems spare => uptoBulkAll elems + uptoBulkAll spare + 1
  | .agg parts => uptoBulkAll parts + 1
  | .iface _ d => uptoBulk d + 1
  | .map entries => uptoBulkEntries entries + 1
  | .held _ => 1
def uptoBulkAll {H : Type} : List (DataW H) → Nat
  | [] => 0
  | d :: r => uptoBulk d + uptoBulkAll r
def uptoBulkEntries {H : Type} : List (Lit × DataW H) → Nat
  | [] => 0
  | x :: r => uptoBulkEntry x + uptoBulkEntries r
def uptoBulkEntry {H : Type} : Lit × DataW H → Nat
  | (.string bytes, d) => bytes.length + uptoBulk d + 1
  | (_, d) => uptoBulk d + 1
 end
def uptoSmall : (H : Type) → List (DataW H) → Bool := fun _ ds => decide (uptoBulkAll ds ≤ 1048576)
def OpenSpec.upto (s : _root_.Go.ChangeSpec) : _root_.Go.OpenSpec := { _root_.Go.OpenSpec.ofChange s with cond := some uptoSmall }

/-- 'rivermarklaw42.OrdersAreAsSpecified', WHERE WHAT IT READS IS OF BULK AT MOST 1048576: true; the input reads as it did. -/
def ordersAreAsSpecifiedUptoRow : OpenClaim := { program := "ytanhhdndgkhcfaagreatdoor", sum := "731d00536fc7f103f521dfd58cdec21aba3aaf705ed3ff5d8a4f32590b1cda50", func := "rivermark/rivermarklaw42.OrdersAreAsSpecified", spec := "ordersAreAsSpecified", inPlace := ["internal/bytealg.IndexByteString", "internal/bytealg.IndexString"], unfollowed := true, recurses := true, named := ["unicode/utf8.first", "unicode/utf8.acceptRanges", "internal/bytealg.MaxLen"], apart := false, laid := [("unicode/utf8.acceptRanges", laid_unicode_utf8_acceptRanges), ("unicode/utf8.first", laid_unicode_utf8_first)], narrowed := true }
def OrdersAreAsSpecifiedUptoSaid : Prop := ordersAreAsSpecifiedUptoRow.holds Tryz.pinned (OpenSpec.upto ordersAreAsSpecifiedSpec)

/-- 'rivermarklaw42.OrdersAreDue', WHERE WHAT IT READS IS OF BULK AT MOST 1048576: true; the input reads as it did. -/
def ordersAreDueUptoRow : OpenClaim := { program := "ytanhhdndgkhcfaagreatdoor", sum := "731d00536fc7f103f521dfd58cdec21aba3aaf705ed3ff5d8a4f32590b1cda50", func := "rivermark/rivermarklaw42.OrdersAreDue", spec := "ordersAreDue", inPlace := ["internal/bytealg.IndexByteString", "internal/bytealg.IndexString"], unfollowed := true, recurses := true, named := ["unicode/utf8.first", "unicode/utf8.acceptRanges", "internal/bytealg.MaxLen"], apart := false, laid := [("unicode/utf8.acceptRanges", laid_unicode_utf8_acceptRanges), ("unicode/utf8.first", laid_unicode_utf8_first)], narrowed := true }
def OrdersAreDueUptoSaid : Prop := ordersAreDueUptoRow.holds Tryz.pinned (OpenSpec.upto ordersAreDueSpec)

/-- 'rivermarklaw42.OrdersStay', WHERE WHAT IT READS IS OF BULK AT MOST 1048576: true; the input reads as it did. -/
def ordersStayUptoRow : OpenClaim := { program := "ytanhhdndgkhcfaagreatdoor", sum := "731d00536fc7f103f521dfd58cdec21aba3aaf705ed3ff5d8a4f32590b1cda50", func := "rivermark/rivermarklaw42.OrdersStay", spec := "ordersStay", inPlace := ["internal/bytealg.IndexByteString", "internal/bytealg.IndexString"], unfollowed := true, recurses := true, named := ["unicode/utf8.first", "unicode/utf8.acceptRanges", "internal/bytealg.MaxLen"], apart := false, laid := [("unicode/utf8.acceptRanges", laid_unicode_utf8_acceptRanges), ("unicode/utf8.first", laid_unicode_utf8_first)], narrowed := true }
def OrdersStayUptoSaid : Prop := ordersStayUptoRow.holds Tryz.pinned (OpenSpec.upto ordersStaySpec)

end Rows
end Go.Proofs.YtanhhdndgkhcfaaGreatDoor
