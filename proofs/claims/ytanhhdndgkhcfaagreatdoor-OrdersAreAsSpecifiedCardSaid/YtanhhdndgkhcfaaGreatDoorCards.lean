/-
  DERIVED. GIVEN WITH THE SEED: THE CARDS: each row of YtanhhdndgkhcfaaGreatDoorRows.lean that lists a variable, with what it lists TIED to the program's text (the seventh form; the later family's looks); each row that meets fmt, with fmt's text TOLD by the authors' own Lean function (tested against real Go, not proved from fmt's source: count such statements apart). THE CARD IS WHAT COUNTS. Prove the row's statement (the work); the ties are given (YtanhhdndgkhcfaaGreatDoorTie.lean); close each card by the builder's one call (the guide's Derived/Test/ToyasCard.lean, 'card_holds'). Laid BY PROGRAM, IN A SANDBOX (cutbox-door.mjs). By AI agents, Wed Nov 11 2026. No macro, syntax, notation, axiom, sorry.
-/
import Derived.Test.YtanhhdndgkhcfaaGreatDoorRows
import GoSem.ClaimSeven
namespace Go.Proofs.YtanhhdndgkhcfaaGreatDoor
namespace Rows

/-- THE TIED CARD OF 'rivermarklaw42.OrdersAreAsSpecified'. -/
def ordersAreAsSpecifiedCard : Claim7 := { stood := { row := ordersAreAsSpecifiedRow, standIns := [], harness := (true, "534206449af23eebe6b780ef85887fcdb928b821f80065c579a419358e619bc9"), looks := false }, kinds := [], alts := [], laidByText := true, laidKinds := [.data, .pinned], laidTests := true, laidLooks := .later }
def OrdersAreAsSpecifiedCardSaid : Prop := Claim7.holds Tryz.pinned (.plain (OpenSpec.ofChange ordersAreAsSpecifiedSpec)) ordersAreAsSpecifiedCard

/-- THE TIED CARD OF 'rivermarklaw42.OrdersAreDue'. -/
def ordersAreDueCard : Claim7 := { stood := { row := ordersAreDueRow, standIns := [], harness := (true, "534206449af23eebe6b780ef85887fcdb928b821f80065c579a419358e619bc9"), looks := false }, kinds := [], alts := [], laidByText := true, laidKinds := [.data, .pinned], laidTests := true, laidLooks := .later }
def OrdersAreDueCardSaid : Prop := Claim7.holds Tryz.pinned (.plain (OpenSpec.ofChange ordersAreDueSpec)) ordersAreDueCard

/-- THE TIED CARD OF 'rivermarklaw42.OrdersStay'. -/
def ordersStayCard : Claim7 := { stood := { row := ordersStayRow, standIns := [], harness := (true, "534206449af23eebe6b780ef85887fcdb928b821f80065c579a419358e619bc9"), looks := false }, kinds := [], alts := [], laidByText := true, laidKinds := [.data, .pinned], laidTests := true, laidLooks := .later }
def OrdersStayCardSaid : Prop := Claim7.holds Tryz.pinned (.plain (OpenSpec.ofChange ordersStaySpec)) ordersStayCard

/-- THE SECOND FORM's CARD OF 'rivermarklaw42.OrdersAreAsSpecified'. -/
def ordersAreAsSpecifiedUptoCard : Claim7 := { stood := { row := ordersAreAsSpecifiedUptoRow, standIns := [], harness := (true, "534206449af23eebe6b780ef85887fcdb928b821f80065c579a419358e619bc9"), looks := false }, kinds := [], alts := [], laidByText := true, laidKinds := [.data, .pinned], laidTests := true, laidLooks := .later }
def OrdersAreAsSpecifiedUptoCardSaid : Prop := Claim7.holds Tryz.pinned (.plain (OpenSpec.upto ordersAreAsSpecifiedSpec)) ordersAreAsSpecifiedUptoCard

/-- THE SECOND FORM's CARD OF 'rivermarklaw42.OrdersAreDue'. -/
def ordersAreDueUptoCard : Claim7 := { stood := { row := ordersAreDueUptoRow, standIns := [], harness := (true, "534206449af23eebe6b780ef85887fcdb928b821f80065c579a419358e619bc9"), looks := false }, kinds := [], alts := [], laidByText := true, laidKinds := [.data, .pinned], laidTests := true, laidLooks := .later }
def OrdersAreDueUptoCardSaid : Prop := Claim7.holds Tryz.pinned (.plain (OpenSpec.upto ordersAreDueSpec)) ordersAreDueUptoCard

/-- THE SECOND FORM's CARD OF 'rivermarklaw42.OrdersStay'. -/
def ordersStayUptoCard : Claim7 := { stood := { row := ordersStayUptoRow, standIns := [], harness := (true, "534206449af23eebe6b780ef85887fcdb928b821f80065c579a419358e619bc9"), looks := false }, kinds := [], alts := [], laidByText := true, laidKinds := [.data, .pinned], laidTests := true, laidLooks := .later }
def OrdersStayUptoCardSaid : Prop := Claim7.holds Tryz.pinned (.plain (OpenSpec.upto ordersStaySpec)) ordersStayUptoCard
end Rows
end Go.Proofs.YtanhhdndgkhcfaaGreatDoor
