/-
  DERIVED. GIVEN WITH THE SEED: THE CARDS: each row of YtnaoklncjnplfaaDoorRows.lean that lists a variable, with what it lists TIED to the program's text (the seventh form; the later family's looks); each row that meets fmt, with fmt's text TOLD by the authors' own Lean function (tested against real Go, not proved from fmt's source: count such statements apart). THE CARD IS WHAT COUNTS. Prove the row's statement (the work); the ties are given (YtnaoklncjnplfaaDoorTie.lean); close each card by the builder's one call (the guide's Derived/Test/ToyasCard.lean, 'card_holds'). Laid BY PROGRAM, IN A SANDBOX (cutbox-door.mjs). By AI agents, Wed Nov 11 2026. No macro, syntax, notation, axiom, sorry.
-/
import Derived.Test.YtnaoklncjnplfaaDoorRows
import GoSem.ClaimSeven
namespace Go.Proofs.YtnaoklncjnplfaaDoor
namespace Rows

/-- THE TIED CARD OF 'portlaw2.RouteOrders'. -/
def routeOrdersCard : Claim7 := { stood := { row := routeOrdersRow, standIns := [], harness := (true, "5414f6cbb684a85a9c392f43ba4fcd18cc350dcaec831de645d5653253d15cc2"), looks := false }, kinds := [], alts := [], laidByText := true, laidKinds := [.data, .pinned], laidTests := true, laidLooks := .later }
def RouteOrdersCardSaid : Prop := Claim7.holds Tryd.pinned (.plain (OpenSpec.ofChange routeOrdersSpec)) routeOrdersCard

/-- THE SECOND FORM's CARD OF 'portlaw2.RouteOrders'. -/
def routeOrdersUptoCard : Claim7 := { stood := { row := routeOrdersUptoRow, standIns := [], harness := (true, "5414f6cbb684a85a9c392f43ba4fcd18cc350dcaec831de645d5653253d15cc2"), looks := false }, kinds := [], alts := [], laidByText := true, laidKinds := [.data, .pinned], laidTests := true, laidLooks := .later }
def RouteOrdersUptoCardSaid : Prop := Claim7.holds Tryd.pinned (.plain (OpenSpec.upto routeOrdersSpec)) routeOrdersUptoCard
end Rows
end Go.Proofs.YtnaoklncjnplfaaDoor
