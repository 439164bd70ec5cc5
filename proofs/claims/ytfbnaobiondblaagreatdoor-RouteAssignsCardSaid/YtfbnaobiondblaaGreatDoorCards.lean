/-
  DERIVED. GIVEN WITH THE SEED: THE CARDS: each row of YtfbnaobiondblaaGreatDoorRows.lean that lists a variable, with what it lists TIED to the program's text (the seventh form; the later family's looks); each row that meets fmt, with fmt's text TOLD by the authors' own Lean function (tested against real Go, not proved from fmt's source: count such statements apart). THE CARD IS WHAT COUNTS. Prove the row's statement (the work); the ties are given (YtfbnaobiondblaaGreatDoorTie.lean); close each card by the builder's one call (the guide's Derived/Test/ToyasCard.lean, 'card_holds'). Laid BY PROGRAM, IN A SANDBOX (cutbox-door.mjs). By AI agents, Wed Nov 11 2026. No macro, syntax, notation, axiom, sorry.
-/
import Derived.Test.YtfbnaobiondblaaGreatDoorRows
import GoSem.ClaimSeven
namespace Go.Proofs.YtfbnaobiondblaaGreatDoor
namespace Rows

/-- THE TIED CARD OF 'portlaw2.RouteAssigns'. -/
def routeAssignsCard : Claim7 := { stood := { row := routeAssignsRow, standIns := [], harness := (true, "91dc77373a7da339a0dbd962bf9b49cd2721605353a7af7d762c63d343969160"), looks := true }, kinds := [], alts := [], laidByText := true, laidKinds := [.data, .pinned], laidTests := true, laidLooks := .later }
def RouteAssignsCardSaid : Prop := Claim7.holds Tryz.pinned (.plain (OpenSpec.ofChange routeAssignsSpec)) routeAssignsCard

/-- THE SECOND FORM's CARD OF 'portlaw2.RouteAssigns'. -/
def routeAssignsUptoCard : Claim7 := { stood := { row := routeAssignsUptoRow, standIns := [], harness := (true, "91dc77373a7da339a0dbd962bf9b49cd2721605353a7af7d762c63d343969160"), looks := true }, kinds := [], alts := [], laidByText := true, laidKinds := [.data, .pinned], laidTests := true, laidLooks := .later }
def RouteAssignsUptoCardSaid : Prop := Claim7.holds Tryz.pinned (.plain (OpenSpec.upto routeAssignsSpec)) routeAssignsUptoCard
end Rows
end Go.Proofs.YtfbnaobiondblaaGreatDoor
