/-
  DERIVED. GIVEN WITH THE SEED: THE CARDS: each row of YtpiihecmmdeofaaGreatDoorRows.lean that lists a variable, with what it lists TIED to the program's text (the seventh form; the later family's looks); each row that meets fmt, with fmt's text TOLD by the authors' own Lean function (tested against real Go, not proved from fmt's source: count such statements apart). THE CARD IS WHAT COUNTS. Prove the row's statement (the work); the ties are given (YtpiihecmmdeofaaGreatDoorTie.lean); close each card by the builder's one call (the guide's Derived/Test/ToyasCard.lean, 'card_holds'). Laid BY PROGRAM, IN A SANDBOX (cutbox-door.mjs). By AI agents, Wed Nov 11 2026. No macro, syntax, notation, axiom, sorry.
-/
import Derived.Test.YtpiihecmmdeofaaGreatDoorRows
import GoSem.ClaimSeven
namespace Go.Proofs.YtpiihecmmdeofaaGreatDoor
namespace Rows

/-- THE TIED CARD OF 'portlaw2.RouteReads'. -/
def routeReadsCard : Claim7 := { stood := { row := routeReadsRow, standIns := [], harness := (true, "fbd510fe0d7dfe5755c45494f91b72793693aaa0c05fc21fec5f78afb38a24ea"), looks := true }, kinds := [], alts := [], laidByText := true, laidKinds := [.data, .data, .data, .data, .sentinel, .sentinel, .pinned], laidTests := true, laidLooks := .later }
def RouteReadsCardSaid : Prop := Claim7.holds Tryz.pinned (.plain (OpenSpec.ofChange routeReadsSpec)) routeReadsCard

/-- THE SECOND FORM's CARD OF 'portlaw2.RouteReads'. -/
def routeReadsUptoCard : Claim7 := { stood := { row := routeReadsUptoRow, standIns := [], harness := (true, "fbd510fe0d7dfe5755c45494f91b72793693aaa0c05fc21fec5f78afb38a24ea"), looks := true }, kinds := [], alts := [], laidByText := true, laidKinds := [.data, .data, .data, .data, .sentinel, .sentinel, .pinned], laidTests := true, laidLooks := .later }
def RouteReadsUptoCardSaid : Prop := Claim7.holds Tryz.pinned (.plain (OpenSpec.upto routeReadsSpec)) routeReadsUptoCard
end Rows
end Go.Proofs.YtpiihecmmdeofaaGreatDoor
