/-
  DERIVED. GIVEN WITH THE SEED: THE CARDS: each row of YtdpmeckhhcjoiaaGreatDoorRows.lean that lists a variable, with what it lists TIED to the program's text (the seventh form; the later family's looks); each row that meets fmt, with fmt's text TOLD by the authors' own Lean function (tested against real Go, not proved from fmt's source: count such statements apart). THE CARD IS WHAT COUNTS. Prove the row's statement (the work); the ties are given (YtdpmeckhhcjoiaaGreatDoorTie.lean); close each card by the builder's one call (the guide's Derived/Test/ToyasCard.lean, 'card_holds'). Laid BY PROGRAM, IN A SANDBOX (cutbox-door.mjs). By AI agents, Wed Nov 11 2026. No macro, syntax, notation, axiom, sorry.
-/
import Derived.Test.YtdpmeckhhcjoiaaGreatDoorRows
import GoSem.ClaimSeven
namespace Go.Proofs.YtdpmeckhhcjoiaaGreatDoor
namespace Rows

/-- THE TIED CARD OF 'portlaw2.RouteRuns'. -/
def routeRunsCard : Claim7 := { stood := { row := routeRunsRow, standIns := [], harness := (true, "b2667075673a5a797a8d7b8f0d4f50d70e94b3207ac99fd37adbf96c6a446f90"), looks := true }, kinds := [], alts := [], laidByText := true, laidKinds := [.data, .pinned], laidTests := true, laidLooks := .later }
def RouteRunsCardSaid : Prop := Claim7.holds Tryz.pinned (.plain (OpenSpec.ofChange routeRunsSpec)) routeRunsCard

/-- THE SECOND FORM's CARD OF 'portlaw2.RouteRuns'. -/
def routeRunsUptoCard : Claim7 := { stood := { row := routeRunsUptoRow, standIns := [], harness := (true, "b2667075673a5a797a8d7b8f0d4f50d70e94b3207ac99fd37adbf96c6a446f90"), looks := true }, kinds := [], alts := [], laidByText := true, laidKinds := [.data, .pinned], laidTests := true, laidLooks := .later }
def RouteRunsUptoCardSaid : Prop := Claim7.holds Tryz.pinned (.plain (OpenSpec.upto routeRunsSpec)) routeRunsUptoCard
end Rows
end Go.Proofs.YtdpmeckhhcjoiaaGreatDoor
