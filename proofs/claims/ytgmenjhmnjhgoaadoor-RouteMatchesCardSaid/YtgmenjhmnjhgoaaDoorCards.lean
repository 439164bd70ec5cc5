/-
  DERIVED. GIVEN WITH THE SEED: THE CARDS: each row of YtgmenjhmnjhgoaaDoorRows.lean that lists a variable, with what it lists TIED to the program's text (the seventh form; the later family's looks); each row that meets fmt, with fmt's text TOLD by the authors' own Lean function (tested against real Go, not proved from fmt's source: count such statements apart). THE CARD IS WHAT COUNTS. Prove the row's statement (the work); the ties are given (YtgmenjhmnjhgoaaDoorTie.lean); close each card by the builder's one call (the guide's Derived/Test/ToyasCard.lean, 'card_holds'). Laid BY PROGRAM, IN A SANDBOX (cutbox-door.mjs). By AI agents, Wed Nov 11 2026. No macro, syntax, notation, axiom, sorry.
-/
import Derived.Test.YtgmenjhmnjhgoaaDoorRows
import GoSem.ClaimSeven
namespace Go.Proofs.YtgmenjhmnjhgoaaDoor
namespace Rows

/-- THE TIED CARD OF 'portlaw2.RouteMatches'. -/
def routeMatchesCard : Claim7 := { stood := { row := routeMatchesRow, standIns := [], harness := (true, "c1b0801ab7721f20ff83452b785903add1b425139f831a47d424dddb4977f7d8"), looks := false }, kinds := [], alts := [], laidByText := true, laidKinds := [.data, .pinned], laidTests := true, laidLooks := .later }
def RouteMatchesCardSaid : Prop := Claim7.holds Tryd.pinned (.plain (OpenSpec.ofChange routeMatchesSpec)) routeMatchesCard

/-- THE SECOND FORM's CARD OF 'portlaw2.RouteMatches'. -/
def routeMatchesUptoCard : Claim7 := { stood := { row := routeMatchesUptoRow, standIns := [], harness := (true, "c1b0801ab7721f20ff83452b785903add1b425139f831a47d424dddb4977f7d8"), looks := false }, kinds := [], alts := [], laidByText := true, laidKinds := [.data, .pinned], laidTests := true, laidLooks := .later }
def RouteMatchesUptoCardSaid : Prop := Claim7.holds Tryd.pinned (.plain (OpenSpec.upto routeMatchesSpec)) routeMatchesUptoCard
end Rows
end Go.Proofs.YtgmenjhmnjhgoaaDoor
