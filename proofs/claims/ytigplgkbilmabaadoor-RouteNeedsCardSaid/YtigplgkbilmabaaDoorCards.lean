/-
  DERIVED. GIVEN WITH THE SEED: THE CARDS: each row of YtigplgkbilmabaaDoorRows.lean that lists a variable, with what it lists TIED to the program's text (the seventh form; the later family's looks); each row that meets fmt, with fmt's text TOLD by the authors' own Lean function (tested against real Go, not proved from fmt's source: count such statements apart). THE CARD IS WHAT COUNTS. Prove the row's statement (the work); the ties are given (YtigplgkbilmabaaDoorTie.lean); close each card by the builder's one call (the guide's Derived/Test/ToyasCard.lean, 'card_holds'). Laid BY PROGRAM, IN A SANDBOX (cutbox-door.mjs). By AI agents, Wed Nov 11 2026. No macro, syntax, notation, axiom, sorry.
-/
import Derived.Test.YtigplgkbilmabaaDoorRows
import GoSem.ClaimSeven
namespace Go.Proofs.YtigplgkbilmabaaDoor
namespace Rows

/-- THE TIED CARD OF 'portlaw2.RouteRoom'. -/
def routeRoomCard : Claim7 := { stood := { row := routeRoomRow, standIns := [], harness := (true, "def0029088e46d31e2a4d3ac668afe5fbe21231fef9ed7721a0f8a894be65d0f"), looks := false }, kinds := [], alts := [], laidByText := true, laidKinds := [.data, .pinned], laidTests := true, laidLooks := .later }
def RouteRoomCardSaid : Prop := Claim7.holds Tryd.pinned (.plain (OpenSpec.ofChange routeRoomSpec)) routeRoomCard

/-- THE TIED CARD OF 'portlaw2.RouteNeeds'. -/
def routeNeedsCard : Claim7 := { stood := { row := routeNeedsRow, standIns := [], harness := (true, "def0029088e46d31e2a4d3ac668afe5fbe21231fef9ed7721a0f8a894be65d0f"), looks := false }, kinds := [], alts := [], laidByText := true, laidKinds := [.data, .pinned], laidTests := true, laidLooks := .later }
def RouteNeedsCardSaid : Prop := Claim7.holds Tryd.pinned (.plain (OpenSpec.ofChange routeNeedsSpec)) routeNeedsCard

/-- THE SECOND FORM's CARD OF 'portlaw2.RouteRoom'. -/
def routeRoomUptoCard : Claim7 := { stood := { row := routeRoomUptoRow, standIns := [], harness := (true, "def0029088e46d31e2a4d3ac668afe5fbe21231fef9ed7721a0f8a894be65d0f"), looks := false }, kinds := [], alts := [], laidByText := true, laidKinds := [.data, .pinned], laidTests := true, laidLooks := .later }
def RouteRoomUptoCardSaid : Prop := Claim7.holds Tryd.pinned (.plain (OpenSpec.upto routeRoomSpec)) routeRoomUptoCard

/-- THE SECOND FORM's CARD OF 'portlaw2.RouteNeeds'. -/
def routeNeedsUptoCard : Claim7 := { stood := { row := routeNeedsUptoRow, standIns := [], harness := (true, "def0029088e46d31e2a4d3ac668afe5fbe21231fef9ed7721a0f8a894be65d0f"), looks := false }, kinds := [], alts := [], laidByText := true, laidKinds := [.data, .pinned], laidTests := true, laidLooks := .later }
def RouteNeedsUptoCardSaid : Prop := Claim7.holds Tryd.pinned (.plain (OpenSpec.upto routeNeedsSpec)) routeNeedsUptoCard
end Rows
end Go.Proofs.YtigplgkbilmabaaDoor
