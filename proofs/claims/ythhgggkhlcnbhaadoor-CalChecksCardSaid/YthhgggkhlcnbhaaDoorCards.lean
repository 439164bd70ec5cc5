/-
  DERIVED. GIVEN WITH THE SEED: THE CARDS: each row of YthhgggkhlcnbhaaDoorRows.lean that lists a variable, with what it lists TIED to the program's text (the seventh form; the later family's looks); each row that meets fmt, with fmt's text TOLD by the authors' own Lean function (tested against real Go, not proved from fmt's source: count such statements apart). THE CARD IS WHAT COUNTS. Prove the row's statement (the work); the ties are given (YthhgggkhlcnbhaaDoorTie.lean); close each card by the builder's one call (the guide's Derived/Test/ToyasCard.lean, 'card_holds'). Laid BY PROGRAM, IN A SANDBOX (cutbox-door.mjs). By AI agents, Wed Nov 11 2026. No macro, syntax, notation, axiom, sorry.
-/
import Derived.Test.YthhgggkhlcnbhaaDoorRows
import GoSem.ClaimSeven
namespace Go.Proofs.YthhgggkhlcnbhaaDoor
namespace Rows

/-- THE TIED CARD OF 'portlaw2.CalChecks'. -/
def calChecksCard : Claim7 := { stood := { row := calChecksRow, standIns := [], harness := (true, "2be0b65f8e6c9612ff1ef430e12d2c3554c6ea44de4817b25ad0ab0526fbfaf2"), looks := true }, kinds := [], alts := [], laidByText := true, laidKinds := [.data, .data, .data], laidTests := true, laidLooks := .later }
def CalChecksCardSaid : Prop := Claim7.holds Tryd.pinned (.plain (OpenSpec.ofChange calChecksSpec)) calChecksCard

/-- THE TIED CARD OF 'portlaw2.RouteChecks'. -/
def routeChecksCard : Claim7 := { stood := { row := routeChecksRow, standIns := [], harness := (true, "2be0b65f8e6c9612ff1ef430e12d2c3554c6ea44de4817b25ad0ab0526fbfaf2"), looks := true }, kinds := [], alts := [], laidByText := true, laidKinds := [.data, .data, .data, .data, .pinned], laidTests := true, laidLooks := .later }
def RouteChecksCardSaid : Prop := Claim7.holds Tryd.pinned (.plain (OpenSpec.ofChange routeChecksSpec)) routeChecksCard

/-- THE SECOND FORM's CARD OF 'portlaw2.CalChecks'. -/
def calChecksUptoCard : Claim7 := { stood := { row := calChecksUptoRow, standIns := [], harness := (true, "2be0b65f8e6c9612ff1ef430e12d2c3554c6ea44de4817b25ad0ab0526fbfaf2"), looks := true }, kinds := [], alts := [], laidByText := true, laidKinds := [.data, .data, .data], laidTests := true, laidLooks := .later }
def CalChecksUptoCardSaid : Prop := Claim7.holds Tryd.pinned (.plain (OpenSpec.upto calChecksSpec)) calChecksUptoCard

/-- THE SECOND FORM's CARD OF 'portlaw2.RouteChecks'. -/
def routeChecksUptoCard : Claim7 := { stood := { row := routeChecksUptoRow, standIns := [], harness := (true, "2be0b65f8e6c9612ff1ef430e12d2c3554c6ea44de4817b25ad0ab0526fbfaf2"), looks := true }, kinds := [], alts := [], laidByText := true, laidKinds := [.data, .data, .data, .data, .pinned], laidTests := true, laidLooks := .later }
def RouteChecksUptoCardSaid : Prop := Claim7.holds Tryd.pinned (.plain (OpenSpec.upto routeChecksSpec)) routeChecksUptoCard
end Rows
end Go.Proofs.YthhgggkhlcnbhaaDoor
