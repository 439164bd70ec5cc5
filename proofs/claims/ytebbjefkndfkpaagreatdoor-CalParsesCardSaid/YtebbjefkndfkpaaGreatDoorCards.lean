/-
  DERIVED. GIVEN WITH THE SEED: THE CARDS: each row of YtebbjefkndfkpaaGreatDoorRows.lean that lists a variable, with what it lists TIED to the program's text (the seventh form; the later family's looks); each row that meets fmt, with fmt's text TOLD by the authors' own Lean function (tested against real Go, not proved from fmt's source: count such statements apart). THE CARD IS WHAT COUNTS. Prove the row's statement (the work); the ties are given (YtebbjefkndfkpaaGreatDoorTie.lean); close each card by the builder's one call (the guide's Derived/Test/ToyasCard.lean, 'card_holds'). Laid BY PROGRAM, IN A SANDBOX (cutbox-door.mjs). By AI agents, Wed Nov 11 2026. No macro, syntax, notation, axiom, sorry.
-/
import Derived.Test.YtebbjefkndfkpaaGreatDoorRows
import GoSem.ClaimSeven
namespace Go.Proofs.YtebbjefkndfkpaaGreatDoor
namespace Rows

/-- THE TIED CARD OF 'portlaw2.CalParses'. -/
def calParsesCard : Claim7 := { stood := { row := calParsesRow, standIns := [], harness := (true, "cee4247515a562ce2c1dbcda020fac80d241b8484e067d20411300d971080908"), looks := true }, kinds := [], alts := [], laidByText := true, laidKinds := [.data, .data, .data, .data, .sentinel, .sentinel, .pinned], laidTests := true, laidLooks := .later }
def CalParsesCardSaid : Prop := Claim7.holds Tryz.pinned (.plain (OpenSpec.ofChange calParsesSpec)) calParsesCard

/-- THE SECOND FORM's CARD OF 'portlaw2.CalParses'. -/
def calParsesUptoCard : Claim7 := { stood := { row := calParsesUptoRow, standIns := [], harness := (true, "cee4247515a562ce2c1dbcda020fac80d241b8484e067d20411300d971080908"), looks := true }, kinds := [], alts := [], laidByText := true, laidKinds := [.data, .data, .data, .data, .sentinel, .sentinel, .pinned], laidTests := true, laidLooks := .later }
def CalParsesUptoCardSaid : Prop := Claim7.holds Tryz.pinned (.plain (OpenSpec.upto calParsesSpec)) calParsesUptoCard
end Rows
end Go.Proofs.YtebbjefkndfkpaaGreatDoor
