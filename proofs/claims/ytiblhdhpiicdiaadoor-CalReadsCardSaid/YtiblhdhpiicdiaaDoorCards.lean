/-
  DERIVED. GIVEN WITH THE SEED: THE CARDS: each row of YtiblhdhpiicdiaaDoorRows.lean that lists a variable, with what it lists TIED to the program's text (the seventh form; the later family's looks); each row that meets fmt, with fmt's text TOLD by the authors' own Lean function (tested against real Go, not proved from fmt's source: count such statements apart). THE CARD IS WHAT COUNTS. Prove the row's statement (the work); the ties are given (YtiblhdhpiicdiaaDoorTie.lean); close each card by the builder's one call (the guide's Derived/Test/ToyasCard.lean, 'card_holds'). Laid BY PROGRAM, IN A SANDBOX (cutbox-door.mjs). By AI agents, Wed Nov 11 2026. No macro, syntax, notation, axiom, sorry.
-/
import Derived.Test.YtiblhdhpiicdiaaDoorRows
import GoSem.ClaimSeven
namespace Go.Proofs.YtiblhdhpiicdiaaDoor
namespace Rows

/-- THE TIED CARD OF 'portlaw2.CalReads'. -/
def calReadsCard : Claim7 := { stood := { row := calReadsRow, standIns := [], harness := (true, "3a92296ecff40f8e5a69dcf6e2a61a2f7352533ab76c2fff38a3d6db7fd858da"), looks := true }, kinds := [], alts := [], laidByText := true, laidKinds := [.data, .data, .data, .data, .sentinel, .sentinel, .pinned], laidTests := true, laidLooks := .later }
def CalReadsCardSaid : Prop := Claim7.holds Tryd.pinned (.plain (OpenSpec.ofChange calReadsSpec)) calReadsCard

/-- THE SECOND FORM's CARD OF 'portlaw2.CalReads'. -/
def calReadsUptoCard : Claim7 := { stood := { row := calReadsUptoRow, standIns := [], harness := (true, "3a92296ecff40f8e5a69dcf6e2a61a2f7352533ab76c2fff38a3d6db7fd858da"), looks := true }, kinds := [], alts := [], laidByText := true, laidKinds := [.data, .data, .data, .data, .sentinel, .sentinel, .pinned], laidTests := true, laidLooks := .later }
def CalReadsUptoCardSaid : Prop := Claim7.holds Tryd.pinned (.plain (OpenSpec.upto calReadsSpec)) calReadsUptoCard
end Rows
end Go.Proofs.YtiblhdhpiicdiaaDoor
