/-
  DERIVED. GIVEN WITH THE SEED: THE CARDS: each row of YtnkjmfbpkbooeaaGreatDoorRows.lean that lists a variable, with what it lists TIED to the program's text (the seventh form; the later family's looks); each row that meets fmt, with fmt's text TOLD by the authors' own Lean function (tested against real Go, not proved from fmt's source: count such statements apart). THE CARD IS WHAT COUNTS. Prove the row's statement (the work); the ties are given (YtnkjmfbpkbooeaaGreatDoorTie.lean); close each card by the builder's one call (the guide's Derived/Test/ToyasCard.lean, 'card_holds'). Laid BY PROGRAM, IN A SANDBOX (cutbox-door.mjs). By AI agents, Wed Nov 11 2026. No macro, syntax, notation, axiom, sorry.
-/
import Derived.Test.YtnkjmfbpkbooeaaGreatDoorRows
import GoSem.ClaimSeven
namespace Go.Proofs.YtnkjmfbpkbooeaaGreatDoor
namespace Rows

/-- THE TIED CARD OF 'portlaw2.ClockReads'. -/
def clockReadsCard : Claim7 := { stood := { row := clockReadsRow, standIns := [], harness := (true, "d38db89a70c61c3de4ed15e3c05aac3d47759bd2f1e1bea6508e9daba0a935ec"), looks := true }, kinds := [], alts := [], laidByText := true, laidKinds := [.data, .data, .data, .data, .sentinel, .sentinel, .pinned], laidTests := true, laidLooks := .later }
def ClockReadsCardSaid : Prop := Claim7.holds Tryz.pinned (.plain (OpenSpec.ofChange clockReadsSpec)) clockReadsCard

/-- THE SECOND FORM's CARD OF 'portlaw2.ClockReads'. -/
def clockReadsUptoCard : Claim7 := { stood := { row := clockReadsUptoRow, standIns := [], harness := (true, "d38db89a70c61c3de4ed15e3c05aac3d47759bd2f1e1bea6508e9daba0a935ec"), looks := true }, kinds := [], alts := [], laidByText := true, laidKinds := [.data, .data, .data, .data, .sentinel, .sentinel, .pinned], laidTests := true, laidLooks := .later }
def ClockReadsUptoCardSaid : Prop := Claim7.holds Tryz.pinned (.plain (OpenSpec.upto clockReadsSpec)) clockReadsUptoCard
end Rows
end Go.Proofs.YtnkjmfbpkbooeaaGreatDoor
