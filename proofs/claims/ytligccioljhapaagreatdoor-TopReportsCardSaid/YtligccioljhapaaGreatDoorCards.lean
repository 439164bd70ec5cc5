/-
  DERIVED. GIVEN WITH THE SEED: THE CARDS: each row of YtligccioljhapaaGreatDoorRows.lean that lists a variable, with what it lists TIED to the program's text (the seventh form; the later family's looks); each row that meets fmt, with fmt's text TOLD by the authors' own Lean function (tested against real Go, not proved from fmt's source: count such statements apart). THE CARD IS WHAT COUNTS. Prove the row's statement (the work); the ties are given (YtligccioljhapaaGreatDoorTie.lean); close each card by the builder's one call (the guide's Derived/Test/ToyasCard.lean, 'card_holds'). Laid BY PROGRAM, IN A SANDBOX (cutbox-door.mjs). By AI agents, Wed Nov 11 2026. No macro, syntax, notation, axiom, sorry.
-/
import Derived.Test.YtligccioljhapaaGreatDoorRows
import GoSem.ClaimSeven
namespace Go.Proofs.YtligccioljhapaaGreatDoor
namespace Rows

/-- THE TIED CARD OF 'porttop.TopReports'. -/
def topReportsCard : Claim7 := { stood := { row := topReportsRow, standIns := [], harness := (true, "517f3aee4c55c6b490851a9b226d7ba971c7c3f0c5b5f17e610cec31e3b6bf1e"), looks := false }, kinds := [], alts := [], laidByText := true, laidKinds := [.data, .pinned], laidTests := true, laidLooks := .later }
def TopReportsCardSaid : Prop := Claim7.holds Tryz.pinned (.plain (OpenSpec.ofChange topReportsSpec)) topReportsCard

/-- THE SECOND FORM's CARD OF 'porttop.TopReports'. -/
def topReportsUptoCard : Claim7 := { stood := { row := topReportsUptoRow, standIns := [], harness := (true, "517f3aee4c55c6b490851a9b226d7ba971c7c3f0c5b5f17e610cec31e3b6bf1e"), looks := false }, kinds := [], alts := [], laidByText := true, laidKinds := [.data, .pinned], laidTests := true, laidLooks := .later }
def TopReportsUptoCardSaid : Prop := Claim7.holds Tryz.pinned (.plain (OpenSpec.upto topReportsSpec)) topReportsUptoCard
end Rows
end Go.Proofs.YtligccioljhapaaGreatDoor
