/-
  DERIVED. GIVEN WITH THE SEED: THE CARDS: each row of YtldkdabcdbgpbaaGreatDoorRows.lean that lists a variable, with what it lists TIED to the program's text (the seventh form; the later family's looks); each row that meets fmt, with fmt's text TOLD by the authors' own Lean function (tested against real Go, not proved from fmt's source: count such statements apart). THE CARD IS WHAT COUNTS. Prove the row's statement (the work); the ties are given (YtldkdabcdbgpbaaGreatDoorTie.lean); close each card by the builder's one call (the guide's Derived/Test/ToyasCard.lean, 'card_holds'). Laid BY PROGRAM, IN A SANDBOX (cutbox-door.mjs). By AI agents, Wed Nov 11 2026. No macro, syntax, notation, axiom, sorry.
-/
import Derived.Test.YtldkdabcdbgpbaaGreatDoorRows
import GoSem.ClaimSeven
namespace Go.Proofs.YtldkdabcdbgpbaaGreatDoor
namespace Rows

/-- THE TIED CARD OF 'portlaw2.IndexMakes'. -/
def indexMakesCard : Claim7 := { stood := { row := indexMakesRow, standIns := [], harness := (true, "523221c54faec6eddf641ffc094cb12c50c17e43efc7fb52f2f0b667246de066"), looks := true }, kinds := [], alts := [], laidByText := true, laidKinds := [.data, .pinned], laidTests := true, laidLooks := .later }
def IndexMakesCardSaid : Prop := Claim7.holds Tryz.pinned (.plain (OpenSpec.ofChange indexMakesSpec)) indexMakesCard

/-- THE TIED CARD OF 'portlaw2.IndexChanges'. -/
def indexChangesCard : Claim7 := { stood := { row := indexChangesRow, standIns := [], harness := (true, "523221c54faec6eddf641ffc094cb12c50c17e43efc7fb52f2f0b667246de066"), looks := true }, kinds := [], alts := [], laidByText := true, laidKinds := [.data, .pinned], laidTests := true, laidLooks := .later }
def IndexChangesCardSaid : Prop := Claim7.holds Tryz.pinned (.plain (OpenSpec.ofChange indexChangesSpec)) indexChangesCard

/-- THE SECOND FORM's CARD OF 'portlaw2.IndexMakes'. -/
def indexMakesUptoCard : Claim7 := { stood := { row := indexMakesUptoRow, standIns := [], harness := (true, "523221c54faec6eddf641ffc094cb12c50c17e43efc7fb52f2f0b667246de066"), looks := true }, kinds := [], alts := [], laidByText := true, laidKinds := [.data, .pinned], laidTests := true, laidLooks := .later }
def IndexMakesUptoCardSaid : Prop := Claim7.holds Tryz.pinned (.plain (OpenSpec.upto indexMakesSpec)) indexMakesUptoCard

/-- THE SECOND FORM's CARD OF 'portlaw2.IndexChanges'. -/
def indexChangesUptoCard : Claim7 := { stood := { row := indexChangesUptoRow, standIns := [], harness := (true, "523221c54faec6eddf641ffc094cb12c50c17e43efc7fb52f2f0b667246de066"), looks := true }, kinds := [], alts := [], laidByText := true, laidKinds := [.data, .pinned], laidTests := true, laidLooks := .later }
def IndexChangesUptoCardSaid : Prop := Claim7.holds Tryz.pinned (.plain (OpenSpec.upto indexChangesSpec)) indexChangesUptoCard
end Rows
end Go.Proofs.YtldkdabcdbgpbaaGreatDoor
