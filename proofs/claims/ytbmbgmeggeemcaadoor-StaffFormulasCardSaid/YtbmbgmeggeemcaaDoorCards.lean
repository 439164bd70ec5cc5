/-
  DERIVED. GIVEN WITH THE SEED: THE CARDS: each row of YtbmbgmeggeemcaaDoorRows.lean that lists a variable, with what it lists TIED to the program's text (the seventh form; the later family's looks); each row that meets fmt, with fmt's text TOLD by the authors' own Lean function (tested against real Go, not proved from fmt's source: count such statements apart). THE CARD IS WHAT COUNTS. Prove the row's statement (the work); the ties are given (YtbmbgmeggeemcaaDoorTie.lean); close each card by the builder's one call (the guide's Derived/Test/ToyasCard.lean, 'card_holds'). Laid BY PROGRAM, IN A SANDBOX (cutbox-door.mjs). By AI agents, Wed Nov 11 2026. No macro, syntax, notation, axiom, sorry.
-/
import Derived.Test.YtbmbgmeggeemcaaDoorRows
import GoSem.ClaimSeven
namespace Go.Proofs.YtbmbgmeggeemcaaDoor
namespace Rows

/-- THE TIED CARD OF 'portlaw2.StaffFormulas'. -/
def staffFormulasCard : Claim7 := { stood := { row := staffFormulasRow, standIns := [], harness := (true, "b15242e63c6ab547fc42c4bbc677bde098d17f71c9446f2c91a9a36640d90914"), looks := false }, kinds := [], alts := [], laidByText := true, laidKinds := [.data, .data, .data], laidTests := true, laidLooks := .later }
def StaffFormulasCardSaid : Prop := Claim7.holds Tryd.pinned (.plain (OpenSpec.ofChange staffFormulasSpec)) staffFormulasCard

/-- THE SECOND FORM's CARD OF 'portlaw2.StaffFormulas'. -/
def staffFormulasUptoCard : Claim7 := { stood := { row := staffFormulasUptoRow, standIns := [], harness := (true, "b15242e63c6ab547fc42c4bbc677bde098d17f71c9446f2c91a9a36640d90914"), looks := false }, kinds := [], alts := [], laidByText := true, laidKinds := [.data, .data, .data], laidTests := true, laidLooks := .later }
def StaffFormulasUptoCardSaid : Prop := Claim7.holds Tryd.pinned (.plain (OpenSpec.upto staffFormulasSpec)) staffFormulasUptoCard
end Rows
end Go.Proofs.YtbmbgmeggeemcaaDoor
