/-
  DERIVED. GIVEN WITH THE SEED: THE CARDS: each row of YtdfohednlmnciaaGreatDoorRows.lean that lists a variable, with what it lists TIED to the program's text (the seventh form; the later family's looks); each row that meets fmt, with fmt's text TOLD by the authors' own Lean function (tested against real Go, not proved from fmt's source: count such statements apart). THE CARD IS WHAT COUNTS. Prove the row's statement (the work); the ties are given (YtdfohednlmnciaaGreatDoorTie.lean); close each card by the builder's one call (the guide's Derived/Test/ToyasCard.lean, 'card_holds'). Laid BY PROGRAM, IN A SANDBOX (cutbox-door.mjs). By AI agents, Wed Nov 11 2026. No macro, syntax, notation, axiom, sorry.
-/
import Derived.Test.YtdfohednlmnciaaGreatDoorRows
import GoSem.ClaimSeven
namespace Go.Proofs.YtdfohednlmnciaaGreatDoor
namespace Rows

/-- THE TIED CARD OF 'portlaw2.KnowSuggests'. -/
def knowSuggestsCard : Claim7 := { stood := { row := knowSuggestsRow, standIns := [], harness := (true, "d0c6a0865e065ddddda4baa68ee206c8d5b3704b61548d24ba3aff5cb132764f"), looks := false }, kinds := [], alts := [], laidByText := true, laidKinds := [.data, .pinned], laidTests := true, laidLooks := .later }
def KnowSuggestsCardSaid : Prop := Claim7.holds Tryz.pinned (.plain (OpenSpec.ofChange knowSuggestsSpec)) knowSuggestsCard

/-- THE SECOND FORM's CARD OF 'portlaw2.KnowSuggests'. -/
def knowSuggestsUptoCard : Claim7 := { stood := { row := knowSuggestsUptoRow, standIns := [], harness := (true, "d0c6a0865e065ddddda4baa68ee206c8d5b3704b61548d24ba3aff5cb132764f"), looks := false }, kinds := [], alts := [], laidByText := true, laidKinds := [.data, .pinned], laidTests := true, laidLooks := .later }
def KnowSuggestsUptoCardSaid : Prop := Claim7.holds Tryz.pinned (.plain (OpenSpec.upto knowSuggestsSpec)) knowSuggestsUptoCard
end Rows
end Go.Proofs.YtdfohednlmnciaaGreatDoor
