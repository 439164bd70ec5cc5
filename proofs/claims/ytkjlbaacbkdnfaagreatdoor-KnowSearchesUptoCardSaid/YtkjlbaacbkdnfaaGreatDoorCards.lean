/-
  DERIVED. GIVEN WITH THE SEED: THE CARDS: each row of YtkjlbaacbkdnfaaGreatDoorRows.lean that lists a variable, with what it lists TIED to the program's text (the seventh form; the later family's looks); each row that meets fmt, with fmt's text TOLD by the authors' own Lean function (tested against real Go, not proved from fmt's source: count such statements apart). THE CARD IS WHAT COUNTS. Prove the row's statement (the work); the ties are given (YtkjlbaacbkdnfaaGreatDoorTie.lean); close each card by the builder's one call (the guide's Derived/Test/ToyasCard.lean, 'card_holds'). Laid BY PROGRAM, IN A SANDBOX (cutbox-door.mjs). By AI agents, Wed Nov 11 2026. No macro, syntax, notation, axiom, sorry.
-/
import Derived.Test.YtkjlbaacbkdnfaaGreatDoorRows
import GoSem.ClaimSeven
namespace Go.Proofs.YtkjlbaacbkdnfaaGreatDoor
namespace Rows

/-- THE TIED CARD OF 'portlaw2.KnowSearches'. -/
def knowSearchesCard : Claim7 := { stood := { row := knowSearchesRow, standIns := [], harness := (true, "34689c1a295e64ec9cf059bad304908643e777de03a148084db1eb6f0b5ea9ee"), looks := false }, kinds := [], alts := [], laidByText := true, laidKinds := [.data, .pinned], laidTests := true, laidLooks := .later }
def KnowSearchesCardSaid : Prop := Claim7.holds Tryz.pinned (.plain (OpenSpec.ofChange knowSearchesSpec)) knowSearchesCard

/-- THE SECOND FORM's CARD OF 'portlaw2.KnowSearches'. -/
def knowSearchesUptoCard : Claim7 := { stood := { row := knowSearchesUptoRow, standIns := [], harness := (true, "34689c1a295e64ec9cf059bad304908643e777de03a148084db1eb6f0b5ea9ee"), looks := false }, kinds := [], alts := [], laidByText := true, laidKinds := [.data, .pinned], laidTests := true, laidLooks := .later }
def KnowSearchesUptoCardSaid : Prop := Claim7.holds Tryz.pinned (.plain (OpenSpec.upto knowSearchesSpec)) knowSearchesUptoCard
end Rows
end Go.Proofs.YtkjlbaacbkdnfaaGreatDoor
