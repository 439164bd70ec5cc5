/-
  DERIVED. GIVEN WITH THE SEED: THE CARDS: each row of YtcfmgjmpodpfiaaGreatDoorRows.lean that lists a variable, with what it lists TIED to the program's text (the seventh form; the later family's looks); each row that meets fmt, with fmt's text TOLD by the authors' own Lean function (tested against real Go, not proved from fmt's source: count such statements apart). THE CARD IS WHAT COUNTS. Prove the row's statement (the work); the ties are given (YtcfmgjmpodpfiaaGreatDoorTie.lean); close each card by the builder's one call (the guide's Derived/Test/ToyasCard.lean, 'card_holds'). Laid BY PROGRAM, IN A SANDBOX (cutbox-door.mjs). By AI agents, Wed Nov 11 2026. No macro, syntax, notation, axiom, sorry.
-/
import Derived.Test.YtcfmgjmpodpfiaaGreatDoorRows
import GoSem.ClaimSeven
namespace Go.Proofs.YtcfmgjmpodpfiaaGreatDoor
namespace Rows

/-- THE TIED CARD OF 'portlaw2.KnowPublishes'. -/
def knowPublishesCard : Claim7 := { stood := { row := knowPublishesRow, standIns := [], harness := (true, "ed7e64b7c60719de77ca07816cca0e336ea1a71787ec55000ee45554181f8f33"), looks := true }, kinds := [], alts := [], laidByText := true, laidKinds := [.data, .pinned], laidTests := true, laidLooks := .later }
def KnowPublishesCardSaid : Prop := Claim7.holds Tryz.pinned (.plain (OpenSpec.ofChange knowPublishesSpec)) knowPublishesCard

/-- THE SECOND FORM's CARD OF 'portlaw2.KnowPublishes'. -/
def knowPublishesUptoCard : Claim7 := { stood := { row := knowPublishesUptoRow, standIns := [], harness := (true, "ed7e64b7c60719de77ca07816cca0e336ea1a71787ec55000ee45554181f8f33"), looks := true }, kinds := [], alts := [], laidByText := true, laidKinds := [.data, .pinned], laidTests := true, laidLooks := .later }
def KnowPublishesUptoCardSaid : Prop := Claim7.holds Tryz.pinned (.plain (OpenSpec.upto knowPublishesSpec)) knowPublishesUptoCard
end Rows
end Go.Proofs.YtcfmgjmpodpfiaaGreatDoor
