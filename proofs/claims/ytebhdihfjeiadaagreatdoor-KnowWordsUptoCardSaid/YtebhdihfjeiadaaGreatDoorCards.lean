/-
  DERIVED. GIVEN WITH THE SEED: THE CARDS: each row of YtebhdihfjeiadaaGreatDoorRows.lean that lists a variable, with what it lists TIED to the program's text (the seventh form; the later family's looks); each row that meets fmt, with fmt's text TOLD by the authors' own Lean function (tested against real Go, not proved from fmt's source: count such statements apart). THE CARD IS WHAT COUNTS. Prove the row's statement (the work); the ties are given (YtebhdihfjeiadaaGreatDoorTie.lean); close each card by the builder's one call (the guide's Derived/Test/ToyasCard.lean, 'card_holds'). Laid BY PROGRAM, IN A SANDBOX (cutbox-door.mjs). By AI agents, Wed Nov 11 2026. No macro, syntax, notation, axiom, sorry.
-/
import Derived.Test.YtebhdihfjeiadaaGreatDoorRows
import GoSem.ClaimSeven
namespace Go.Proofs.YtebhdihfjeiadaaGreatDoor
namespace Rows

/-- THE TIED CARD OF 'portlaw2.KnowWords'. -/
def knowWordsCard : Claim7 := { stood := { row := knowWordsRow, standIns := [], harness := (true, "5674736066559ead8da1510170659662f099d7abf0ee1b8c09a049e8545faf30"), looks := true }, kinds := [], alts := [], laidByText := true, laidKinds := [.data, .data, .data, .data, .sentinel, .sentinel, .pinned], laidTests := true, laidLooks := .later }
def KnowWordsCardSaid : Prop := Claim7.holds Tryz.pinned (.plain (OpenSpec.ofChange knowWordsSpec)) knowWordsCard

/-- THE SECOND FORM's CARD OF 'portlaw2.KnowWords'. -/
def knowWordsUptoCard : Claim7 := { stood := { row := knowWordsUptoRow, standIns := [], harness := (true, "5674736066559ead8da1510170659662f099d7abf0ee1b8c09a049e8545faf30"), looks := true }, kinds := [], alts := [], laidByText := true, laidKinds := [.data, .data, .data, .data, .sentinel, .sentinel, .pinned], laidTests := true, laidLooks := .later }
def KnowWordsUptoCardSaid : Prop := Claim7.holds Tryz.pinned (.plain (OpenSpec.upto knowWordsSpec)) knowWordsUptoCard
end Rows
end Go.Proofs.YtebhdihfjeiadaaGreatDoor
