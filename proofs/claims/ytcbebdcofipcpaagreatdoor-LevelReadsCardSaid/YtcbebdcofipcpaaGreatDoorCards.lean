/-
  DERIVED. GIVEN WITH THE SEED: THE CARDS: each row of YtcbebdcofipcpaaGreatDoorRows.lean that lists a variable, with what it lists TIED to the program's text (the seventh form; the later family's looks); each row that meets fmt, with fmt's text TOLD by the authors' own Lean function (tested against real Go, not proved from fmt's source: count such statements apart). THE CARD IS WHAT COUNTS. Prove the row's statement (the work); the ties are given (YtcbebdcofipcpaaGreatDoorTie.lean); close each card by the builder's one call (the guide's Derived/Test/ToyasCard.lean, 'card_holds'). Laid BY PROGRAM, IN A SANDBOX (cutbox-door.mjs). By AI agents, Wed Nov 11 2026. No macro, syntax, notation, axiom, sorry.
-/
import Derived.Test.YtcbebdcofipcpaaGreatDoorRows
import GoSem.ClaimSeven
namespace Go.Proofs.YtcbebdcofipcpaaGreatDoor
namespace Rows

/-- THE TIED CARD OF 'portlaw2.LevelReads'. -/
def levelReadsCard : Claim7 := { stood := { row := levelReadsRow, standIns := [], harness := (true, "e9620e22b03c7c2b29d79c4158461b04a47080acfcea3a0078c64ebcf37ea4f4"), looks := true }, kinds := [], alts := [], laidByText := true, laidKinds := [.data, .data, .data, .data, .sentinel, .sentinel, .widerDeep, .widerDeep, .pinned], laidTests := true, laidLooks := .later }
def LevelReadsCardSaid : Prop := Claim7.holds Tryz.pinned (.plain (OpenSpec.ofChange levelReadsSpec)) levelReadsCard

/-- THE SECOND FORM's CARD OF 'portlaw2.LevelReads'. -/
def levelReadsUptoCard : Claim7 := { stood := { row := levelReadsUptoRow, standIns := [], harness := (true, "e9620e22b03c7c2b29d79c4158461b04a47080acfcea3a0078c64ebcf37ea4f4"), looks := true }, kinds := [], alts := [], laidByText := true, laidKinds := [.data, .data, .data, .data, .sentinel, .sentinel, .widerDeep, .widerDeep, .pinned], laidTests := true, laidLooks := .later }
def LevelReadsUptoCardSaid : Prop := Claim7.holds Tryz.pinned (.plain (OpenSpec.upto levelReadsSpec)) levelReadsUptoCard
end Rows
end Go.Proofs.YtcbebdcofipcpaaGreatDoor
