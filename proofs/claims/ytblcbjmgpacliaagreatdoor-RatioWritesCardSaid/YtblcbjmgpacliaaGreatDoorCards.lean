/-
  DERIVED. GIVEN WITH THE SEED: THE CARDS: each row of YtblcbjmgpacliaaGreatDoorRows.lean that lists a variable, with what it lists TIED to the program's text (the seventh form; the later family's looks); each row that meets fmt, with fmt's text TOLD by the authors' own Lean function (tested against real Go, not proved from fmt's source: count such statements apart). THE CARD IS WHAT COUNTS. Prove the row's statement (the work); the ties are given (YtblcbjmgpacliaaGreatDoorTie.lean); close each card by the builder's one call (the guide's Derived/Test/ToyasCard.lean, 'card_holds'). Laid BY PROGRAM, IN A SANDBOX (cutbox-door.mjs). By AI agents, Wed Nov 11 2026. No macro, syntax, notation, axiom, sorry.
-/
import Derived.Test.YtblcbjmgpacliaaGreatDoorRows
import GoSem.ClaimSeven
namespace Go.Proofs.YtblcbjmgpacliaaGreatDoor
namespace Rows

/-- THE TIED CARD OF 'portlaw2.RatioWrites'. -/
def ratioWritesCard : Claim7 := { stood := { row := ratioWritesRow, standIns := [], harness := (true, "c73aa51dcfa6d42ebf667c8484a324d75a1a7e9c0d4d15dbbf65f0d6211c76c5"), looks := true }, kinds := [], alts := [], laidByText := true, laidKinds := [.data, .data, .data, .data, .sentinel, .sentinel, .pinned], laidTests := true, laidLooks := .later }
def RatioWritesCardSaid : Prop := Claim7.holds Tryz.pinned (.plain (OpenSpec.ofChange ratioWritesSpec)) ratioWritesCard

/-- THE SECOND FORM's CARD OF 'portlaw2.RatioWrites'. -/
def ratioWritesUptoCard : Claim7 := { stood := { row := ratioWritesUptoRow, standIns := [], harness := (true, "c73aa51dcfa6d42ebf667c8484a324d75a1a7e9c0d4d15dbbf65f0d6211c76c5"), looks := true }, kinds := [], alts := [], laidByText := true, laidKinds := [.data, .data, .data, .data, .sentinel, .sentinel, .pinned], laidTests := true, laidLooks := .later }
def RatioWritesUptoCardSaid : Prop := Claim7.holds Tryz.pinned (.plain (OpenSpec.upto ratioWritesSpec)) ratioWritesUptoCard
end Rows
end Go.Proofs.YtblcbjmgpacliaaGreatDoor
