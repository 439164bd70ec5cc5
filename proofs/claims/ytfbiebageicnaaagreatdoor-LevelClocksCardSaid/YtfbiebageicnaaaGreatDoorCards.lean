/-
  DERIVED. GIVEN WITH THE SEED: THE CARDS: each row of YtfbiebageicnaaaGreatDoorRows.lean that lists a variable, with what it lists TIED to the program's text (the seventh form; the later family's looks); each row that meets fmt, with fmt's text TOLD by the authors' own Lean function (tested against real Go, not proved from fmt's source: count such statements apart). THE CARD IS WHAT COUNTS. Prove the row's statement (the work); the ties are given (YtfbiebageicnaaaGreatDoorTie.lean); close each card by the builder's one call (the guide's Derived/Test/ToyasCard.lean, 'card_holds'). Laid BY PROGRAM, IN A SANDBOX (cutbox-door.mjs). By AI agents, Wed Nov 11 2026. No macro, syntax, notation, axiom, sorry.
-/
import Derived.Test.YtfbiebageicnaaaGreatDoorRows
import GoSem.ClaimSeven
namespace Go.Proofs.YtfbiebageicnaaaGreatDoor
namespace Rows

/-- THE TIED CARD OF 'portlaw2.LevelClocks'. -/
def levelClocksCard : Claim7 := { stood := { row := levelClocksRow, standIns := [], harness := (true, "fa70413153ad8c4d6713b0fc6e84376b198bb1f512e64ea8801648c438ca5942"), looks := true }, kinds := [], alts := [], laidByText := true, laidKinds := [.data, .pinned], laidTests := true, laidLooks := .later }
def LevelClocksCardSaid : Prop := Claim7.holds Tryz.pinned (.plain (OpenSpec.ofChange levelClocksSpec)) levelClocksCard

/-- THE SECOND FORM's CARD OF 'portlaw2.LevelClocks'. -/
def levelClocksUptoCard : Claim7 := { stood := { row := levelClocksUptoRow, standIns := [], harness := (true, "fa70413153ad8c4d6713b0fc6e84376b198bb1f512e64ea8801648c438ca5942"), looks := true }, kinds := [], alts := [], laidByText := true, laidKinds := [.data, .pinned], laidTests := true, laidLooks := .later }
def LevelClocksUptoCardSaid : Prop := Claim7.holds Tryz.pinned (.plain (OpenSpec.upto levelClocksSpec)) levelClocksUptoCard
end Rows
end Go.Proofs.YtfbiebageicnaaaGreatDoor
