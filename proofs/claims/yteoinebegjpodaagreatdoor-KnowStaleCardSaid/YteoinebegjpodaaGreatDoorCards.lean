/-
  DERIVED. GIVEN WITH THE SEED: THE CARDS: each row of YteoinebegjpodaaGreatDoorRows.lean that lists a variable, with what it lists TIED to the program's text (the seventh form; the later family's looks); each row that meets fmt, with fmt's text TOLD by the authors' own Lean function (tested against real Go, not proved from fmt's source: count such statements apart). THE CARD IS WHAT COUNTS. Prove the row's statement (the work); the ties are given (YteoinebegjpodaaGreatDoorTie.lean); close each card by the builder's one call (the guide's Derived/Test/ToyasCard.lean, 'card_holds'). Laid BY PROGRAM, IN A SANDBOX (cutbox-door.mjs). By AI agents, Wed Nov 11 2026. No macro, syntax, notation, axiom, sorry.
-/
import Derived.Test.YteoinebegjpodaaGreatDoorRows
import GoSem.ClaimSeven
namespace Go.Proofs.YteoinebegjpodaaGreatDoor
namespace Rows

/-- THE TIED CARD OF 'portlaw2.KnowStale'. -/
def knowStaleCard : Claim7 := { stood := { row := knowStaleRow, standIns := [], harness := (true, "03f5c243171599cc36f97aa74e517e5090edd29c1d4f5462dfcd432ea27d7b23"), looks := true }, kinds := [], alts := [], laidByText := true, laidKinds := [.data, .data, .data, .data, .sentinel, .sentinel, .pinned], laidTests := true, laidLooks := .later }
def KnowStaleCardSaid : Prop := Claim7.holds Tryz.pinned (.plain (OpenSpec.ofChange knowStaleSpec)) knowStaleCard

/-- THE SECOND FORM's CARD OF 'portlaw2.KnowStale'. -/
def knowStaleUptoCard : Claim7 := { stood := { row := knowStaleUptoRow, standIns := [], harness := (true, "03f5c243171599cc36f97aa74e517e5090edd29c1d4f5462dfcd432ea27d7b23"), looks := true }, kinds := [], alts := [], laidByText := true, laidKinds := [.data, .data, .data, .data, .sentinel, .sentinel, .pinned], laidTests := true, laidLooks := .later }
def KnowStaleUptoCardSaid : Prop := Claim7.holds Tryz.pinned (.plain (OpenSpec.upto knowStaleSpec)) knowStaleUptoCard
end Rows
end Go.Proofs.YteoinebegjpodaaGreatDoor
