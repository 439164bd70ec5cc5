/-
  DERIVED. GIVEN WITH THE SEED: THE CARDS: each row of YtcehkbhloaeflaaDoorRows.lean that lists a variable, with what it lists TIED to the program's text (the seventh form; the later family's looks); each row that meets fmt, with fmt's text TOLD by the authors' own Lean function (tested against real Go, not proved from fmt's source: count such statements apart). THE CARD IS WHAT COUNTS. Prove the row's statement (the work); the ties are given (YtcehkbhloaeflaaDoorTie.lean); close each card by the builder's one call (the guide's Derived/Test/ToyasCard.lean, 'card_holds'). Laid BY PROGRAM, IN A SANDBOX (cutbox-door.mjs). By AI agents, Wed Nov 11 2026. No macro, syntax, notation, axiom, sorry.
-/
import Derived.Test.YtcehkbhloaeflaaDoorRows
import GoSem.ClaimSeven
namespace Go.Proofs.YtcehkbhloaeflaaDoor
namespace Rows

/-- THE TIED CARD OF 'porttop.TopStaffed'. -/
def topStaffedCard : Claim7 := { stood := { row := topStaffedRow, standIns := [], harness := (true, "d25d92af1f32ffb2641fa07ffb0736e3e5fc31ac8ad2ddf5e2c6dc7030a36bcf"), looks := false }, kinds := [], alts := [], laidByText := true, laidKinds := [.data, .data, .data], laidTests := true, laidLooks := .later }
def TopStaffedCardSaid : Prop := Claim7.holds Tryd.pinned (.plain (OpenSpec.ofChange topStaffedSpec)) topStaffedCard

/-- THE SECOND FORM's CARD OF 'porttop.TopStaffed'. -/
def topStaffedUptoCard : Claim7 := { stood := { row := topStaffedUptoRow, standIns := [], harness := (true, "d25d92af1f32ffb2641fa07ffb0736e3e5fc31ac8ad2ddf5e2c6dc7030a36bcf"), looks := false }, kinds := [], alts := [], laidByText := true, laidKinds := [.data, .data, .data], laidTests := true, laidLooks := .later }
def TopStaffedUptoCardSaid : Prop := Claim7.holds Tryd.pinned (.plain (OpenSpec.upto topStaffedSpec)) topStaffedUptoCard
end Rows
end Go.Proofs.YtcehkbhloaeflaaDoor
