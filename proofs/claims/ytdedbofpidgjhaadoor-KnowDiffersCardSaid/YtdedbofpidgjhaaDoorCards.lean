/-
  DERIVED. GIVEN WITH THE SEED: THE CARDS: each row of YtdedbofpidgjhaaDoorRows.lean that lists a variable, with what it lists TIED to the program's text (the seventh form; the later family's looks); each row that meets fmt, with fmt's text TOLD by the authors' own Lean function (tested against real Go, not proved from fmt's source: count such statements apart). THE CARD IS WHAT COUNTS. Prove the row's statement (the work); the ties are given (YtdedbofpidgjhaaDoorTie.lean); close each card by the builder's one call (the guide's Derived/Test/ToyasCard.lean, 'card_holds'). Laid BY PROGRAM, IN A SANDBOX (cutbox-door.mjs). By AI agents, Wed Nov 11 2026. No macro, syntax, notation, axiom, sorry.
-/
import Derived.Test.YtdedbofpidgjhaaDoorRows
import GoSem.ClaimSeven
namespace Go.Proofs.YtdedbofpidgjhaaDoor
namespace Rows

/-- THE TIED CARD OF 'portlaw2.KnowDiffers'. -/
def knowDiffersCard : Claim7 := { stood := { row := knowDiffersRow, standIns := [], harness := (true, "11f974078ee0e2dcc81e424944cd9a57ce0927bb0830d6d851087884e90fa755"), looks := true }, kinds := [], alts := [], laidByText := true, laidKinds := [.data, .pinned], laidTests := true, laidLooks := .later }
def KnowDiffersCardSaid : Prop := Claim7.holds Tryd.pinned (.plain (OpenSpec.ofChange knowDiffersSpec)) knowDiffersCard

/-- THE SECOND FORM's CARD OF 'portlaw2.KnowDiffers'. -/
def knowDiffersUptoCard : Claim7 := { stood := { row := knowDiffersUptoRow, standIns := [], harness := (true, "11f974078ee0e2dcc81e424944cd9a57ce0927bb0830d6d851087884e90fa755"), looks := true }, kinds := [], alts := [], laidByText := true, laidKinds := [.data, .pinned], laidTests := true, laidLooks := .later }
def KnowDiffersUptoCardSaid : Prop := Claim7.holds Tryd.pinned (.plain (OpenSpec.upto knowDiffersSpec)) knowDiffersUptoCard
end Rows
end Go.Proofs.YtdedbofpidgjhaaDoor
