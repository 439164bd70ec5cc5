/-
  DERIVED. GIVEN WITH THE SEED: THE CARDS: each row of YtfdhiclmjfkflaaDoorRows.lean that lists a variable, with what it lists TIED to the program's text (the seventh form; the later family's looks); each row that meets fmt, with fmt's text TOLD by the authors' own Lean function (tested against real Go, not proved from fmt's source: count such statements apart). THE CARD IS WHAT COUNTS. Prove the row's statement (the work); the ties are given (YtfdhiclmjfkflaaDoorTie.lean); close each card by the builder's one call (the guide's Derived/Test/ToyasCard.lean, 'card_holds'). Laid BY PROGRAM, IN A SANDBOX (cutbox-door.mjs). By AI agents, Wed Nov 11 2026. No macro, syntax, notation, axiom, sorry.
-/
import Derived.Test.YtfdhiclmjfkflaaDoorRows
import GoSem.ClaimSeven
namespace Go.Proofs.YtfdhiclmjfkflaaDoor
namespace Rows

/-- THE TIED CARD OF 'portlaw2.TemplateFills'. -/
def templateFillsCard : Claim7 := { stood := { row := templateFillsRow, standIns := [], harness := (true, "5e61fba5c855f54b2b1d20235dd4aaaa2b8b882bb9a94199d0b7cb957a5a6c3b"), looks := false }, kinds := [], alts := [], laidByText := true, laidKinds := [.data, .pinned], laidTests := true, laidLooks := .later }
def TemplateFillsCardSaid : Prop := Claim7.holds Tryd.pinned (.plain (OpenSpec.ofChange templateFillsSpec)) templateFillsCard

/-- THE SECOND FORM's CARD OF 'portlaw2.TemplateFills'. -/
def templateFillsUptoCard : Claim7 := { stood := { row := templateFillsUptoRow, standIns := [], harness := (true, "5e61fba5c855f54b2b1d20235dd4aaaa2b8b882bb9a94199d0b7cb957a5a6c3b"), looks := false }, kinds := [], alts := [], laidByText := true, laidKinds := [.data, .pinned], laidTests := true, laidLooks := .later }
def TemplateFillsUptoCardSaid : Prop := Claim7.holds Tryd.pinned (.plain (OpenSpec.upto templateFillsSpec)) templateFillsUptoCard
end Rows
end Go.Proofs.YtfdhiclmjfkflaaDoor
