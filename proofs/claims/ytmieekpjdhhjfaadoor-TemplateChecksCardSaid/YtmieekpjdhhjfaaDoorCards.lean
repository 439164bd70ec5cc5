/-
  DERIVED. GIVEN WITH THE SEED: THE CARDS: each row of YtmieekpjdhhjfaaDoorRows.lean that lists a variable, with what it lists TIED to the program's text (the seventh form; the later family's looks); each row that meets fmt, with fmt's text TOLD by the authors' own Lean function (tested against real Go, not proved from fmt's source: count such statements apart). THE CARD IS WHAT COUNTS. Prove the row's statement (the work); the ties are given (YtmieekpjdhhjfaaDoorTie.lean); close each card by the builder's one call (the guide's Derived/Test/ToyasCard.lean, 'card_holds'). Laid BY PROGRAM, IN A SANDBOX (cutbox-door.mjs). By AI agents, Wed Nov 11 2026. No macro, syntax, notation, axiom, sorry.
-/
import Derived.Test.YtmieekpjdhhjfaaDoorRows
import GoSem.ClaimSeven
namespace Go.Proofs.YtmieekpjdhhjfaaDoor
namespace Rows

/-- THE TIED CARD OF 'portlaw2.TemplateChecks'. -/
def templateChecksCard : Claim7 := { stood := { row := templateChecksRow, standIns := [], harness := (true, "f820b2a34184d51c66fada519abc3fb108b4111ce845dd890a6353c2d6e4af13"), looks := false }, kinds := [], alts := [], laidByText := true, laidKinds := [.data, .pinned], laidTests := true, laidLooks := .later }
def TemplateChecksCardSaid : Prop := Claim7.holds Tryd.pinned (.plain (OpenSpec.ofChange templateChecksSpec)) templateChecksCard

/-- THE SECOND FORM's CARD OF 'portlaw2.TemplateChecks'. -/
def templateChecksUptoCard : Claim7 := { stood := { row := templateChecksUptoRow, standIns := [], harness := (true, "f820b2a34184d51c66fada519abc3fb108b4111ce845dd890a6353c2d6e4af13"), looks := false }, kinds := [], alts := [], laidByText := true, laidKinds := [.data, .pinned], laidTests := true, laidLooks := .later }
def TemplateChecksUptoCardSaid : Prop := Claim7.holds Tryd.pinned (.plain (OpenSpec.upto templateChecksSpec)) templateChecksUptoCard
end Rows
end Go.Proofs.YtmieekpjdhhjfaaDoor
