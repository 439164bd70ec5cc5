/-
  DERIVED. GIVEN WITH THE SEED: THE CARDS: each row of YtpkkbbcflmbjeaaDoorRows.lean that lists a variable, with what it lists TIED to the program's text (the seventh form; the later family's looks); each row that meets fmt, with fmt's text TOLD by the authors' own Lean function (tested against real Go, not proved from fmt's source: count such statements apart). THE CARD IS WHAT COUNTS. Prove the row's statement (the work); the ties are given (YtpkkbbcflmbjeaaDoorTie.lean); close each card by the builder's one call (the guide's Derived/Test/ToyasCard.lean, 'card_holds'). Laid BY PROGRAM, IN A SANDBOX (cutbox-door.mjs). By AI agents, Wed Nov 11 2026. No macro, syntax, notation, axiom, sorry.
-/
import Derived.Test.YtpkkbbcflmbjeaaDoorRows
import GoSem.ClaimSeven
namespace Go.Proofs.YtpkkbbcflmbjeaaDoor
namespace Rows

/-- THE TIED CARD OF 'portlaw2.LevelChecks'. -/
def levelChecksCard : Claim7 := { stood := { row := levelChecksRow, standIns := [], harness := (true, "a4687bb6f00b340ffeeb87238d68e5e0637ab73ad99b7f95968081b1f4ea5ad0"), looks := true }, kinds := [], alts := [], laidByText := true, laidKinds := [.data, .data, .data, .data, .widerDeep, .widerDeep, .pinned], laidTests := true, laidLooks := .later }
def LevelChecksCardSaid : Prop := Claim7.holds Tryd.pinned (.plain (OpenSpec.ofChange levelChecksSpec)) levelChecksCard

/-- THE SECOND FORM's CARD OF 'portlaw2.LevelChecks'. -/
def levelChecksUptoCard : Claim7 := { stood := { row := levelChecksUptoRow, standIns := [], harness := (true, "a4687bb6f00b340ffeeb87238d68e5e0637ab73ad99b7f95968081b1f4ea5ad0"), looks := true }, kinds := [], alts := [], laidByText := true, laidKinds := [.data, .data, .data, .data, .widerDeep, .widerDeep, .pinned], laidTests := true, laidLooks := .later }
def LevelChecksUptoCardSaid : Prop := Claim7.holds Tryd.pinned (.plain (OpenSpec.upto levelChecksSpec)) levelChecksUptoCard
end Rows
end Go.Proofs.YtpkkbbcflmbjeaaDoor
