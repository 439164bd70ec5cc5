/-
  DERIVED. GIVEN WITH THE SEED: THE CARDS: each row of YtkdkejikbcdadaaDoorRows.lean that lists a variable, with what it lists TIED to the program's text (the seventh form; the later family's looks); each row that meets fmt, with fmt's text TOLD by the authors' own Lean function (tested against real Go, not proved from fmt's source: count such statements apart). THE CARD IS WHAT COUNTS. Prove the row's statement (the work); the ties are given (YtkdkejikbcdadaaDoorTie.lean); close each card by the builder's one call (the guide's Derived/Test/ToyasCard.lean, 'card_holds'). Laid BY PROGRAM, IN A SANDBOX (cutbox-door.mjs). By AI agents, Wed Nov 11 2026. No macro, syntax, notation, axiom, sorry.
-/
import Derived.Test.YtkdkejikbcdadaaDoorRows
import GoSem.ClaimSeven
namespace Go.Proofs.YtkdkejikbcdadaaDoor
namespace Rows

/-- THE TIED CARD OF 'portlaw2.CalMoments'. -/
def calMomentsCard : Claim7 := { stood := { row := calMomentsRow, standIns := [], harness := (true, "a74830aa08e795dd783f12338d49e1e3606a83f9dd0115d5e0cc9b64903c9718"), looks := true }, kinds := [], alts := [], laidByText := true, laidKinds := [.data, .data, .data], laidTests := true, laidLooks := .later }
def CalMomentsCardSaid : Prop := Claim7.holds Tryd.pinned (.plain (OpenSpec.ofChange calMomentsSpec)) calMomentsCard

/-- THE TIED CARD OF 'portlaw2.ClockChecks'. -/
def clockChecksCard : Claim7 := { stood := { row := clockChecksRow, standIns := [], harness := (true, "a74830aa08e795dd783f12338d49e1e3606a83f9dd0115d5e0cc9b64903c9718"), looks := true }, kinds := [], alts := [], laidByText := true, laidKinds := [.data, .data, .data], laidTests := true, laidLooks := .later }
def ClockChecksCardSaid : Prop := Claim7.holds Tryd.pinned (.plain (OpenSpec.ofChange clockChecksSpec)) clockChecksCard

/-- THE SECOND FORM's CARD OF 'portlaw2.CalMoments'. -/
def calMomentsUptoCard : Claim7 := { stood := { row := calMomentsUptoRow, standIns := [], harness := (true, "a74830aa08e795dd783f12338d49e1e3606a83f9dd0115d5e0cc9b64903c9718"), looks := true }, kinds := [], alts := [], laidByText := true, laidKinds := [.data, .data, .data], laidTests := true, laidLooks := .later }
def CalMomentsUptoCardSaid : Prop := Claim7.holds Tryd.pinned (.plain (OpenSpec.upto calMomentsSpec)) calMomentsUptoCard

/-- THE SECOND FORM's CARD OF 'portlaw2.ClockChecks'. -/
def clockChecksUptoCard : Claim7 := { stood := { row := clockChecksUptoRow, standIns := [], harness := (true, "a74830aa08e795dd783f12338d49e1e3606a83f9dd0115d5e0cc9b64903c9718"), looks := true }, kinds := [], alts := [], laidByText := true, laidKinds := [.data, .data, .data], laidTests := true, laidLooks := .later }
def ClockChecksUptoCardSaid : Prop := Claim7.holds Tryd.pinned (.plain (OpenSpec.upto clockChecksSpec)) clockChecksUptoCard
end Rows
end Go.Proofs.YtkdkejikbcdadaaDoor
