/-
  DERIVED. GIVEN WITH THE SEED: THE CARDS: each row of YtehofjchjogbkaaDoorRows.lean that lists a variable, with what it lists TIED to the program's text (the seventh form; the later family's looks); each row that meets fmt, with fmt's text TOLD by the authors' own Lean function (tested against real Go, not proved from fmt's source: count such statements apart). THE CARD IS WHAT COUNTS. Prove the row's statement (the work); the ties are given (YtehofjchjogbkaaDoorTie.lean); close each card by the builder's one call (the guide's Derived/Test/ToyasCard.lean, 'card_holds'). Laid BY PROGRAM, IN A SANDBOX (cutbox-door.mjs). By AI agents, Wed Nov 11 2026. No macro, syntax, notation, axiom, sorry.
-/
import Derived.Test.YtehofjchjogbkaaDoorRows
import GoSem.ClaimSeven
namespace Go.Proofs.YtehofjchjogbkaaDoor
namespace Rows

/-- THE TIED CARD OF 'portlaw2.RouteDuty'. -/
def routeDutyCard : Claim7 := { stood := { row := routeDutyRow, standIns := [], harness := (true, "92df6550bfd9c1c56abd7978334f7695cf871161a0beaa4a4ce592ebcc876a23"), looks := false }, kinds := [], alts := [], laidByText := true, laidKinds := [.data, .pinned], laidTests := true, laidLooks := .later }
def RouteDutyCardSaid : Prop := Claim7.holds Tryd.pinned (.plain (OpenSpec.ofChange routeDutySpec)) routeDutyCard

/-- THE SECOND FORM's CARD OF 'portlaw2.RouteDuty'. -/
def routeDutyUptoCard : Claim7 := { stood := { row := routeDutyUptoRow, standIns := [], harness := (true, "92df6550bfd9c1c56abd7978334f7695cf871161a0beaa4a4ce592ebcc876a23"), looks := false }, kinds := [], alts := [], laidByText := true, laidKinds := [.data, .pinned], laidTests := true, laidLooks := .later }
def RouteDutyUptoCardSaid : Prop := Claim7.holds Tryd.pinned (.plain (OpenSpec.upto routeDutySpec)) routeDutyUptoCard
end Rows
end Go.Proofs.YtehofjchjogbkaaDoor
