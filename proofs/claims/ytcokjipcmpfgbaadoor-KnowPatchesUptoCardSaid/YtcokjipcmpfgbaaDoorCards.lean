/-
  DERIVED. GIVEN WITH THE SEED: THE CARDS: each row of YtcokjipcmpfgbaaDoorRows.lean that lists a variable, with what it lists TIED to the program's text (the seventh form; the later family's looks); each row that meets fmt, with fmt's text TOLD by the authors' own Lean function (tested against real Go, not proved from fmt's source: count such statements apart). THE CARD IS WHAT COUNTS. Prove the row's statement (the work); the ties are given (YtcokjipcmpfgbaaDoorTie.lean); close each card by the builder's one call (the guide's Derived/Test/ToyasCard.lean, 'card_holds'). Laid BY PROGRAM, IN A SANDBOX (cutbox-door.mjs). By AI agents, Wed Nov 11 2026. No macro, syntax, notation, axiom, sorry.
-/
import Derived.Test.YtcokjipcmpfgbaaDoorRows
import GoSem.ClaimSeven
namespace Go.Proofs.YtcokjipcmpfgbaaDoor
namespace Rows

/-- THE TIED CARD OF 'portlaw2.KnowPatches'. -/
def knowPatchesCard : Claim7 := { stood := { row := knowPatchesRow, standIns := [], harness := (true, "163bad40c9e988fd1ee8106f7031f293d746c4f5fae758c5da371ccf2216c9aa"), looks := true }, kinds := [], alts := [], laidByText := true, laidKinds := [.data, .pinned], laidTests := true, laidLooks := .later }
def KnowPatchesCardSaid : Prop := Claim7.holds Tryd.pinned (.plain (OpenSpec.ofChange knowPatchesSpec)) knowPatchesCard

/-- THE TIED CARD OF 'portlaw2.KnowChecks'. -/
def knowChecksCard : Claim7 := { stood := { row := knowChecksRow, standIns := [], harness := (true, "163bad40c9e988fd1ee8106f7031f293d746c4f5fae758c5da371ccf2216c9aa"), looks := true }, kinds := [], alts := [], laidByText := true, laidKinds := [.data, .pinned], laidTests := true, laidLooks := .later }
def KnowChecksCardSaid : Prop := Claim7.holds Tryd.pinned (.plain (OpenSpec.ofChange knowChecksSpec)) knowChecksCard

/-- THE TIED CARD OF 'portlaw2.LevelChooses'. -/
def levelChoosesCard : Claim7 := { stood := { row := levelChoosesRow, standIns := [], harness := (true, "163bad40c9e988fd1ee8106f7031f293d746c4f5fae758c5da371ccf2216c9aa"), looks := true }, kinds := [], alts := [], laidByText := true, laidKinds := [.data, .pinned], laidTests := true, laidLooks := .later }
def LevelChoosesCardSaid : Prop := Claim7.holds Tryd.pinned (.plain (OpenSpec.ofChange levelChoosesSpec)) levelChoosesCard

/-- THE TIED CARD OF 'portlaw2.RouteOrders'. -/
def routeOrdersCard : Claim7 := { stood := { row := routeOrdersRow, standIns := [], harness := (true, "163bad40c9e988fd1ee8106f7031f293d746c4f5fae758c5da371ccf2216c9aa"), looks := true }, kinds := [], alts := [], laidByText := true, laidKinds := [.data, .pinned], laidTests := true, laidLooks := .later }
def RouteOrdersCardSaid : Prop := Claim7.holds Tryd.pinned (.plain (OpenSpec.ofChange routeOrdersSpec)) routeOrdersCard

/-- THE TIED CARD OF 'portlaw2.LevelChecks'. -/
def levelChecksCard : Claim7 := { stood := { row := levelChecksRow, standIns := [], harness := (true, "163bad40c9e988fd1ee8106f7031f293d746c4f5fae758c5da371ccf2216c9aa"), looks := true }, kinds := [], alts := [], laidByText := true, laidKinds := [.data, .data, .data, .data, .widerDeep, .widerDeep, .pinned], laidTests := true, laidLooks := .later }
def LevelChecksCardSaid : Prop := Claim7.holds Tryd.pinned (.plain (OpenSpec.ofChange levelChecksSpec)) levelChecksCard

/-- THE SECOND FORM's CARD OF 'portlaw2.KnowPatches'. -/
def knowPatchesUptoCard : Claim7 := { stood := { row := knowPatchesUptoRow, standIns := [], harness := (true, "163bad40c9e988fd1ee8106f7031f293d746c4f5fae758c5da371ccf2216c9aa"), looks := true }, kinds := [], alts := [], laidByText := true, laidKinds := [.data, .pinned], laidTests := true, laidLooks := .later }
def KnowPatchesUptoCardSaid : Prop := Claim7.holds Tryd.pinned (.plain (OpenSpec.upto knowPatchesSpec)) knowPatchesUptoCard

/-- THE SECOND FORM's CARD OF 'portlaw2.KnowChecks'. -/
def knowChecksUptoCard : Claim7 := { stood := { row := knowChecksUptoRow, standIns := [], harness := (true, "163bad40c9e988fd1ee8106f7031f293d746c4f5fae758c5da371ccf2216c9aa"), looks := true }, kinds := [], alts := [], laidByText := true, laidKinds := [.data, .pinned], laidTests := true, laidLooks := .later }
def KnowChecksUptoCardSaid : Prop := Claim7.holds Tryd.pinned (.plain (OpenSpec.upto knowChecksSpec)) knowChecksUptoCard

/-- THE SECOND FORM's CARD OF 'portlaw2.LevelChooses'. -/
def levelChoosesUptoCard : Claim7 := { stood := { row := levelChoosesUptoRow, standIns := [], harness := (true, "163bad40c9e988fd1ee8106f7031f293d746c4f5fae758c5da371ccf2216c9aa"), looks := true }, kinds := [], alts := [], laidByText := true, laidKinds := [.data, .pinned], laidTests := true, laidLooks := .later }
def LevelChoosesUptoCardSaid : Prop := Claim7.holds Tryd.pinned (.plain (OpenSpec.upto levelChoosesSpec)) levelChoosesUptoCard

/-- THE SECOND FORM's CARD OF 'portlaw2.RouteOrders'. -/
def routeOrdersUptoCard : Claim7 := { stood := { row := routeOrdersUptoRow, standIns := [], harness := (true, "163bad40c9e988fd1ee8106f7031f293d746c4f5fae758c5da371ccf2216c9aa"), looks := true }, kinds := [], alts := [], laidByText := true, laidKinds := [.data, .pinned], laidTests := true, laidLooks := .later }
def RouteOrdersUptoCardSaid : Prop := Claim7.holds Tryd.pinned (.plain (OpenSpec.upto routeOrdersSpec)) routeOrdersUptoCard

/-- THE SECOND FORM's CARD OF 'portlaw2.LevelChecks'. -/
def levelChecksUptoCard : Claim7 := { stood := { row := levelChecksUptoRow, standIns := [], harness := (true, "163bad40c9e988fd1ee8106f7031f293d746c4f5fae758c5da371ccf2216c9aa"), looks := true }, kinds := [], alts := [], laidByText := true, laidKinds := [.data, .data, .data, .data, .widerDeep, .widerDeep, .pinned], laidTests := true, laidLooks := .later }
def LevelChecksUptoCardSaid : Prop := Claim7.holds Tryd.pinned (.plain (OpenSpec.upto levelChecksSpec)) levelChecksUptoCard
end Rows
end Go.Proofs.YtcokjipcmpfgbaaDoor
