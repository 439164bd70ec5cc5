/-
  No cell of these rows narrows 'for every input' (looked for: loops, veiled, ifaces, maps, wideKeys, modest, calm, conditions, laid).
  DERIVED. THE GIVEN ROWS OF THIS SEAT. 7 by the template 'for every input the law returns true; each argument reads behind the call as it read before'; 0 by the template 'total and deterministic' (their statements: YtlclnbcjebpfkaaTotals.lean).
  GIVEN WITH THE SEED: the statements are not yours to turn. If you find one false, say at which input.
  Laid BY PROGRAM, IN A SANDBOX (cutbox-rows.mjs): the forced cells as the released guide's own fill.sh prints them over the translation 048cb2f7212847d2… (all of the seat's roots in one cut). By AI agents, Wed Nov 11 2026. No macro, syntax, notation, axiom, sorry.
-/
import Derived.Test.YtlclnbcjebpfkaaChecked
import GoSem.Claim
import GoSem.ClaimJoined
import GoSem.ClaimMapViews
import Derived.JoinedTies
import Derived.KernelRfl
namespace Go.Proofs.Ytlclnbcjebpfkaa
/- THE CELL 'sum', in the pinned program and in every row, IS THE sha256 OF THE DUMP (.gsa) THAT YtlclnbcjebpfkaaProg.lean LOADS. Nothing in Lean hashes anything: it is a label: what it is worth is what the hold of that sum in a sandbox is worth. -/
noncomputable def Try.pinned : Pinned := { name := "ytlclnbcjebpfkaa", sum := "048cb2f7212847d2144b52405800a22a44228d4fcbf9621984bca7f6005d1e3f", checked := Try.checked }
namespace Rows
def none {H : Type} : Left H := { results := [], args := [] }

/-- 'portlaw2.StaffForecasts': WHATEVER THE INPUT: true; the input reads as it did. -/
def staffForecastsSpec : ChangeSpec := { name := "staffForecasts", fn := fun _ => fun
  | [d1, d2, d3] => { results := [.lit (.bool true)], args := [d1, d2, d3] }
  | _ => none }
def staffForecastsRow : OpenClaim := { program := "ytlclnbcjebpfkaa", sum := "048cb2f7212847d2144b52405800a22a44228d4fcbf9621984bca7f6005d1e3f", func := "porterslodge/portlaw2.StaffForecasts", spec := "staffForecasts", unfollowed := true, recurses := true, apart := false }
def StaffForecastsSaid : Prop := staffForecastsRow.holds Try.pinned (OpenSpec.ofChange staffForecastsSpec)

/-- ITS FALSE NEIGHBOUR: 'it returns false'. Refute it at one input. -/
def staffForecastsWrong : ChangeSpec := { name := "staffForecasts", fn := fun _ => fun
  | [d1, d2, d3] => { results := [.lit (.bool false)], args := [d1, d2, d3] }
  | _ => none }
def StaffForecastsWrongFalsely : Prop := staffForecastsRow.holds Try.pinned (OpenSpec.ofChange staffForecastsWrong)

/-- 'portlaw2.PlanMakes': WHATEVER THE INPUT: true; the input reads as it did. -/
def planMakesSpec : ChangeSpec := { name := "planMakes", fn := fun _ => fun
  | [d1, d2] => { results := [.lit (.bool true)], args := [d1, d2] }
  | _ => none }
def planMakesRow : OpenClaim := { program := "ytlclnbcjebpfkaa", sum := "048cb2f7212847d2144b52405800a22a44228d4fcbf9621984bca7f6005d1e3f", func := "porterslodge/portlaw2.PlanMakes", spec := "planMakes", unfollowed := true, recurses := true, apart := false }
def PlanMakesSaid : Prop := planMakesRow.holds Try.pinned (OpenSpec.ofChange planMakesSpec)

/-- ITS FALSE NEIGHBOUR: 'it returns false'. Refute it at one input. -/
def planMakesWrong : ChangeSpec := { name := "planMakes", fn := fun _ => fun
  | [d1, d2] => { results := [.lit (.bool false)], args := [d1, d2] }
  | _ => none }
def PlanMakesWrongFalsely : Prop := planMakesRow.holds Try.pinned (OpenSpec.ofChange planMakesWrong)

/-- 'portlaw2.PlanCovers': WHATEVER THE INPUT: true; the input reads as it did. -/
def planCoversSpec : ChangeSpec := { name := "planCovers", fn := fun _ => fun
  | [d1, d2, d3, d4, d5] => { results := [.lit (.bool true)], args := [d1, d2, d3, d4, d5] }
  | _ => none }
def planCoversRow : OpenClaim := { program := "ytlclnbcjebpfkaa", sum := "048cb2f7212847d2144b52405800a22a44228d4fcbf9621984bca7f6005d1e3f", func := "porterslodge/portlaw2.PlanCovers", spec := "planCovers", unfollowed := true, recurses := true, apart := false }
def PlanCoversSaid : Prop := planCoversRow.holds Try.pinned (OpenSpec.ofChange planCoversSpec)

/-- ITS FALSE NEIGHBOUR: 'it returns false'. Refute it at one input. -/
def planCoversWrong : ChangeSpec := { name := "planCovers", fn := fun _ => fun
  | [d1, d2, d3, d4, d5] => { results := [.lit (.bool false)], args := [d1, d2, d3, d4, d5] }
  | _ => none }
def PlanCoversWrongFalsely : Prop := planCoversRow.holds Try.pinned (OpenSpec.ofChange planCoversWrong)

/-- 'portlaw2.PlanSpares': WHATEVER THE INPUT: true; the input reads as it did. -/
def planSparesSpec : ChangeSpec := { name := "planSpares", fn := fun _ => fun
  | [d1, d2, d3] => { results := [.lit (.bool true)], args := [d1, d2, d3] }
  | _ => none }
def planSparesRow : OpenClaim := { program := "ytlclnbcjebpfkaa", sum := "048cb2f7212847d2144b52405800a22a44228d4fcbf9621984bca7f6005d1e3f", func := "porterslodge/portlaw2.PlanSpares", spec := "planSpares", unfollowed := true, recurses := true, apart := false }
def PlanSparesSaid : Prop := planSparesRow.holds Try.pinned (OpenSpec.ofChange planSparesSpec)

/-- ITS FALSE NEIGHBOUR: 'it returns false'. Refute it at one input. -/
def planSparesWrong : ChangeSpec := { name := "planSpares", fn := fun _ => fun
  | [d1, d2, d3] => { results := [.lit (.bool false)], args := [d1, d2, d3] }
  | _ => none }
def PlanSparesWrongFalsely : Prop := planSparesRow.holds Try.pinned (OpenSpec.ofChange planSparesWrong)

/-- 'portlaw2.RosterGives': WHATEVER THE INPUT: true; the input reads as it did. -/
def rosterGivesSpec : ChangeSpec := { name := "rosterGives", fn := fun _ => fun
  | [d1, d2, d3] => { results := [.lit (.bool true)], args := [d1, d2, d3] }
  | _ => none }
def rosterGivesRow : OpenClaim := { program := "ytlclnbcjebpfkaa", sum := "048cb2f7212847d2144b52405800a22a44228d4fcbf9621984bca7f6005d1e3f", func := "porterslodge/portlaw2.RosterGives", spec := "rosterGives", unfollowed := true, recurses := true, apart := false }
def RosterGivesSaid : Prop := rosterGivesRow.holds Try.pinned (OpenSpec.ofChange rosterGivesSpec)

/-- ITS FALSE NEIGHBOUR: 'it returns false'. Refute it at one input. -/
def rosterGivesWrong : ChangeSpec := { name := "rosterGives", fn := fun _ => fun
  | [d1, d2, d3] => { results := [.lit (.bool false)], args := [d1, d2, d3] }
  | _ => none }
def RosterGivesWrongFalsely : Prop := rosterGivesRow.holds Try.pinned (OpenSpec.ofChange rosterGivesWrong)

/-- 'portlaw2.StaffSimulates': WHATEVER THE INPUT: true; the input reads as it did. -/
def staffSimulatesSpec : ChangeSpec := { name := "staffSimulates", fn := fun _ => fun
  | [d1, d2] => { results := [.lit (.bool true)], args := [d1, d2] }
  | _ => none }
def staffSimulatesRow : OpenClaim := { program := "ytlclnbcjebpfkaa", sum := "048cb2f7212847d2144b52405800a22a44228d4fcbf9621984bca7f6005d1e3f", func := "porterslodge/portlaw2.StaffSimulates", spec := "staffSimulates", recurses := true, apart := false }
def StaffSimulatesSaid : Prop := staffSimulatesRow.holds Try.pinned (OpenSpec.ofChange staffSimulatesSpec)

/-- ITS FALSE NEIGHBOUR: 'it returns false'. Refute it at one input. -/
def staffSimulatesWrong : ChangeSpec := { name := "staffSimulates", fn := fun _ => fun
  | [d1, d2] => { results := [.lit (.bool false)], args := [d1, d2] }
  | _ => none }
def StaffSimulatesWrongFalsely : Prop := staffSimulatesRow.holds Try.pinned (OpenSpec.ofChange staffSimulatesWrong)

/-- 'portlaw2.RosterJudges': WHATEVER THE INPUT: true; the input reads as it did. -/
def rosterJudgesSpec : ChangeSpec := { name := "rosterJudges", fn := fun _ => fun
  | [d1, d2, d3] => { results := [.lit (.bool true)], args := [d1, d2, d3] }
  | _ => none }
def rosterJudgesRow : OpenClaim := { program := "ytlclnbcjebpfkaa", sum := "048cb2f7212847d2144b52405800a22a44228d4fcbf9621984bca7f6005d1e3f", func := "porterslodge/portlaw2.RosterJudges", spec := "rosterJudges", unfollowed := true, recurses := true, apart := false }
def RosterJudgesSaid : Prop := rosterJudgesRow.holds Try.pinned (OpenSpec.ofChange rosterJudgesSpec)

/-- ITS FALSE NEIGHBOUR: 'it returns false'. Refute it at one input. -/
def rosterJudgesWrong : ChangeSpec := { name := "rosterJudges", fn := fun _ => fun
  | [d1, d2, d3] => { results := [.lit (.bool false)], args := [d1, d2, d3] }
  | _ => none }
def RosterJudgesWrongFalsely : Prop := rosterJudgesRow.holds Try.pinned (OpenSpec.ofChange rosterJudgesWrong)

/- THE SECOND FORM. 'bulk': how many values and letters a reading holds, each counted each time it is reached (what is shared counts as often as it is met; a slice's spare places count too). A statement '..UptoSaid' is the law's where the arguments, and the package variables that the reading takes, are together of bulk at most 1048576: NARROWER than '..Said'. Prove '..Said' where nothing that the law and all that it calls make is longer than what came in: it says more and counts as full. Else prove '..UptoSaid'. A law counts once. -/
mutual
def uptoBulk {H : Type} : DataW H → Nat
  | .lit (.string bytes) => bytes.length + 1
  | .lit _ => 1
  | .nil => 1
  | .ptr d => uptoBulk d + 1
  | .slice elems spare => uptoBulkAll elems + uptoBulkAll spare + 1
  | .agg parts => uptoBulkAll parts + 1
  | .iface _ d => uptoBulk d + 1
  | .map entries => uptoBulkEntries entries + 1
  | .held _ => 1
def uptoBulkAll {H : Type} : List (DataW H) → Nat
  | [] => 0
  | d :: r => uptoBulk d + uptoBulkAll r
def uptoBulkEntries {H : Type} : List (Lit × DataW H) → Nat
  | [] => 0
  | x :: r => uptoBulkEntry x + uptoBulkEntries r
def uptoBulkEntry {H : Type} : Lit × DataW H → Nat
  | (.string bytes, d) => bytes.length + uptoBulk d + 1
  | (_, d) => uptoBulk d + 1
 end
def uptoSmall : (H : Type) → List (DataW H) → Bool := fun _ ds => decide (uptoBulkAll ds ≤ 1048576)
def OpenSpec.upto (s : _root_.Go.ChangeSpec) : _root_.Go.OpenSpec := { _root_.Go.OpenSpec.ofChange s with cond := some uptoSmall }

/-- 'portlaw2.StaffForecasts', WHERE WHAT IT READS IS OF BULK AT MOST 1048576: true; the input reads as it did. -/
def staffForecastsUptoRow : OpenClaim := { program := "ytlclnbcjebpfkaa", sum := "048cb2f7212847d2144b52405800a22a44228d4fcbf9621984bca7f6005d1e3f", func := "porterslodge/portlaw2.StaffForecasts", spec := "staffForecasts", unfollowed := true, recurses := true, apart := false, narrowed := true }
def StaffForecastsUptoSaid : Prop := staffForecastsUptoRow.holds Try.pinned (OpenSpec.upto staffForecastsSpec)

/-- 'portlaw2.PlanMakes', WHERE WHAT IT READS IS OF BULK AT MOST 1048576: true; the input reads as it did. -/
def planMakesUptoRow : OpenClaim := { program := "ytlclnbcjebpfkaa", sum := "048cb2f7212847d2144b52405800a22a44228d4fcbf9621984bca7f6005d1e3f", func := "porterslodge/portlaw2.PlanMakes", spec := "planMakes", unfollowed := true, recurses := true, apart := false, narrowed := true }
def PlanMakesUptoSaid : Prop := planMakesUptoRow.holds Try.pinned (OpenSpec.upto planMakesSpec)

/-- 'portlaw2.PlanCovers', WHERE WHAT IT READS IS OF BULK AT MOST 1048576: true; the input reads as it did. -/
def planCoversUptoRow : OpenClaim := { program := "ytlclnbcjebpfkaa", sum := "048cb2f7212847d2144b52405800a22a44228d4fcbf9621984bca7f6005d1e3f", func := "porterslodge/portlaw2.PlanCovers", spec := "planCovers", unfollowed := true, recurses := true, apart := false, narrowed := true }
def PlanCoversUptoSaid : Prop := planCoversUptoRow.holds Try.pinned (OpenSpec.upto planCoversSpec)

/-- 'portlaw2.PlanSpares', WHERE WHAT IT READS IS OF BULK AT MOST 1048576: true; the input reads as it did. -/
def planSparesUptoRow : OpenClaim := { program := "ytlclnbcjebpfkaa", sum := "048cb2f7212847d2144b52405800a22a44228d4fcbf9621984bca7f6005d1e3f", func := "porterslodge/portlaw2.PlanSpares", spec := "planSpares", unfollowed := true, recurses := true, apart := false, narrowed := true }
def PlanSparesUptoSaid : Prop := planSparesUptoRow.holds Try.pinned (OpenSpec.upto planSparesSpec)

/-- 'portlaw2.RosterGives', WHERE WHAT IT READS IS OF BULK AT MOST 1048576: true; the input reads as it did. -/
def rosterGivesUptoRow : OpenClaim := { program := "ytlclnbcjebpfkaa", sum := "048cb2f7212847d2144b52405800a22a44228d4fcbf9621984bca7f6005d1e3f", func := "porterslodge/portlaw2.RosterGives", spec := "rosterGives", unfollowed := true, recurses := true, apart := false, narrowed := true }
def RosterGivesUptoSaid : Prop := rosterGivesUptoRow.holds Try.pinned (OpenSpec.upto rosterGivesSpec)

/-- 'portlaw2.StaffSimulates', WHERE WHAT IT READS IS OF BULK AT MOST 1048576: true; the input reads as it did. -/
def staffSimulatesUptoRow : OpenClaim := { program := "ytlclnbcjebpfkaa", sum := "048cb2f7212847d2144b52405800a22a44228d4fcbf9621984bca7f6005d1e3f", func := "porterslodge/portlaw2.StaffSimulates", spec := "staffSimulates", recurses := true, apart := false, narrowed := true }
def StaffSimulatesUptoSaid : Prop := staffSimulatesUptoRow.holds Try.pinned (OpenSpec.upto staffSimulatesSpec)

/-- 'portlaw2.RosterJudges', WHERE WHAT IT READS IS OF BULK AT MOST 1048576: true; the input reads as it did. -/
def rosterJudgesUptoRow : OpenClaim := { program := "ytlclnbcjebpfkaa", sum := "048cb2f7212847d2144b52405800a22a44228d4fcbf9621984bca7f6005d1e3f", func := "porterslodge/portlaw2.RosterJudges", spec := "rosterJudges", unfollowed := true, recurses := true, apart := false, narrowed := true }
def RosterJudgesUptoSaid : Prop := rosterJudgesUptoRow.holds Try.pinned (OpenSpec.upto rosterJudgesSpec)

end Rows
end Go.Proofs.Ytlclnbcjebpfkaa
