/-
  No cell of these rows narrows 'for every input' (looked for: loops, veiled, ifaces, maps, wideKeys, modest, calm, conditions, laid).
  DERIVED. THE GIVEN ROWS OF THIS SEAT. 7 by the template 'for every input the law returns true; each argument reads behind the call as it read before'; 0 by the template 'total and deterministic' (their statements: YtpfoimbklbkcpaaTotals.lean).
  GIVEN WITH THE SEED: the statements are not yours to turn. If you find one false, say at which input.
  Laid BY PROGRAM, IN A SANDBOX (cutbox-rows.mjs): the forced cells as the released guide's own fill.sh prints them over the translation c16aa390569fbc9c… (all of the seat's roots in one cut). By AI agents, Wed Nov 11 2026. No macro, syntax, notation, axiom, sorry.
-/
import Derived.Test.YtpfoimbklbkcpaaChecked
import GoSem.Claim
import GoSem.ClaimJoined
import GoSem.ClaimMapViews
import Derived.JoinedTies
import Derived.KernelRfl
namespace Go.Proofs.Ytpfoimbklbkcpaa
/- THE CELL 'sum', in the pinned program and in every row, IS THE sha256 OF THE DUMP (.gsa) THAT YtpfoimbklbkcpaaProg.lean LOADS. Nothing in Lean hashes anything: it is a label: what it is worth is what the hold of that sum in a sandbox is worth. -/
noncomputable def Try.pinned : Pinned := { name := "ytpfoimbklbkcpaa", sum := "c16aa390569fbc9c593d2f72e5e2567941ccb564c53a352931d2a946df0ce03d", checked := Try.checked }
namespace Rows
def none {H : Type} : Left H := { results := [], args := [] }

/-- 'portlaw2.ClockDueFrom': WHATEVER THE INPUT: true; the input reads as it did. -/
def clockDueFromSpec : ChangeSpec := { name := "clockDueFrom", fn := fun _ => fun
  | [d1, d2, d3] => { results := [.lit (.bool true)], args := [d1, d2, d3] }
  | _ => none }
def clockDueFromRow : OpenClaim := { program := "ytpfoimbklbkcpaa", sum := "c16aa390569fbc9c593d2f72e5e2567941ccb564c53a352931d2a946df0ce03d", func := "porterslodge/portlaw2.ClockDueFrom", spec := "clockDueFrom", unfollowed := true, recurses := true, apart := false }
def ClockDueFromSaid : Prop := clockDueFromRow.holds Try.pinned (OpenSpec.ofChange clockDueFromSpec)

/-- ITS FALSE NEIGHBOUR: 'it returns false'. Refute it at one input. -/
def clockDueFromWrong : ChangeSpec := { name := "clockDueFrom", fn := fun _ => fun
  | [d1, d2, d3] => { results := [.lit (.bool false)], args := [d1, d2, d3] }
  | _ => none }
def ClockDueFromWrongFalsely : Prop := clockDueFromRow.holds Try.pinned (OpenSpec.ofChange clockDueFromWrong)

/-- 'portlaw2.ClockMeasures': WHATEVER THE INPUT: true; the input reads as it did. -/
def clockMeasuresSpec : ChangeSpec := { name := "clockMeasures", fn := fun _ => fun
  | [d1, d2, d3] => { results := [.lit (.bool true)], args := [d1, d2, d3] }
  | _ => none }
def clockMeasuresRow : OpenClaim := { program := "ytpfoimbklbkcpaa", sum := "c16aa390569fbc9c593d2f72e5e2567941ccb564c53a352931d2a946df0ce03d", func := "porterslodge/portlaw2.ClockMeasures", spec := "clockMeasures", unfollowed := true, recurses := true, apart := false }
def ClockMeasuresSaid : Prop := clockMeasuresRow.holds Try.pinned (OpenSpec.ofChange clockMeasuresSpec)

/-- ITS FALSE NEIGHBOUR: 'it returns false'. Refute it at one input. -/
def clockMeasuresWrong : ChangeSpec := { name := "clockMeasures", fn := fun _ => fun
  | [d1, d2, d3] => { results := [.lit (.bool false)], args := [d1, d2, d3] }
  | _ => none }
def ClockMeasuresWrongFalsely : Prop := clockMeasuresRow.holds Try.pinned (OpenSpec.ofChange clockMeasuresWrong)

/-- 'portlaw2.ClockStates': WHATEVER THE INPUT: true; the input reads as it did. -/
def clockStatesSpec : ChangeSpec := { name := "clockStates", fn := fun _ => fun
  | [d1, d2, d3] => { results := [.lit (.bool true)], args := [d1, d2, d3] }
  | _ => none }
def clockStatesRow : OpenClaim := { program := "ytpfoimbklbkcpaa", sum := "c16aa390569fbc9c593d2f72e5e2567941ccb564c53a352931d2a946df0ce03d", func := "porterslodge/portlaw2.ClockStates", spec := "clockStates", unfollowed := true, recurses := true, apart := false }
def ClockStatesSaid : Prop := clockStatesRow.holds Try.pinned (OpenSpec.ofChange clockStatesSpec)

/-- ITS FALSE NEIGHBOUR: 'it returns false'. Refute it at one input. -/
def clockStatesWrong : ChangeSpec := { name := "clockStates", fn := fun _ => fun
  | [d1, d2, d3] => { results := [.lit (.bool false)], args := [d1, d2, d3] }
  | _ => none }
def ClockStatesWrongFalsely : Prop := clockStatesRow.holds Try.pinned (OpenSpec.ofChange clockStatesWrong)

/-- 'portlaw2.ClockDue': WHATEVER THE INPUT: true; the input reads as it did. -/
def clockDueSpec : ChangeSpec := { name := "clockDue", fn := fun _ => fun
  | [d1, d2] => { results := [.lit (.bool true)], args := [d1, d2] }
  | _ => none }
def clockDueRow : OpenClaim := { program := "ytpfoimbklbkcpaa", sum := "c16aa390569fbc9c593d2f72e5e2567941ccb564c53a352931d2a946df0ce03d", func := "porterslodge/portlaw2.ClockDue", spec := "clockDue", unfollowed := true, recurses := true, apart := false }
def ClockDueSaid : Prop := clockDueRow.holds Try.pinned (OpenSpec.ofChange clockDueSpec)

/-- ITS FALSE NEIGHBOUR: 'it returns false'. Refute it at one input. -/
def clockDueWrong : ChangeSpec := { name := "clockDue", fn := fun _ => fun
  | [d1, d2] => { results := [.lit (.bool false)], args := [d1, d2] }
  | _ => none }
def ClockDueWrongFalsely : Prop := clockDueRow.holds Try.pinned (OpenSpec.ofChange clockDueWrong)

/-- 'portlaw2.ClockExplains': WHATEVER THE INPUT: true; the input reads as it did. -/
def clockExplainsSpec : ChangeSpec := { name := "clockExplains", fn := fun _ => fun
  | [d1, d2, d3] => { results := [.lit (.bool true)], args := [d1, d2, d3] }
  | _ => none }
def clockExplainsRow : OpenClaim := { program := "ytpfoimbklbkcpaa", sum := "c16aa390569fbc9c593d2f72e5e2567941ccb564c53a352931d2a946df0ce03d", func := "porterslodge/portlaw2.ClockExplains", spec := "clockExplains", unfollowed := true, recurses := true, apart := false }
def ClockExplainsSaid : Prop := clockExplainsRow.holds Try.pinned (OpenSpec.ofChange clockExplainsSpec)

/-- ITS FALSE NEIGHBOUR: 'it returns false'. Refute it at one input. -/
def clockExplainsWrong : ChangeSpec := { name := "clockExplains", fn := fun _ => fun
  | [d1, d2, d3] => { results := [.lit (.bool false)], args := [d1, d2, d3] }
  | _ => none }
def ClockExplainsWrongFalsely : Prop := clockExplainsRow.holds Try.pinned (OpenSpec.ofChange clockExplainsWrong)

/-- 'portlaw2.ClockWarns': WHATEVER THE INPUT: true; the input reads as it did. -/
def clockWarnsSpec : ChangeSpec := { name := "clockWarns", fn := fun _ => fun
  | [d1, d2, d3] => { results := [.lit (.bool true)], args := [d1, d2, d3] }
  | _ => none }
def clockWarnsRow : OpenClaim := { program := "ytpfoimbklbkcpaa", sum := "c16aa390569fbc9c593d2f72e5e2567941ccb564c53a352931d2a946df0ce03d", func := "porterslodge/portlaw2.ClockWarns", spec := "clockWarns", unfollowed := true, recurses := true, apart := false }
def ClockWarnsSaid : Prop := clockWarnsRow.holds Try.pinned (OpenSpec.ofChange clockWarnsSpec)

/-- ITS FALSE NEIGHBOUR: 'it returns false'. Refute it at one input. -/
def clockWarnsWrong : ChangeSpec := { name := "clockWarns", fn := fun _ => fun
  | [d1, d2, d3] => { results := [.lit (.bool false)], args := [d1, d2, d3] }
  | _ => none }
def ClockWarnsWrongFalsely : Prop := clockWarnsRow.holds Try.pinned (OpenSpec.ofChange clockWarnsWrong)

/-- 'portlaw2.ClockRanks': WHATEVER THE INPUT: true; the input reads as it did. -/
def clockRanksSpec : ChangeSpec := { name := "clockRanks", fn := fun _ => fun
  | [d1, d2, d3] => { results := [.lit (.bool true)], args := [d1, d2, d3] }
  | _ => none }
def clockRanksRow : OpenClaim := { program := "ytpfoimbklbkcpaa", sum := "c16aa390569fbc9c593d2f72e5e2567941ccb564c53a352931d2a946df0ce03d", func := "porterslodge/portlaw2.ClockRanks", spec := "clockRanks", unfollowed := true, recurses := true, apart := false }
def ClockRanksSaid : Prop := clockRanksRow.holds Try.pinned (OpenSpec.ofChange clockRanksSpec)

/-- ITS FALSE NEIGHBOUR: 'it returns false'. Refute it at one input. -/
def clockRanksWrong : ChangeSpec := { name := "clockRanks", fn := fun _ => fun
  | [d1, d2, d3] => { results := [.lit (.bool false)], args := [d1, d2, d3] }
  | _ => none }
def ClockRanksWrongFalsely : Prop := clockRanksRow.holds Try.pinned (OpenSpec.ofChange clockRanksWrong)

/- THE SECOND FORM. 'bulk': how many values and letters a reading holds, each counted each time it is reached (what is shared counts as often as it is met; a slice's spare places count too). A statement '..UptoSaid' is the law's where the arguments, and the package variables that the reading takes, are together of bulk at most 1048576: NARROWER than '..Said'. Prove '..Said' where nothing that the law and all that it calls make is longer than what came in: it says more and counts as full. Else prove '..UptoSaid'. A law counts once. -/
mutual
def uptoBulk {H : Type} : DataW H → Nat
  | .lit (.string bytes) => bytes.length + 1
  | .lit _ => 1
  | .nil => 1
  | .ptr d => uptoBulk d + 1
  | .slice elems spare => uptoBulkAll elems + uptoBulkAll spare + 1
  | .agg parts => uptoBulkAll parts + 1
  | .iface _ d => uptoBulk d + 1
  | .map entries => uptoBulkEntries entries + 1
  | .held _ => 1
def uptoBulkAll {H : Type} : List (DataW H) → Nat
  | [] => 0
  | d :: r => uptoBulk d + uptoBulkAll r
def uptoBulkEntries {H : Type} : List (Lit × DataW H) → Nat
  | [] => 0
  | x :: r => uptoBulkEntry x + uptoBulkEntries r
def uptoBulkEntry {H : Type} : Lit × DataW H → Nat
  | (.string bytes, d) => bytes.length + uptoBulk d + 1
  | (_, d) => uptoBulk d + 1
 end
def uptoSmall : (H : Type) → List (DataW H) → Bool := fun _ ds => decide (uptoBulkAll ds ≤ 1048576)
def OpenSpec.upto (s : _root_.Go.ChangeSpec) : _root_.Go.OpenSpec := { _root_.Go.OpenSpec.ofChange s with cond := some uptoSmall }

/-- 'portlaw2.ClockDueFrom', WHERE WHAT IT READS IS OF BULK AT MOST 1048576: true; the input reads as it did. -/
def clockDueFromUptoRow : OpenClaim := { program := "ytpfoimbklbkcpaa", sum := "c16aa390569fbc9c593d2f72e5e2567941ccb564c53a352931d2a946df0ce03d", func := "porterslodge/portlaw2.ClockDueFrom", spec := "clockDueFrom", unfollowed := true, recurses := true, apart := false, narrowed := true }
def ClockDueFromUptoSaid : Prop := clockDueFromUptoRow.holds Try.pinned (OpenSpec.upto clockDueFromSpec)

/-- 'portlaw2.ClockMeasures', WHERE WHAT IT READS IS OF BULK AT MOST 1048576: true; the input reads as it did. -/
def clockMeasuresUptoRow : OpenClaim := { program := "ytpfoimbklbkcpaa", sum := "c16aa390569fbc9c593d2f72e5e2567941ccb564c53a352931d2a946df0ce03d", func := "porterslodge/portlaw2.ClockMeasures", spec := "clockMeasures", unfollowed := true, recurses := true, apart := false, narrowed := true }
def ClockMeasuresUptoSaid : Prop := clockMeasuresUptoRow.holds Try.pinned (OpenSpec.upto clockMeasuresSpec)

/-- 'portlaw2.ClockStates', WHERE WHAT IT READS IS OF BULK AT MOST 1048576: true; the input reads as it did. -/
def clockStatesUptoRow : OpenClaim := { program := "ytpfoimbklbkcpaa", sum := "c16aa390569fbc9c593d2f72e5e2567941ccb564c53a352931d2a946df0ce03d", func := "porterslodge/portlaw2.ClockStates", spec := "clockStates", unfollowed := true, recurses := true, apart := false, narrowed := true }
def ClockStatesUptoSaid : Prop := clockStatesUptoRow.holds Try.pinned (OpenSpec.upto clockStatesSpec)

/-- 'portlaw2.ClockDue', WHERE WHAT IT READS IS OF BULK AT MOST 1048576: true; the input reads as it did. -/
def clockDueUptoRow : OpenClaim := { program := "ytpfoimbklbkcpaa", sum := "c16aa390569fbc9c593d2f72e5e2567941ccb564c53a352931d2a946df0ce03d", func := "porterslodge/portlaw2.ClockDue", spec := "clockDue", unfollowed := true, recurses := true, apart := false, narrowed := true }
def ClockDueUptoSaid : Prop := clockDueUptoRow.holds Try.pinned (OpenSpec.upto clockDueSpec)

/-- 'portlaw2.ClockExplains', WHERE WHAT IT READS IS OF BULK AT MOST 1048576: true; the input reads as it did. -/
def clockExplainsUptoRow : OpenClaim := { program := "ytpfoimbklbkcpaa", sum := "c16aa390569fbc9c593d2f72e5e2567941ccb564c53a352931d2a946df0ce03d", func := "porterslodge/portlaw2.ClockExplains", spec := "clockExplains", unfollowed := true, recurses := true, apart := false, narrowed := true }
def ClockExplainsUptoSaid : Prop := clockExplainsUptoRow.holds Try.pinned (OpenSpec.upto clockExplainsSpec)

/-- 'portlaw2.ClockWarns', WHERE WHAT IT READS IS OF BULK AT MOST 1048576: true; the input reads as it did. -/
def clockWarnsUptoRow : OpenClaim := { program := "ytpfoimbklbkcpaa", sum := "c16aa390569fbc9c593d2f72e5e2567941ccb564c53a352931d2a946df0ce03d", func := "porterslodge/portlaw2.ClockWarns", spec := "clockWarns", unfollowed := true, recurses := true, apart := false, narrowed := true }
def ClockWarnsUptoSaid : Prop := clockWarnsUptoRow.holds Try.pinned (OpenSpec.upto clockWarnsSpec)

/-- 'portlaw2.ClockRanks', WHERE WHAT IT READS IS OF BULK AT MOST 1048576: true; the input reads as it did. -/
def clockRanksUptoRow : OpenClaim := { program := "ytpfoimbklbkcpaa", sum := "c16aa390569fbc9c593d2f72e5e2567941ccb564c53a352931d2a946df0ce03d", func := "porterslodge/portlaw2.ClockRanks", spec := "clockRanks", unfollowed := true, recurses := true, apart := false, narrowed := true }
def ClockRanksUptoSaid : Prop := clockRanksUptoRow.holds Try.pinned (OpenSpec.upto clockRanksSpec)

end Rows
end Go.Proofs.Ytpfoimbklbkcpaa
