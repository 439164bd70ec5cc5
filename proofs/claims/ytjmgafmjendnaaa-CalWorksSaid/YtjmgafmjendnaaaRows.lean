/-
  No cell of these rows narrows 'for every input' (looked for: loops, veiled, ifaces, maps, wideKeys, modest, calm, conditions, laid).
  DERIVED. THE GIVEN ROWS OF THIS SEAT. 9 by the template 'for every input the law returns true; each argument reads behind the call as it read before'; 0 by the template 'total and deterministic' (their statements: YtjmgafmjendnaaaTotals.lean).
  GIVEN WITH THE SEED: the statements are not yours to turn. If you find one false, say at which input.
  Laid BY PROGRAM, IN A SANDBOX (cutbox-rows.mjs): the forced cells as the released guide's own fill.sh prints them over the translation 3e0053c73cd34e52… (all of the seat's roots in one cut). By AI agents, Wed Nov 11 2026. No macro, syntax, notation, axiom, sorry.
-/
import Derived.Test.YtjmgafmjendnaaaChecked
import GoSem.Claim
import GoSem.ClaimJoined
import GoSem.ClaimMapViews
import Derived.JoinedTies
import Derived.KernelRfl
namespace Go.Proofs.Ytjmgafmjendnaaa
/- THE CELL 'sum', in the pinned program and in every row, IS THE sha256 OF THE DUMP (.gsa) THAT YtjmgafmjendnaaaProg.lean LOADS. Nothing in Lean hashes anything: it is a label: what it is worth is what the hold of that sum in a sandbox is worth. -/
noncomputable def Try.pinned : Pinned := { name := "ytjmgafmjendnaaa", sum := "3e0053c73cd34e5223b5298b13b182ed4f46e0ccb1e3d2a24bc6701dbb5967cb", checked := Try.checked }
namespace Rows
def none {H : Type} : Left H := { results := [], args := [] }

/-- 'portlaw2.CalZones': WHATEVER THE INPUT: true; the input reads as it did. -/
def calZonesSpec : ChangeSpec := { name := "calZones", fn := fun _ => fun
  | [d1, d2] => { results := [.lit (.bool true)], args := [d1, d2] }
  | _ => none }
def calZonesRow : OpenClaim := { program := "ytjmgafmjendnaaa", sum := "3e0053c73cd34e5223b5298b13b182ed4f46e0ccb1e3d2a24bc6701dbb5967cb", func := "porterslodge/portlaw2.CalZones", spec := "calZones", unfollowed := true, recurses := true, apart := false }
def CalZonesSaid : Prop := calZonesRow.holds Try.pinned (OpenSpec.ofChange calZonesSpec)

/-- ITS FALSE NEIGHBOUR: 'it returns false'. Refute it at one input. -/
def calZonesWrong : ChangeSpec := { name := "calZones", fn := fun _ => fun
  | [d1, d2] => { results := [.lit (.bool false)], args := [d1, d2] }
  | _ => none }
def CalZonesWrongFalsely : Prop := calZonesRow.holds Try.pinned (OpenSpec.ofChange calZonesWrong)

/-- 'portlaw2.CalShown': WHATEVER THE INPUT: true; the input reads as it did. -/
def calShownSpec : ChangeSpec := { name := "calShown", fn := fun _ => fun
  | [d1, d2, d3] => { results := [.lit (.bool true)], args := [d1, d2, d3] }
  | _ => none }
def calShownRow : OpenClaim := { program := "ytjmgafmjendnaaa", sum := "3e0053c73cd34e5223b5298b13b182ed4f46e0ccb1e3d2a24bc6701dbb5967cb", func := "porterslodge/portlaw2.CalShown", spec := "calShown", unfollowed := true, recurses := true, apart := false }
def CalShownSaid : Prop := calShownRow.holds Try.pinned (OpenSpec.ofChange calShownSpec)

/-- ITS FALSE NEIGHBOUR: 'it returns false'. Refute it at one input. -/
def calShownWrong : ChangeSpec := { name := "calShown", fn := fun _ => fun
  | [d1, d2, d3] => { results := [.lit (.bool false)], args := [d1, d2, d3] }
  | _ => none }
def CalShownWrongFalsely : Prop := calShownRow.holds Try.pinned (OpenSpec.ofChange calShownWrong)

/-- 'portlaw2.CalNext': WHATEVER THE INPUT: true; the input reads as it did. -/
def calNextSpec : ChangeSpec := { name := "calNext", fn := fun _ => fun
  | [d1, d2] => { results := [.lit (.bool true)], args := [d1, d2] }
  | _ => none }
def calNextRow : OpenClaim := { program := "ytjmgafmjendnaaa", sum := "3e0053c73cd34e5223b5298b13b182ed4f46e0ccb1e3d2a24bc6701dbb5967cb", func := "porterslodge/portlaw2.CalNext", spec := "calNext", unfollowed := true, recurses := true, apart := false }
def CalNextSaid : Prop := calNextRow.holds Try.pinned (OpenSpec.ofChange calNextSpec)

/-- ITS FALSE NEIGHBOUR: 'it returns false'. Refute it at one input. -/
def calNextWrong : ChangeSpec := { name := "calNext", fn := fun _ => fun
  | [d1, d2] => { results := [.lit (.bool false)], args := [d1, d2] }
  | _ => none }
def CalNextWrongFalsely : Prop := calNextRow.holds Try.pinned (OpenSpec.ofChange calNextWrong)

/-- 'portlaw2.CalOpens': WHATEVER THE INPUT: true; the input reads as it did. -/
def calOpensSpec : ChangeSpec := { name := "calOpens", fn := fun _ => fun
  | [d1, d2, d3] => { results := [.lit (.bool true)], args := [d1, d2, d3] }
  | _ => none }
def calOpensRow : OpenClaim := { program := "ytjmgafmjendnaaa", sum := "3e0053c73cd34e5223b5298b13b182ed4f46e0ccb1e3d2a24bc6701dbb5967cb", func := "porterslodge/portlaw2.CalOpens", spec := "calOpens", unfollowed := true, recurses := true, apart := false }
def CalOpensSaid : Prop := calOpensRow.holds Try.pinned (OpenSpec.ofChange calOpensSpec)

/-- ITS FALSE NEIGHBOUR: 'it returns false'. Refute it at one input. -/
def calOpensWrong : ChangeSpec := { name := "calOpens", fn := fun _ => fun
  | [d1, d2, d3] => { results := [.lit (.bool false)], args := [d1, d2, d3] }
  | _ => none }
def CalOpensWrongFalsely : Prop := calOpensRow.holds Try.pinned (OpenSpec.ofChange calOpensWrong)

/-- 'portlaw2.CalSpans': WHATEVER THE INPUT: true; the input reads as it did. -/
def calSpansSpec : ChangeSpec := { name := "calSpans", fn := fun _ => fun
  | [d1, d2, d3] => { results := [.lit (.bool true)], args := [d1, d2, d3] }
  | _ => none }
def calSpansRow : OpenClaim := { program := "ytjmgafmjendnaaa", sum := "3e0053c73cd34e5223b5298b13b182ed4f46e0ccb1e3d2a24bc6701dbb5967cb", func := "porterslodge/portlaw2.CalSpans", spec := "calSpans", unfollowed := true, recurses := true, apart := false }
def CalSpansSaid : Prop := calSpansRow.holds Try.pinned (OpenSpec.ofChange calSpansSpec)

/-- ITS FALSE NEIGHBOUR: 'it returns false'. Refute it at one input. -/
def calSpansWrong : ChangeSpec := { name := "calSpans", fn := fun _ => fun
  | [d1, d2, d3] => { results := [.lit (.bool false)], args := [d1, d2, d3] }
  | _ => none }
def CalSpansWrongFalsely : Prop := calSpansRow.holds Try.pinned (OpenSpec.ofChange calSpansWrong)

/-- 'portlaw2.CalWorks': WHATEVER THE INPUT: true; the input reads as it did. -/
def calWorksSpec : ChangeSpec := { name := "calWorks", fn := fun _ => fun
  | [d1, d2, d3] => { results := [.lit (.bool true)], args := [d1, d2, d3] }
  | _ => none }
def calWorksRow : OpenClaim := { program := "ytjmgafmjendnaaa", sum := "3e0053c73cd34e5223b5298b13b182ed4f46e0ccb1e3d2a24bc6701dbb5967cb", func := "porterslodge/portlaw2.CalWorks", spec := "calWorks", unfollowed := true, recurses := true, apart := false }
def CalWorksSaid : Prop := calWorksRow.holds Try.pinned (OpenSpec.ofChange calWorksSpec)

/-- ITS FALSE NEIGHBOUR: 'it returns false'. Refute it at one input. -/
def calWorksWrong : ChangeSpec := { name := "calWorks", fn := fun _ => fun
  | [d1, d2, d3] => { results := [.lit (.bool false)], args := [d1, d2, d3] }
  | _ => none }
def CalWorksWrongFalsely : Prop := calWorksRow.holds Try.pinned (OpenSpec.ofChange calWorksWrong)

/-- 'portlaw2.CalCommon': WHATEVER THE INPUT: true; the input reads as it did. -/
def calCommonSpec : ChangeSpec := { name := "calCommon", fn := fun _ => fun
  | [d1, d2, d3, d4] => { results := [.lit (.bool true)], args := [d1, d2, d3, d4] }
  | _ => none }
def calCommonRow : OpenClaim := { program := "ytjmgafmjendnaaa", sum := "3e0053c73cd34e5223b5298b13b182ed4f46e0ccb1e3d2a24bc6701dbb5967cb", func := "porterslodge/portlaw2.CalCommon", spec := "calCommon", unfollowed := true, recurses := true, apart := false }
def CalCommonSaid : Prop := calCommonRow.holds Try.pinned (OpenSpec.ofChange calCommonSpec)

/-- ITS FALSE NEIGHBOUR: 'it returns false'. Refute it at one input. -/
def calCommonWrong : ChangeSpec := { name := "calCommon", fn := fun _ => fun
  | [d1, d2, d3, d4] => { results := [.lit (.bool false)], args := [d1, d2, d3, d4] }
  | _ => none }
def CalCommonWrongFalsely : Prop := calCommonRow.holds Try.pinned (OpenSpec.ofChange calCommonWrong)

/-- 'portlaw2.CalNormal': WHATEVER THE INPUT: true; the input reads as it did. -/
def calNormalSpec : ChangeSpec := { name := "calNormal", fn := fun _ => fun
  | [d] => { results := [.lit (.bool true)], args := [d] }
  | _ => none }
def calNormalRow : OpenClaim := { program := "ytjmgafmjendnaaa", sum := "3e0053c73cd34e5223b5298b13b182ed4f46e0ccb1e3d2a24bc6701dbb5967cb", func := "porterslodge/portlaw2.CalNormal", spec := "calNormal", unfollowed := true, recurses := true, apart := false }
def CalNormalSaid : Prop := calNormalRow.holds Try.pinned (OpenSpec.ofChange calNormalSpec)

/-- ITS FALSE NEIGHBOUR: 'it returns false'. Refute it at one input. -/
def calNormalWrong : ChangeSpec := { name := "calNormal", fn := fun _ => fun
  | [d] => { results := [.lit (.bool false)], args := [d] }
  | _ => none }
def CalNormalWrongFalsely : Prop := calNormalRow.holds Try.pinned (OpenSpec.ofChange calNormalWrong)

/-- 'portlaw2.CalSets': WHATEVER THE INPUT: true; the input reads as it did. -/
def calSetsSpec : ChangeSpec := { name := "calSets", fn := fun _ => fun
  | [d1, d2] => { results := [.lit (.bool true)], args := [d1, d2] }
  | _ => none }
def calSetsRow : OpenClaim := { program := "ytjmgafmjendnaaa", sum := "3e0053c73cd34e5223b5298b13b182ed4f46e0ccb1e3d2a24bc6701dbb5967cb", func := "porterslodge/portlaw2.CalSets", spec := "calSets", unfollowed := true, recurses := true, apart := false }
def CalSetsSaid : Prop := calSetsRow.holds Try.pinned (OpenSpec.ofChange calSetsSpec)

/-- ITS FALSE NEIGHBOUR: 'it returns false'. Refute it at one input. -/
def calSetsWrong : ChangeSpec := { name := "calSets", fn := fun _ => fun
  | [d1, d2] => { results := [.lit (.bool false)], args := [d1, d2] }
  | _ => none }
def CalSetsWrongFalsely : Prop := calSetsRow.holds Try.pinned (OpenSpec.ofChange calSetsWrong)

/- THE SECOND FORM. 'bulk': how many values and letters a reading holds, each counted each time it is reached (what is shared counts as often as it is met; a slice's spare places count too). A statement '..UptoSaid' is the law's where the arguments, and the package variables that the reading takes, are together of bulk at most 1048576: NARROWER than '..Said'. Prove '..Said' where nothing that the law and all that it calls make is longer than what came in: it says more and counts as full. Else prove '..UptoSaid'. A law counts once. -/
mutual
def uptoBulk {H : Type} : DataW H → Nat
  | .lit (.string bytes) => bytes.length + 1
  | .lit _ => 1
  | .nil => 1
  | .ptr d => uptoBulk d + 1
  | .slice elems spare => uptoBulkAll elems + uptoBulkAll spare + 1
  | .agg parts => uptoBulkAll parts + 1
  | .iface _ d => uptoBulk d + 1
  | .map entries => uptoBulkEntries entries + 1
  | .held _ => 1
def uptoBulkAll {H : Type} : List (DataW H) → Nat
  | [] => 0
  | d :: r => uptoBulk d + uptoBulkAll r
def uptoBulkEntries {H : Type} : List (Lit × DataW H) → Nat
  | [] => 0
  | x :: r => uptoBulkEntry x + uptoBulkEntries r
def uptoBulkEntry {H : Type} : Lit × DataW H → Nat
  | (.string bytes, d) => bytes.length + uptoBulk d + 1
  | (_, d) => uptoBulk d + 1
 end
def uptoSmall : (H : Type) → List (DataW H) → Bool := fun _ ds => decide (uptoBulkAll ds ≤ 1048576)
def OpenSpec.upto (s : _root_.Go.ChangeSpec) : _root_.Go.OpenSpec := { _root_.Go.OpenSpec.ofChange s with cond := some uptoSmall }

/-- 'portlaw2.CalZones', WHERE WHAT IT READS IS OF BULK AT MOST 1048576: true; the input reads as it did. -/
def calZonesUptoRow : OpenClaim := { program := "ytjmgafmjendnaaa", sum := "3e0053c73cd34e5223b5298b13b182ed4f46e0ccb1e3d2a24bc6701dbb5967cb", func := "porterslodge/portlaw2.CalZones", spec := "calZones", unfollowed := true, recurses := true, apart := false, narrowed := true }
def CalZonesUptoSaid : Prop := calZonesUptoRow.holds Try.pinned (OpenSpec.upto calZonesSpec)

/-- 'portlaw2.CalShown', WHERE WHAT IT READS IS OF BULK AT MOST 1048576: true; the input reads as it did. -/
def calShownUptoRow : OpenClaim := { program := "ytjmgafmjendnaaa", sum := "3e0053c73cd34e5223b5298b13b182ed4f46e0ccb1e3d2a24bc6701dbb5967cb", func := "porterslodge/portlaw2.CalShown", spec := "calShown", unfollowed := true, recurses := true, apart := false, narrowed := true }
def CalShownUptoSaid : Prop := calShownUptoRow.holds Try.pinned (OpenSpec.upto calShownSpec)

/-- 'portlaw2.CalNext', WHERE WHAT IT READS IS OF BULK AT MOST 1048576: true; the input reads as it did. -/
def calNextUptoRow : OpenClaim := { program := "ytjmgafmjendnaaa", sum := "3e0053c73cd34e5223b5298b13b182ed4f46e0ccb1e3d2a24bc6701dbb5967cb", func := "porterslodge/portlaw2.CalNext", spec := "calNext", unfollowed := true, recurses := true, apart := false, narrowed := true }
def CalNextUptoSaid : Prop := calNextUptoRow.holds Try.pinned (OpenSpec.upto calNextSpec)

/-- 'portlaw2.CalOpens', WHERE WHAT IT READS IS OF BULK AT MOST 1048576: true; the input reads as it did. -/
def calOpensUptoRow : OpenClaim := { program := "ytjmgafmjendnaaa", sum := "3e0053c73cd34e5223b5298b13b182ed4f46e0ccb1e3d2a24bc6701dbb5967cb", func := "porterslodge/portlaw2.CalOpens", spec := "calOpens", unfollowed := true, recurses := true, apart := false, narrowed := true }
def CalOpensUptoSaid : Prop := calOpensUptoRow.holds Try.pinned (OpenSpec.upto calOpensSpec)

/-- 'portlaw2.CalSpans', WHERE WHAT IT READS IS OF BULK AT MOST 1048576: true; the input reads as it did. -/
def calSpansUptoRow : OpenClaim := { program := "ytjmgafmjendnaaa", sum := "3e0053c73cd34e5223b5298b13b182ed4f46e0ccb1e3d2a24bc6701dbb5967cb", func := "porterslodge/portlaw2.CalSpans", spec := "calSpans", unfollowed := true, recurses := true, apart := false, narrowed := true }
def CalSpansUptoSaid : Prop := calSpansUptoRow.holds Try.pinned (OpenSpec.upto calSpansSpec)

/-- 'portlaw2.CalWorks', WHERE WHAT IT READS IS OF BULK AT MOST 1048576: true; the input reads as it did. -/
def calWorksUptoRow : OpenClaim := { program := "ytjmgafmjendnaaa", sum := "3e0053c73cd34e5223b5298b13b182ed4f46e0ccb1e3d2a24bc6701dbb5967cb", func := "porterslodge/portlaw2.CalWorks", spec := "calWorks", unfollowed := true, recurses := true, apart := false, narrowed := true }
def CalWorksUptoSaid : Prop := calWorksUptoRow.holds Try.pinned (OpenSpec.upto calWorksSpec)

/-- 'portlaw2.CalCommon', WHERE WHAT IT READS IS OF BULK AT MOST 1048576: true; the input reads as it did. -/
def calCommonUptoRow : OpenClaim := { program := "ytjmgafmjendnaaa", sum := "3e0053c73cd34e5223b5298b13b182ed4f46e0ccb1e3d2a24bc6701dbb5967cb", func := "porterslodge/portlaw2.CalCommon", spec := "calCommon", unfollowed := true, recurses := true, apart := false, narrowed := true }
def CalCommonUptoSaid : Prop := calCommonUptoRow.holds Try.pinned (OpenSpec.upto calCommonSpec)

/-- 'portlaw2.CalNormal', WHERE WHAT IT READS IS OF BULK AT MOST 1048576: true; the input reads as it did. -/
def calNormalUptoRow : OpenClaim := { program := "ytjmgafmjendnaaa", sum := "3e0053c73cd34e5223b5298b13b182ed4f46e0ccb1e3d2a24bc6701dbb5967cb", func := "porterslodge/portlaw2.CalNormal", spec := "calNormal", unfollowed := true, recurses := true, apart := false, narrowed := true }
def CalNormalUptoSaid : Prop := calNormalUptoRow.holds Try.pinned (OpenSpec.upto calNormalSpec)

/-- 'portlaw2.CalSets', WHERE WHAT IT READS IS OF BULK AT MOST 1048576: true; the input reads as it did. -/
def calSetsUptoRow : OpenClaim := { program := "ytjmgafmjendnaaa", sum := "3e0053c73cd34e5223b5298b13b182ed4f46e0ccb1e3d2a24bc6701dbb5967cb", func := "porterslodge/portlaw2.CalSets", spec := "calSets", unfollowed := true, recurses := true, apart := false, narrowed := true }
def CalSetsUptoSaid : Prop := calSetsUptoRow.holds Try.pinned (OpenSpec.upto calSetsSpec)

end Rows
end Go.Proofs.Ytjmgafmjendnaaa
