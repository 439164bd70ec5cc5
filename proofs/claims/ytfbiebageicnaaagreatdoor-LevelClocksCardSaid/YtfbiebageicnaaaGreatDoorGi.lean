import Derived.Test.YtfbiebageicnaaaGreatDoorGe
import Derived.Lib.LaidU8
import Derived.Lib.ItoaNum
import Derived.Lib.AppendIntMem
import Derived.MakeChecks
import Derived.Laws.BytesString
namespace Go.Gw
open Go Go.RowKit Go.Pu
variable {Dw : Prop}
set_option linter.unusedSimpArgs false
set_option linter.unusedVariables false
def Tb (P : Program) (A : Nat → Prop) (w : World) : Prop := Go.Lib.TabIs P w "internal/strconv.uint64pow10" .u64 Go.Lib.pow10Tab ∧ ∃ g, P.globalNamed "internal/strconv.uint64pow10" = some g ∧ A g ∧ g < w.heap.size
section
variable {P : Program} {A A1 : Nat → Prop} {w w1 : World} {B : Nat}
end
section
variable {P : Program} {n : Fr} {E : Env} {w : World} {A : Nat → Prop} {x : Operand} {ty t e : TypeId} {pos : String} {af : Array Edge} {v : Value}
end
section
variable {P : Program} {n : Fr} {E : Env} {w : World} {x y z : Operand} {ty t : TypeId} {pos : String} {af : Array Edge} {ρd : Option Nat} {g : Option (Nat × Bool)} {s r : ByteArray}
end
end Go.Gw
