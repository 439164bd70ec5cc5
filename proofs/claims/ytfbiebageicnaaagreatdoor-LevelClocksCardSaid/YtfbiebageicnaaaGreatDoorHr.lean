import Derived.Test.YtfbiebageicnaaaGreatDoorGv
import Derived.Test.YtfbiebageicnaaaGreatDoorGe
namespace Go.Gw
open Go Go.RowKit Go.Pu
variable {Dw : Prop}
set_option linter.unusedSimpArgs false
set_option linter.unusedVariables false
section
variable {P : Program} {n : Fr} {ops : Array Oper} {Q : Exit → Act → World → Prop} {E : Env} {w : World} {rest : List Oper} {d : Nat} {α : Type} [GoT α]
variable {ty t e : TypeId} {pos : String} {af : Array Edge} {x z : Operand} {A : Nat → Prop} {B : Nat} {L : List Ob} {i : Nat} {v : Value} {l r : List α}
end
end Go.Gw
