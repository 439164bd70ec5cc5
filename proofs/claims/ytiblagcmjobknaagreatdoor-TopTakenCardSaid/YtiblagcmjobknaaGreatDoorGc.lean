import Derived.Test.YtiblagcmjobknaaGreatDoorGt
import Derived.Laws.CopyRow
namespace Go.Gw
open Go Go.RowKit Go.Pu
variable {Dw : Prop}
set_option linter.unusedSimpArgs false
set_option linter.unusedVariables false
section
variable {α : Type} [GoT α] {A : Nat → Prop} {w : World}
end
section steps
variable {P : Program} {n : Fr} {ops : Array Oper} {Q : Exit → Act → World → Prop} {E : Env} {w : World} {rest : List Oper} {v u : Value} {d : Nat}
variable {ty t t2 e : TypeId} {pos : String} {af : Array Edge} {x y : Operand} {A : Nat → Prop} {α : Type} [GoT α] {B : Nat} {L : List Ob} {i : Nat}
end steps
end Go.Gw
