import Derived.Test.YtjdjmddclfhpeaaGreatDoorGt
import Derived.Laws.CopyRow
namespace Go.Gw
open Go Go.RowKit Go.Pu
variable {Dw : Prop}
set_option linter.unusedSimpArgs false
set_option linter.unusedVariables false
section
variable {α : Type} [GoT α] {A : Nat → Prop} {w : World}
end
section steps
variable {P : Program} {n : Fr} {ops : Array Oper} {Q : Exit → Act → World → Prop} {E : Env} {w : World} {rest : List Oper} {v u : Value} {d : Nat}
variable {ty t t2 e : TypeId} {pos : String} {af : Array Edge} {x y : Operand} {A : Nat → Prop} {α : Type} [GoT α] {B : Nat} {L : List Ob} {i : Nat}
theorem Y_convU8 {k : IntKind} {p : Int} {ρd : Option Nat} {g : Option (Nat × Bool)} {ts : TypeId} {du : TypeDesc} (hs : P.underlying ts = some du) (hd : P.underlying t = some (.int .u8)) (hx : ev E x = some (.int k p)) : Y P n E ⟨ρd, .convert ts t x, ty, pos, af, g⟩ w (.int .u8 ((toU8 p).toNat : Int)) w := by
 rw [toU8_nat]
 exact Y_convI hs hd hx
end steps
end Go.Gw
