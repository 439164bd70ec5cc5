import Derived.Test.YtjdjmddclfhpeaaGreatDoorGe
namespace Go.Gw
open Go Go.RowKit Go.Pu
variable {Dw : Prop}
set_option linter.unusedSimpArgs false
set_option linter.unusedVariables false
def ptrV (v : Value) (c : Nat) (i : Int) : Value := if i < 0 then .pointer none else match v with
 | .slice (some ⟨b, off, none⟩) _ _ => .pointer (some ⟨b, off + i.toNat * c, none⟩)
 | _ => .pointer none
section
variable {P : Program} {n : Fr} {E : Env} {w : World} {v : Value} {ρd : Option Nat} {ty t e : TypeId} {pos : String} {af : Array Edge} {g : Option (Nat × Bool)} {x y : Operand} {A : Nat → Prop}
variable {α : Type} [GoT α]
end
def OEl {α : Type} [GoT α] (A : Nat → Prop) (w : World) (v : Value) : Option α → Prop
 | none => v = .pointer none
 | some y => ∃ b off, v = .pointer (some ⟨b, off, none⟩) ∧ El A w b off y
section
variable {P : Program} {n : Fr} {E : Env} {w w1 : World} {v : Value} {ρd : Option Nat} {ty t e : TypeId} {pos : String} {af : Array Edge} {g : Option (Nat × Bool)} {x y : Operand} {A A1 : Nat → Prop} {B : Nat}
variable {α : Type} [GoT α] {o : Option α} {el : α}
end
end Go.Gw
