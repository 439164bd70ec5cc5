import Derived.Test.YtfbiebageicnaaaGreatDoorGe
namespace Go.Gw
open Go Go.RowKit Go.Pu
set_option linter.unusedSimpArgs false
set_option linter.unusedVariables false
section
variable {P : Program} {n : Fr} {E : Env} {w : World} {x : Operand} {ty t tx t2 e : TypeId} {pos : String} {af : Array Edge} {ρd : Option Nat} {g : Option (Nat × Bool)} {v z : Value} {fs : Array Field}
theorem Y_mkIL (ht : P.underlying t = some (.slice e)) (hx : ev E x = some v) : Y P n E ⟨ρd, .makeInterface t x, ty, pos, af, g⟩ w (.iface t v) w := fun a hA => by
 simp [execOp, hA.eval hx, Instr.makeInterface, underlying, ht]
theorem Y_asIL (ht : P.underlying t = some (.slice e)) (hx : ev E x = some (.iface t v)) : Y P n E ⟨ρd, .typeAssert x tx t true, ty, pos, af, g⟩ w (.tuple #[v, .bool true]) w := fun a hA => by
 simp [execOp, hA.eval hx, Instr.typeAssert, underlying, ht]
theorem Y_asNS (ht : P.underlying t2 = some (.struct fs)) (hz : ∀ w, (zeroValue t2).run P w = .ok z w) (hne : t ≠ t2) (hx : ev E x = some (.iface t v)) : Y P n E ⟨ρd, .typeAssert x tx t2 true, ty, pos, af, g⟩ w (.tuple #[z, .bool false]) w := fun a hA => by
 simp [execOp, hA.eval hx, Instr.typeAssert, underlying, ht, hne, hz]
theorem Y_asNL (ht : P.underlying t2 = some (.slice e)) (hz : ∀ w, (zeroValue t2).run P w = .ok z w) (hne : t ≠ t2) (hx : ev E x = some (.iface t v)) : Y P n E ⟨ρd, .typeAssert x tx t2 true, ty, pos, af, g⟩ w (.tuple #[z, .bool false]) w := fun a hA => by
 simp [execOp, hA.eval hx, Instr.typeAssert, underlying, ht, hne, hz]
end
end Go.Gw
