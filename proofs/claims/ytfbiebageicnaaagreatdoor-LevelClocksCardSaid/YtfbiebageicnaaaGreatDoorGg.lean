import Derived.Test.YtfbiebageicnaaaGreatDoorGi
import Derived.Lib.Split
import Derived.Shelf.Strings.FuncGrows
namespace Go.Gw
open Go Go.RowKit Go.Pu Go.Proofs
variable {Dw : Prop}
set_option linter.unusedSimpArgs false
set_option linter.unusedVariables false
def Mx (P : Program) (g : Nat) (A : Nat → Prop) (w : World) : Prop := (∃ m, w.cell? ⟨g, 0, none⟩ = some (.int .i64 m)) ∧ A g ∧ g < w.heap.size
def Tx (P : Program) (g : Nat) (A : Nat → Prop) (w : World) : Prop := Tb P A w ∧ Mx P g A w
section
variable {P : Program} {A A1 : Nat → Prop} {w w1 : World} {B g : Nat}
end
theorem contains_fn {p : Bool} {w w' : World} {e : Ending} (h : ∃ v, e = .returned v ∧ v = .bool p ∧ w = w') : e = .returned (.bool p) ∧ Below w.heap.size w w' := by
 obtain ⟨v, rfl, rfl, rfl⟩ := h
 exact ⟨rfl, Below.refl _ _⟩
theorem contains_wrap {P : Program} {fid : FuncId} {args : Array Value} {w : World} {b : Bool} (h : Calls P fid args w fun e w' => e = .returned (.bool b) ∧ Below w.heap.size w w') : Ret P fid args w fun v w' => v = .bool b ∧ Kp False w w' :=
 h.mono fun _ _ ⟨h1, h2⟩ => ⟨_, h1, rfl, .of h2⟩
end Go.Gw
