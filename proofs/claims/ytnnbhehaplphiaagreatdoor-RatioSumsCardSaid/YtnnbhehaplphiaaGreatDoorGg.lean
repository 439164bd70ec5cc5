/-
  The variable MaxLen of internal/bytealg holds some int, kept through a walk; strings.genSplit, ContainsFunc over the shelf's contracts.
-/
import Derived.Test.YtnnbhehaplphiaaGreatDoorGi
import Derived.Lib.Split
import Derived.Shelf.Strings.FuncGrows
namespace Go.Gw
open Go Go.RowKit Go.Pu Go.Proofs
variable {Dw : Prop}
set_option linter.unusedSimpArgs false
set_option linter.unusedVariables false

/-- the variable g holds some int, and it is only read -/
def Mx (P : Program) (g : Nat) (A : Nat → Prop) (w : World) : Prop := (∃ m, w.cell? ⟨g, 0, none⟩ = some (.int .i64 m)) ∧ A g ∧ g < w.heap.size
def Tx (P : Program) (g : Nat) (A : Nat → Prop) (w : World) : Prop := Tb P A w ∧ Mx P g A w
section
variable {P : Program} {A A1 : Nat → Prop} {w w1 : World} {B g : Nat}
theorem Mx.to (h : Mx P g A w) (hh : ∀ g, g < w.heap.size → A g → w1.heap[g]? = w.heap[g]? ∧ A1 g) (hs : w.heap.size ≤ w1.heap.size) : Mx P g A1 w1 := by
  obtain ⟨⟨m, h1⟩, h2, h3⟩ := h
  obtain ⟨h5, h6⟩ := hh g h3 h2
  exact ⟨⟨m, (World.cell?_of_block (a := ⟨g, 0, none⟩) h5).trans h1⟩, h6, Nat.lt_of_lt_of_le h3 hs⟩
end

end Go.Gw
