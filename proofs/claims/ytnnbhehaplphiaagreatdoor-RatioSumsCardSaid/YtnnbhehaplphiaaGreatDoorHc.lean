/-
  Own rows of bytes that come out of a string (they bear the run-time's mark behind their last cell): laid, read, written, turned back.
-/
import Derived.Test.YtnnbhehaplphiaaGreatDoorGi
import Derived.Test.YtnnbhehaplphiaaGreatDoorPj
import Derived.Laws.IdiomStrings
namespace Go.Gw
open Go Go.RowKit Go.Pu
variable {Dw : Prop}
set_option linter.unusedSimpArgs false
set_option linter.unusedVariables false

def bcells (l : List UInt8) : List Value := l.map fun b => Value.int .u8 (b.toNat : Int)
def obU (e : TypeId) (v : Value) (l : List UInt8) : Ob where
  P f A w := ∃ g cap cur fz, v = .slice (some ⟨g, 0, none⟩) l.length cap ∧ f = [g] ∧ w.heap[g]? = some (.cells cur e fz) ∧ cur.size ≤ fz.1 ∧ l.length ≤ cap ∧ cap ≤ maxLen ∧ cur.size = cap ∧ cur.toList.take l.length = bcells l
  keep h he hb := by
    obtain ⟨g, cap, cur, fz, rfl, rfl, h3, h⟩ := h
    exact ⟨g, cap, cur, fz, rfl, rfl, by rw [hb g (by simp)]; exact h3, h⟩
  lt h b' hb' := by
    obtain ⟨g, cap, cur, fz, rfl, rfl, h3, h⟩ := h
    simp at hb'; subst hb'; exact (Array.getElem?_eq_some_iff.1 h3).1
section
variable {P : Program} {n : Fr} {ops : Array Oper} {Q : Exit → Act → World → Prop} {E : Env} {w : World} {rest : List Oper} {v u : Value} {d : Nat}
variable {ty t ts e : TypeId} {pos : String} {af : Array Edge} {x y z : Operand} {A : Nat → Prop} {B : Nat} {L : List Ob} {i : Nat} {l r : List UInt8}

end
section
variable {P : Program} {n : Fr} {E : Env} {w : World} {x y : Operand} {ty t t2 : TypeId} {pos : String} {af : Array Edge} {ρd : Option Nat} {g : Option (Nat × Bool)} {p q : Int}
theorem Y_subB (hx : ev E x = some (.int .u8 p)) (hy : ev E y = some (.int .u8 q)) : Y P n E ⟨ρd, .binOp .sub t x y t2, ty, pos, af, g⟩ w (.int .u8 ((toU8 (p - q)).toNat : Int)) w := by
  rw [toU8_nat]; exact Y_sub hx hy
end
end Go.Gw
