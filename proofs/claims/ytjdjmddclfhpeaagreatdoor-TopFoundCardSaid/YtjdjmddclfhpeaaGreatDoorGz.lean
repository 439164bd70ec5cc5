import Derived.Test.YtjdjmddclfhpeaaGreatDoorGt
import Derived.Sort.Grow
namespace Go.Gw
open Go Go.RowKit Go.Pu Go.Sort
variable {Dw : Prop}
set_option linter.unusedSimpArgs false
set_option linter.unusedVariables false
theorem putCells_take {α : Type} [Inhabited α] (enc : α → Value) (d : List α) (c : Array Value) (h : d.length ≤ c.size) : (putCells enc 0 d.toArray c).toList.take d.length = d.map enc := by
 apply List.ext_getElem?
 intro k
 rw [List.getElem?_take, List.getElem?_map]
 by_cases hk : k < d.length
 ·rw [if_pos hk]
  simp only [putCells, Array.getElem?_toList, Array.getElem?_mapIdx]
  rw [Array.getElem?_eq_getElem (by omega), List.getElem?_eq_getElem hk]
  simp [hk]
 ·rw [if_neg hk, List.getElem?_eq_none (by omega)]; rfl
section
variable {P : Program} {f : FuncId} {B : Nat} {A : Nat → Prop} {w : World} {L : List Ob} {i : Nat} {e : TypeId} {v : Value}
end
end Go.Gw
