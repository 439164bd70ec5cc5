import Derived.Test.YtiblagcmjobknaaGreatDoorGz
import Derived.Test.YtiblagcmjobknaaGreatDoorPr
import Derived.Lib.SlicesCompact
import Derived.Lib.RowBridge
import Derived.Sort.Grow
namespace Go.Gw
open Go Go.RowKit Go.Pu Go.Sort
variable {Dw : Prop}
set_option linter.unusedSimpArgs false
set_option linter.unusedVariables false
section
variable {α β : Type} [Inhabited β]
end
section
variable {P : Program} {f : FuncId} {B : Nat} {A : Nat → Prop} {w : World} {L : List Ob} {i : Nat} {e : TypeId} {v : Value} {α : Type} [GoT α] {β : Type} [Inhabited β]
theorem ziq {o : Ob} (hi : L[i]? = some o) : L.set i o = L := by
 apply List.ext_getElem?
 intro k
 rw [List.getElem?_set]
 split
 ·rename_i hk
  subst hk
  split
  ·exact hi.symm
  ·rename_i hk2
   rw [List.getElem?_eq_none (by omega)] at hi
   cases hi
 ·rfl
end
end Go.Gw
