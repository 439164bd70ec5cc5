import Derived.Test.YtjdjmddclfhpeaaGreatDoorHa
import Derived.Maps.RangeRun
namespace Go.Gw
open Go Go.RowKit Go.Pu Go.ChangeMaps
variable {Dw : Prop}
set_option linter.unusedSimpArgs false
set_option linter.unusedVariables false
section steps
variable {P : Program} {n : Fr} {ops : Array Oper} {Q : Exit → Act → World → Prop} {E : Env} {w : World} {rest : List Oper} {u : Value} {d : Nat}
variable {ty t kt et : TypeId} {pos : String} {af : Array Edge} {x y z : Operand} {A : Nat → Prop} {B : Nat} {L : List Ob} {i j mb rb : Nat} {es : Array MapEntry} {clk since c0 : Nat} {seen : Array Nat}
theorem mv_set (o : Obj) (hb : mb < w.heap.size) (hB : B ≤ mb) (hAm : ¬ A mb) (hA : ∀ b, w.heap.size ≤ b → A b) : Mv Dw B A w A (setBlock w mb o) (some mb) :=
 ⟨rfl, rfl, rfl, by simp [setBlock], fun _ => Nat.le_refl _, fun k hk hne => by
  show (w.heap.setIfInBounds mb o)[k]? = w.heap[k]?
  rw [Array.getElem?_setIfInBounds_ne (fun e => hne (by rw [e]))], fun k hk => by cases hk; exact ⟨hB, hAm⟩, fun _ h => h, fun _ _ h => h, fun b' hb' => hA b' (by simpa [setBlock] using hb')⟩
end steps
end Go.Gw
