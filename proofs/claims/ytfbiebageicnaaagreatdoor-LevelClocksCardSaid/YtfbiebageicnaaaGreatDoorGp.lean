import Derived.Test.YtfbiebageicnaaaGreatDoorGe
namespace Go.Gw
open Go Go.RowKit Go.Pu
variable {Dw : Prop}
set_option linter.unusedSimpArgs false
set_option linter.unusedVariables false
def ptrV (v : Value) (c : Nat) (i : Int) : Value := if i < 0 then .pointer none else match v with
 | .slice (some ⟨b, off, none⟩) _ _ => .pointer (some ⟨b, off + i.toNat * c, none⟩)
 | _ => .pointer none
section
variable {P : Program} {n : Fr} {E : Env} {w : World} {v : Value} {ρd : Option Nat} {ty t e : TypeId} {pos : String} {af : Array Edge} {g : Option (Nat × Bool)} {x y : Operand} {A : Nat → Prop}
variable {α : Type} [GoT α]
end
def OEl {α : Type} [GoT α] (A : Nat → Prop) (w : World) (v : Value) : Option α → Prop
 | none => v = .pointer none
 | some y => ∃ b off, v = .pointer (some ⟨b, off, none⟩) ∧ El A w b off y
section
variable {P : Program} {n : Fr} {E : Env} {w w1 : World} {v : Value} {ρd : Option Nat} {ty t e : TypeId} {pos : String} {af : Array Edge} {g : Option (Nat × Bool)} {x y : Operand} {A A1 : Nat → Prop} {B : Nat}
variable {α : Type} [GoT α] {o : Option α} {el : α}
theorem OEl.tr (h : OEl A w v o) (ht : Tr Dw B A w A1 w1) : OEl A1 w1 v o := by
 cases o with
 | none => exact h
 | some y => obtain ⟨b, off, h1, h2⟩ := h; exact ⟨b, off, h1, h2.tr ht⟩
theorem OEl.get (h : OEl A w v o) (hx : o = some el) : ∃ b off, v = .pointer (some ⟨b, off, none⟩) ∧ El A w b off el := by
 subst hx
 exact h
theorem Y_eqlOP {t2 u : TypeId} (h : OEl A w v o) (ht : P.underlying t2 = some (.pointer u)) (hx : ev E x = some v) (hy : ev E y = some (.pointer none)) :
  Y P n E ⟨ρd, .binOp .eql t2 x y t, ty, pos, af, g⟩ w (.bool o.isNone) w := by
 intro a ha
 obtain ⟨dp, hd⟩ : ∃ dp, Op.maxDepth = dp + 1 := ⟨_, rfl⟩
 cases o with
 | none =>
  obtain rfl : v = .pointer none := h
  simp only [execOp, ha.eval hx, ha.eval hy]
  simp [eqGuard, binOp, Op.equal, hd, Op.equalIn, underlying, ht]
 | some z =>
  obtain ⟨b, off, rfl, _⟩ := h
  simp only [execOp, ha.eval hx, ha.eval hy]
  simp [eqGuard, binOp, Op.equal, hd, Op.equalIn, underlying, ht]
end
end Go.Gw
