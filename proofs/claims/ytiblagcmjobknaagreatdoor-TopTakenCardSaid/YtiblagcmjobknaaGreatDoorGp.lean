import Derived.Test.YtiblagcmjobknaaGreatDoorGe
namespace Go.Gw
open Go Go.RowKit Go.Pu
variable {Dw : Prop}
set_option linter.unusedSimpArgs false
set_option linter.unusedVariables false
def ptrV (v : Value) (c : Nat) (i : Int) : Value := if i < 0 then .pointer none else match v with
 | .slice (some ⟨b, off, none⟩) _ _ => .pointer (some ⟨b, off + i.toNat * c, none⟩)
 | _ => .pointer none
section
variable {P : Program} {n : Fr} {E : Env} {w : World} {v : Value} {ρd : Option Nat} {ty t e : TypeId} {pos : String} {af : Array Edge} {g : Option (Nat × Bool)} {x y : Operand} {A : Nat → Prop}
variable {α : Type} [GoT α]
theorem zhA {l : List α} {i : Int} {el : α} (hsl : Sl A w v l) (hidx : idx l i = some el) : ∃ b off, ptrV v (GoT.cells α) i = .pointer (some ⟨b, off, none⟩) ∧ El A w b off el := by
 obtain ⟨h0, h1, h2⟩ := zbf hidx
 rcases hsl with ⟨_, _, rfl, rfl, _, _⟩ | ⟨b, off, cap, cs, rfl, hb, hlt, hlc, hcm, hrep, hat⟩
 ·simp at h2
 ·obtain ⟨c1, c2, c3, rfl, hl, hr⟩ := hrep.at h2
  refine ⟨b, off + i.toNat * GoT.cells α, ?_, ⟨hb, hlt, c2, hr, ?_⟩⟩
  ·unfold ptrV
   rw [if_neg (by omega)]
  ·rw [← hl]
   exact hat.right.left
theorem zki {l : List α} {k : IntKind} {i : Int} {el : α} (hsl : Sl A w v l) (hidx : idx l i = some el) (ht : P.underlying t = some (.slice e)) (hsz : ∀ w, (Go.sizeOf e).run P w = .ok (GoT.cells α) w)
  (hx : ev E x = some v) (hy : ev E y = some (.int k i)) : Y P n E ⟨ρd, .indexAddr t x y, ty, pos, af, g⟩ w (ptrV v (GoT.cells α) i) w := by
 intro a ha
 obtain ⟨h0, h1, h2⟩ := zbf hidx
 rcases hsl with ⟨_, _, rfl, rfl, _, _⟩ | ⟨b, off, cap, cs, rfl, hb, hlt, hlc, hcm, hrep, hat⟩
 ·simp at h2
 ·have hadd : (⟨b, off, none⟩ : Addr).add (i.toNat * GoT.cells α) = ⟨b, off + i.toNat * GoT.cells α, none⟩ := by
   unfold Addr.add
   split <;> simp_all
  have hp : ptrV (.slice (some ⟨b, off, none⟩) l.length cap) (GoT.cells α) i = .pointer (some ⟨b, off + i.toNat * GoT.cells α, none⟩) := by
   unfold ptrV
   rw [if_neg (by omega)]
  rw [hp]
  simp only [execOp, ha.eval hx, ha.eval hy, Instr.indexAt, asIntOf]
  simp [underlying, ht, hsz, h0, h1, hadd]
theorem zlr {l : List α} {i : Int} {c : Nat} {b : Bool} {t2 u : TypeId} (hsl : Sl A w v l) (hc : c = GoT.cells α) (hb : (if i < 0 then some true else (idx l i).map fun _ => false) = some b) (ht : P.underlying t2 = some (.pointer u)) (hx : ev E x = some (ptrV v c i)) (hy : ev E y = some (.pointer none)) :
  Y P n E ⟨ρd, .binOp .eql t2 x y t, ty, pos, af, g⟩ w (.bool b) w := by
 intro a ha
 subst hc
 by_cases h0 : i < 0
 ·rw [if_pos h0] at hb
  obtain rfl := Option.some.inj hb
  have hp : ptrV v (GoT.cells α) i = .pointer none := by unfold ptrV; rw [if_pos h0]
  rw [hp] at hx
  obtain ⟨dp, hd⟩ : ∃ dp, Op.maxDepth = dp + 1 := ⟨_, rfl⟩
  simp only [execOp, ha.eval hx, ha.eval hy]
  simp [eqGuard, binOp, Op.equal, hd, Op.equalIn, underlying, ht]
 ·rw [if_neg h0] at hb
  obtain ⟨el, he, rfl⟩ := Option.map_eq_some_iff.1 hb
  obtain ⟨bb, off, hp, _⟩ := zhA hsl he
  rw [hp] at hx
  obtain ⟨dp, hd⟩ : ∃ dp, Op.maxDepth = dp + 1 := ⟨_, rfl⟩
  simp only [execOp, ha.eval hx, ha.eval hy]
  simp [eqGuard, binOp, Op.equal, hd, Op.equalIn, underlying, ht]
end
def OEl {α : Type} [GoT α] (A : Nat → Prop) (w : World) (v : Value) : Option α → Prop
 | none => v = .pointer none
 | some y => ∃ b off, v = .pointer (some ⟨b, off, none⟩) ∧ El A w b off y
section
variable {P : Program} {n : Fr} {E : Env} {w w1 : World} {v : Value} {ρd : Option Nat} {ty t e : TypeId} {pos : String} {af : Array Edge} {g : Option (Nat × Bool)} {x y : Operand} {A A1 : Nat → Prop} {B : Nat}
variable {α : Type} [GoT α] {o : Option α} {el : α}
end
end Go.Gw
