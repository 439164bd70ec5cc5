import Derived.Test.YtjdjmddclfhpeaaGreatDoorGh
import Derived.RangeFuncLeaves
namespace Go.Gw
open Go Go.RowKit Go.Pu
variable {Dw : Prop}
set_option linter.unusedSimpArgs false
set_option linter.unusedVariables false
theorem Kp.tr {B : Nat} {A : Nat → Prop} {w w1 : World} (hk : Kp Dw w w1) (hA : ∀ b, w.heap.size ≤ b → A b) (hB : B ≤ w.heap.size) : Tr Dw B A w A w1 := (Mv.kp hk hA).tr hB
theorem Tr.kp {A A1 : Nat → Prop} {w w1 : World} (h : Tr Dw w.heap.size A w A1 w1) : Kp Dw w w1 := h.below
def CallV (P : Program) (fv : Value) (args : List Value) (w : World) (R : Value → World → Prop) : Prop :=
 ∀ (ro : Option Nat) (a : Act) (d : Option Tmp) (ty : TypeId) (pos : String) (af : Array Edge) (x : Operand) (xs : Array Operand) (ats : Array TypeId) (K : Act → World → Prop) (Q : Exit → Act → World → Prop),
  a.eval x = fv → xs.toList.map a.eval = args → (∀ v w', R v w' → K (a.put d v) w') → Oper.wpIn (FR ro) 0 P ⟨d, .call ⟨.value x, xs, ats⟩, ty, pos, af, none⟩ a w K Q
section steps
variable {P : Program} {n : Fr} {ops : Array Oper} {Q : Exit → Act → World → Prop} {E : Env} {w : World} {rest : List Oper} {d : Nat} {ty : TypeId} {pos : String} {af : Array Edge}
end steps
def bodyM (P : Program) (fn : Func) (R : Value → World → Prop) : Exit → Act → World → Prop := bodyPostM (FR none) 0 P fn fun e w' => ∃ v, e = .returned v ∧ R v w'
def Res (P : Program) (fn : Func) (E : Env) (n : Fr) (w : World) (v : Value) : Prop := ∀ a, Has n a E → (results fn a.tmps).run P w = .ok v w
section ret
variable {P : Program} {n : Fr} {fn : Func} {E : Env} {w : World} {R : Value → World → Prop} {v x y : Value} {t u s : Nat}
theorem Res.zero (hr : fn.results = #[]) : Res P fn E n w (.tuple #[]) := fun a _ => by simp [results, hr]
theorem Res.one (hr : fn.results = #[.tmp t]) (ht : E.get t = some v) : Res P fn E n w v := fun a h => by rw [results_tmp hr, h.getD ht]
theorem Res.two (hr : fn.results = #[.tmp t, .tmp u]) (ht : E.get t = some v) (hu : E.get u = some x) : Res P fn E n w (.tuple #[v, x]) := fun a h => by rw [results_tmp2 hr, h.getD ht, h.getD hu]
theorem retQ (hds : n.ds = []) (hr : Res P fn E n w v) (hR : R v w) : ∀ a, Has n a E → bodyQ P fn R .ret a w := fun a h => ⟨h.defers.trans hds, v, hr a h, v, rfl, hR⟩
theorem normQ {a : Act} (h : bodyQ P fn R .ret a w) : bodyQ P fn R .normal a w := h
end ret
def exitCode : Exit → Option (Option Code)
 | .normal => some none
 | .ret => some (some .ret)
 | .exit id => some (some (.exit id))
 | _ => none
def Rd (P : Program) (n : Fr) (l : Nat) (assign body : Code) (Q : Exit → Act → World → Prop) (E : Env) (w : World) : Prop :=
 C P n assign (Exit.then (fun a₁ w₁ => ∃ w₂, (Instr.beginRound l).run P w₁ = .ok () w₂ ∧ body.wpIn (FR n.ro) 0 P Q a₁ w₂) (fun _ _ _ => False)) E w
def rpost {S : Type} (B : Nat) (A : Nat → Prop) (w : World) (I : S → Ob) (r1 : Ob) (L : List Ob) (jump : Nat → Code) (s' : S) (j : Option Nat) : Exit → Act → World → Prop :=
 fun e _ w' => exitCode e = some (j.map jump) ∧ ∃ A', Tr Dw B A w A' w' ∧ Hp B A' w' (I s' :: r1 :: L)
def argEnv : List Nat → List Value → Env
 | p :: ps, v :: vs => (p, v) :: argEnv ps vs
 | _, _ => []
end Go.Gw
