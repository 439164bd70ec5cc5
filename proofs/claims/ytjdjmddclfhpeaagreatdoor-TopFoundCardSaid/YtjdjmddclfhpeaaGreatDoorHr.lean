import Derived.Test.YtjdjmddclfhpeaaGreatDoorGv
import Derived.Test.YtjdjmddclfhpeaaGreatDoorGe
namespace Go.Gw
open Go Go.RowKit Go.Pu
variable {Dw : Prop}
set_option linter.unusedSimpArgs false
set_option linter.unusedVariables false
section
variable {P : Program} {n : Fr} {ops : Array Oper} {Q : Exit → Act → World → Prop} {E : Env} {w : World} {rest : List Oper} {d : Nat} {α : Type} [GoT α]
variable {ty t e : TypeId} {pos : String} {af : Array Edge} {x z : Operand} {A : Nat → Prop} {B : Nat} {L : List Ob} {i : Nat} {v : Value} {l r : List α}
theorem V_sliceOwnH {k : IntKind} {hi : Int} (hH : Hp B A w L) (hi' : L[i]? = some (obS e v l)) (hr : sliceL l none (some hi) = some r) (ht : P.underlying t = some (.slice e)) (hs : ∀ w, (Go.sizeOf e).run P w = .ok (GoT.cells α) w)
  (hA : ∀ b, w.heap.size ≤ b → A b) (hx : ev E x = some v) (hz : ev E z = some (.int k hi)) (hn : Nat.blt d n.sz = true)
  (h : ∀ v', Hp B A w (L.set i (obS e v' r)) → V P n ops Q rest ((d, v') :: E) w) : V P n ops Q (⟨some d, .slice t x none (some z) none, ty, pos, af, none⟩ :: rest) E w := by
 unfold sliceL bounds at hr
 simp only [Option.getD_some, Option.getD_none] at hr
 split at hr
 case isFalse => simp at hr
 rename_i hb
 simp only [Option.map_some, Option.some.injEq] at hr
 subst hr
 obtain ⟨h0, h1, h2, h3⟩ := hb
 obtain ⟨m, rfl⟩ : ∃ m : Nat, hi = (m : Int) := ⟨hi.toNat, by omega⟩
 have hml : m ≤ l.length := by omega
 simp only [Int.toNat_natCast, show (0 : Int).toNat = 0 from rfl, List.drop_zero] at h
 obtain ⟨f, hp, hbk, hset⟩ := hH.at hi'
 have hmv : Mv True B A w A w none := .kp (Kp.refl _) hA
 rcases hp with ⟨rfl, rfl, rfl⟩ | ⟨g, cap, cur, cs, rfl, rfl, h4, h5, h6, h7, h8, h9⟩
 ·obtain rfl : m = 0 := by simpa using hml
  refine V_y (w' := w) (v := .slice none 0 0) (Y_sliceLH (sz := GoT.cells α) (v := .slice none 0 0) (hi := ((0 : Nat) : Int)) ⟨none, 0, 0, 0, 0, rfl, rfl, rfl, Nat.le_refl _, Nat.le_refl _, Nat.le_refl _, rfl⟩ ht hs hx hz) rfl rfl hn (h _ ?_)
  exact hset A w none _ [] hmv (fun k hk => by cases hk) (.inl ⟨rfl, rfl, rfl⟩) (fun b hb => by cases hb)
 ·have hlen : (l.take m).length = m := by rw [List.length_take]; omega
  refine V_y (w' := w) (v := .slice (some ⟨g, 0, none⟩) m cap) (fun a hA' => ?_) rfl rfl hn (h _ ?_)
  ·have hb : ¬ cap < m := by omega
   simp [execOp, hA'.eval hx, hA'.eval hz, Instr.sliceAt, Instr.slice, Instr.sliceBounds, Instr.sliceBound, asIntOf, underlying, ht, hs, hb, Addr.add]
  ·refine hset A w none _ [g] hmv (fun k hk => by cases hk) (.inr ⟨g, cap, cur, cs.take (m * GoT.cells α), by rw [hlen], rfl, h4, by omega, h6, h7, repL_take m h8, ?_⟩) (fun b hb => ⟨.inl hb, (hbk b hb).1, (hbk b hb).2.2⟩)
   rw [hlen, ← h9, List.take_take, Nat.min_eq_left (Nat.mul_le_mul_right _ hml)]
end
end Go.Gw
