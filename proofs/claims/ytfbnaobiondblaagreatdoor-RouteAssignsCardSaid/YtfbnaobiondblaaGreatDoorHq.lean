import Derived.Test.YtfbnaobiondblaaGreatDoorGv
import Derived.Test.YtfbnaobiondblaaGreatDoorGe
import Derived.Lib.AppendZerosOnto
import Derived.Lib.Overlaps
namespace Go.Gw
open Go Go.RowKit Go.Pu
variable {Dw : Prop}
set_option linter.unusedSimpArgs false
set_option linter.unusedVariables false
section open_close
variable {α : Type} [GoT α] {e : TypeId} {v : Value} {l : List α} {A : Nat → Prop} {w : World} {B : Nat} {L : List Ob} {i : Nat}
theorem Mv.self (hA : ∀ b, w.heap.size ≤ b → A b) : Mv Dw B A w A w none := .kp (Kp.refl _) hA
theorem Hp.closeS {g cap : Nat} {cur : Array Value} (hH : Hp B A w L) (hi : L[i]? = some (obO g (.cells cur e (0, 0)))) (hA : ∀ b, w.heap.size ≤ b → A b) (h5 : l.length ≤ cap) (h6 : cap ≤ maxLen) (h7 : cur.size = cap * GoT.cells α) (h8 : repL A w (cur.toList.take (l.length * GoT.cells α)) l) :
  Hp B A w (L.set i (obS e (.slice (some ⟨g, 0, none⟩) l.length cap) l)) := by
 obtain ⟨f, ⟨rfl, hp⟩, hb, hset⟩ := hH.at hi
 exact hset A w none _ [g] (Mv.self (Dw := True) hA) (fun k hk => by cases hk) (.inr ⟨g, cap, cur, _, rfl, rfl, hp, h5, h6, h7, h8, rfl⟩) (fun b hb' => ⟨.inl hb', (hb b hb').1, (hb b hb').2.2⟩)
end open_close
section steps
variable {P : Program} {n : Fr} {ops : Array Oper} {Q : Exit → Act → World → Prop} {E : Env} {w : World} {rest : List Oper} {d : Nat}
variable {ty t t2 e : TypeId} {pos : String} {af : Array Edge} {x y z : Operand} {A : Nat → Prop} {ρd : Option Nat} {gd : Option (Nat × Bool)} {B : Nat} {L : List Ob} {i : Nat}
theorem Y_cap {a : Option Addr} {len cap : Nat} {ats : Array TypeId} (h0 : ats[0]? = some t) (ht : P.underlying t = some (.slice e)) (hx : ev E x = some (.slice a len cap)) :
  Y P n E ⟨ρd, .call ⟨.builtin .cap, #[x], ats⟩, ty, pos, af, gd⟩ w (.int .i64 cap) w := fun a hA => by
 simp [execOp, resolve, invoke, builtin, hA.eval hx, Builtin.cap_, h0, underlying, ht, goInt]
theorem Y_slHi {k : IntKind} {g len cap hi sz : Nat} (hh : hi ≤ cap) (ht : P.underlying t = some (.slice e)) (hs : ∀ w, (Go.sizeOf e).run P w = .ok sz w)
  (hx : ev E x = some (.slice (some ⟨g, 0, none⟩) len cap)) (hz : ev E z = some (.int k (hi : Int))) : Y P n E ⟨ρd, .slice t x none (some z) none, ty, pos, af, gd⟩ w (.slice (some ⟨g, 0, none⟩) hi cap) w := by
 intro a hA
 have hb : ¬ cap < hi := by omega
 simp [execOp, hA.eval hx, hA.eval hz, Instr.sliceAt, Instr.slice, Instr.sliceBounds, Instr.sliceBound, asIntOf, underlying, ht, hs, hb, Addr.add]
end steps
section rows
variable {α : Type} [GoT α] {A : Nat → Prop} {w : World} {B : Nat} {L : List Ob} {i j : Nat} {e : TypeId} {v : Value} {l : List α}
variable {V : Type} {X ds cs1 X1 R R1 : List V} {p q nn : Nat}
end rows
end Go.Gw
