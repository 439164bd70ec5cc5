import Derived.Test.YtiblagcmjobknaaGreatDoorGv
import Derived.Test.YtiblagcmjobknaaGreatDoorGe
import Derived.Lib.AppendZerosOnto
import Derived.Lib.Overlaps
namespace Go.Gw
open Go Go.RowKit Go.Pu
variable {Dw : Prop}
set_option linter.unusedSimpArgs false
set_option linter.unusedVariables false
section open_close
variable {α : Type} [GoT α] {e : TypeId} {v : Value} {l : List α} {A : Nat → Prop} {w : World} {B : Nat} {L : List Ob} {i : Nat}
theorem Mv.self (hA : ∀ b, w.heap.size ≤ b → A b) : Mv Dw B A w A w none := .kp (Kp.refl _) hA
theorem Hp.openS (hH : Hp B A w L) (hi : L[i]? = some (obS e v l)) (hl : l ≠ []) (hA : ∀ b, w.heap.size ≤ b → A b) :
  ∃ g cap cur, v = .slice (some ⟨g, 0, none⟩) l.length cap ∧ Hp B A w (L.set i (obO g (.cells cur e (0, 0)))) ∧ l.length ≤ cap ∧ cap ≤ maxLen ∧ cur.size = cap * GoT.cells α ∧ repL A w (cur.toList.take (l.length * GoT.cells α)) l := by
 obtain ⟨f, hp, hb, hset⟩ := hH.at hi
 rcases hp with ⟨_, rfl, _⟩ | ⟨g, cap, cur, cs, rfl, rfl, h4, h5, h6, h7, h8, h9⟩
 ·exact absurd rfl hl
 ·exact ⟨g, cap, cur, rfl, hset A w none _ [g] (Mv.self (Dw := True) hA) (fun k hk => by cases hk) ⟨rfl, h4⟩ (fun b hb' => ⟨.inl hb', (hb b hb').1, (hb b hb').2.2⟩), h5, h6, h7, by rw [h9]; exact h8⟩
theorem Hp.closeS {g cap : Nat} {cur : Array Value} (hH : Hp B A w L) (hi : L[i]? = some (obO g (.cells cur e (0, 0)))) (hA : ∀ b, w.heap.size ≤ b → A b) (h5 : l.length ≤ cap) (h6 : cap ≤ maxLen) (h7 : cur.size = cap * GoT.cells α) (h8 : repL A w (cur.toList.take (l.length * GoT.cells α)) l) :
  Hp B A w (L.set i (obS e (.slice (some ⟨g, 0, none⟩) l.length cap) l)) := by
 obtain ⟨f, ⟨rfl, hp⟩, hb, hset⟩ := hH.at hi
 exact hset A w none _ [g] (Mv.self (Dw := True) hA) (fun k hk => by cases hk) (.inr ⟨g, cap, cur, _, rfl, rfl, hp, h5, h6, h7, h8, rfl⟩) (fun b hb' => ⟨.inl hb', (hb b hb').1, (hb b hb').2.2⟩)
end open_close
section steps
variable {P : Program} {n : Fr} {ops : Array Oper} {Q : Exit → Act → World → Prop} {E : Env} {w : World} {rest : List Oper} {d : Nat}
variable {ty t t2 e : TypeId} {pos : String} {af : Array Edge} {x y z : Operand} {A : Nat → Prop} {ρd : Option Nat} {gd : Option (Nat × Bool)} {B : Nat} {L : List Ob} {i : Nat}
theorem zla {a : Option Addr} {len cap : Nat} {ats : Array TypeId} (h0 : ats[0]? = some t) (ht : P.underlying t = some (.slice e)) (hx : ev E x = some (.slice a len cap)) :
  Y P n E ⟨ρd, .call ⟨.builtin .cap, #[x], ats⟩, ty, pos, af, gd⟩ w (.int .i64 cap) w := fun a hA => by
 simp [execOp, resolve, invoke, builtin, hA.eval hx, Builtin.cap_, h0, underlying, ht, goInt]
theorem zkQ (g o j : Nat) : (⟨g, o, none⟩ : Addr).add j = ⟨g, o + j, none⟩ := by unfold Addr.add; split <;> simp_all
theorem zlM {k : IntKind} {g o len cap lo sz : Nat} (hl : lo ≤ len) (hlt : lo < cap) (hc : len ≤ cap) (ht : P.underlying t = some (.slice e)) (hs : ∀ w, (Go.sizeOf e).run P w = .ok sz w)
  (hx : ev E x = some (.slice (some ⟨g, o, none⟩) len cap)) (hy : ev E y = some (.int k (lo : Int))) : Y P n E ⟨ρd, .slice t x (some y) none none, ty, pos, af, gd⟩ w (.slice (some ⟨g, o + lo * sz, none⟩) (len - lo) (cap - lo)) w := by
 have h := zej (P := P) (n := n) (E := E) (ty := ty) (pos := pos) (af := af) (ρd := ρd) (g := gd) (w := w) (sz := sz) (v := .slice (some ⟨g, o, none⟩) len cap) (lo := (lo : Int)) (k := k) ⟨some ⟨g, o, none⟩, len, cap, lo, len, rfl, rfl, rfl, hl, Nat.le_refl _, hc, rfl⟩ ht hs hx hy
 rw [if_neg (by omega), show (some (⟨g, o, none⟩ : Addr)).map (·.add (lo * sz)) = some ⟨g, o + lo * sz, none⟩ from congrArg some (zkQ g o (lo * sz))] at h
 exact h
theorem zhQ {k : IntKind} {g len cap hi sz : Nat} (hh : hi ≤ cap) (ht : P.underlying t = some (.slice e)) (hs : ∀ w, (Go.sizeOf e).run P w = .ok sz w)
  (hx : ev E x = some (.slice (some ⟨g, 0, none⟩) len cap)) (hz : ev E z = some (.int k (hi : Int))) : Y P n E ⟨ρd, .slice t x none (some z) none, ty, pos, af, gd⟩ w (.slice (some ⟨g, 0, none⟩) hi cap) w := by
 intro a hA
 have hb : ¬ cap < hi := by omega
 simp [execOp, hA.eval hx, hA.eval hz, Instr.sliceAt, Instr.slice, Instr.sliceBounds, Instr.sliceBound, asIntOf, underlying, ht, hs, hb, Addr.add]
end steps
section rows
variable {α : Type} [GoT α] {A : Nat → Prop} {w : World} {B : Nat} {L : List Ob} {i j : Nat} {e : TypeId} {v : Value} {l : List α}
variable {V : Type} {X ds cs1 X1 R R1 : List V} {p q nn : Nat}
end rows
end Go.Gw
