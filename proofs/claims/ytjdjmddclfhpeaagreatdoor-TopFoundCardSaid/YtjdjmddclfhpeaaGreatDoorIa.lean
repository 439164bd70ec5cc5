import Derived.Test.YtjdjmddclfhpeaaGreatDoorHf
namespace Go.Gw
open Go Go.RowKit Go.Pu Go.Sort
variable {Dw : Prop}
set_option linter.unusedSimpArgs false
set_option linter.unusedVariables false
section
variable {B : Nat} {A : Nat → Prop} {w : World} {L : List Ob} {i b off : Nat} {ix : Int} {α : Type} [GoT α] {e : TypeId} {v : Value} {l : List α} {x : α}
theorem Hp.elemRep (hH : Hp B A w L) (hi : L[i]? = some (obS e v l)) (hloc : Loc v b off ix (GoT.cells α)) (hidx : idx l ix = some x) : ∃ cs, GoT.rep A w cs x ∧ At w b off cs := by
 obtain ⟨h0, h1, h2⟩ := idx_some hidx
 obtain ⟨f, hp, hb, _⟩ := hH.at hi
 rcases OwP.ow hp hb with ⟨rfl, rfl⟩ | ⟨g, cap, cur, cs, rfl, _, _, h4, h5, _, h7, h8, h9⟩
 ·simp at h2
 obtain ⟨⟨len, c, hv⟩, ho⟩ := hloc
 simp only [Value.slice.injEq, Option.some.injEq, Addr.mk.injEq, and_true] at hv
 obtain ⟨rfl, _, _⟩ := hv
 obtain ⟨c1, c2, c3, rfl, hl, hr⟩ := h8.at h2
 have hat : At w g 0 (c1 ++ (c2 ++ c3)) := fun j u hj => by
  rw [← h9, List.getElem?_take] at hj
  split at hj
  case isFalse => cases hj
  simp only [World.cell?, h4, Nat.zero_add]
  simpa using hj
 refine ⟨c2, hr, ?_⟩
 have := hat.right.left
 rw [hl] at this
 rw [ho]
 simpa using this
end
section
variable {P : Program} {f : FuncId} {B : Nat} {A : Nat → Prop} {w : World} {L : List Ob} {k : Nat} {e : TypeId} {v : Value}
end
section
variable {P : Program} {n : Fr} {ops : Array Oper} {Q : Exit → Act → World → Prop} {E : Env} {w : World} {rest : List Oper} {d : Nat}
variable {ty t e : TypeId} {pos : String} {af : Array Edge} {A : Nat → Prop} {α : Type} [GoT α]
theorem V_buildOwnHk {B : Nat} {l : List α} {len : Nat} {L : List Ob} {parts : Array (Nat × Operand)} {zv : Value} {vs : List Value} {cells : Array Value} (hH : Hp B A w L) (ht : P.underlying t = some (.slice e)) (hs : ∀ w, (Go.sizeOf e).run P w = .ok (GoT.cells α) w) (hz : ∀ w, (zeroValue e).run P w = .ok zv w)
  (hv : evs E (parts.toList.map (·.2)) = some vs)
  (hf : Instr.fill (fun i => some (i * GoT.cells α, GoT.cells α)) ((Array.range (len * GoT.cells α)).map (zv.cells[· % zv.cells.size]!)) ((parts.toList.map (·.1)).zip vs) = some cells)
  (h0 : len * GoT.cells α ≠ 0) (hle : len * GoT.cells α ≤ 2 ^ 24) (hB : B ≤ w.heap.size) (hA : ∀ b, w.heap.size ≤ b → A b) (hr : repL A w cells.toList l) (hlen : l.length = len) (hn : Nat.blt d n.sz = true)
  (h : ∀ v w1 A1, Kp Dw w w1 → Hp B A1 w1 (obS e v l :: L) → Tr Dw B A w A1 w1 → V P n ops Q rest ((d, v) :: E) w1) :
  V P n ops Q (⟨some d, .buildSlice t len parts, ty, pos, af, none⟩ :: rest) E w := by
 have hk := Kp.alloc (Dw := Dw) w (.cells cells e)
 have hmv : Mv Dw B A w (fun b => A b ∧ b ≠ w.heap.size) (w.alloc (.cells cells e)) none :=
  ⟨hk.os, hk.tape, hk.output, hk.size, hk.dr, fun k h _ => hk.block k h, (fun k h => by cases h), fun k h => h.1, fun k hk ha => ⟨ha, by omega⟩, fun b hb => ⟨hA b (Nat.le_trans hk.size hb), by
   have : w.heap.size < (w.alloc (.cells cells e)).heap.size := (Array.getElem?_eq_some_iff.1 (heap_alloc_new w (.cells cells e))).1
   omega⟩⟩
 have hlen2 : l.length ≤ maxLen := by
  have h1 : 1 ≤ GoT.cells α := Nat.one_le_iff_ne_zero.2 fun h => h0 (by rw [h, Nat.mul_zero])
  have h2 : len ≤ len * GoT.cells α := Nat.le_mul_of_pos_right _ h1
  rw [hlen]
  exact Nat.le_trans (Nat.le_trans h2 hle) (by decide)
 subst hlen
 refine V_y (w' := w.alloc (.cells cells e)) (v := .slice (some ⟨w.heap.size, 0, none⟩) l.length l.length) (fun a hA' => ?_) rfl rfl hn (h _ _ _ hk (hH.new hmv hB (Ow.owp (α := α) (.inr ⟨w.heap.size, l.length, cells, cells.toList, rfl, hB, fun h => h.2 rfl, heap_alloc_new w _, Nat.le_refl _, hlen2, by have := hr.len; simpa using this, hr.keep hmv.ex, List.take_of_length_le (by have := hr.len; simp at this ⊢; omega)⟩)) fun b hb => ⟨?_, ?_⟩) (hmv.tr hB))
 ·have hp : (parts.map fun (i, x) => (i, a.eval x)).toList = (parts.toList.map (·.1)).zip vs := by
   rw [← hA'.evals hv]
   simp only [Array.toList_map]
   generalize parts.toList = ps
   induction ps with
   | nil => rfl
   | cons p r ih => obtain ⟨i, x⟩ := p; simp [ih]
  simp only [execOp, Instr.buildSlice]
  rw [hp]
  simp [underlying, ht, hs, hz, h0, Nat.not_lt.2 hle, hf, newRow]
 ·simp [Value.ownBlock] at hb; omega
 ·simp [Value.ownBlock] at hb; subst hb; exact fun h => h.2 rfl
end
section
variable {B B1 : Nat} {A A1 : Nat → Prop} {w w1 : World} {L L1 : List Ob} {i j b : Nat} {cs : List Value} {t : TypeId}
end
section
variable {P : Program} {n : Fr} {ops : Array Oper} {Q : Exit → Act → World → Prop} {E : Env} {w : World} {rest : List Oper} {v u : Value} {d : Nat}
variable {ty t e : TypeId} {pos : String} {af : Array Edge} {x y z : Operand} {A : Nat → Prop} {α : Type} [GoT α] {B : Nat} {L : List Ob} {i : Nat}
end
end Go.Gw
