import Derived.Test.YtiblagcmjobknaaGreatDoorHf
namespace Go.Gw
open Go Go.RowKit Go.Pu Go.Sort
variable {Dw : Prop}
set_option linter.unusedSimpArgs false
set_option linter.unusedVariables false
section
variable {B : Nat} {A : Nat → Prop} {w : World} {L : List Ob} {i b off : Nat} {ix : Int} {α : Type} [GoT α] {e : TypeId} {v : Value} {l : List α} {x : α}
end
section
variable {P : Program} {f : FuncId} {B : Nat} {A : Nat → Prop} {w : World} {L : List Ob} {k : Nat} {e : TypeId} {v : Value}
end
section
variable {P : Program} {n : Fr} {ops : Array Oper} {Q : Exit → Act → World → Prop} {E : Env} {w : World} {rest : List Oper} {d : Nat}
variable {ty t e : TypeId} {pos : String} {af : Array Edge} {A : Nat → Prop} {α : Type} [GoT α]
end
section
variable {B B1 : Nat} {A A1 : Nat → Prop} {w w1 : World} {L L1 : List Ob} {i j b : Nat} {cs : List Value} {t : TypeId}
end
section
variable {P : Program} {n : Fr} {ops : Array Oper} {Q : Exit → Act → World → Prop} {E : Env} {w : World} {rest : List Oper} {v u : Value} {d : Nat}
variable {ty t e : TypeId} {pos : String} {af : Array Edge} {x y z : Operand} {A : Nat → Prop} {α : Type} [GoT α] {B : Nat} {L : List Ob} {i : Nat}
theorem zjd {l m r : List α} {lim bytes : Nat} {ti : TypeInfo} {zv : Value} (hH : Hp B A w L) (hi : L[i]? = some (obS e v l)) (hm : Sl A w u m) (hr : zt lim l m = some r) (ht : P.underlying t = some (.slice e)) (hti : P.info? e = some ti) (hz : ti.zero = some zv)
  (hsize : ti.size = GoT.cells α) (hby : ti.bytes = bytes) (hzs : zv.cells.size = GoT.cells α) (hsz : GoT.cells α ≠ 0) (hlim : lim * bytes ≤ 140737488355328) (hlm : lim ≤ maxLen) (hB : B ≤ w.heap.size) (hA : ∀ b, w.heap.size ≤ b → A b)
  (hx : ev E x = some v) (hy : ev E y = some u) (hn : Nat.blt d n.sz = true)
  (h : ∀ v' w1 A1, Hp B A1 w1 (L.set i (obS e v' r)) → Tr Dw B A w A1 w1 → (w.heap.size ≤ w1.heap.size ∧ ∀ k, k < w.heap.size → some k ≠ v.ownBlock → w1.heap[k]? = w.heap[k]?) → V P n ops Q rest ((d, v') :: E) w1) :
  V P n ops Q (⟨some d, .call ⟨.builtin .append, #[x, y], #[t, t]⟩, ty, pos, af, none⟩ :: rest) E w := by
 obtain ⟨f, hp, hb, hset⟩ := hH.at hi
 have hf := OwP.fp hp
 refine zhT (OwP.ow hp hb) hm hr ht hti hz hsize hby hzs hsz hlim hlm hB hA hx hy hn fun v' w1 A1 ho mv hpr => h v' w1 A1 (hset A1 w1 v.ownBlock _ _ mv (fun k hk => by rw [hf, hk]; simp) ho.owp fun b hb => ⟨?_, ho.off b hb⟩) (mv.tr hB) ⟨(mv.tr hB).ex.size, fun k hk hne => mv.blk k hk hne⟩
 have hb' : v'.ownBlock = some b := by simpa using hb
 rw [hf]
 rcases hpr b hb' with h1 | h1
 ·exact .inl (by rw [h1]; simp)
 ·exact .inr h1
end
end Go.Gw
