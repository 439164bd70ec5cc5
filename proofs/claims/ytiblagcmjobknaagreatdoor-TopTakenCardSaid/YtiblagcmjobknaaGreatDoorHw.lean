import Derived.Test.YtiblagcmjobknaaGreatDoorHq
import Derived.Test.YtiblagcmjobknaaGreatDoorGp
namespace Go.Gw
open Go Go.RowKit Go.Pu
variable {Dw : Prop}
set_option linter.unusedSimpArgs false
set_option linter.unusedVariables false
section steps
variable {P : Program} {n : Fr} {ops : Array Oper} {Q : Exit → Act → World → Prop} {E : Env} {w : World} {rest : List Oper} {d : Nat}
variable {ty t t2 e : TypeId} {pos : String} {af : Array Edge} {x y z : Operand} {A : Nat → Prop} {ρd : Option Nat} {gd : Option (Nat × Bool)} {B : Nat} {L : List Ob} {i : Nat}
theorem zlu {k : IntKind} {sz : Nat} (ht : P.underlying t = some (.slice e)) (hs : ∀ w, (Go.sizeOf e).run P w = .ok sz w)
  (hx : ev E x = some (.slice none 0 0)) (hz : ev E z = some (.int k 0)) : Y P n E ⟨ρd, .slice t x none (some z) none, ty, pos, af, gd⟩ w (.slice none 0 0) w := by
 intro a hA
 simp [execOp, hA.eval hx, hA.eval hz, Instr.sliceAt, Instr.slice, Instr.sliceBounds, Instr.sliceBound, asIntOf, underlying, ht, hs, Addr.add]
theorem ziX {kn : IntKind} {k size bytes : Nat} {ti : TypeInfo} {zv : Value} (hH : Hp B A w L) (ht : P.underlying t = some (.slice e)) (htn : P.underlying t2 = some (.int kn)) (hti : P.info? e = some ti) (hz : ti.zero = some zv)
  (hsize : ti.size = size) (hby : ti.bytes = bytes) (hzs : zv.cells.size = size) (h0 : 0 < size) (hk : 0 < k) (h63 : k ≤ maxLen) (hlim : k * bytes ≤ 140737488355328)
  (hB : B ≤ w.heap.size) (hA : ∀ b, w.heap.size ≤ b → A b) (hx : ev E x = some (.slice none 0 0)) (hy : ev E y = some (.int .i64 (k : Int))) (hn : Nat.blt d n.sz = true)
  (h : ∀ g2 cap2 row w1 A1, Hp B A1 w1 (obO g2 (.cells row e (0, 0)) :: L) → Tr Dw B A w A1 w1 → k ≤ cap2 → cap2 ≤ maxLen → row.size = cap2 * size → V P n ops Q rest ((d, .slice (some ⟨g2, 0, none⟩) k cap2) :: E) w1) :
  V P n ops Q (⟨some d, .call ⟨.builtin .append, #[x, y], #[t, t2]⟩, ty, pos, af, none⟩ :: rest) E w := by
 subst hsize
 subst hby
 have hsmall : ((0 + k : Nat) : Int) ≤ 9223372036854775807 := by simp only [maxLen] at h63; omega
 have hhold : (Builtin.firstCells ti.size 0 (.slice none 0 0)).run P w.drew = .ok ([] : List Value).toArray w.drew := by
  simp [Builtin.firstCells]
 have h48 : k * ti.bytes ≤ 281474976710656 := by omega
 have hrun := Go.Lib.run_append_grow_zeros (P := P) w t t2 ty e ti zv .i64 kn ht htn hti hz none 0 0 [] hhold k hk h0 (by omega) hsmall h48 (growslice_fits (by omega) (by simpa using hlim))
 have hge := grownCap_ge w (0 + k) 0 e
 have hcm : grownCap w (0 + k) 0 e ≤ maxLen := grownCap_le_maxLen w (0 + k) 0 e (by omega)
 generalize grownCap w (0 + k) 0 e = cap2 at hrun hge hcm
 rw [Nat.zero_add] at hrun hge
 have hmv : Mv Dw B A w (fun b => A b ∧ b ≠ w.heap.size) (w.drew.alloc (.cells (([] : List Value).toArray ++ Builtin.zeroCells zv.cells k ++ Builtin.zeroCells zv.cells (cap2 - k)) e)) none := by
  have hk := Kp.alloc (Dw := Dw) w.drew (.cells (([] : List Value).toArray ++ Builtin.zeroCells zv.cells k ++ Builtin.zeroCells zv.cells (cap2 - k)) e)
  exact ⟨hk.os, hk.tape, hk.output, hk.size, fun hd => Nat.le_trans (Nat.le_succ _) (hk.dr hd), fun j hj _ => hk.block j hj, (fun j hj => by cases hj), fun j hj => hj.1, fun j hj ha => ⟨ha, by omega⟩, fun b hb => ⟨hA b (Nat.le_trans hk.size hb), by
   have h1 : w.drew.heap.size < (w.drew.alloc (.cells (([] : List Value).toArray ++ Builtin.zeroCells zv.cells k ++ Builtin.zeroCells zv.cells (cap2 - k)) e)).heap.size := (Array.getElem?_eq_some_iff.1 (heap_alloc_new w.drew _)).1
   have h2 : w.drew.heap.size = w.heap.size := rfl
   omega⟩⟩
 refine V_y (w' := _) (v := .slice (some ⟨w.heap.size, 0, none⟩) k cap2) (fun ac hA' => ?_) rfl rfl hn (h w.heap.size cap2 (([] : List Value).toArray ++ Builtin.zeroCells zv.cells k ++ Builtin.zeroCells zv.cells (cap2 - k)) _ _ (hH.new hmv hB (f' := [w.heap.size]) ⟨rfl, heap_alloc_new w.drew _⟩ fun b hb => by simp at hb; subst hb; exact ⟨Nat.le_refl _, fun h => h.2 rfl⟩) (hmv.tr hB) hge hcm ?_)
 ·simp only [execOp, resolve, invoke, builtin, List.map_toArray, List.map_cons, List.map_nil, hA'.eval hx, hA'.eval hy]
  simp [hrun]
 ·simp only [Array.size_append, List.size_toArray, size_zeroCells, hzs, List.length_nil, Nat.zero_add, ← Nat.add_mul]
  congr 1
  omega
end steps
section
variable {P : Program} {n : Fr} {E : Env} {w : World} {v : Value} {ρd : Option Nat} {ty t e : TypeId} {pos : String} {af : Array Edge} {g : Option (Nat × Bool)} {x y : Operand} {A : Nat → Prop}
variable {α : Type} [GoT α]
end
end Go.Gw
