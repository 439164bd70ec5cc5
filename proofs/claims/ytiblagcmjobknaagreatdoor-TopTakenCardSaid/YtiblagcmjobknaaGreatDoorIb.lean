import Derived.Test.YtiblagcmjobknaaGreatDoorGc
import Derived.Test.YtiblagcmjobknaaGreatDoorGv
import Derived.Test.YtiblagcmjobknaaGreatDoorHq
import Derived.Test.YtiblagcmjobknaaGreatDoorHf
namespace Go.Gw
open Go Go.RowKit Go.Pu
variable {Dw : Prop}
set_option linter.unusedSimpArgs false
set_option linter.unusedVariables false
section
variable {P : Program} {n : Fr} {ops : Array Oper} {Q : Exit → Act → World → Prop} {E : Env} {w w' : World} {rest : List Oper} {o : Oper} {v : Value}
theorem V_yn (hy : Y P n E o w v w') (hg : o.guard = none) (hd : o.dst = none) (h : V P n ops Q rest E w') : V P n ops Q (o :: rest) E w := by
 intro a ha
 refine wpListIn_plain hg fun K hK => ⟨fun _ _ => trivial, ?_⟩
 rw [Qe (hy a ha) (fun d h => by cases h), Oper.uponIn_value, hd]
 exact hK _ _ (h _ ha)
end
theorem zhb (zs : Array Value) (n : Nat) : (Builtin.zeroCells zs n).toList.length = n * zs.size := by simp [Builtin.zeroCells]
theorem zgQ {zs : Array Value} {n : Nat} (h : ∀ u ∈ zs.toList, u.oneCell' = true) : ∀ u ∈ (Builtin.zeroCells zs n).toList, u.oneCell' = true := by
 intro u hu
 simp only [Builtin.zeroCells, Array.toList_map, List.mem_map, Array.toList_range, List.mem_range] at hu
 obtain ⟨i, hi, rfl⟩ := hu
 have hz : 0 < zs.size := by
  rcases Nat.eq_zero_or_pos zs.size with e | e
  ·rw [e, Nat.mul_zero] at hi; omega
  ·exact e
 have hlt := Nat.mod_lt i hz
 rw [getElem!_pos zs (i % zs.size) hlt]
 exact h _ (by simp)
section
variable {P : Program} {nn : Fr} {ops : Array Oper} {Q : Exit → Act → World → Prop} {E : Env} {w : World} {rest : List Oper} {α : Type} [GoT α]
variable {ty t e : TypeId} {pos : String} {af : Array Edge} {x : Operand} {A : Nat → Prop} {B : Nat} {L : List Ob} {i : Nat} {l : List α}
theorem zfm {lo n c g cap : Nat} {zv : Value} (hH : Hp B A w L) (hi : L[i]? = some (obS e (.slice (some ⟨g, 0, none⟩) l.length cap) l)) (hn : lo + n = l.length) (ht : P.underlying t = some (.slice e)) (hz : ∀ w, (zeroValue e).run P w = .ok zv w)
  (hzs : zv.cells.size = GoT.cells α) (h1 : ∀ u ∈ zv.cells.toList, u.oneCell' = true) (hB : B ≤ w.heap.size) (hA : ∀ b, w.heap.size ≤ b → A b) (hx : ev E x = some (.slice (some ⟨g, lo * GoT.cells α, none⟩) n c))
  (h : ∀ w1, Hp B A w1 (L.set i (obS e (.slice (some ⟨g, 0, none⟩) lo cap) (l.take lo))) → Tr Dw B A w A w1 → V P nn ops Q rest E w1) : V P nn ops Q (⟨none, .call ⟨.builtin .clear, #[x], #[t]⟩, ty, pos, af, none⟩ :: rest) E w := by
 obtain ⟨f, hp, hb, hset⟩ := hH.at hi
 rcases hp with ⟨hv, _, _⟩ | ⟨g', cap', cur, cs, hv, rfl, h4, h5, h6, h7, h8, h9⟩
 ·cases hv
 simp only [Value.slice.injEq, Option.some.injEq, Addr.mk.injEq, and_true] at hv
 obtain ⟨rfl, _, rfl⟩ := hv
 have hb0 := hb g (by simp)
 have htl : (l.take lo).length = lo := by rw [List.length_take]; omega
 have hk : lo * GoT.cells α ≤ l.length * GoT.cells α := Nat.mul_le_mul_right _ (by omega)
 have hcap : l.length * GoT.cells α ≤ cur.size := by rw [h7]; exact Nat.mul_le_mul_right _ h5
 have hr1 : repL A w (cs.take (lo * GoT.cells α)) (l.take lo) := zcq lo h8
 have htake : cur.toList.take (lo * GoT.cells α) = cs.take (lo * GoT.cells α) := by rw [← h9, List.take_take, Nat.min_eq_left hk]
 by_cases hn0 : n = 0
 ·subst hn0
  refine V_yn (w' := w) (v := .tuple #[]) (fun a hA' => ?_) rfl rfl (h _ ?_ (.refl hA))
  ·simp only [execOp, resolve, invoke, builtin, List.map_toArray, List.map_cons, List.map_nil, hA'.eval hx]
   simp [Builtin.clear_, run_underlying ht]
  ·have e1 : lo = l.length := by omega
   subst e1
   rw [List.take_length, ziq hi]
   exact hH
 have hsum : lo * GoT.cells α + n * GoT.cells α = l.length * GoT.cells α := by rw [← Nat.add_mul, hn]
 have hzl := zhb zv.cells n
 rw [hzs] at hzl
 have hst := run_storeCells_at P g (lo * GoT.cells α) e (Builtin.zeroCells zv.cells n).toList 0 cur w h4 (by rw [Nat.add_zero, hzl]; omega) (zgQ h1)
 rw [Nat.add_zero] at hst
 generalize hrow : (cur.toList.take (lo * GoT.cells α) ++ (Builtin.zeroCells zv.cells n).toList ++ cur.toList.drop (lo * GoT.cells α + (Builtin.zeroCells zv.cells n).toList.length)).toArray = row at hst
 have hrs : row.size = cap * GoT.cells α := by
  rw [← hrow, ← h7]
  simp only [List.size_toArray, List.length_append, List.length_take, List.length_drop, Array.length_toList, hzl]
  omega
 have hmv : Mv Dw B A w A (w.setRow g row) (some g) :=
  ⟨rfl, rfl, rfl, by simp, fun _ => Nat.le_refl _, fun k hk hne => setRow_other w g k _ (fun e => hne (by rw [e])), fun k hk => by cases hk; exact ⟨hb0.1, hb0.2.2⟩, fun _ h => h, fun _ _ h => h, fun b' hb' => hA b' (by simpa using hb')⟩
 refine V_yn (w' := w.setRow g row) (v := .tuple #[]) (fun a hA' => ?_) rfl rfl (h _ (hset A _ (some g) _ [g] hmv (fun k hk => by cases hk; simp) (.inr ⟨g, cap, row, _, by rw [htl], rfl, setRow_heap w g cur _ e _ h4, by rw [htl]; omega, h6, hrs, hr1.keep hmv.ex, ?_⟩) fun b' hb' => ⟨.inl hb', (hb b' hb').1, (hb b' hb').2.2⟩) (hmv.tr hB))
 ·simp only [execOp, resolve, invoke, builtin, List.map_toArray, List.map_cons, List.map_nil, hA'.eval hx]
  cases n with
  | zero => exact absurd rfl hn0
  | succ n => simp [Builtin.clear_, run_underlying ht, hz, hst]
 ·rw [htl, ← htake, ← hrow]
  simp only [List.append_assoc]
  rw [List.take_append_of_le_length (by rw [List.length_take, Array.length_toList]; omega), List.take_take, Nat.min_self]
end
def clearCut_ {α : Type} (l : List α) (lo : Int) : Option (List α) := if 0 ≤ lo ∧ lo < (l.length : Int) then some (l.take lo.toNat) else none
section
variable {P : Program} {nn : Fr} {ops : Array Oper} {Q : Exit → Act → World → Prop} {E : Env} {w : World} {rest : List Oper} {α : Type} [GoT α] {d : Nat}
variable {ty t ty2 e : TypeId} {pos pos2 : String} {af af2 : Array Edge} {x y z : Operand} {A : Nat → Prop} {B : Nat} {L : List Ob} {i : Nat} {l r : List α} {v : Value}
end
end Go.Gw
