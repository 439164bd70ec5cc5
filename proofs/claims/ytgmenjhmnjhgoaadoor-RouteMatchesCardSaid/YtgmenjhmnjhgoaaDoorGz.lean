/-
  A library function that sorts a slice of the call's own: from the shelf's words (a row of cells, new blocks behind) to the own object's.
-/
import Derived.Test.YtgmenjhmnjhgoaaDoorGt
import Derived.Sort.Grow
namespace Go.Gw
open Go Go.RowKit Go.Pu Go.Sort
variable {Dw : Prop}
set_option linter.unusedSimpArgs false
set_option linter.unusedVariables false

theorem repL_int {A : Nat → Prop} {w : World} : ∀ {l : List Int} {cs : List Value}, repL A w cs l ↔ cs = l.map (Value.int .i64)
  | [], cs => Iff.rfl
  | x :: l, cs => by
    constructor
    · rintro ⟨c1, c2, rfl, h1, h2⟩
      rw [repL_int.1 h2, show c1 = [.int .i64 x] from h1]; rfl
    · rintro rfl
      exact ⟨[.int .i64 x], l.map (Value.int .i64), rfl, rfl, repL_int.2 rfl⟩

theorem putCells_take {α : Type} [Inhabited α] (enc : α → Value) (d : List α) (c : Array Value) (h : d.length ≤ c.size) : (putCells enc 0 d.toArray c).toList.take d.length = d.map enc := by
  apply List.ext_getElem?
  intro k
  rw [List.getElem?_take, List.getElem?_map]
  by_cases hk : k < d.length
  · rw [if_pos hk]
    simp only [putCells, Array.getElem?_toList, Array.getElem?_mapIdx]
    rw [Array.getElem?_eq_getElem (by omega), List.getElem?_eq_getElem hk]
    simp [hk]
  · rw [if_neg hk, List.getElem?_eq_none (by omega)]; rfl

section
variable {P : Program} {f : FuncId} {B : Nat} {A : Nat → Prop} {w : World} {L : List Ob} {i : Nat} {e : TypeId} {v : Value}

/-- slices.Sort at ints, over an own slice -/
theorem Hp.sortInts {l r : List Int}
    (h0 : ∀ w, Calls P f #[.slice none 0 0] w fun e w' => e = .returned (.tuple #[]) ∧ w' = w)
    (h1 : ∀ (blk off cap : Nat) (zs : List Int) (w : World), Holds (Value.int .i64) w blk off zs.toArray → blk < w.heap.size → zs.length < 4611686018427387904 →
      Calls P f #[.slice (some ⟨blk, off, none⟩) zs.length cap] w fun e w' => e = .returned (.tuple #[]) ∧ ∃ n os, w' = grow (putRow (Value.int .i64) (Go.Sort.ahead w n) blk off (zs.mergeSort fun x y => decide (x ≤ y)).toArray) os)
    (hH : Hp B A w L) (hi : L[i]? = some (obS (α := Int) e v l)) (hB : B ≤ w.heap.size) (hA : ∀ b, w.heap.size ≤ b → A b) (hr : (if l.length < 4611686018427387904 then some (l.mergeSort fun x y => decide (x ≤ y)) else none) = some r) :
    Ret P f #[v] w fun u w' => u = .tuple #[] ∧ Hp B A w' (L.set i (obS e v r)) ∧ Tr Dw B A w A w' := by
  split at hr
  case isFalse => cases hr
  rename_i hsz
  cases hr
  obtain ⟨fs, hp, hb, hset⟩ := hH.at hi
  rcases hp with ⟨rfl, rfl, rfl⟩ | ⟨g, cap, cur, cs, rfl, rfl, h4, h5, h6, h7, h8, h9⟩
  · refine Calls.mono (h0 w) ?_
    rintro _ _ ⟨rfl, rfl⟩
    refine ⟨_, rfl, rfl, ?_, .refl hA⟩
    rw [List.mergeSort_nil]
    have : L.set i (obS (α := Int) e (.slice none 0 0) []) = L := by
      apply List.ext_getElem?
      intro k
      rw [List.getElem?_set]
      split
      · rename_i hk
        subst hk
        split
        · exact hi.symm
        · rename_i hk2
          rw [List.getElem?_eq_none (by omega)] at hi
          cases hi
      · rfl
    rw [this]
    exact hH
  · have hin := (Array.getElem?_eq_some_iff.1 h4).1
    have hc1 : GoT.cells Int = 1 := rfl
    rw [hc1, Nat.mul_one] at h7 h9
    have hcs := repL_int.1 h8
    have hHolds : Holds (Value.int .i64) w g 0 l.toArray := by
      intro j hj
      simp at hj
      constructor
      · simp only [World.cell?, h4, Nat.zero_add]
        have : (cur.toList.take l.length)[j]? = (l.map (Value.int .i64))[j]? := by rw [h9, hcs]
        rw [List.getElem?_take, if_pos hj, List.getElem?_map, List.getElem?_eq_getElem hj] at this
        simpa [hj] using this
      · simp [World.frozen?, h4]
    refine Calls.mono (h1 g 0 cap l w hHolds hin hsz) ?_
    rintro _ _ ⟨rfl, n, os, rfl⟩
    refine ⟨_, rfl, rfl, ?_⟩
    have hlen : (l.mergeSort fun x y => decide (x ≤ y)).length = l.length := List.length_mergeSort _
    generalize (l.mergeSort fun x y => decide (x ≤ y)) = d at hlen
    have hnew : (grow (putRow (Value.int .i64) (Go.Sort.ahead w n) g 0 d.toArray) os).heap[g]? = some (.cells (putCells (Value.int .i64) 0 d.toArray cur) e (0, 0)) := by
      rw [heap_grow_old _ _ (by simpa [putRow, mapBlock, Go.Sort.ahead] using hin)]
      simp only [putRow, mapBlock, Go.Sort.ahead, Array.getElem?_modify, if_pos rfl, h4]
      rfl
    have hmv : Mv Dw B A w A (grow (putRow (Value.int .i64) (Go.Sort.ahead w n) g 0 d.toArray) os) (some g) := by
      refine ⟨rfl, rfl, rfl, by simp [putRow, mapBlock, Go.Sort.ahead, grow], fun _ => Nat.le_add_right _ _, fun k hk hne => ?_, fun k hk => by cases hk; exact ⟨(hb g (by simp)).1, (hb g (by simp)).2.2⟩, fun _ h => h, fun _ _ h => h, fun b hb' => hA b (Nat.le_trans (by simp [putRow, mapBlock, Go.Sort.ahead, grow]) hb')⟩
      rw [heap_grow_old _ _ (by simpa [putRow, mapBlock, Go.Sort.ahead] using hk)]
      simp only [putRow, mapBlock, Go.Sort.ahead, Array.getElem?_modify]
      rw [if_neg (fun h => hne (by rw [h]))]
    refine ⟨hset A _ (some g) (obS e (.slice (some ⟨g, 0, none⟩) l.length cap) d) [g] hmv (fun k hk => by cases hk; simp) ?_ fun b hb' => ⟨.inl hb', (hb b hb').1, (hb b hb').2.2⟩, hmv.tr hB⟩
    refine .inr ⟨g, cap, _, d.map (Value.int .i64), by rw [hlen], rfl, hnew, by rw [hlen]; exact h5, h6, by rw [hc1, Nat.mul_one]; simpa [putCells] using h7, repL_int.2 rfl, ?_⟩
    rw [hc1, Nat.mul_one]
    exact putCells_take _ _ _ (by rw [hlen, h7]; exact h5)
end
end Go.Gw
