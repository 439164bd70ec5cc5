import Derived.Test.YtjdjmddclfhpeaaGreatDoorGz
import Derived.Test.YtjdjmddclfhpeaaGreatDoorPr
import Derived.Lib.SlicesCompact
import Derived.Lib.RowBridge
import Derived.Sort.Grow
namespace Go.Gw
open Go Go.RowKit Go.Pu Go.Sort
variable {Dw : Prop}
set_option linter.unusedSimpArgs false
set_option linter.unusedVariables false
section
variable {α β : Type} [Inhabited β]
theorem putCells_pre (enc : β → Value) (d : List β) (c : Array Value) (m : Nat) (hm : m ≤ d.length) (h : d.length ≤ c.size) : (putCells enc 0 d.toArray c).toList.take m = (d.take m).map enc := by
 have h1 := congrArg (List.take m) (putCells_take enc d c h)
 rw [List.take_take, Nat.min_eq_left hm, ← List.map_take] at h1
 exact h1
end
theorem repL_str {A : Nat → Prop} {w : World} : ∀ {l : List ByteArray} {cs : List Value}, repL A w cs l ↔ cs = l.map Value.string
 | [], cs => Iff.rfl
 | x :: l, cs => by
  constructor
  ·rintro ⟨c1, c2, rfl, h1, h2⟩
   rw [repL_str.1 h2, show c1 = [.string x] from h1]; rfl
  ·rintro rfl
   exact ⟨[.string x], l.map Value.string, rfl, rfl, repL_str.2 rfl⟩
section
variable {P : Program} {f : FuncId} {B : Nat} {A : Nat → Prop} {w : World} {L : List Ob} {i : Nat} {e : TypeId} {v : Value} {α : Type} [GoT α] {β : Type} [Inhabited β]
theorem set_self_ob {o : Ob} (hi : L[i]? = some o) : L.set i o = L := by
 apply List.ext_getElem?
 intro k
 rw [List.getElem?_set]
 split
 ·rename_i hk
  subst hk
  split
  ·exact hi.symm
  ·rename_i hk2
   rw [List.getElem?_eq_none (by omega)] at hi
   cases hi
 ·rfl
theorem Hp.putRow {l r : List α} {g cap : Nat} {zs : List β} {enc : β → Value} {q : Nat} {os : Array Obj} {m : Nat} (hcells : GoT.cells α = 1) (hH : Hp B A w L) (hi : L[i]? = some (obS e (.slice (some ⟨g, 0, none⟩) l.length cap) l)) (hB : B ≤ w.heap.size) (hA : ∀ b, w.heap.size ≤ b → A b) (hl : zs.length = l.length) (hm : m ≤ zs.length) (hr : r.length = m)
  (hrep : ∀ (A' : Nat → Prop) (w' : World), Ex A w A' w' → repL A' w' ((zs.take m).map enc) r) :
  Hp B A (grow (Go.Sort.putRow enc (Go.Sort.ahead w q) g 0 zs.toArray) os) (L.set i (obS e (.slice (some ⟨g, 0, none⟩) m cap) r)) ∧ Tr Dw B A w A (grow (Go.Sort.putRow enc (Go.Sort.ahead w q) g 0 zs.toArray) os) := by
 obtain ⟨fs, hp, hb, hset⟩ := hH.at hi
 rcases hp with ⟨hv, _⟩ | ⟨g', cap', cur, cs, hv, rfl, h4, h5, h6, h7, h8, h9⟩
 ·cases hv
 simp only [Value.slice.injEq, Option.some.injEq, Addr.mk.injEq, and_true] at hv
 obtain ⟨rfl, _, rfl⟩ := hv
 have hin := (Array.getElem?_eq_some_iff.1 h4).1
 rw [hcells, Nat.mul_one] at h7 h9
 have hnew : (grow (Go.Sort.putRow enc (Go.Sort.ahead w q) g 0 zs.toArray) os).heap[g]? = some (.cells (putCells enc 0 zs.toArray cur) e (0, 0)) := by
  rw [heap_grow_old _ _ (by simpa [Go.Sort.putRow, mapBlock, Go.Sort.ahead] using hin)]
  simp only [Go.Sort.putRow, mapBlock, Go.Sort.ahead, Array.getElem?_modify, if_pos rfl, h4]
  rfl
 have hmv : Mv Dw B A w A (grow (Go.Sort.putRow enc (Go.Sort.ahead w q) g 0 zs.toArray) os) (some g) := by
  refine ⟨rfl, rfl, rfl, by simp [Go.Sort.putRow, mapBlock, Go.Sort.ahead, grow], fun _ => Nat.le_add_right _ _, fun k hk hne => ?_, fun k hk => by cases hk; exact ⟨(hb g (by simp)).1, (hb g (by simp)).2.2⟩, fun _ h => h, fun _ _ h => h, fun b hb' => hA b (Nat.le_trans (by simp [Go.Sort.putRow, mapBlock, Go.Sort.ahead, grow]) hb')⟩
  rw [heap_grow_old _ _ (by simpa [Go.Sort.putRow, mapBlock, Go.Sort.ahead] using hk)]
  simp only [Go.Sort.putRow, mapBlock, Go.Sort.ahead, Array.getElem?_modify]
  rw [if_neg (fun h => hne (by rw [h]))]
 refine ⟨hset A _ (some g) (obS e (.slice (some ⟨g, 0, none⟩) m cap) r) [g] hmv (fun k hk => by cases hk; simp) ?_ fun b hb' => ⟨.inl hb', (hb b hb').1, (hb b hb').2.2⟩, hmv.tr hB⟩
 refine .inr ⟨g, cap, _, (zs.take m).map enc, by rw [hr], rfl, hnew, by omega, h6, by rw [hcells, Nat.mul_one]; simpa [putCells] using h7, hrep _ _ hmv.ex, ?_⟩
 rw [hcells, Nat.mul_one, hr]
 exact putCells_pre enc zs cur m hm (by omega)
theorem Hp.sortStrs {l r : List ByteArray} {enc : List UInt8 → Value} (henc : ∀ b, enc b = .string ⟨b.toArray⟩)
  (h0 : ∀ (a : Option Addr) (c : Nat) (w : World), Calls P f #[.slice a 0 c] w fun e w' => e = .returned (.tuple #[]) ∧ w' = w)
  (h1 : ∀ (blk off cap : Nat) (ss : List (List UInt8)) (w : World), Holds enc w blk off ss.toArray → blk < w.heap.size → ss.length < 4611686018427387904 →
   Calls P f #[.slice (some ⟨blk, off, none⟩) ss.length cap] w fun e w' => e = .returned (.tuple #[]) ∧ ∃ n os, w' = grow (Go.Sort.putRow enc (Go.Sort.ahead w n) blk off (ss.mergeSort fun x y => decide (x ≤ y)).toArray) os)
  (hH : Hp B A w L) (hi : L[i]? = some (obS (α := ByteArray) e v l)) (hB : B ≤ w.heap.size) (hA : ∀ b, w.heap.size ≤ b → A b) (hr : (if l.length < 4611686018427387904 then some (strsOf ((bytesOf l).mergeSort fun x y => decide (x ≤ y))) else none) = some r) :
  Ret P f #[v] w fun u w' => u = .tuple #[] ∧ Hp B A w' (L.set i (obS e v r)) ∧ Tr Dw B A w A w' := by
 split at hr
 case isFalse => cases hr
 rename_i hsz
 cases hr
 obtain ⟨fs, hp, hb, hset⟩ := hH.at hi
 by_cases hl0 : l = []
 ·subst hl0
  have hv : ∃ p c, v = .slice p 0 c := by
   rcases hp with ⟨rfl, _, _⟩ | ⟨q, cap, cur, cs, rfl, _⟩
   ·exact ⟨_, _, rfl⟩
   ·exact ⟨_, _, rfl⟩
  obtain ⟨p, c, rfl⟩ := hv
  refine Calls.mono (h0 p c w) ?_
  rintro _ _ ⟨rfl, rfl⟩
  have e0 : strsOf ((bytesOf []).mergeSort fun x y => decide (x ≤ y)) = [] := by unfold bytesOf; rw [List.map_nil, List.mergeSort_nil]; rfl
  rw [e0]
  exact ⟨_, rfl, rfl, by rw [set_self_ob hi]; exact hH, .refl hA⟩
 rcases hp with ⟨_, rfl, _⟩ | ⟨g, cap, cur, cs, rfl, rfl, h4, h5, h6, h7, h8, h9⟩
 ·exact absurd rfl hl0
 have hc1 : GoT.cells ByteArray = 1 := rfl
 rw [hc1, Nat.mul_one] at h7 h9
 have hcs := repL_str.1 h8
 have hin := (Array.getElem?_eq_some_iff.1 h4).1
 have hbl : (bytesOf l).length = l.length := by simp [bytesOf]
 have hHolds : Holds enc w g 0 (bytesOf l).toArray := by
  intro j hj
  simp [bytesOf] at hj
  constructor
  ·simp only [World.cell?, h4, Nat.zero_add]
   have : (cur.toList.take l.length)[j]? = (l.map Value.string)[j]? := by rw [h9, hcs]
   rw [List.getElem?_take, if_pos hj, List.getElem?_map, List.getElem?_eq_getElem hj] at this
   simpa [hj, henc, bytesOf] using this
  ·simp [World.frozen?, h4]
 have hcall := h1 g 0 cap (bytesOf l) w hHolds hin (by rw [hbl]; exact hsz)
 rw [hbl] at hcall
 refine Calls.mono hcall ?_
 rintro _ _ ⟨rfl, q, os, rfl⟩
 refine ⟨_, rfl, rfl, ?_⟩
 have hlen : ((bytesOf l).mergeSort fun x y => decide (x ≤ y)).length = l.length := by rw [List.length_mergeSort, hbl]
 have := Hp.putRow (Dw := Dw) (α := ByteArray) (r := strsOf ((bytesOf l).mergeSort fun x y => decide (x ≤ y))) (zs := (bytesOf l).mergeSort fun x y => decide (x ≤ y)) (enc := enc) (q := q) (os := os) (m := l.length) rfl hH hi hB hA hlen (by omega) (by simp [strsOf, hlen]) (fun A' w' _ => by
  rw [List.take_of_length_le (by omega)]
  refine repL_str.2 ?_
  unfold strsOf
  rw [List.map_map]
  exact List.map_congr_left fun b _ => henc b)
 exact this
end
end Go.Gw
