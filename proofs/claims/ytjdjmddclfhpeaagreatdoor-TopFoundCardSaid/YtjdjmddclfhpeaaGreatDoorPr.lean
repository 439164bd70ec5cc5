import Derived.Test.YtjdjmddclfhpeaaGreatDoorPu
namespace Go.Pu
open Go
def cmpLt {α : Type} (cmp : α → α → Option Int) (x y : α) : Bool := match cmp x y with
 | some c => decide (c < 0)
 | none => false
structure SortOk {α : Type} (cmp : α → α → Option Int) (l : List α) : Prop where
 len : l.length < 4611686018427387904
 says : ∀ x ∈ l, ∀ y ∈ l, ∃ c, cmp x y = some c
 irrefl : ∀ x ∈ l, cmpLt cmp x x = false
 trans : ∀ x ∈ l, ∀ y ∈ l, ∀ z ∈ l, cmpLt cmp x y = true → cmpLt cmp y z = true → cmpLt cmp x z = true
 ntrans : ∀ x ∈ l, ∀ y ∈ l, ∀ z ∈ l, cmpLt cmp x y = false → cmpLt cmp y z = false → cmpLt cmp x z = false
 total : ∀ x ∈ l, ∀ y ∈ l, cmpLt cmp x y = false → cmpLt cmp y x = false → x = y
open Classical in
noncomputable def sortFuncL {α : Type} (cmp : α → α → Option Int) (l : List α) : Option (List α) := if SortOk cmp l then some (l.mergeSort fun x y => !(cmpLt cmp y x)) else none
theorem sortFuncL_some {α : Type} {cmp : α → α → Option Int} {l r : List α} (h : sortFuncL cmp l = some r) : SortOk cmp l ∧ r = l.mergeSort fun x y => !(cmpLt cmp y x) := by
 unfold sortFuncL at h
 split at h
 ·rename_i h1
  exact ⟨h1, (Option.some.inj h).symm⟩
 ·cases h
def bytesOf (l : List ByteArray) : List (List UInt8) := l.map (·.data.toList)
def strsOf (l : List (List UInt8)) : List ByteArray := l.map fun b => ⟨b.toArray⟩
theorem strsOf_bytes (l : List ByteArray) : strsOf (bytesOf l) = l := by
 unfold strsOf bytesOf
 rw [List.map_map]
 conv => rhs; rw [← List.map_id l]
 rfl
end Go.Pu
