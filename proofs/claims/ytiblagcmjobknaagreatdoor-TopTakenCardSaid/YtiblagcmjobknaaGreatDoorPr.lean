import Derived.Test.YtiblagcmjobknaaGreatDoorPu
namespace Go.Pu
open Go
def ZI {α : Type} (cmp : α → α → Option Int) (x y : α) : Bool := match cmp x y with
 | some c => decide (c < 0)
 | none => false
structure zdf {α : Type} (cmp : α → α → Option Int) (l : List α) : Prop where
 len : l.length < 4611686018427387904
 says : ∀ x ∈ l, ∀ y ∈ l, ∃ c, cmp x y = some c
 irrefl : ∀ x ∈ l, ZI cmp x x = false
 trans : ∀ x ∈ l, ∀ y ∈ l, ∀ z ∈ l, ZI cmp x y = true → ZI cmp y z = true → ZI cmp x z = true
 ntrans : ∀ x ∈ l, ∀ y ∈ l, ∀ z ∈ l, ZI cmp x y = false → ZI cmp y z = false → ZI cmp x z = false
 total : ∀ x ∈ l, ∀ y ∈ l, ZI cmp x y = false → ZI cmp y x = false → x = y
open Classical in
noncomputable def Qr {α : Type} (cmp : α → α → Option Int) (l : List α) : Option (List α) := if zdf cmp l then some (l.mergeSort fun x y => !(ZI cmp y x)) else none
theorem zdm {α : Type} {cmp : α → α → Option Int} {l r : List α} (h : Qr cmp l = some r) : zdf cmp l ∧ r = l.mergeSort fun x y => !(ZI cmp y x) := by
 unfold Qr at h
 split at h
 ·rename_i h1
  exact ⟨h1, (Option.some.inj h).symm⟩
 ·cases h
def bytesOf (l : List ByteArray) : List (List UInt8) := l.map (·.data.toList)
def strsOf (l : List (List UInt8)) : List ByteArray := l.map fun b => ⟨b.toArray⟩
end Go.Pu
