/-
  Joined texts: plain part.
-/
import Derived.Test.YtkjlbaacbkdnfaaGreatDoorKnowSearchesM
import Derived.Test.YtkjlbaacbkdnfaaGreatDoorPl
import Derived.Lib.Join
namespace Go.Proofs.YtkjlbaacbkdnfaaGreatDoor.M
open Go Go.Pu
set_option linter.unusedSimpArgs false
set_option linter.unusedVariables false

def joinB (xs : List ByteArray) (sep : ByteArray) : ByteArray := ⟨(Go.Lib.join (xs.map (·.data.toList)) sep.data.toList).toArray⟩
theorem lens_le (k : Nat) : ∀ (xs : List ByteArray), (∀ x ∈ xs, x.size ≤ k) → Go.Lib.lens (xs.map (·.data.toList)) ≤ k * xs.length
  | [], _ => by simp [Go.Lib.lens]
  | x :: xs, h => by
    have h1 := lens_le k xs fun y hy => h y (List.mem_cons_of_mem _ hy)
    have h2 : x.data.toList.length ≤ k := h x (List.mem_cons_self ..)
    simp only [Go.Lib.lens, List.map_cons, List.sum_cons, List.length_cons, Nat.mul_succ] at h1 ⊢
    omega
theorem join_len (k m : Nat) (xs : List ByteArray) (sep : ByteArray) (h : ∀ x ∈ xs, x.size ≤ k) (hs : sep.size ≤ m) : (joinB xs sep).size ≤ (k + m) * xs.length := by
  show (Go.Lib.join (xs.map (·.data.toList)) sep.data.toList).toArray.size ≤ _
  rw [List.size_toArray]
  cases xs with
  | nil => simp [Go.Lib.join_nil]
  | cons x xs =>
    have h1 := lens_le k (x :: xs) h
    rw [List.map_cons, Go.Lib.join_length, ← List.map_cons (f := fun z : ByteArray => z.data.toList), List.length_map]
    have h2 : sep.data.toList.length ≤ m := hs
    have h3 : sep.data.toList.length * xs.length ≤ m * xs.length := Nat.mul_le_mul_right _ h2
    rw [Nat.add_mul]
    have h4 : m * (x :: xs).length = m * xs.length + m := by rw [List.length_cons, Nat.mul_succ]
    omega
theorem join_some (k m : Nat) (xs : List ByteArray) (sep : ByteArray) (h : ∀ x ∈ xs, x.size ≤ k) (hs : sep.size ≤ m) (hn : xs.length ≤ 100000000) (hb : (k + m) * xs.length ≤ 140737488355328) : strings_Join xs sep = some (joinB xs sep) := by
  unfold strings_Join
  rw [if_pos]
  · rfl
  refine ⟨by omega, ?_⟩
  have := join_len k m xs sep h hs
  have e : (joinB xs sep).size = (Go.Lib.join (xs.map (·.data.toList)) sep.data.toList).length   := by simp [joinB, ByteArray.size]
  omega
theorem cat_val (s t : ByteArray) (hs : s.size ≤ 1000000000000000) (ht : t.size ≤ 1000000000000000) : catS s t = some (s ++ t) ∧ (s ++ t).size = s.size + t.size := by
  constructor
  · unfold catS
    rw [if_neg]
    have : IntKind.i64.max = 9223372036854775807 := by decide
    rw [this]
    omega
  · exact ByteArray.size_append
theorem append_some {α : Type} {s t : List α} (h : s.length + t.length ≤ 8796093022208) : appendL 8796093022208 s t = some (s ++ t) := by
  unfold appendL
  rw [if_pos h]
theorem strEq_self (s : ByteArray) : strEq s s = true := by
  unfold strEq
  simp
end Go.Proofs.YtkjlbaacbkdnfaaGreatDoor.M
