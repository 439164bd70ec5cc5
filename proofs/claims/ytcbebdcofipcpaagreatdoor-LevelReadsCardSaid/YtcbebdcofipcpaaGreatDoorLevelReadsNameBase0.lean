/-
  Texts and their bytes, Trim.
-/
import Derived.Test.YtcbebdcofipcpaaGreatDoorLevelReadsM
import Derived.Test.YtcbebdcofipcpaaGreatDoorPl
import Derived.Lib.SlTrimSet
import Derived.KernelRfl
namespace Go.Proofs.YtcbebdcofipcpaaGreatDoor.M
open Go Go.Pu
set_option linter.unusedSimpArgs false
set_option linter.unusedVariables false

theorem bytes_at (s : ByteArray) (k : Nat) : s[k]? = s.data.toList[k]? := by
  by_cases h : k < s.size
  · rw [getElem?_pos s k h]
    have h2 : k < s.data.toList.length := h
    rw [List.getElem?_eq_getElem h2]
    rfl
  · rw [getElem?_neg s k h, List.getElem?_eq_none (by simpa using h)]
theorem idxS_nat (s : ByteArray) (k : Nat) : idxS s (k : Int) = s.data.toList[k]? := by
  unfold idxS
  rw [if_pos (by omega), Int.toNat_natCast, bytes_at]
theorem strEq_nil (x : ByteArray) : strEq x (⟨#[]⟩ : ByteArray) = (x.data.toList == []) := by
  unfold strEq
  rw [ByteArray.toList_eq, ByteArray.toList_eq]
theorem dropWhile_nil {α : Type} (p : α → Bool) : ∀ l : List α, l.dropWhile p = [] ↔ ∀ x ∈ l, p x = true
  | [] => by simp
  | x :: l => by
    by_cases h : p x = true
    · simp [List.dropWhile, h, dropWhile_nil p l]
    · simp [List.dropWhile, h]
theorem trimS_nil (l cs : List UInt8) : Go.Lib.trimS l cs = [] ↔ ∀ x ∈ l, cs.contains x = true := by
  unfold Go.Lib.trimS Go.Lib.trimLeftS Go.Lib.trimRightS
  rw [dropWhile_nil]
  constructor
  · intro h x hx
    by_cases hc : cs.contains x = true
    · exact hc
    · have hlr : x ∈ l.reverse := by simpa using hx
      -- an element that is not cut stays
      have key : ∀ m : List UInt8, x ∈ m → x ∈ m.dropWhile (cs.contains ·) := by
        intro m
        induction m with
        | nil => intro h; cases h
        | cons y m ih =>
          intro hm
          by_cases hy : cs.contains y = true
          · rw [List.dropWhile_cons_of_pos hy]
            rcases List.mem_cons.1 hm with rfl | hm
            · exact absurd hy hc
            · exact ih hm
          · rw [List.dropWhile_cons_of_neg hy]
            exact hm
      exact h x (by simpa using key l.reverse hlr)
  · intro h x hx
    have : x ∈ l := by
      have h1 : x ∈ l.reverse.dropWhile (cs.contains ·) := by simpa using hx
      have := (List.dropWhile_sublist (cs.contains ·)).subset h1
      simpa using this
    exact h x this

end Go.Proofs.YtcbebdcofipcpaaGreatDoor.M
