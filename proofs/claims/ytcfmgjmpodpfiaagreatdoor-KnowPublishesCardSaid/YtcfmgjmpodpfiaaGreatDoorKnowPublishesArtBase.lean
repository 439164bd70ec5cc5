/-
  Bodies: their lines, their bytes: plain part.
-/
import Derived.Test.YtcfmgjmpodpfiaaGreatDoorKnowPublishesM
import Derived.Test.YtcfmgjmpodpfiaaGreatDoorPl
import Derived.Lib.SplitLaws
import Derived.Lib.IndexLaws
import Derived.Lib.IndexBytes
namespace Go.Proofs.YtcfmgjmpodpfiaaGreatDoor.M
open Go Go.Pu
set_option linter.unusedSimpArgs false
set_option linter.unusedVariables false

theorem bytes_at (s : ByteArray) (k : Nat) : s[k]? = s.data.toList[k]? := by
  by_cases h : k < s.size
  · rw [getElem?_pos s k h]
    have h2 : k < s.data.toList.length := h
    rw [List.getElem?_eq_getElem h2]
    rfl
  · rw [getElem?_neg s k h, List.getElem?_eq_none (by simpa using h)]
theorem idxS_nat (s : ByteArray) (k : Nat) : idxS s (k : Int) = s.data.toList[k]? := by
  unfold idxS
  rw [if_pos (by omega), Int.toNat_natCast, bytes_at]
def lowb (b : UInt8) : Bool := decide ((b.toNat : Int) < 32) || ((b.toNat : Int) == 127)

/-! the lines -/
theorem splitB_ne (sep : ByteArray) (save : Nat) : ∀ (k : Nat) (s : ByteArray), Go.Lib.splitB sep save k s ≠ []
  | 0, s => by simp [Go.Lib.splitB]
  | k + 1, s => by unfold Go.Lib.splitB; split <;> simp
theorem after_some (s : ByteArray) (h : s.size ≤ 4000000000) : ∃ l, strings_SplitAfter s (⟨#[10]⟩ : ByteArray) = some l ∧ l ≠ [] ∧ l.length ≤ s.size + 2 := by
  unfold strings_SplitAfter strings_genSplit
  have z : (⟨#[10]⟩ : ByteArray).size = 1 := rfl
  rw [if_pos ⟨by omega, by omega, by omega, by omega, rfl⟩]
  refine ⟨_, rfl, splitB_ne _ _ _ _, ?_⟩
  have := Go.Lib.splitB_length_le (⟨#[10]⟩ : ByteArray) (((⟨#[10]⟩ : ByteArray).size : Int)).toNat (min (Go.Lib.countB s (⟨#[10]⟩ : ByteArray) + 1) (s.size + 1) - 1) s
  omega
theorem sliceL_take {α : Type} (l : List α) (k : Nat) (h : k ≤ l.length) : sliceL l none (some (k : Int)) = some (l.take k) := by
  unfold sliceL bounds
  simp
  omega
theorem lines_some (s : ByteArray) (h : s.size ≤ 4000000000) : ∃ l, know_lines s = some l ∧ portref2_bodyLines s = some l := by
  obtain ⟨l, h1, h2, h3⟩ := after_some s h
  have hl : 0 < l.length := List.length_pos_iff.2 h2
  have hw : w64 ((l.length : Int) - 1) = ((l.length - 1 : Nat) : Int) := by rw [w64_id (by omega) (by omega)]; omega
  have hx : l[l.length - 1]? = some l[l.length - 1] := List.getElem?_eq_getElem (by omega)
  unfold know_lines portref2_bodyLines
  simp only [h1, Option.bind_some, hw, idx_nat, hx, sliceL_take l (l.length - 1) (by omega)]
  split <;> exact ⟨_, rfl, rfl⟩
end Go.Proofs.YtcfmgjmpodpfiaaGreatDoor.M
