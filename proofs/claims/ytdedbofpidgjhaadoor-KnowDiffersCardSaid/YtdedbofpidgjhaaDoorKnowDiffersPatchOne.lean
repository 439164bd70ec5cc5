/-
  The lines of a body as both sides take them: plain part.
-/
import Derived.Test.YtdedbofpidgjhaaDoorKnowDiffersPatchBase
namespace Go.Proofs.YtdedbofpidgjhaaDoor.M
open Go Go.Pu
set_option linter.unusedSimpArgs false
set_option linter.unusedVariables false

abbrev dat (s : ByteArray) : List UInt8 := s.data.toList
theorem size_dat (s : ByteArray) : s.size = (dat s).length := by
  show s.data.size = s.data.toList.length
  simp
theorem strEq_nil (x : ByteArray) : strEq x (⟨#[]⟩ : ByteArray) = (dat x == []) := by
  unfold strEq
  rw [ByteArray.toList_eq, ByteArray.toList_eq]
theorem sliceL_take {α : Type} (l : List α) (k : Nat) (h : k ≤ l.length) : sliceL l none (some (k : Int)) = some (l.take k) := by
  unfold sliceL bounds
  simp
  omega
theorem cutL_len : ∀ l, (cutL l).length ≤ l.length + 1
  | [] => by simp [cutL]
  | b :: l => by
    have ih := cutL_len l
    unfold cutL
    split
    · simp; omega
    · cases h : cutL l with
      | nil => simp
      | cons x r => rw [h] at ih; simp at ih ⊢; omega
theorem after_val (s : ByteArray) (h : s.size ≤ 4000000000) : ∃ l, strings_SplitAfter s (⟨#[10]⟩ : ByteArray) = some l ∧ l.map dat = cutL (dat s) := by
  unfold strings_SplitAfter strings_genSplit
  have z : (⟨#[10]⟩ : ByteArray).size = 1 := rfl
  rw [if_pos ⟨by omega, by omega, by omega, by omega, rfl⟩]
  refine ⟨_, rfl, ?_⟩
  rw [Go.Lib.splitB_data]
  have hc := Go.Lib.countB_le (⟨#[10]⟩ : ByteArray) (by decide) s.size s (Nat.le_refl _)
  rw [show min (Go.Lib.countB s (⟨#[10]⟩ : ByteArray) + 1) (s.size + 1) - 1 = Go.Lib.countB s (⟨#[10]⟩ : ByteArray) by omega]
  exact splitK_cut _ _ (Nat.le_refl _)
theorem lines_val (s : ByteArray) (h : s.size ≤ 4000000000) : ∃ l, know_lines s = some l ∧ l.map dat = linesL (dat s) := by
  obtain ⟨l, h1, h2⟩ := after_val s h
  have hne : l ≠ [] := fun e => cutL_ne (dat s) (by rw [← h2, e]; rfl)
  have hl : 0 < l.length := List.length_pos_iff.2 hne
  have hlen : l.length ≤ s.size + 1 := by
    have := cutL_len (dat s)
    rw [← h2, List.length_map, ← size_dat] at this
    exact this
  have hw : w64 ((l.length : Int) - 1) = ((l.length - 1 : Nat) : Int) := by rw [w64_id (by omega) (by omega)]; omega
  have hx : l[l.length - 1]? = some l[l.length - 1] := List.getElem?_eq_getElem (by omega)
  have hg : (cutL (dat s)).getLast? = some (dat l[l.length - 1]) := by
    rw [← h2, List.getLast?_map, List.getLast?_eq_getElem?, hx]
    rfl
  unfold know_lines
  simp only [h1, Option.bind_some, hw, idx_nat, hx, sliceL_take l (l.length - 1) (by omega), strEq_nil]
  unfold linesL
  rw [hg]
  by_cases hd : dat l[l.length - 1] = []
  · rw [if_pos (by rw [hd]; rfl), if_pos (by rw [hd])]
    refine ⟨_, rfl, ?_⟩
    rw [← h2, List.dropLast_eq_take, List.map_take, List.length_map]
  · rw [if_neg (by simpa using hd), if_neg (by simpa using hd)]
    exact ⟨_, rfl, h2⟩
theorem lines_same (s : ByteArray) : portref2_bodyLines s = know_lines s := rfl
theorem fault_same (s : ByteArray) : portref2_bodyFault s = know_checkBody s := rfl

theorem body_ok (s : ByteArray) (h : s.size ≤ 4000000000) : ∃ x8, know_lines s = some x8 ∧ x8.map dat = linesL (dat s) ∧ know_checkBody s = some (if 20000 < s.size ∨ 2000 < x8.length then 4 else 0) := by
  obtain ⟨x8, h1, h2⟩ := lines_val s h
  refine ⟨x8, h1, h2, ?_⟩
  unfold know_checkBody
  rw [h1]
  by_cases c1 : 20000 < s.size
  · rw [if_pos (by rw [decide_eq_true_eq]; omega), if_pos (.inl c1)]
    rfl
  · rw [if_neg (by rw [decide_eq_true_eq]; omega)]
    simp only [Option.bind_some]
    by_cases c2 : 2000 < x8.length
    · rw [if_pos (by rw [decide_eq_true_eq]; omega), if_pos (.inr c2)]
    · rw [if_neg (by rw [decide_eq_true_eq]; omega), if_neg (by omega)]
end Go.Proofs.YtdedbofpidgjhaaDoor.M
