/-
  What the checks say of loads: plain part.
-/
import Derived.Test.YtbmbgmeggeemcaaDoorStaffFormulasBigMean
namespace Go.Proofs.YtbmbgmeggeemcaaDoor.M
open Go Go.Pu
set_option linter.unusedSimpArgs false
set_option linter.unusedVariables false

theorem load_cases (l : staff_Load) : (LoadOK l ∧ staff_checkLoad l = some 0 ∧ portref2_LoadFault l = some 0) ∨ (staff_checkLoad l = some 2 ∧ portref2_LoadFault l = some 2) := by
  unfold staff_checkLoad portref2_LoadFault
  by_cases h : LoadOK l
  · refine .inl ⟨h, ?_, ?_⟩
    · rw [if_neg]
      obtain ⟨h1, h2, h3, h4, h5, h6⟩ := h
      simp only [staff_within, Bool.or_eq_true, Bool.not_eq_true', Bool.and_eq_false_iff, decide_eq_false_iff_not]
      omega
    · rw [if_neg]
      obtain ⟨h1, h2, h3, h4, h5, h6⟩ := h
      simp only [Bool.or_eq_true, decide_eq_true_eq]
      omega
  · refine .inr ⟨?_, ?_⟩
    · rw [if_pos]
      simp only [staff_within, Bool.or_eq_true, Bool.not_eq_true', Bool.and_eq_false_iff, decide_eq_false_iff_not]
      exact Classical.byContradiction fun hn => h ⟨by omega, by omega, by omega, by omega, by omega, by omega⟩
    · rw [if_pos]
      simp only [Bool.or_eq_true, decide_eq_true_eq]
      exact Classical.byContradiction fun hn => h ⟨by omega, by omega, by omega, by omega, by omega, by omega⟩

theorem or2 (a b : Int) : cmp_Or_api_Errno [a, b] = some (if a ≠ 0 then a else b) := by
  by_cases ha : a = 0
  · by_cases hb : b = 0
    · simp [cmp_Or_api_Errno, rangeB, idx, Lp.andThen, ha, hb]
    · simp [cmp_Or_api_Errno, rangeB, idx, Lp.andThen, ha, hb]
  · simp [cmp_Or_api_Errno, rangeB, idx, Lp.andThen, ha]

theorem people_cases (n : Int) : (∃ m : Nat, n = (m : Int) ∧ m ≤ 60 ∧ staff_checkPeople n = 0 ∧ ((decide (n < 0)) || (decide ((60 : Int) < n))) = false) ∨ (staff_checkPeople n = 2 ∧ ((decide (n < 0)) || (decide ((60 : Int) < n))) = true) := by
  by_cases hn : 0 ≤ n ∧ n ≤ 60
  · left
    refine ⟨n.toNat, by omega, by omega, ?_, ?_⟩
    · unfold staff_checkPeople
      rw [if_neg]
      simp only [staff_within, Bool.not_eq_true', Bool.and_eq_false_iff, decide_eq_false_iff_not]
      omega
    · rw [Bool.or_eq_false_iff, decide_eq_false_iff_not, decide_eq_false_iff_not]
      omega
  · right
    refine ⟨?_, ?_⟩
    · unfold staff_checkPeople
      rw [if_pos]
      simp only [staff_within, Bool.not_eq_true', Bool.and_eq_false_iff, decide_eq_false_iff_not]
      omega
    · rw [Bool.or_eq_true, decide_eq_true_eq, decide_eq_true_eq]
      omega
end Go.Proofs.YtbmbgmeggeemcaaDoor.M
