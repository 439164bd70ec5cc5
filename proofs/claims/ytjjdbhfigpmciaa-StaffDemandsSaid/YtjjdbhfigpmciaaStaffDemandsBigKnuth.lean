/-
  The guess is the part of the quotient, or one more: plain arithmetic.
-/
import Derived.Test.YtjjdbhfigpmciaaStaffDemandsBigDown
namespace Go.Proofs.Ytjjdbhfigpmciaa.M
open Go Go.Pu
set_option linter.unusedSimpArgs false
set_option linter.unusedVariables false

/-- D: the two top parts of the divisor, w the rest of it; N: the three top parts of the dividend, u the rest of it; C: the power of what lies below -/
theorem knuth_bound (D N C w u g : Int) (hC : 0 < C) (hw : 0 ≤ w ∧ w < C) (hu : 0 ≤ u ∧ u < C) (hD : 9223372036854775808 ≤ D) (hg : 0 ≤ g ∧ g < 4294967296) (hgD : g * D ≤ N)
    (hmax : ∀ q, 0 ≤ q → q < 4294967296 → q * D ≤ N → q ≤ g) :
    (∀ q, 0 ≤ q → q < 4294967296 → q * (D * C + w) ≤ N * C + u → q ≤ g) ∧ (g - 1) * (D * C + w) ≤ N * C + u := by
  constructor
  · intro q hq0 hq1 hq
    refine hmax q hq0 hq1 ?_
    by_cases h : q * D ≤ N
    · exact h
    · have h1 := Int.mul_le_mul_of_nonneg_right (show N + 1 ≤ q * D by omega) (Int.le_of_lt hC)
      have h2 := Int.mul_nonneg hq0 hw.1
      rw [Int.mul_add, ← Int.mul_assoc] at hq
      rw [Int.add_mul, Int.one_mul] at h1
      omega
  · have h1 := Int.mul_le_mul_of_nonneg_right hgD (Int.le_of_lt hC)
    have h2 : g * w ≤ 4294967296 * C := Int.mul_le_mul (by omega) (Int.le_of_lt hw.2) hw.1 (by decide)
    have h3 := Int.mul_le_mul_of_nonneg_right hD (Int.le_of_lt hC)
    rw [Int.sub_mul, Int.one_mul, Int.mul_add, ← Int.mul_assoc]
    omega
end Go.Proofs.Ytjjdbhfigpmciaa.M
