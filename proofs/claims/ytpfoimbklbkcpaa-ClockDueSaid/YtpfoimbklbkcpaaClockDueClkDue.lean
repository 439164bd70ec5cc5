/-
  Clocks: the last moment at which one is kept: plain part.
-/
import Derived.Test.YtpfoimbklbkcpaaClockDueClkCounted
namespace Go.Proofs.Ytpfoimbklbkcpaa.M
open Go Go.Pu
set_option linter.unusedSimpArgs false
set_option linter.unusedVariables false

/-- the last moment at which not more than k have been counted -/
def DueSpec (O : Int → Prop) (lo k d : Int) : Prop := (lo ≤ d ∧ d ≤ 3000000 ∧ cnt O lo d = k ∧ O d) ∨ (d = 3000000 ∧ cnt O lo 3000001 ≤ k)
theorem due_val {cals : List cal_Calendar} (c : level_Clock) {lo : Int} (h0 : 0 ≤ lo) (hs : SortedP cals lo c.pieces) (hk0 : 0 ≤ c.minutes) (hk1 : c.minutes ≤ 3000000) : ∃ d, level_due c cals = some d ∧ DueSpec (OC cals c.pieces) lo c.minutes d := by
  unfold level_due
  rcases counted_val c h0 hs c.minutes hk0 hk1 with ⟨m, e, h⟩ | ⟨e, h⟩
  · rw [e]; exact ⟨m, rfl, .inl h⟩
  · rw [e]; exact ⟨_, rfl, .inr ⟨rfl, h⟩⟩

end Go.Proofs.Ytpfoimbklbkcpaa.M
