/-
  Elapsed and Left agree with their reference: plain part.
-/
import Derived.Test.YtpfoimbklbkcpaaClockMeasuresClkFault
import Derived.Test.YtpfoimbklbkcpaaClockMeasuresClkElapsed
namespace Go.Proofs.Ytpfoimbklbkcpaa.M
open Go Go.Pu
set_option linter.unusedSimpArgs false
set_option linter.unusedVariables false

theorem measures_true (c : level_Clock) (cals : List cal_Calendar) (m : Int) : portlaw2_ClockMeasures c cals m = some true := by
  obtain ⟨r, a1, b1, c1⟩ := check_eq [c] cals
  unfold portlaw2_ClockMeasures level_Left level_Elapsed portref2_MeasureOf
  simp only [a1, b1, Option.bind_some, or_two]
  by_cases hr : r = 0
  rotate_left
  · have : (r != 0) = true := by simpa using hr
    simp [hr]
  have hok := c1 hr
  subst hr
  simp only [ne_eq, not_true, if_false, bne_self_eq_false, Bool.false_eq_true]
  by_cases hm : 0 ≤ m ∧ m ≤ 3000000
  rotate_left
  · have e1 : level_moment m 0 = 2 := by
      have : level_within m 0 3000000 = false := by simp [level_within]; omega
      simp [level_moment, this]
    have e2 : portref2_IsMoment m = false := by simp [portref2_IsMoment]; omega
    simp [e1, e2]
  have e1 : level_moment m 0 = 0 := by
    have : level_within m 0 3000000 = true := by simp [level_within]; omega
    simp [level_moment, this]
  have e2 : portref2_IsMoment m = true := by simp [portref2_IsMoment]; omega
  have hc := hok.clocks c (by simp)
  have hs := hok.sorted (c := c) (by simp)
  have hn := hok.ncal
  simp only [e1, e2, bne_self_eq_false, Bool.false_eq_true, if_false, Bool.not_true, elapsed_val c hc.start.1 hc.start.2 hs m hm.1 hm.2, meter_val cals (by omega), relapsed_val c hc.start.1 hc.start.2 hs m hm.1 hm.2, Option.bind_some]
  simp
end Go.Proofs.Ytpfoimbklbkcpaa.M
