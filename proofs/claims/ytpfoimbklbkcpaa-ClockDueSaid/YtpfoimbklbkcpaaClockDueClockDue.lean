/-
  Due and its reference agree: plain part.
-/
import Derived.Test.YtpfoimbklbkcpaaClockDueClkFault
import Derived.Test.YtpfoimbklbkcpaaClockDueClkRuns
import Derived.Test.YtpfoimbklbkcpaaClockDueClkRDue
namespace Go.Proofs.Ytpfoimbklbkcpaa.M
open Go Go.Pu
set_option linter.unusedSimpArgs false
set_option linter.unusedVariables false

theorem due_true (c : level_Clock) (cals : List cal_Calendar) : portlaw2_ClockDue c cals = some true := by
  obtain ⟨r, a1, b1, c1⟩ := check_eq [c] cals
  unfold portlaw2_ClockDue level_Due portref2_DueOf
  simp only [a1, b1, Option.bind_some]
  by_cases hr : r = 0
  rotate_left
  · have : (r != 0) = true := by simpa using hr
    simp [this]
  have hok := c1 hr
  subst hr
  have hc := hok.clocks c (by simp)
  have hs := hok.sorted (c := c) (by simp)
  have hn := hok.ncal
  obtain ⟨b, r1, r2⟩ := runs_val hc
  simp only [bne_self_eq_false, Bool.false_eq_true, if_false, r1, r2, Option.bind_some]
  cases b with
  | false => simp
  | true =>
    have hmi := hc.minutes
    obtain ⟨d, hd, hsp⟩ := due_val c hc.start.1 hs hmi.1 (by omega)
    have hd2 := rdue_val c hc.len hc.start.1 hc.start.2 hs hmi.1 (by omega) hsp
    simp only [Bool.not_true, Bool.false_eq_true, if_false, hd, meter_val cals (by omega), hd2, Option.bind_some]
    simp
end Go.Proofs.Ytpfoimbklbkcpaa.M
