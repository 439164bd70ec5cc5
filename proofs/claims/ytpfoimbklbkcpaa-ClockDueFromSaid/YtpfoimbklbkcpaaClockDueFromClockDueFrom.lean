/-
  DueFrom and its reference agree: plain part.
-/
import Derived.Test.YtpfoimbklbkcpaaClockDueFromClkRDue
namespace Go.Proofs.Ytpfoimbklbkcpaa.M
open Go Go.Pu

theorem duefrom_true (c : cal_Calendar) (start minutes : Int) : portlaw2_ClockDueFrom c start minutes = some true := by
  obtain ⟨r, a1, b1, c1⟩ := cal_eq c
  unfold portlaw2_ClockDueFrom level_DueFrom portref2_DueFromOf
  simp only [a1, b1, Option.bind_some]
  by_cases hr : r = 0
  rotate_left
  · have : (r != 0) = true := by simpa using hr
    simp [this]
  have hc := c1 hr
  subst hr
  simp only [bne_self_eq_false, Bool.false_eq_true, if_false]
  have eg : (((!(portref2_IsMoment start)) || (decide (minutes < 0))) || (decide ((100000 : Int) < minutes))) = (!level_within start 0 3000000 || !level_within minutes 0 100000) := by
    rw [Bool.eq_iff_iff]
    simp [portref2_IsMoment, level_within]
    omega
  rw [eg]
  by_cases hg : (!level_within start 0 3000000 || !level_within minutes 0 100000) = true
  · simp [hg]
  simp only [hg, if_false]
  have hb : (0 ≤ start ∧ start ≤ 3000000) ∧ 0 ≤ minutes ∧ minutes ≤ 100000 := by
    simp [level_within] at hg
    omega
  have hs : SortedP [c] start [(⟨start, (-1), 0⟩ : level_Piece)] := ⟨Int.le_refl _, hb.1.2, .inl rfl, ⟨c, rfl, hc, a1⟩, trivial⟩
  obtain ⟨d, hd, hsp⟩ := due_val (cals := [c]) (⟨0, 0, minutes, 0, 0, 0, [(⟨start, (-1), 0⟩ : level_Piece)]⟩ : level_Clock) hb.1.1 hs hb.2.1 (by simp only; omega)
  have hd2 := rdue_val (cals := [c]) (⟨0, 0, minutes, start, (-1), 0, [(⟨start, (-1), 0⟩ : level_Piece)]⟩ : level_Clock) (by simp) hb.1.1 hb.1.2 hs hb.2.1 (by simp only; omega) hsp
  rw [hd, meter_val [c] (by simp)]
  simp only [Option.bind_some, Bool.false_eq_true, if_false, hd2]
  simp
end Go.Proofs.Ytpfoimbklbkcpaa.M
