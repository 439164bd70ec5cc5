/-
  What state a clock is in: code and reference agree (text also in ClockStates).
-/
import Derived.Test.YtnjlojicebcikaaGreatClockSharesClkFault
import Derived.Test.YtnjlojicebcikaaGreatClockSharesClkElapsed
namespace Go.Proofs.YtnjlojicebcikaaGreat.M
open Go Go.Pu
set_option linter.unusedSimpArgs false
set_option linter.unusedVariables false

theorem inPiece_val {c : level_Clock} (hc : ClockOk c) (m : Int) : level_inPiece c m = some (c.pieces.any fun p => (decide (p.from_ ≤ m)) && ((p.to_ == (-1)) || (decide (m < p.to_)))) := by
  unfold level_inPiece
  have h := contains_val c.pieces (fun y19 => level_inPiece_1 y19 m) (fun p => (decide (p.from_ ≤ m)) && ((p.to_ == (-1)) || (decide (m < p.to_)))) (fun p _ => rfl)
  rw [h]
  rfl
theorem rinPiece_val {c : level_Clock} (hc : ClockOk c) (m : Int) : slices_ContainsFunc_Llevel_Piece_level_Piece c.pieces (fun y56 => portref2_meter_state_1 y56 m) = some (c.pieces.any fun p => (decide (p.from_ ≤ m)) && ((p.to_ == (-1)) || (decide (m < p.to_)))) := by
  refine contains_val _ _ _ fun p hp => ?_
  obtain ⟨j, hj⟩ := List.mem_iff_getElem?.1 hp
  have h1 := hc.pieces j p hj
  have h2 := h1.to_
  have h3 := h1.from_
  have h4 := hc.start
  unfold portref2_meter_state_1
  congr 2
  rw [Bool.eq_iff_iff]
  simp
  omega

theorem state_val {c : level_Clock} {cals : List cal_Calendar} (hc : ClockOk c) (hs : SortedP cals c.start c.pieces) (m : Int) (hm0 : 0 ≤ m) (hm1 : m ≤ 3000000) : ∃ r, level_stateAt c cals m = some r ∧ portref2_meter_state ⟨cals⟩ c m = some r := by
  unfold level_stateAt portref2_meter_state
  have hst := hc.start
  have e1 : (decide ((0 : Int) ≤ c.stop)) = (c.end_ != 0) := by
    rw [Bool.eq_iff_iff]
    have h1 := hc.stop
    have h2 := hc.both
    simp
    omega
  rw [e1]
  by_cases he : ((c.end_ != 0) && (decide (c.stop ≤ m))) = true
  · have hsb : 0 ≤ c.stop ∧ c.stop ≤ 3000000 := by
      simp at he
      have h1 := hc.stop
      have h2 := hc.both
      omega
    by_cases h2 : (c.end_ == 2) = true
    · simp only [he, h2, Bool.and_true, if_true]
      exact ⟨_, rfl, rfl⟩
    · have h2' : (c.end_ == 2) = false := by simpa using h2
      simp only [he, h2', Bool.and_false, Bool.false_eq_true, if_false, if_true, elapsed_val c hst.1 hst.2 hs c.stop hsb.1 hsb.2, relapsed_val c hst.1 hst.2 hs c.stop hsb.1 hsb.2, Option.bind_some]
      by_cases h3 : cnt (OC cals c.pieces) c.start c.stop ≤ c.minutes
      · simp only [h3, decide_true, if_true]
        exact ⟨_, rfl, rfl⟩
      · simp only [h3, decide_false, Bool.false_eq_true, if_false]
        exact ⟨_, rfl, rfl⟩
  · have he' : ((c.end_ != 0) && (decide (c.stop ≤ m))) = false := by simpa using he
    simp only [he', Bool.false_and, Bool.false_eq_true, if_false, Option.bind_some, elapsed_val c hst.1 hst.2 hs m hm0 hm1, relapsed_val c hst.1 hst.2 hs m hm0 hm1]
    by_cases h3 : c.minutes < cnt (OC cals c.pieces) c.start m
    · simp only [h3, decide_true, if_true]
      exact ⟨_, rfl, rfl⟩
    · simp only [h3, decide_false, Bool.false_eq_true, if_false, inPiece_val hc, rinPiece_val hc, Option.bind_some]
      cases c.pieces.any fun p => (decide (p.from_ ≤ m)) && ((p.to_ == (-1)) || (decide (m < p.to_))) with
      | true => exact ⟨_, rfl, rfl⟩
      | false => exact ⟨_, rfl, rfl⟩

end Go.Proofs.YtnjlojicebcikaaGreat.M
