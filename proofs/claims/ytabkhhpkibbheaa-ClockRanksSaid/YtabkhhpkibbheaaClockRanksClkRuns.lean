import Derived.Test.YtabkhhpkibbheaaClockRanksClkFault
namespace Go.Proofs.Ytabkhhpkibbheaa.M
open Go Go.Pu
set_option linter.unusedSimpArgs false
set_option linter.unusedVariables false
theorem runs_val {c : level_Clock} (hc : ClockOk c) : ∃ b, level_runs c = some b ∧ portref2_goesOn c = some b := by
 unfold level_runs portref2_goesOn
 have hlen := hc.len
 by_cases h : (0 : Int) < (c.pieces.length : Int)
 rotate_left
 ·simp only [h, decide_false, Bool.false_eq_true, if_false, Bool.and_false, Option.bind_some]
  exact ⟨_, rfl, rfl⟩
 have hw : w64 ((c.pieces.length : Int) - 1) = ((c.pieces.length - 1 : Nat) : Int) := by rw [w64_id (by omega) (by omega)]; omega
 have hx : c.pieces[c.pieces.length - 1]? = some c.pieces[c.pieces.length - 1] := List.getElem?_eq_getElem (by omega)
 have hp := hc.pieces _ _ hx
 generalize c.pieces[c.pieces.length - 1] = p at hx hp
 have hst := hc.start
 simp only [h, decide_true, if_true, hw, idx_nat, hx, Option.bind_some, Bool.and_true]
 refine ⟨_, rfl, ?_⟩
 have h1 := hp.to_
 have h2 := hp.from_
 by_cases ht : p.to_ = -1
 ·have h3 := (hp.open_ ht).2
  have : c.stop < 0 := by omega
  simp [this, ht]
 ·have h4 : ¬ p.to_ < 0 := by omega
  have e : (p.to_ == (-1)) = false := by simpa using ht
  by_cases h5 : c.stop < 0
  ·simp [h5, h4, e]
  ·simp [h5, e]
end Go.Proofs.Ytabkhhpkibbheaa.M
