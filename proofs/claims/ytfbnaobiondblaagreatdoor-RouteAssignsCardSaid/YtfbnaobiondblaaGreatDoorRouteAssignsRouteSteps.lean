import Derived.Test.YtfbnaobiondblaaGreatDoorRouteAssignsAsB
namespace Go.Proofs.YtfbnaobiondblaaGreatDoor.M
open Go Go.Pu
set_option linter.unusedSimpArgs false
set_option linter.unusedVariables false
theorem steps_eq (l : List route_Step) : ∃ r, route_CheckSteps l = some r ∧ portref2_StepsFault l = some r ∧ (r = 0 → l.length ≤ 8) := by
 unfold route_CheckSteps portref2_StepsFault
 by_cases h : (8 : Int) < (l.length : Int)
 ·simp only [decide_eq_true h, if_true]
  exact ⟨4, rfl, rfl, fun h => absurd h (by decide)⟩
 simp only [decide_eq_false h, Bool.false_eq_true, if_false]
 rcases rangeB_sim (R := Int) (b := fun k7 (_ : Unit) => Option.bind (idx l (k7 : Int)) fun x27 => if ((!(route_within x27.after 1 3000000)) || (!(route_within x27.lower 0 9))) = true then some (.rt 2) else Option.bind (if (decide ((0 : Int) < (k7 : Int))) = true then (Option.bind (idx l (w64 ((k7 : Int) - 1))) fun x48 => some (decide (x27.after ≤ x48.after))) else (some false)) fun s46 => if s46 = true then some (.rt 5) else some (.nx ()))
  (b' := fun k7 (_ : Unit) => Option.bind (idx l (k7 : Int)) fun x27 => if ((((decide (x27.after < 1)) || (decide ((3000000 : Int) < x27.after))) || (decide (x27.lower < 0))) || (decide ((9 : Int) < x27.lower))) = true then some (.rt 2) else Option.bind (if (decide ((0 : Int) < (k7 : Int))) = true then (Option.bind (idx l (w64 ((k7 : Int) - 1))) fun x54 => some (decide (x27.after ≤ x54.after))) else (some false)) fun s52 => if s52 = true then some (.rt 5) else some (.nx ())) l.length (fun r => r ≠ 0) (fun _ _ _ => True) (s := ()) (s' := ()) trivial
  (by
   rintro k _ _ hk _
   have hx : l[k]? = some l[k] := List.getElem?_eq_getElem hk
   generalize l[k] = x at hx
   have hr : ((!(route_within x.after 1 3000000)) || (!(route_within x.lower 0 9))) = ((((decide (x.after < 1)) || (decide ((3000000 : Int) < x.after))) || (decide (x.lower < 0))) || (decide ((9 : Int) < x.lower))) := by
    rw [Bool.eq_iff_iff]
    simp only [route_within, Bool.not_eq_true', Bool.and_eq_false_iff, decide_eq_false_iff_not, Bool.or_eq_true, decide_eq_true_eq]
    omega
   simp only [idx_nat, hx, Option.bind_some, hr]
   generalize ((((decide (x.after < 1)) || (decide ((3000000 : Int) < x.after))) || (decide (x.lower < 0))) || (decide ((9 : Int) < x.lower))) = rk
   cases rk with
   | true => exact .inl ⟨2, rfl, rfl, by decide⟩
   | false =>
    simp only [Bool.false_eq_true, if_false]
    obtain ⟨b, hb⟩ : ∃ b : Bool, (if (decide ((0 : Int) < (k : Int))) = true then (Option.bind (idx l (w64 ((k : Int) - 1))) fun x48 => some (decide (x.after ≤ x48.after))) else (some false)) = some b := by
     by_cases h0 : (0 : Int) < (k : Int)
     ·have hw : w64 ((k : Int) - 1) = ((k - 1 : Nat) : Int) := by rw [w64_id (by omega) (by omega)]; omega
      rw [if_pos (by simpa using h0), hw, idx_lt _ _ (by omega)]
      exact ⟨_, rfl⟩
     ·rw [if_neg (by simpa using h0)]
      exact ⟨_, rfl⟩
    rw [hb]
    cases b with
    | true => exact .inl ⟨5, rfl, rfl, by decide⟩
    | false => exact .inr ⟨(), (), rfl, rfl, trivial⟩) with ⟨r, h1, h2, hr⟩ | ⟨_, _, h1, h2, _⟩
 ·rw [h1, h2]
  exact ⟨r, rfl, rfl, fun h => absurd h hr⟩
 ·rw [h1, h2]
  exact ⟨0, rfl, rfl, fun _ => by omega⟩
end Go.Proofs.YtfbnaobiondblaaGreatDoor.M
