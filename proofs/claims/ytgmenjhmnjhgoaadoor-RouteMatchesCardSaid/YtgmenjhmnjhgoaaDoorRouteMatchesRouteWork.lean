/-
  Routes: work: the two checks agree, and what they say.
-/
import Derived.Test.YtgmenjhmnjhgoaaDoorRouteMatchesRouteName
namespace Go.Proofs.YtgmenjhmnjhgoaaDoor.M
open Go Go.Pu
set_option linter.unusedSimpArgs false
set_option linter.unusedVariables false

/-- the first k pieces of work: their bounds, no ticket twice -/
def WorkTo (l : List route_Work) (k : Nat) : Prop := ∀ (j : Nat) (w : route_Work), j < k → l[j]? = some w → (1 ≤ w.ticket ∧ w.ticket ≤ 400) ∧ ((1 ≤ w.weight ∧ w.weight ≤ 20) ∧ (0 ≤ w.urgency ∧ w.urgency ≤ 9) ∧ (0 ≤ w.since ∧ w.since ≤ 3000000) ∧ (0 ≤ w.former ∧ w.former ≤ 40)) ∧ ∀ (i : Nat) (q : route_Work), i < j → l[i]? = some q → q.ticket ≠ w.ticket
def WorkOK (l : List route_Work) : Prop := l.length ≤ 200 ∧ WorkTo l l.length
theorem workTo_zero (l : List route_Work) : WorkTo l 0 := fun j w h => by omega
theorem workTo_succ {l : List route_Work} {k : Nat} {w : route_Work} (h : WorkTo l k) (hx : l[k]? = some w) (h1 : ∀ (i : Nat) (q : route_Work), i < k → l[i]? = some q → q.ticket ≠ w.ticket) (h2 : 1 ≤ w.ticket ∧ w.ticket ≤ 400) (h3 : (1 ≤ w.weight ∧ w.weight ≤ 20) ∧ (0 ≤ w.urgency ∧ w.urgency ≤ 9) ∧ (0 ≤ w.since ∧ w.since ≤ 3000000) ∧ (0 ≤ w.former ∧ w.former ≤ 40)) : WorkTo l (k + 1) := by
  intro j v hj hv
  rcases Nat.lt_or_ge j k with h4 | h4
  · exact h j v h4 hv
  · obtain rfl : j = k := by omega
    rw [hx] at hv
    cases hv
    exact ⟨h2, h3, h1⟩
theorem work_eq (l : List route_Work) (hs : ∀ w ∈ l, ∀ k ∈ w.needs, k.name.size ≤ 9223372036854775807) : ∃ r, route_CheckWork l = some r ∧ portref2_WorkFault l = some r ∧ (r = 0 → WorkOK l) := by
  unfold route_CheckWork portref2_WorkFault
  by_cases h : (200 : Int) < (l.length : Int)
  · simp only [decide_eq_true h, if_true]
    exact ⟨4, rfl, rfl, fun h => by cases h⟩
  simp only [decide_eq_false h, Bool.false_eq_true, if_false]
  rcases rangeB_sim (R := Int) (b := fun k7 (_ : Unit) => Option.bind (idx l (k7 : Int)) fun x27 => if (!(route_within x27.ticket 1 400)) = true then some (.rt 2) else Option.bind (sliceL l none (some (k7 : Int))) fun x47 => Option.bind (slices_ContainsFunc_Lroute_Work_route_Work x47 (fun y50 => route_CheckWork_1 y50 x27)) fun x51 => if x51 = true then some (.rt 6) else if ((((!(route_within x27.weight 1 20)) || (!(route_within x27.urgency 0 9))) || (!(route_within x27.since 0 3000000))) || (!(route_within x27.former 0 40))) = true then some (.rt 2) else Option.bind (route_checkSkills x27.needs) fun x81 => if (x81 != 0) = true then some (.rt x81) else some (.nx ()))
    (b' := fun k7 (_ : Unit) => Option.bind (idx l (k7 : Int)) fun x27 => if ((decide (x27.ticket < 1)) || (decide ((400 : Int) < x27.ticket))) = true then some (.rt 2) else Option.bind (sliceL l none (some (k7 : Int))) fun x50 => Option.bind (slices_ContainsFunc_Lroute_Work_route_Work x50 (fun y53 => portref2_WorkFault_1 y53 x27)) fun x54 => if x54 = true then some (.rt 6) else if (((((((decide (x27.weight < 1)) || (decide ((20 : Int) < x27.weight))) || (decide (x27.urgency < 0))) || (decide ((9 : Int) < x27.urgency))) || (!(portref2_IsMoment x27.since))) || (decide (x27.former < 0))) || (decide ((40 : Int) < x27.former))) = true then some (.rt 2) else Option.bind (portref2_skillsFault x27.needs) fun x93 => if (x93 != 0) = true then some (.rt x93) else some (.nx ())) l.length (fun r => r ≠ 0) (fun k _ _ => WorkTo l k) (s := ()) (s' := ()) (workTo_zero l)
    (by
      rintro k _ _ hk hI
      have hx : l[k]? = some l[k] := List.getElem?_eq_getElem hk
      have hsz := hs _ (List.getElem_mem hk)
      generalize l[k] = w at hx hsz
      have hr : (!(route_within w.ticket 1 400)) = ((decide (w.ticket < 1)) || (decide ((400 : Int) < w.ticket))) := by
        rw [Bool.eq_iff_iff]
        simp only [route_within, Bool.not_eq_true', Bool.and_eq_false_iff, decide_eq_false_iff_not, Bool.or_eq_true, decide_eq_true_eq]
        omega
      have hr2 : ((((!(route_within w.weight 1 20)) || (!(route_within w.urgency 0 9))) || (!(route_within w.since 0 3000000))) || (!(route_within w.former 0 40))) = (((((((decide (w.weight < 1)) || (decide ((20 : Int) < w.weight))) || (decide (w.urgency < 0))) || (decide ((9 : Int) < w.urgency))) || (!(portref2_IsMoment w.since))) || (decide (w.former < 0))) || (decide ((40 : Int) < w.former))) := by
        rw [Bool.eq_iff_iff]
        simp only [route_within, portref2_IsMoment, Bool.not_eq_true', Bool.and_eq_false_iff, decide_eq_false_iff_not, Bool.or_eq_true, decide_eq_true_eq]
        omega
      have hsl : sliceL l none (some (k : Int)) = some (l.take k) := by
        unfold sliceL bounds
        simp
        omega
      have hb : slices_ContainsFunc_Lroute_Work_route_Work (l.take k) (fun y => some (y.ticket == w.ticket)) = some ((l.take k).any fun y => y.ticket == w.ticket) := by
        unfold slices_ContainsFunc_Lroute_Work_route_Work slices_IndexFunc_Lroute_Work_route_Work
        rw [rangeB_index]
        simp only [Option.bind_some]
        rw [← findIdx_any]
        cases (l.take k).findIdx? fun y => y.ticket == w.ticket <;> rfl
      simp only [idx_nat, hx, Option.bind_some, hr, hr2, hsl, route_CheckWork_1, portref2_WorkFault_1, hb]
      have hnew : (l.take k).any (fun y => y.ticket == w.ticket) = false → ¬ (((decide (w.ticket < 1)) || (decide ((400 : Int) < w.ticket))) = true) → ¬ ((((((((decide (w.weight < 1)) || (decide ((20 : Int) < w.weight))) || (decide (w.urgency < 0))) || (decide ((9 : Int) < w.urgency))) || (!(portref2_IsMoment w.since))) || (decide (w.former < 0))) || (decide ((40 : Int) < w.former))) = true) → WorkTo l (k + 1) := by
        intro h1 h2 h3
        refine workTo_succ hI hx ?_ (by simp only [Bool.or_eq_true, decide_eq_true_eq] at h2; omega) (by simp only [portref2_IsMoment, Bool.not_eq_true', Bool.and_eq_false_iff, decide_eq_false_iff_not, Bool.or_eq_true, decide_eq_true_eq] at h3; omega)
        intro i q hi hq e
        rw [List.any_eq_false] at h1
        exact h1 q (List.mem_of_getElem? (by rw [List.getElem?_take, if_pos hi]; exact hq)) (by simpa using e)
      revert hnew
      generalize (l.take k).any (fun y => y.ticket == w.ticket) = b
      intro hnew
      by_cases b1 : ((decide (w.ticket < 1)) || (decide ((400 : Int) < w.ticket))) = true
      · rw [if_pos b1, if_pos b1]
        exact .inl ⟨2, rfl, rfl, by decide⟩
      rw [if_neg b1, if_neg b1]
      cases b with
      | true => exact .inl ⟨6, rfl, rfl, by decide⟩
      | false =>
        simp only [Bool.false_eq_true, if_false]
        by_cases b2 : (((((((decide (w.weight < 1)) || (decide ((20 : Int) < w.weight))) || (decide (w.urgency < 0))) || (decide ((9 : Int) < w.urgency))) || (!(portref2_IsMoment w.since))) || (decide (w.former < 0))) || (decide ((40 : Int) < w.former))) = true
        · rw [if_pos b2, if_pos b2]
          exact .inl ⟨2, rfl, rfl, by decide⟩
        rw [if_neg b2, if_neg b2]
        obtain ⟨r, h1, h2⟩ := skills_eq w.needs hsz
        simp only [h1, h2, Option.bind_some]
        by_cases h0 : (r != 0) = true
        · rw [if_pos h0]
          exact .inl ⟨r, rfl, rfl, by simpa using h0⟩
        · rw [if_neg h0]
          exact .inr ⟨(), (), rfl, rfl, hnew rfl b1 b2⟩) with ⟨r, h1, h2, h3⟩ | ⟨_, _, h1, h2, h3⟩
  · rw [h1, h2]
    exact ⟨r, rfl, rfl, fun h0 => absurd h0 h3⟩
  · rw [h1, h2]
    exact ⟨0, rfl, rfl, fun _ => ⟨by omega, h3⟩⟩
end Go.Proofs.YtgmenjhmnjhgoaaDoor.M
