/-
  Forecast and its reference agree: plain part.
-/
import Derived.Test.YtlclnbcjebpfkaaStaffForecastsM
import Derived.Test.YtlclnbcjebpfkaaPl
namespace Go.Proofs.Ytlclnbcjebpfkaa.M
open Go Go.Pu

theorem contains_int (s : List Int) (q : Int → Bool) : slices_ContainsFunc_Lint_int s (fun x => some (q x)) = some (s.any q) := by
  have h : slices_IndexFunc_Lint_int s (fun x => some (q x)) = some (match s.findIdx? q with | some i => (i : Int) | none => -1) := by
    unfold slices_IndexFunc_Lint_int
    have key : ∀ (l : List Int) (k : Nat), forL (R := Int) (fun k x (_ : Unit) => if q x = true then some (.rt (k : Int)) else some (.nx ())) l k () = some (match l.findIdx? q with | some i => .rt ((k + i : Nat) : Int) | none => .fin ()) := by
      intro l
      induction l with
      | nil => intro k; rfl
      | cons x l ih =>
        intro k
        rw [forL, List.findIdx?_cons]
        cases hq : q x
        · simp only [Bool.false_eq_true, if_false]
          rw [ih]
          cases hf : l.findIdx? q with
          | none => rfl
          | some i => simp; omega
        · simp
    have hr := rangeB_forL s (R := Int) (fun k x (_ : Unit) => if q x = true then some (.rt (k : Int)) else some (.nx ())) (fun k _ => Option.bind (idx s (k : Int)) fun x => Option.bind (some (q x)) fun b => if b = true then some (.rt (k : Int)) else some (.nx ()))
      (fun k _ x hx => by simp [idx_nat, hx]) ()
    rw [hr, key]
    cases s.findIdx? q with
    | none => rfl
    | some i => simp [Lp.andThen]
  unfold slices_ContainsFunc_Lint_int
  rw [h]
  cases hf : s.findIdx? q with
  | none =>
    have := List.findIdx?_eq_none_iff.1 hf
    have h2 : s.any q = false := by simp; exact fun x hx => by simpa using this x hx
    simp [h2]
  | some i =>
    have := List.findIdx?_eq_some_iff_getElem.1 hf
    obtain ⟨hi, h1, _⟩ := this
    have h2 : s.any q = true := List.any_eq_true.2 ⟨_, List.getElem_mem hi, h1⟩
    simp [h2]

theorem forecast_true (history : List Int) (season back : Int) : portlaw2_StaffForecasts history season back = some true := by
  have hw : ∀ x, (!staff_within x 0 100000) = portref2_ForecastOf_1 x := fun x => by
    simp only [staff_within, portref2_ForecastOf_1]
    rw [Bool.eq_iff_iff]
    simp
  have main : ∃ r, staff_Forecast history season back = some r ∧ portref2_ForecastOf history season back = some r := by
    unfold staff_Forecast portref2_ForecastOf
    by_cases h5 : (5000 : Int) < (history.length : Int)
    · simp only [h5, decide_true, if_true]
      exact ⟨_, rfl, rfl⟩
    · simp only [h5, decide_false, Bool.false_eq_true, if_false]
      rw [contains_int]
      have hany := rangeB_any history (fun x => !staff_within x 0 100000) ((0, 2) : Int × Int)
      simp only [hw] at hany
      simp only [hw, hany, Option.bind_some]
      have hw2 : ∀ x : Int, portref2_ForecastOf_1 x = portref2_ForecastOf_1 x := fun _ => rfl
      cases ha : history.any portref2_ForecastOf_1 with
      | true =>
        simp only [if_true, Lp.andThen_rt, Bool.true_or]
        exact ⟨_, rfl, rfl⟩
      | false =>
        simp only [Bool.false_eq_true, if_false, Lp.andThen_fin, Bool.false_or]
        by_cases hb : 1 ≤ season ∧ season ≤ 5000 ∧ 1 ≤ back ∧ back ≤ 100
        · obtain ⟨b1, b2, b3, b4⟩ := hb
          have c1 : (!staff_within season 1 5000 || !staff_within back 1 100) = false := by simp [staff_within]; omega
          have c2 : (decide (season < 1) || decide (5000 < season) || decide (back < 1) || decide (100 < back)) = false := by simp; omega
          simp only [c1, c2, Bool.false_eq_true, if_false]
          have hl : (history.length : Int) ≤ 5000 := by omega
          obtain ⟨r, hr, s, rfl, hs⟩ := whileB_spec (R := Int × Int) (body := fun s : Int × Int × Int => if (decide ((0 : Int) ≤ s.2.2) && decide (s.2.1 < back)) = true then Option.bind (idx history s.2.2) fun x => some (.nx (w64 (s.1 + x), w64 (s.2.1 + 1), w64 (s.2.2 - season))) else some (.bk (s.1, s.2.1, s.2.2)))
            (fun s => 0 ≤ s.2.1 ∧ s.2.1 ≤ back ∧ s.2.2 < history.length ∧ -5000 ≤ s.2.2) (fun s => (s.2.2 + 5001).toNat) (fun o => ∃ s, o = .fin s ∧ 0 ≤ s.2.1 ∧ s.2.1 ≤ 100) (s := (0, 0, w64 ((history.length : Int) - season)))
            (by rw [w64_id (by omega) (by omega)]; refine ⟨?_, ?_, ?_, ?_⟩ <;> simp <;> omega)
            (by
              rintro ⟨a, n, p⟩ ⟨i1, i2, i3, i4⟩
              simp only at i1 i2 i3 i4
              by_cases hc : 0 ≤ p ∧ n < back
              · obtain ⟨x, hx, _⟩ := idx_of hc.1 i3
                simp only [hc.1, hc.2, decide_true, Bool.and_self, if_true, hx, Option.bind_some]
                refine ⟨_, rfl, ?_⟩
                simp only
                rw [w64_id (n := n + 1) (by omega) (by omega), w64_id (n := p - season) (by omega) (by omega)]
                exact ⟨⟨by omega, by omega, by omega, by omega⟩, by omega⟩
              · have hc' : (decide (0 ≤ p) && decide (n < back)) = false := by
                  simp only [Bool.and_eq_false_iff, decide_eq_false_iff_not]
                  omega
                simp only [hc', Bool.false_eq_true, if_false]
                exact ⟨_, rfl, _, rfl, i1, by simp only; omega⟩)
          rw [hr]
          simp only [Option.bind_some, Lp.andThen_fin]
          by_cases h0 : s.2.1 = 0
          · simp only [h0, beq_self_eq_true, if_true]
            exact ⟨_, rfl, rfl⟩
          · have h0' : (s.2.1 == 0) = false := by simpa using h0
            simp only [h0', Bool.false_eq_true, if_false]
            have hq : w64 (2 * s.2.1) ≠ 0 := by rw [w64_id (by omega) (by omega)]; omega
            simp only [quo, hq, if_false, Option.bind_some]
            exact ⟨_, rfl, rfl⟩
        · have c1 : (!staff_within season 1 5000 || !staff_within back 1 100) = true := by simp [staff_within]; omega
          have c2 : (decide (season < 1) || decide (5000 < season) || decide (back < 1) || decide (100 < back)) = true := by simp; omega
          simp only [c1, c2, if_true]
          exact ⟨_, rfl, rfl⟩
  obtain ⟨r, h1, h2⟩ := main
  unfold portlaw2_StaffForecasts
  simp [h1, h2]
end Go.Proofs.Ytlclnbcjebpfkaa.M
