/-
  ShiftsOf, Open and their references agree: plain part.
-/
import Derived.Test.YtjmgafmjendnaaaCalOpensCalIter
namespace Go.Proofs.Ytjmgafmjendnaaa.M
open Go Go.Pu

theorem equal_shifts (l : List cal_Shift) : slices_Equal_Lcal_Shift_cal_Shift l l = some true := by
  unfold slices_Equal_Lcal_Shift_cal_Shift
  simp only [bne_self_eq_false, Bool.false_eq_true, if_false]
  obtain ⟨t, h, _⟩ := rangeB_inv (R := Bool) (b := fun k9 (_ : Unit) => Option.bind (idx l (k9 : Int)) fun x29 => Option.bind (idx l (k9 : Int)) fun x34 => if (!(x29.day == x34.day && (x29.from_ == x34.from_ && (x29.to_ == x34.to_)))) = true then some (.rt false) else some (.nx ())) l.length (fun _ _ => True) (s := ()) trivial
    (fun k s hk _ => by rw [idx_lt _ _ hk]; simp)
  rw [h]
  rfl

theorem opens_true (c : cal_Calendar) (day m : Int) : portlaw2_CalOpens c day m = some true := by
  obtain ⟨r, a1, b1, c1⟩ := cal_eq c
  have hnil : slices_Equal_Lcal_Shift_cal_Shift [] [] = some true := equal_shifts []
  unfold portlaw2_CalOpens cal_ShiftsOf cal_Open
  simp only [a1, b1, Option.bind_some, or_two]
  by_cases hr : r = 0
  rotate_left
  · have h1 : (r != 0) = true := by simpa using hr
    have h2 : (r == 0) = false := by simpa using hr
    simp [hr, hnil]
  have hc := c1 hr
  subst hr
  simp only [ne_eq, not_true, if_false, bne_self_eq_false, Bool.false_eq_true, beq_self_eq_true, Bool.true_and]
  have main : ∀ (l want : List cal_Shift) (e1 w1 : Int), e1 = w1 → l = want →
      ∃ q : Bool × Int, (if (cal_moment m != 0) = true then some (false, cal_moment m) else Option.bind (cal_Calendar_open c m (w64 (m + 1))) fun x56 =>
        Option.bind (cal_Calendar_open_1 (yieldB (fun (x76 : cal_Span) (s68 : (Int × Bool)) => some ((0, true), some 0))) ((0, false), none) x56.1 x56.2.1 x56.2.2) fun z66 =>
        if z66.2 = some 0 then (some (z66.1.2, z66.1.1)) else some (false, 0)) = some (q.1, q.2) ∧
        (if (!(portref2_IsMoment m)) = true then (2 : Int) else 0) = q.2 ∧ (q.2 = 0 → portref2_Clock_Open c m = some q.1) ∧ (q.2 ≠ 0 → q.1 = false) := by
    intro l want e1 w1 _ _
    by_cases hm : 0 ≤ m ∧ m ≤ 3000000
    rotate_left
    · have h1 : cal_moment m = 2 := by
        unfold cal_moment
        rw [if_pos]
        simp [cal_within]
        omega
      have h2 : portref2_IsMoment m = false := by
        simp [portref2_IsMoment]
        omega
      exact ⟨(false, 2), by simp [h1], by simp [h2], fun h => absurd h (by decide), fun _ => rfl⟩
    have h1 : cal_moment m = 0 := by
      unfold cal_moment
      rw [if_neg]
      simp [cal_within]
      omega
    have h2 : portref2_IsMoment m = true := by
      simp [portref2_IsMoment]
      omega
    have hop := open_spec hc m (m + 1) (by omega) (by omega)
    obtain ⟨b, hb, hbo⟩ := clock_open hc m hm.1 hm.2
    simp only [h1, h2, bne_self_eq_false, Bool.false_eq_true, if_false, Bool.not_true, cal_Calendar_open, Option.bind_some]
    rw [w64_id (n := m + 1) (by omega) (by omega), open_val hc m (m + 1) (by omega) (by omega)]
    refine ⟨(b, 0), ?_, rfl, fun _ => hb, fun h => absurd rfl h⟩
    have hall := hop.all m (Int.le_refl _) (by omega)
    cases hl : openL c m (m + 1) with
    | nil =>
      rw [hl] at hall
      have : b = false := by
        cases b with
        | false => rfl
        | true => have := hall.1 (hbo.1 rfl); simp at this
      subst this
      simp [iterB]
    | cons x l =>
      have he := hop.each x (by rw [hl]; simp)
      have : b = true := hbo.2 (hall.2 ⟨x, by rw [hl]; simp, by omega, by omega⟩)
      subst this
      simp [iterB, yieldB]
  obtain ⟨q, q1, q2, q3, q4⟩ := main [] [] 0 0 rfl rfl
  rw [q1]
  have hs : (if (!(portref2_IsMoment m)) = true then some (2 : Int) else some 0) = some q.2 := by rw [← q2]; split <;> rfl
  rw [hs]
  simp only [Option.bind_some]
  by_cases hd : -1 ≤ day ∧ day ≤ 2084
  · have e1 : cal_within day (-1) 2084 = true := by simp [cal_within, hd]
    have e2 : ((decide (day < (-1))) || (decide ((2084 : Int) < day))) = false := by simp; omega
    simp only [e1, e2, Bool.not_true, Bool.false_eq_true, if_false, shiftsOf_val hc day (by omega) (by omega), shiftsIn_val hc day (by omega) (by omega), Option.bind_some, beq_self_eq_true, if_true, equal_shifts, portref2_NewClock]
    by_cases h0 : q.2 = 0
    · simp [h0, q3 h0]
    · have : (q.2 == 0) = false := by simpa using h0
      simp [this, q4 h0]
  · have e1 : cal_within day (-1) 2084 = false := by simp [cal_within]; omega
    have e2 : ((decide (day < (-1))) || (decide ((2084 : Int) < day))) = true := by simp; omega
    simp only [e1, e2, Bool.not_false, if_true, Option.bind_some, show ((2 : Int) == 0) = false from rfl, Bool.false_eq_true, if_false, beq_self_eq_true, hnil, portref2_NewClock]
    by_cases h0 : q.2 = 0
    · simp [h0, q3 h0]
    · have : (q.2 == 0) = false := by simpa using h0
      simp [this, q4 h0]
end Go.Proofs.Ytjmgafmjendnaaa.M
