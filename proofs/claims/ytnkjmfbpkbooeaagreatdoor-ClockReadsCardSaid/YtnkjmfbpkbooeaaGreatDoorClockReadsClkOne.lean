/-
  One clock: what is checked: plain part.
-/
import Derived.Test.YtnkjmfbpkbooeaaGreatDoorClockReadsM
import Derived.Test.YtnkjmfbpkbooeaaGreatDoorPl
namespace Go.Proofs.YtnkjmfbpkbooeaaGreatDoor.M
open Go Go.Pu
set_option linter.unusedSimpArgs false
set_option linter.unusedVariables false

structure PieceOk (c : level_Clock) (k : Nat) (p : level_Piece) : Prop where
  from_ : c.start ≤ p.from_ ∧ p.from_ ≤ 3000000
  cal : 0 ≤ p.calendar ∧ p.calendar ≤ 19
  to_ : p.to_ = -1 ∨ (p.from_ < p.to_ ∧ p.to_ ≤ 3000000)
  open_ : p.to_ = -1 → k + 1 = c.pieces.length ∧ c.stop = -1
  stop : c.stop ≠ -1 → p.to_ ≤ c.stop
structure ClockOk (c : level_Clock) : Prop where
  minutes : 0 ≤ c.minutes ∧ c.minutes ≤ 100000
  start : 0 ≤ c.start ∧ c.start ≤ 3000000
  stop : c.stop = -1 ∨ (c.start ≤ c.stop ∧ c.stop ≤ 3000000)
  ends : 0 ≤ c.end_ ∧ c.end_ ≤ 2
  both : c.stop = -1 ↔ c.end_ = 0
  len : c.pieces.length ≤ 6000
  pieces : ∀ (k : Nat) (p : level_Piece), c.pieces[k]? = some p → PieceOk c k p
  order : ∀ (k : Nat) (p q : level_Piece), c.pieces[k]? = some p → c.pieces[k + 1]? = some q → p.to_ ≤ q.from_

theorem piece_same (c : level_Clock) (p : level_Piece) : (((!(level_within p.from_ c.start 3000000)) || (!(level_within p.calendar 0 19))) || ((p.to_ != (-1)) && (!(level_within p.to_ (w64 (p.from_ + 1)) 3000000)))) = true ↔ ¬ ((c.start ≤ p.from_ ∧ p.from_ ≤ 3000000) ∧ (0 ≤ p.calendar ∧ p.calendar ≤ 19) ∧ (p.to_ = -1 ∨ (w64 (p.from_ + 1) ≤ p.to_ ∧ p.to_ ≤ 3000000))) := by
  simp [level_within]
  omega
theorem clock_loop {R : Type} (c : level_Clock) (h0 : 0 ≤ c.start) (hlen : c.pieces.length ≤ 6000) (r2 r1 r5 : R) (bad : level_Piece → Bool)
    (hbad : ∀ p : level_Piece, bad p = true ↔ ¬ ((c.start ≤ p.from_ ∧ p.from_ ≤ 3000000) ∧ (0 ≤ p.calendar ∧ p.calendar ≤ 19) ∧ (p.to_ = -1 ∨ (p.from_ < p.to_ ∧ p.to_ ≤ 3000000)))) :
    ∃ o, rangeB (fun k45 (_ : Unit) => Option.bind (idx c.pieces (k45 : Int)) fun x64 => if bad x64 = true then some (.rt r2) else Option.bind (if ((x64.to_ == (-1)) && ((decide ((k45 : Int) < (w64 ((c.pieces.length : Int) - 1)))) || (c.stop != (-1)))) = true then some ((x64.to_ == (-1)) && ((decide ((k45 : Int) < (w64 ((c.pieces.length : Int) - 1)))) || (c.stop != (-1)))) else some ((c.stop != (-1)) && (decide (c.stop < x64.to_)))) fun s101 => if s101 = true then some (.rt r1) else Option.bind (if (decide ((0 : Int) < (k45 : Int))) = true then (Option.bind (idx c.pieces (w64 ((k45 : Int) - 1))) fun x122 => some (decide (x64.from_ < x122.to_))) else (some false)) fun s116 => if s116 = true then some (.rt r5) else some (.nx ())) c.pieces.length 0 () = some o ∧
      ((∃ r, o = .rt r ∧ (r = r2 ∨ r = r1 ∨ r = r5)) ∨ (o = .fin () ∧ (∀ (k : Nat) (p : level_Piece), c.pieces[k]? = some p → PieceOk c k p) ∧ ∀ (k : Nat) (p q : level_Piece), c.pieces[k]? = some p → c.pieces[k + 1]? = some q → p.to_ ≤ q.from_)) := by
  refine rangeB_spec c.pieces.length (fun k _ => (∀ (j : Nat) (p : level_Piece), j < k → c.pieces[j]? = some p → PieceOk c j p) ∧ ∀ (j : Nat) (p q : level_Piece), j + 1 < k → c.pieces[j]? = some p → c.pieces[j + 1]? = some q → p.to_ ≤ q.from_) _ ⟨fun j _ hj => absurd hj (by omega), fun j _ _ hj => absurd hj (by omega)⟩ ?_ ?_
  · rintro k _ hk ⟨i1, i2⟩
    have hx := List.getElem?_eq_getElem hk
    generalize c.pieces[k] = p at hx
    rw [idx_nat, hx, Option.bind_some]
    by_cases h1 : bad p = true
    · rw [if_pos h1]
      exact ⟨_, rfl, .inl ⟨_, rfl, .inl rfl⟩⟩
    rw [if_neg h1]
    have hb := Classical.not_not.1 fun h => h1 ((hbad p).2 h)
    have hw : w64 ((c.pieces.length : Int) - 1) = (c.pieces.length : Int) - 1 := w64_id (by omega) (by omega)
    by_cases h2 : ((p.to_ == (-1)) && ((decide ((k : Int) < (w64 ((c.pieces.length : Int) - 1)))) || (c.stop != (-1)))) = true
    · rw [if_pos h2, Option.bind_some, if_pos h2]
      exact ⟨_, rfl, .inl ⟨_, rfl, .inr (.inl rfl)⟩⟩
    rw [if_neg h2, Option.bind_some]
    by_cases h3 : ((c.stop != (-1)) && (decide (c.stop < p.to_))) = true
    · rw [if_pos h3]
      exact ⟨_, rfl, .inl ⟨_, rfl, .inr (.inl rfl)⟩⟩
    rw [if_neg h3]
    have hp : PieceOk c k p := by
      rw [hw] at h2
      simp at h2 h3
      refine ⟨hb.1, hb.2.1, hb.2.2, fun h => ?_, fun h => ?_⟩
      · have := h2 h
        omega
      · exact h3 h
    have next : (∀ q, 0 < k → c.pieces[k - 1]? = some q → q.to_ ≤ p.from_) → (∀ (j : Nat) (p : level_Piece), j < k + 1 → c.pieces[j]? = some p → PieceOk c j p) ∧ ∀ (j : Nat) (p q : level_Piece), j + 1 < k + 1 → c.pieces[j]? = some p → c.pieces[j + 1]? = some q → p.to_ ≤ q.from_ := fun hq => by
      refine ⟨fun j p' hj hp' => ?_, fun j p' q' hj hp' hq' => ?_⟩
      · by_cases hjk : j = k
        · subst hjk
          rw [hx] at hp'
          cases hp'
          exact hp
        · exact i1 j p' (by omega) hp'
      · by_cases hjk : j + 1 = k
        · subst hjk
          rw [hx] at hq'
          cases hq'
          exact hq p' (by omega) (by simpa using hp')
        · exact i2 j p' q' (by omega) hp' hq'
    by_cases hk0 : (0 : Int) < (k : Int)
    · have hprev : c.pieces[k - 1]? = some c.pieces[k - 1] := List.getElem?_eq_getElem (by omega)
      have hw1 : w64 ((k : Int) - 1) = ((k - 1 : Nat) : Int) := by rw [w64_id (by omega) (by omega)]; omega
      simp only [hk0, decide_true, if_true, hw1, idx_nat, hprev, Option.bind_some]
      by_cases h4 : p.from_ < c.pieces[k - 1].to_
      · simp only [h4, decide_true, if_true]
        exact ⟨_, rfl, .inl ⟨_, rfl, .inr (.inr rfl)⟩⟩
      · simp only [h4, decide_false, Bool.false_eq_true, if_false]
        refine ⟨_, rfl, next fun q _ hq => ?_⟩
        rw [hprev] at hq
        cases hq
        omega
    · simp only [hk0, decide_false, Bool.false_eq_true, if_false, Option.bind_some]
      exact ⟨_, rfl, next fun q hq _ => by omega⟩
  · rintro _ ⟨i1, i2⟩
    refine .inr ⟨rfl, fun k p hp => i1 k p (List.getElem?_eq_some_iff.1 hp).1 hp, fun k p q hp hq => i2 k p q (List.getElem?_eq_some_iff.1 hq).1 hp hq⟩

theorem clock_eq (c : level_Clock) : ∃ r, level_CheckClock c = some r ∧ portref2_ClockFault c = some r ∧ (r = 0 → ClockOk c) := by
  unfold level_CheckClock portref2_ClockFault
  have e1 : ((((((((((decide (c.kind < 1)) || (decide ((3 : Int) < c.kind))) || (decide (c.level < 0))) || (decide ((20 : Int) ≤ c.level))) || (decide (c.minutes < 0))) || (decide ((100000 : Int) < c.minutes))) || (!(portref2_IsMoment c.start))) || ((c.stop != (-1)) && ((!(portref2_IsMoment c.stop)) || (decide (c.stop < c.start))))) || (decide (c.end_ < 0))) || (decide ((2 : Int) < c.end_))) = true ↔ ((((((!(level_within c.kind 1 3)) || (!(level_within c.level 0 19))) || (!(level_within c.minutes 0 100000))) || (!(level_within c.start 0 3000000))) || ((c.stop != (-1)) && (!(level_within c.stop c.start 3000000)))) || (!(level_within c.end_ 0 2))) = true := by
    simp [level_within, portref2_IsMoment]
    omega
  by_cases h1 : ((((((!(level_within c.kind 1 3)) || (!(level_within c.level 0 19))) || (!(level_within c.minutes 0 100000))) || (!(level_within c.start 0 3000000))) || ((c.stop != (-1)) && (!(level_within c.stop c.start 3000000)))) || (!(level_within c.end_ 0 2))) = true
  · rw [if_pos h1, if_pos (e1.2 h1)]
    exact ⟨_, rfl, rfl, fun h => by cases h⟩
  rw [if_neg h1, if_neg fun h => h1 (e1.1 h)]
  by_cases h2 : (!((c.stop == (-1)) == (c.end_ == 0))) = true
  · rw [if_pos h2, if_pos h2]
    exact ⟨_, rfl, rfl, fun h => by cases h⟩
  rw [if_neg h2, if_neg h2]
  by_cases h3 : (decide ((6000 : Int) < (c.pieces.length : Int))) = true
  · rw [if_pos h3, if_pos h3]
    exact ⟨_, rfl, rfl, fun h => by cases h⟩
  rw [if_neg h3, if_neg h3]
  have hlen : c.pieces.length ≤ 6000 := by
    simp at h3
    omega
  have hb : (0 ≤ c.minutes ∧ c.minutes ≤ 100000) ∧ (0 ≤ c.start ∧ c.start ≤ 3000000) ∧ (c.stop = -1 ∨ (c.start ≤ c.stop ∧ c.stop ≤ 3000000)) ∧ (0 ≤ c.end_ ∧ c.end_ ≤ 2) := by
    simp [level_within] at h1
    omega
  have hbo : c.stop = -1 ↔ c.end_ = 0 := by
    simp only [Bool.not_eq_true', Bool.not_eq_false] at h2
    have h4 : ((c.stop == (-1)) = (c.end_ == 0)) := by
      cases hq : (c.stop == (-1)) <;> cases hr : (c.end_ == 0) <;> simp_all
    constructor
    · intro h
      rw [h] at h4
      simpa using h4.symm
    · intro h
      rw [h] at h4
      simpa using h4
  obtain ⟨o1, ho1, hp1⟩ := clock_loop (R := Int) c hb.2.1.1 hlen 2 1 5 (fun x64 => (((!(level_within x64.from_ c.start 3000000)) || (!(level_within x64.calendar 0 19))) || ((x64.to_ != (-1)) && (!(level_within x64.to_ (w64 (x64.from_ + 1)) 3000000))))) (fun p => by
    rw [piece_same]
    by_cases hf : c.start ≤ p.from_ ∧ p.from_ ≤ 3000000
    · rw [w64_id (n := p.from_ + 1) (by omega) (by omega)]
      omega
    · simp only [hf, false_and])
  obtain ⟨o2, ho2, hp2⟩ := clock_loop (R := Int) c hb.2.1.1 hlen 2 1 5 (fun x79 => (((((decide (x79.from_ < c.start)) || (!(portref2_IsMoment x79.from_))) || (decide (x79.calendar < 0))) || (decide ((20 : Int) ≤ x79.calendar))) || ((x79.to_ != (-1)) && ((!(portref2_IsMoment x79.to_)) || (decide (x79.to_ ≤ x79.from_)))))) (fun p => by
    simp [portref2_IsMoment]
    omega)
  have hsame : o1 = o2 := by
    have hbody : ∀ (b1 b2 : level_Piece → Bool), (∀ p, b1 p = b2 p) → b1 = b2 := fun _ _ h => funext h
    have e := hbody (fun x64 => (((!(level_within x64.from_ c.start 3000000)) || (!(level_within x64.calendar 0 19))) || ((x64.to_ != (-1)) && (!(level_within x64.to_ (w64 (x64.from_ + 1)) 3000000))))) (fun x79 => (((((decide (x79.from_ < c.start)) || (!(portref2_IsMoment x79.from_))) || (decide (x79.calendar < 0))) || (decide ((20 : Int) ≤ x79.calendar))) || ((x79.to_ != (-1)) && ((!(portref2_IsMoment x79.to_)) || (decide (x79.to_ ≤ x79.from_)))))) (fun p => by
      rw [Bool.eq_iff_iff, piece_same]
      by_cases hf : c.start ≤ p.from_ ∧ p.from_ ≤ 3000000
      · rw [w64_id (n := p.from_ + 1) (by omega) (by omega)]
        simp [portref2_IsMoment]
        omega
      · simp only [hf, false_and, not_false_eq_true, true_iff]
        simp [portref2_IsMoment]
        omega)
    have h5 := congrFun e
    simp only [h5] at ho1
    exact Option.some.inj (ho1.symm.trans ho2)
  subst hsame
  rw [ho1, ho2]
  rcases hp1 with ⟨r, rfl, hr⟩ | ⟨rfl, q1, q2⟩
  · exact ⟨r, rfl, rfl, fun h => by rcases hr with rfl | rfl | rfl <;> cases h⟩
  · exact ⟨0, rfl, rfl, fun _ => ⟨hb.1, hb.2.1, hb.2.2.1, hb.2.2.2, hbo, hlen, q1, q2⟩⟩

/-! lists of clocks -/
end Go.Proofs.YtnkjmfbpkbooeaaGreatDoor.M
