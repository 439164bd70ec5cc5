/-
  Clocks: the moment that is counted as the k-th one: plain part.
-/
import Derived.Test.YtpfoimbklbkcpaaClockWarnsClkPieces
import Derived.Test.YtpfoimbklbkcpaaClockWarnsCalWorked
import Derived.Test.YtpfoimbklbkcpaaClockWarnsCalAdd
namespace Go.Proofs.Ytpfoimbklbkcpaa.M
open Go Go.Pu
set_option linter.unusedSimpArgs false
set_option linter.unusedVariables false

/-! counted -/
theorem counted_forL {cals : List cal_Calendar} : ∀ (l : List level_Piece) (j : Nat) (lo k : Int), 0 ≤ lo → SortedP cals lo l → 0 ≤ k → k ≤ 3000000 →
    ∃ o, forL (R := Int × Bool) (fun _ (x37 : level_Piece) (s24 : Int) => Option.bind (if (x37.to_ == (-1)) = true then some 3000001 else some x37.to_) fun s52 => Option.bind (idx cals x37.calendar) fun x61 => Option.bind (cal_Worked x61 x37.from_ s52) fun x73 => if (decide (s24 < x73.1)) = true then Option.bind (cal_Add x61 x37.from_ s24) fun x90 => some (.rt (x90.1, x90.2 == 0)) else some (.nx (w64 (s24 - x73.1)))) l j k = some o ∧
      ((∃ m, o = .rt (m, true) ∧ lo ≤ m ∧ m ≤ 3000000 ∧ cnt (OC cals l) lo m = k ∧ OC cals l m) ∨ ((∃ s, o = .fin s) ∧ cnt (OC cals l) lo 3000001 ≤ k))
  | [], j, lo, k, h0, hs, hk0, hk1 => ⟨_, rfl, .inr ⟨⟨_, rfl⟩, by rw [oc_nil]; exact hk0⟩⟩
  | p :: l, j, lo, k, h0, hs, hk0, hk1 => by
    have hs' := hs
    obtain ⟨h1, h2, h3, ⟨c, hc, hok, hcc⟩, h5⟩ := hs'
    obtain ⟨he1, he2, he3, he4⟩ := endP_of h0 h1 h2 h3
    have e1 : (if (p.to_ == (-1)) = true then some (3000001 : Int) else some p.to_) = some (endP p) := by
      unfold endP
      by_cases h : p.to_ = -1
      · simp [h]
      · simp [h]
    rw [forL, e1]
    simp only [Option.bind_some, hc, worked_val hok hcc p.from_ (endP p) (by omega) h2 (by omega) (by omega)]
    have hcn := cnt_nonneg (O := Opn c) (a := p.from_) (b := endP p)
    have hcl := cnt_le (O := Opn c) (a := p.from_) (b := endP p) (by omega)
    by_cases hlt : k < cnt (Opn c) p.from_ (endP p)
    · simp only [hlt, decide_true, if_true]
      rcases add_val hok hcc p.from_ k (by omega) h2 hk0 (by omega) with ⟨q, hq, q1, q2, q3, q4⟩ | ⟨q, hq, q1⟩
      · have hqe : q < endP p := by
          rcases Int.lt_or_le q (endP p) with h | h
          · exact h
          · have := cnt_mono (O := Opn c) (a := p.from_) (m := endP p) (b := q) (by omega) h
            omega
        rw [hq]
        refine ⟨_, rfl, .inl ⟨q, rfl, by omega, q2, ?_, (oc_in h0 hs hc q hqe).2 ⟨q1, q4⟩⟩⟩
        rw [cnt_oc h0 hs hc, if_pos hqe, q3, cnt_empty (a := endP p) (by omega), Int.add_zero]
      · have := cnt_mono (O := Opn c) (a := p.from_) (m := endP p) (b := 3000001) (by omega) (by omega)
        omega
    · simp only [hlt, decide_false, Bool.false_eq_true, if_false]
      rw [w64_id (by omega) (by omega)]
      obtain ⟨o, ho, hh⟩ := counted_forL l (j + 1) (endP p) (k - cnt (Opn c) p.from_ (endP p)) (by omega) h5 (by omega) (by omega)
      refine ⟨o, ho, ?_⟩
      rcases hh with ⟨m, rfl, m1, m2, m3, m4⟩ | ⟨hs', hm⟩
      · refine .inl ⟨m, rfl, by omega, m2, ?_, (oc_past h0 hs m m1).2 m4⟩
        rw [cnt_oc h0 hs hc, if_neg (by omega), m3]
        omega
      · refine .inr ⟨hs', ?_⟩
        rw [cnt_oc h0 hs hc, if_neg (by omega)]
        omega

theorem counted_val {cals : List cal_Calendar} (c : level_Clock) {lo : Int} (h0 : 0 ≤ lo) (hs : SortedP cals lo c.pieces) (k : Int) (hk0 : 0 ≤ k) (hk1 : k ≤ 3000000) :
    (∃ m, level_counted c cals k = some (m, true) ∧ lo ≤ m ∧ m ≤ 3000000 ∧ cnt (OC cals c.pieces) lo m = k ∧ OC cals c.pieces m) ∨ (level_counted c cals k = some (0, false) ∧ cnt (OC cals c.pieces) lo 3000001 ≤ k) := by
  obtain ⟨o, ho, hh⟩ := counted_forL c.pieces 0 lo k h0 hs hk0 hk1
  unfold level_counted
  rw [rangeB_forL c.pieces (R := Int × Bool) (fun _ (x37 : level_Piece) (s24 : Int) => Option.bind (if (x37.to_ == (-1)) = true then some 3000001 else some x37.to_) fun s52 => Option.bind (idx cals x37.calendar) fun x61 => Option.bind (cal_Worked x61 x37.from_ s52) fun x73 => if (decide (s24 < x73.1)) = true then Option.bind (cal_Add x61 x37.from_ s24) fun x90 => some (.rt (x90.1, x90.2 == 0)) else some (.nx (w64 (s24 - x73.1)))) _ (fun j s x hx => by simp [idx_nat, hx]), ho]
  rcases hh with ⟨m, rfl, h⟩ | ⟨⟨s, rfl⟩, h⟩
  · exact .inl ⟨m, rfl, h⟩
  · exact .inr ⟨rfl, h⟩
end Go.Proofs.Ytpfoimbklbkcpaa.M
