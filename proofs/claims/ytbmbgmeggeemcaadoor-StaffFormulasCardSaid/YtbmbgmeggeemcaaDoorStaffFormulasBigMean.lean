/-
  The share that waits, the mean wait, and whether the promise is kept: the same on both sides.
-/
import Derived.Test.YtbmbgmeggeemcaaDoorStaffFormulasBigWait
namespace Go.Proofs.YtbmbgmeggeemcaaDoor.M
open Go Go.Pu
set_option linter.unusedSimpArgs false
set_option linter.unusedVariables false

theorem sgn_le {x y : Int} : decide (sgn x y ≤ 0) = decide (x ≤ y) := by
  unfold sgn
  by_cases h : x < y
  · rw [if_pos h]
    rw [decide_eq_true (by decide), decide_eq_true (by omega)]
  · rw [if_neg h]
    by_cases h2 : x = y
    · rw [if_pos h2]
      rw [decide_eq_true (by decide), decide_eq_true (by omega)]
    · rw [if_neg h2]
      rw [decide_eq_false (by decide), decide_eq_false (by omega)]

theorem enough_val {l : staff_Load} (h : LoadOK l) (n : Nat) (hn : n ≤ 60) : staff_Load_enough l n = some (decide (l.calls * l.length < (n : Int) * l.span)) := by
  unfold staff_Load_enough
  rw [offered_val h]
  have := h.ns hn
  simp only [Option.bind_some]
  rw [w64_id (by omega) (by omega)]

/-- the reference's test -/
theorem enough_ref {l : staff_Load} (h : LoadOK l) (n : Nat) (hn : n ≤ 60) : ∃ r o, portref2_rat n 1 = some r ∧ FR r 2 n 1 ∧ portref2_offered l = some o ∧ FR o 2 (l.calls * l.length) l.span ∧
    portref2_ratio_cmp r o = some (sgn ((n : Int) * l.span) (l.calls * l.length)) := by
  obtain ⟨r, hr, fr⟩ := rat_spec (n : Int) 1 (by omega) (by decide)
  obtain ⟨o, ho, fo⟩ := offered_ref h
  refine ⟨r, o, hr, fr, ho, fo, ?_⟩
  rw [ratio_cmp_spec fr fo (by decide) (by decide), Int.mul_one]

/-- the share that waits -/
theorem waits_both {l : staff_Load} (h : LoadOK l) (n : Nat) (hn : n ≤ 60) : ∃ p q v r, 0 ≤ p ∧ 0 < q ∧ staff_Load_waits l n = some v ∧ NR v 200 p q ∧ portref2_waits l n = some r ∧ FR r 2000 p q := by
  unfold staff_Load_waits portref2_waits
  obtain ⟨rn, o, hrn, frn, ho, fo, hcmp⟩ := enough_ref h n hn
  rw [enough_val h n hn, ho]
  simp only [Option.bind_some]
  have hoff := h.off
  have hns := h.ns hn
  have hs0 := h.s0
  have d1 : Dig ([1] : List Int) := by intro x hx; simp at hx; omega
  have d0 : Dig ([] : List Int) := by intro x hx; simp at hx
  obtain ⟨r1, hr1, f1⟩ := rat_spec 1 1 (by decide) (by decide)
  by_cases hc : l.calls = 0
  · rw [if_pos (by simpa using hc), if_pos (by simpa using hc)]
    obtain ⟨r0, hr0, f0⟩ := rat_spec 0 1 (by decide) (by decide)
    rw [hr0]
    exact ⟨0, 1, _, r0, by decide, by decide, rfl, ⟨d0, d1, by simp, by simp, by simp [nv], by simp [nv], by simp [Trm], by simp [Trm]⟩, rfl, f0.mono (by decide)⟩
  have hcb : (l.calls == 0) = false := by simpa using hc
  rw [hcb]
  simp only [Bool.false_eq_true, if_false, hrn, Option.bind_some, hcmp, sgn_le]
  by_cases he : l.calls * l.length < (n : Int) * l.span
  · have e1 : decide (l.calls * l.length < (n : Int) * l.span) = true := decide_eq_true he
    have e2 : decide ((n : Int) * l.span ≤ l.calls * l.length) = false := decide_eq_false (by omega)
    simp only [e1, e2, Bool.not_true, Bool.false_eq_true, if_false, offered_val h, Option.bind_some]
    obtain ⟨b, hb, nb⟩ := blocked_val h n hn
    obtain ⟨b', hb', fb⟩ := blocked_ref h n hn
    have hN0 := aP_nonneg hoff.1 n
    have hD0 := bD_pos hoff.1 (S := l.span) (by omega) n
    have hND := aP_le_bD hoff.1 (S := l.span) (by omega) n
    have hn0 : 0 < (n : Int) := by
      by_cases hz : (n : Int) = 0
      · rw [hz, Int.zero_mul] at he
        omega
      · omega
    generalize l.calls * l.length = A at *
    generalize hSe : l.span = S at *
    generalize aP A n = N at *
    generalize bD A S n = D at *
    have w1 : w64 ((n : Int) * S) = (n : Int) * S := w64_id (by omega) (by omega)
    have w2 : w64 ((n : Int) * S - A) = (n : Int) * S - A := w64_id (by omega) (by omega)
    obtain ⟨x, hx, x1, x2, x3, x4⟩ := small_spec b.num ((n : Int) * S) nb.dn (by omega) (by have := nb.ln; omega)
    obtain ⟨y, hy, y1, y2, y3, y4⟩ := small_spec b.den ((n : Int) * S - A) nb.dd (by omega) (by have := nb.ld; omega)
    obtain ⟨z, hz, z1, z2, z3, z4⟩ := small_spec b.num A nb.dn (by omega) (by have := nb.ln; omega)
    obtain ⟨m, hm, m1, m2, m3, m4⟩ := plus_spec' y z y2 z2 (by have := nb.ld; omega) (by have := nb.ln; omega)
    have q0 : 0 < D * ((n : Int) * S - A) + N * A := by
      have q1 := Int.mul_pos hD0 (show 0 < (n : Int) * S - A by omega)
      have q2 := Int.mul_nonneg hN0 hoff.1
      omega
    -- the reference's steps
    have hle1 : N * 1 ≤ 1 * D := by rw [Int.mul_one, Int.one_mul]; exact hND
    obtain ⟨c1, hc1, g1⟩ := ratio_minus_spec f1 fb (by decide) hle1
    obtain ⟨c2, hc2, g2⟩ := ratio_times_spec g1 fo (by decide)
    obtain ⟨c3, hc3, g3⟩ := ratio_by_spec g2 frn (by decide) hn0
    have hfree : (1 * D - N * 1) * A * 1 * 1 ≤ 1 * (1 * D * S * (n : Int)) := by
      have q1 := Int.mul_pos hD0 (show 0 < (n : Int) * S - A by omega)
      have q2 := Int.mul_nonneg hN0 hoff.1
      rw [Int.mul_sub] at q1
      have e1 : 1 * (1 * D * S * (n : Int)) = D * ((n : Int) * S) := by rw [Int.one_mul, Int.one_mul]; ac_rfl
      rw [e1, Int.one_mul, Int.mul_one, Int.mul_one, Int.mul_one, Int.sub_mul]
      omega
    obtain ⟨c4, hc4, g4⟩ := ratio_minus_spec f1 g3 (by decide) hfree
    have e4 : 1 * (1 * D * S * (n : Int)) - (1 * D - N * 1) * A * 1 * 1 = D * ((n : Int) * S - A) + N * A := by
      have e1 : 1 * (1 * D * S * (n : Int)) = D * ((n : Int) * S) := by rw [Int.one_mul, Int.one_mul]; ac_rfl
      rw [e1, Int.one_mul, Int.mul_one, Int.mul_one, Int.mul_one, Int.sub_mul, Int.mul_sub]
      omega
    rw [e4] at g4
    obtain ⟨c5, hc5, g5⟩ := ratio_by_spec fb g4 (by decide) q0
    refine ⟨N * ((n : Int) * S), D * ((n : Int) * S - A) + N * A, (⟨x, m⟩ : staff_ratio), c5, Int.mul_nonneg hN0 hns.1, q0, ?_, ⟨x2, m2, ?_, ?_, ?_, ?_, x3, m4 y3 z3⟩, ?_, ?_⟩
    · simp only [hb, w1, w2, hx, hy, hz, hm, Option.bind_some]
    · show x.length ≤ 200
      have := nb.ln
      omega
    · show m.length ≤ 200
      have := nb.ln
      have := nb.ld
      omega
    · show nv x = _
      rw [x1, nb.vn, Int.mul_comm]
    · show nv m = _
      rw [m1, y1, z1, nb.vn, nb.vd, Int.mul_comm D, Int.mul_comm N]
    · simp only [hb', hr1, hc1, hc2, hc3, hc4, hc5, Option.bind_some]
    · refine (g5.mono (by decide)).conv q0 ?_
      have e5 : D * (D * ((n : Int) * S - A) + N * A) = D * (D * ((n : Int) * S - A) + N * A) := rfl
      have e6 : N * (1 * (1 * D * S * (n : Int))) = D * (N * ((n : Int) * S)) := by rw [Int.one_mul, Int.one_mul]; ac_rfl
      rw [e6]
      ac_rfl
  · have e1 : decide (l.calls * l.length < (n : Int) * l.span) = false := decide_eq_false he
    have e2 : decide ((n : Int) * l.span ≤ l.calls * l.length) = true := decide_eq_true (by omega)
    simp only [e1, e2, Bool.not_false, if_true, hr1, Option.bind_some]
    exact ⟨1, 1, _, r1, by decide, by decide, rfl, ⟨d1, d1, by simp, by simp, by simp [nv], by simp [nv], by simp [Trm], by simp [Trm]⟩, rfl, f1.mono (by decide)⟩

/-- the mean wait -/
theorem mean_both {l : staff_Load} (h : LoadOK l) (n : Nat) (hn : n ≤ 60) : ∃ v r b, staff_Load_meanWait l n = some (v, b) ∧ portref2_meanWait l n = some (r, b) ∧ (b = true → ∃ p q, 0 ≤ p ∧ 0 < q ∧ NR v 300 p q ∧ FR r 3000 p q) := by
  unfold staff_Load_meanWait portref2_meanWait
  obtain ⟨rn, o, hrn, frn, ho, fo, hcmp⟩ := enough_ref h n hn
  rw [enough_val h n hn, ho]
  simp only [Option.bind_some]
  have hoff := h.off
  have hns := h.ns hn
  have hs0 := h.s0
  have hs1 := h.s1
  have hl0 := h.l0
  have hl1 := h.l1
  have d1 : Dig ([1] : List Int) := by intro x hx; simp at hx; omega
  have d0 : Dig ([] : List Int) := by intro x hx; simp at hx
  by_cases hc : l.calls = 0
  · rw [if_pos (by simpa using hc), if_pos (by simpa using hc)]
    obtain ⟨r0, hr0, f0⟩ := rat_spec 0 1 (by decide) (by decide)
    rw [hr0]
    exact ⟨_, r0, true, rfl, rfl, fun _ => ⟨0, 1, by decide, by decide, ⟨d0, d1, by simp, by simp, by simp [nv], by simp [nv], by simp [Trm], by simp [Trm]⟩, f0.mono (by decide)⟩⟩
  have hcb : (l.calls == 0) = false := by simpa using hc
  rw [hcb]
  simp only [Bool.false_eq_true, if_false, hrn, Option.bind_some, hcmp, sgn_le]
  by_cases he : l.calls * l.length < (n : Int) * l.span
  · have e1 : decide (l.calls * l.length < (n : Int) * l.span) = true := decide_eq_true he
    have e2 : decide ((n : Int) * l.span ≤ l.calls * l.length) = false := decide_eq_false (by omega)
    simp only [e1, e2, Bool.not_true, Bool.false_eq_true, if_false, offered_val h, Option.bind_some]
    obtain ⟨p, q, v, r, hp, hq, hv, nv', hr, fr⟩ := waits_both h n hn
    obtain ⟨rl, hrl, frl⟩ := rat_spec l.length 1 (by omega) (by decide)
    rw [hv, hr, hrl]
    simp only [Option.bind_some]
    have hLS : 0 ≤ l.length * l.span ∧ l.length * l.span ≤ 14515200 := ⟨Int.mul_nonneg (by omega) (by omega), Int.mul_le_mul hl1 hs1 (by omega) (by decide)⟩
    generalize l.calls * l.length = A at *
    generalize l.span = S at *
    generalize l.length = len at *
    have w1 : w64 ((n : Int) * S) = (n : Int) * S := w64_id (by omega) (by omega)
    have w2 : w64 ((n : Int) * S - A) = (n : Int) * S - A := w64_id (by omega) (by omega)
    have w3 : w64 (len * S) = len * S := w64_id (by omega) (by omega)
    obtain ⟨x, hx, x1, x2, x3, x4⟩ := small_spec v.num (len * S) nv'.dn (by omega) (by have := nv'.ln; omega)
    obtain ⟨y, hy, y1, y2, y3, y4⟩ := small_spec v.den ((n : Int) * S - A) nv'.dd (by omega) (by have := nv'.ld; omega)
    obtain ⟨c1, hc1, g1⟩ := ratio_times_spec fr frl (by decide)
    obtain ⟨c2, hc2, g2⟩ := ratio_minus_spec frn fo (by decide) (by rw [Int.mul_one]; omega)
    rw [Int.mul_one, Int.one_mul] at g2
    obtain ⟨c3, hc3, g3⟩ := ratio_by_spec g1 g2 (by decide) (by omega)
    refine ⟨(⟨x, y⟩ : staff_ratio), c3, true, ?_, ?_, fun _ => ⟨p * (len * S), q * ((n : Int) * S - A), Int.mul_nonneg hp hLS.1, Int.mul_pos hq (by omega), ⟨x2, y2, ?_, ?_, ?_, ?_, x3, y3⟩, ?_⟩⟩
    · simp only [w1, w2, w3, hx, hy, Option.bind_some]
    · simp only [hc1, hc2, hc3, Option.bind_some]
    · show x.length ≤ 300
      have := nv'.ln
      omega
    · show y.length ≤ 300
      have := nv'.ld
      omega
    · show nv x = _
      rw [x1, nv'.vn, Int.mul_comm]
    · show nv y = _
      rw [y1, nv'.vd, Int.mul_comm]
    · refine (g3.mono (by decide)).conv (Int.mul_pos hq (by omega)) ?_
      rw [Int.mul_one]
      ac_rfl
  · have e1 : decide (l.calls * l.length < (n : Int) * l.span) = false := decide_eq_false he
    have e2 : decide ((n : Int) * l.span ≤ l.calls * l.length) = true := decide_eq_true (by omega)
    simp only [e1, e2, Bool.not_false, if_true]
    exact ⟨_, _, false, rfl, rfl, fun hf => by cases hf⟩

end Go.Proofs.YtbmbgmeggeemcaaDoor.M
