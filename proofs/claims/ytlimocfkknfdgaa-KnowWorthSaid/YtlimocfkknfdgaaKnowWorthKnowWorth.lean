/-
  Worth and its reference agree: plain part.
-/
import Derived.Test.YtlimocfkknfdgaaKnowWorthM
import Derived.Test.YtlimocfkknfdgaaPl
namespace Go.Proofs.Ytlimocfkknfdgaa.M
open Go Go.Pu

theorem contains_vote (s : List know_Vote) (q : know_Vote → Bool) : slices_ContainsFunc_Lknow_Vote_know_Vote s (fun x => some (q x)) = some (s.any q) := by
  unfold slices_ContainsFunc_Lknow_Vote_know_Vote slices_IndexFunc_Lknow_Vote_know_Vote
  rw [rangeB_index, ← findIdx_any]
  cases s.findIdx? q <;> rfl

theorem half_loop {R : Type} (n : Nat) (hn : n ≤ 3000000) : ∃ a b : Int, whileB (R := R) (fun s84 : Int × Int => if ((decide ((0 : Int) < s84.2)) && (decide ((0 : Int) < s84.1))) = true then some (.nx (w64 (Int.tdiv s84.1 2), w64 (s84.2 - 1))) else some (.bk (s84.1, s84.2))) (1000000, (n : Int)) = some (.fin (a, b)) ∧ (n < 20 → a = ((1000000 / 2 ^ n : Nat) : Int)) := by
  have pos : ∀ j : Fin 20, 0 < 1000000 / 2 ^ j.1 := by decide +kernel
  obtain ⟨r, h, a, b, rfl, hr⟩ := whileB_spec (R := R) (body := fun s84 : Int × Int => if ((decide ((0 : Int) < s84.2)) && (decide ((0 : Int) < s84.1))) = true then some (.nx (w64 (Int.tdiv s84.1 2), w64 (s84.2 - 1))) else some (.bk (s84.1, s84.2)))
    (fun s => ∃ a j : Nat, s = ((a : Int), ((n - j : Nat) : Int)) ∧ j ≤ n ∧ a = 1000000 / 2 ^ j) (fun s => s.2.toNat)
    (fun r => ∃ a b : Int, r = .fin (a, b) ∧ (n < 20 → a = ((1000000 / 2 ^ n : Nat) : Int))) (s := (1000000, (n : Int)))
    ⟨1000000, 0, rfl, Nat.zero_le _, rfl⟩ (by
      rintro _ ⟨a, j, rfl, hj, ha⟩
      have hle : a ≤ 1000000 := by rw [ha]; exact Nat.div_le_self _ _
      by_cases hc : j < n ∧ 0 < a
      · have h1 : (0 : Int) < ((n - j : Nat) : Int) := by omega
        have h2 : (0 : Int) < (a : Int) := by omega
        simp only [h1, h2, decide_true, Bool.and_self, if_true]
        refine ⟨_, rfl, ⟨a / 2, j + 1, ?_, by omega, ?_⟩, ?_⟩
        · have e : Int.tdiv (a : Int) 2 = ((a / 2 : Nat) : Int) := rfl
          rw [e, w64_id (by omega) (by omega), w64_id (by omega) (by omega)]
          congr 1
          omega
        · rw [ha, Nat.div_div_eq_div_mul, Nat.pow_succ]
        · simp only
          rw [w64_id (by omega) (by omega)]
          omega
      · have hf : (decide ((0 : Int) < ((n - j : Nat) : Int)) && decide ((0 : Int) < (a : Int))) = false := by
          simp only [Bool.and_eq_false_iff, decide_eq_false_iff_not]
          omega
        simp only [hf, Bool.false_eq_true, if_false]
        refine ⟨_, rfl, _, _, rfl, fun hlt => ?_⟩
        have := pos ⟨j, by omega⟩
        simp only at this
        have : n = j := by omega
        rw [ha, this])
  exact ⟨a, b, h, hr⟩

theorem worth_true (l : List know_Vote) (id m half : Int) : portlaw2_KnowWorth l id m half = some true := by
  have main : ∃ r, know_Worth l id m half = some r ∧ portref2_WorthOf l id m half = some r := by
    unfold know_Worth portref2_WorthOf
    by_cases h5 : (5000 : Int) < (l.length : Int)
    · simp only [h5, decide_true, if_true]
      exact ⟨_, rfl, rfl⟩
    simp only [h5, decide_false, Bool.false_eq_true, if_false]
    have hp : ∀ x : know_Vote, portref2_WorthOf_1 x = some (!know_within x.at_ 0 3000000) := fun x => rfl
    simp only [hp]
    rw [contains_vote]
    have hany := rangeB_any l (fun x => !know_within x.at_ 0 3000000) ((0, 2) : Int × Int)
    simp only [hany, Option.bind_some]
    cases ha : l.any fun x => !know_within x.at_ 0 3000000 with
    | true =>
      simp only [if_true, Lp.andThen_rt, Bool.true_or]
      exact ⟨_, rfl, rfl⟩
    | false =>
      simp only [Bool.false_eq_true, if_false, Lp.andThen_fin, Bool.false_or]
      by_cases hb : 0 ≤ m ∧ m ≤ 3000000 ∧ 1 ≤ half ∧ half ≤ 3000000
      · obtain ⟨b1, b2, b3, b4⟩ := hb
        have c1 : (!know_within m 0 3000000 || !know_within half 1 3000000) = false := by simp [know_within]; omega
        have c2 : ((!portref2_IsMoment m || decide (half < 1)) || decide ((3000000 : Int) < half)) = false := by simp [portref2_IsMoment]; omega
        simp only [c1, c2, Bool.false_eq_true, if_false]
        have hat : ∀ x ∈ l, 0 ≤ x.at_ ∧ x.at_ ≤ 3000000 := by
          intro x hx
          have := List.any_eq_false.1 ha x hx
          simp [know_within] at this
          omega
        have hsh : ∀ n : Fin 20, shr .i64 1000000 (n.1 : Int) = some ((1000000 / 2 ^ n.1 : Nat) : Int) := by decide +kernel
        have sim := rangeB_sim (R := Int × Int) l.length
          (b := fun k57 s61 => Option.bind (Option.bind (idx l (k57 : Int)) fun x77 => if ((x77.id != id) || (decide (m < x77.at_))) = true then some s61 else Option.bind (quo (w64 (m - x77.at_)) half) fun x96 => if (decide ((20 : Int) ≤ x96)) = true then some s61 else Option.bind (shr .i64 1000000 x96) fun x98 => Option.bind (if (!x77.good) = true then some (w64 (0 - x98)) else some x98) fun s101 => some (w64 (s61 + s101))) fun s72 => some (.nx s72))
          (b' := fun k37 s41 => Option.bind (Option.bind (idx l (k37 : Int)) fun x57 => if ((x57.id != id) || (decide (m < x57.at_))) = true then some s41 else Option.bind (quo (w64 (m - x57.at_)) half) fun x76 => Option.bind (whileB (R := Empty) (fun s85 => if ((decide ((0 : Int) < s85.2)) && (decide ((0 : Int) < s85.1))) = true then some (.nx (w64 (Int.tdiv s85.1 2), w64 (s85.2 - 1))) else some (.bk (s85.1, s85.2))) (1000000, x76)) fun o77 => o77.andThen (fun y => y.elim) fun s78 => Option.bind (if (decide ((20 : Int) ≤ x76)) = true then some 0 else some s78.1) fun s101 => Option.bind (if (!x57.good) = true then some (w64 (0 - s101)) else some s101) fun s109 => some (w64 (s41 + s109))) fun s52 => some (.nx s52))
          (s := (0 : Int)) (s' := (0 : Int)) (fun _ => True)
          (fun k s s' => s = s' ∧ -((k : Int) * 1000000) ≤ s ∧ s ≤ (k : Int) * 1000000) ⟨rfl, by simp, by simp⟩ ?_
        · rcases sim with ⟨r, e1, e2, _⟩ | ⟨t, t', e1, e2, rfl, _⟩
          · rw [e1, e2]; exact ⟨r, rfl, rfl⟩
          · rw [e1, e2]; exact ⟨_, rfl, rfl⟩
        · rintro k s _ hk ⟨rfl, i1, i2⟩
          refine Or.inr ?_
          have hx := hat _ (List.getElem_mem hk)
          rw [idx_lt _ _ hk]
          simp only [Option.bind_some]
          generalize l[k] = x at hx
          by_cases hs : ((x.id != id) || (decide (m < x.at_))) = true
          · simp only [hs, if_true, Option.bind_some]
            exact ⟨_, _, rfl, rfl, rfl, by omega, by omega⟩
          · simp only [hs, Bool.false_eq_true, if_false]
            have hm : x.at_ ≤ m := by simp at hs; omega
            have hw : w64 (m - x.at_) = m - x.at_ := w64_id (by omega) (by omega)
            have hq0 : 0 ≤ (m - x.at_).tdiv half := Int.tdiv_nonneg (by omega) (by omega)
            have hq1 : (m - x.at_).tdiv half ≤ m - x.at_ := by
              rw [Int.tdiv_eq_ediv_of_nonneg (by omega)]; exact Int.ediv_le_self _ (by omega)
            obtain ⟨n, hn⟩ : ∃ n : Nat, (m - x.at_).tdiv half = (n : Int) := ⟨_, (Int.toNat_of_nonneg hq0).symm⟩
            have hq : quo (w64 (m - x.at_)) half = some (n : Int) := by
              rw [quo, if_neg (by omega), hw, hn, w64_id (by omega) (by omega)]
            obtain ⟨a, b, hl, hv⟩ := half_loop (R := Empty) n (by omega)
            simp only [hq, Option.bind_some, hl, Lp.andThen_fin]
            by_cases h20 : (20 : Int) ≤ (n : Int)
            · simp only [h20, decide_true, if_true, Option.bind_some]
              have e : (if (!x.good) = true then some (w64 (0 - 0)) else some (0 : Int)) = some 0 := by
                have : w64 (0 - 0) = 0 := w64_id (by omega) (by omega)
                rw [this]; split <;> rfl
              rw [e, Option.bind_some, Int.add_zero, w64_id (n := s) (by omega) (by omega)]
              exact ⟨_, _, rfl, rfl, rfl, by omega, by omega⟩
            · have hlt : n < 20 := by omega
              have hle : 1000000 / 2 ^ n ≤ 1000000 := Nat.div_le_self _ _
              simp only [h20, decide_false, Bool.false_eq_true, if_false, hv hlt, hsh ⟨n, hlt⟩, Option.bind_some]
              generalize 1000000 / 2 ^ n = v at hle
              have e : ∃ u : Int, (if (!x.good) = true then some (w64 (0 - (v : Int))) else some (v : Int)) = some u ∧ -1000000 ≤ u ∧ u ≤ 1000000 := by
                rw [w64_id (n := 0 - (v : Int)) (by omega) (by omega)]
                split
                · exact ⟨_, rfl, by omega, by omega⟩
                · exact ⟨_, rfl, by omega, by omega⟩
              obtain ⟨u, e, u1, u2⟩ := e
              rw [e, Option.bind_some, w64_id (n := s + u) (by omega) (by omega)]
              exact ⟨_, _, rfl, rfl, rfl, by omega, by omega⟩
      · have c1 : (!know_within m 0 3000000 || !know_within half 1 3000000) = true := by simp [know_within]; omega
        have c2 : ((!portref2_IsMoment m || decide (half < 1)) || decide ((3000000 : Int) < half)) = true := by simp [portref2_IsMoment]; omega
        simp only [c1, c2, if_true]
        exact ⟨_, rfl, rfl⟩
  obtain ⟨r, h1, h2⟩ := main
  unfold portlaw2_KnowWorth
  simp [h1, h2]
end Go.Proofs.Ytlimocfkknfdgaa.M
