/-
  Numbers in a moment's text, by the code and by the document: plain part.
-/
import Derived.Test.YtiblhdhpiicdiaaDoorCalReadsCutText
import Derived.Lib.AtoiAllMem
namespace Go.Proofs.YtiblhdhpiicdiaaDoor.M
open Go Go.Pu Go.Lib
set_option linter.unusedSimpArgs false
set_option linter.unusedVariables false

theorem itoa_some {l : List UInt8} {v : Int} (h : atoiAll l = .ok v) : strconv_Itoa v = some (tb (itoa v)) := by
  obtain ⟨h1, h2⟩ := Go.Lib.atoiAll_bounds h
  unfold strconv_Itoa
  rw [if_pos ⟨by omega, by omega⟩]
  rfl
theorem num_code (l : List UInt8) (hl : l.length ≤ 281474976710656) (k : Nat) (hk : k ≤ 17) : cal_number (tb l) (k : Int) = some (if canB k l = true then (numOf l, true) else (0, false)) := by
  unfold cal_number strconv_Atoi
  rw [if_pos (by rw [tb_size]; exact hl), tb_list, Option.bind_some]
  have hno : ∀ e : NumEnd Int, atoiAll l = e → (∀ v, e ≠ .ok v) → canB k l = false := fun e he hv => by
    rw [← Bool.not_eq_true]
    intro h
    exact hv _ (he.symm.trans (can_read hk h).1)
  cases ha : atoiAll l with
  | ok v =>
    simp only [Bool.false_eq_true, if_false]
    rw [itoa_some ha, Option.bind_some, tb_eq]
    by_cases hi : itoa v = l
    · rw [decide_eq_true hi]
      simp only [Bool.not_true, Bool.false_eq_true, if_false]
      rw [trimP_val, Option.bind_some, Option.bind_some, tb_size]
      by_cases hlen : (bare l).length ≤ k
      · have hc := can_written hi hlen
        have hn := (can_read hk hc).1
        rw [ha] at hn
        injection hn with hn
        rw [if_neg (by simp; omega), hc, if_pos rfl, hn]
      · have hc : canB k l = false := by
          rw [← Bool.not_eq_true, can_spec]
          exact fun h => hlen h.2.1
        rw [if_pos (by simp; omega), hc]
        rfl
    · have hc : canB k l = false := by
        rw [← Bool.not_eq_true]
        intro h
        obtain ⟨h1, h2, _⟩ := can_read hk h
        rw [ha] at h1
        injection h1 with h1
        exact hi (by rw [h1]; exact h2)
      rw [decide_eq_false hi, hc]
      rfl
  | _ =>
    rw [hno _ ha (fun v h => by cases h)]
    rfl
theorem digits_val (l : List UInt8) (hl : l.length ≤ 9223372036854775807) (k : Nat) : portref2_digits (tb l) (k : Int) = some (digB k l) := by
  unfold portref2_digits
  obtain ⟨t, ht, he⟩ := trim_digits l hl
  have hnil : strEq (tb l) (⟨#[]⟩ : ByteArray) = decide (l = []) := tb_eq l []
  rw [hnil, tb_size]
  unfold digB
  by_cases h0 : l = []
  · subst h0
    rfl
  rw [decide_eq_false h0]
  simp only [Bool.not_false, if_true, Bool.true_and]
  by_cases h1 : l.length ≤ k
  · rw [if_pos (by simp; omega), ht, Option.bind_some, he, decide_eq_true h1, Bool.true_and]
    by_cases h2 : l.all dig = true
    · rw [if_pos h2, h2, Bool.true_and]
      by_cases h3 : l.length = 1
      · rw [if_pos (by simp [h3]), decide_eq_true h3]; rfl
      · rw [if_neg (by simp; omega), decide_eq_false h3, Bool.false_or]
        have hi : idxS (tb l) 0 = l[0]? := tb_idx l 0
        rw [hi]
        cases l with
        | nil => exact absurd rfl h0
        | cons b r =>
          have e4 : ((b.toNat : Int) != 48) = decide ((b :: r).head? ≠ some 48) := by
            rw [Bool.eq_iff_iff, bne_iff_ne, decide_eq_true_eq]
            constructor
            · intro h q
              have : b = 48 := Option.some.inj q
              subst this
              exact h rfl
            · intro h q
              apply h
              show some b = some 48
              congr 1
              apply UInt8.toNat_inj.1
              show b.toNat = 48
              omega
          exact congrArg some e4
    · rw [if_neg h2]
      have : l.all dig = false := by simpa using h2
      rw [this]
      rfl
  · rw [if_neg (by simp; omega), decide_eq_false h1]
    rfl
theorem bare_len (l : List UInt8) : (bare l).length ≤ l.length := by
  unfold bare
  split
  · simp
  · exact Nat.le_refl _
theorem num_ref (l : List UInt8) (hl : l.length ≤ 281474976710656) (k : Nat) (hk : k ≤ 17) : portref2_number (tb l) (k : Int) = some (if canB k l = true then (numOf l, true) else (0, false)) := by
  unfold portref2_number
  have hb := bare_len l
  rw [trimP_val, Option.bind_some, digits_val _ (by omega), Option.bind_some]
  have e1 : strEq (tb (bare l)) (⟨#[48]⟩ : ByteArray) = decide (bare l = [48]) := tb_eq _ [48]
  have e2 : strEq (tb l) (⟨#[48]⟩ : ByteArray) = decide (l = [48]) := tb_eq _ [48]
  rw [e1, e2]
  have e3 : ((!(digB k (bare l))) || (decide (bare l = [48]) && !(decide (l = [48])))) = !(canB k l) := by
    unfold canB digB
    have : decide (l ≠ [48]) = !(decide (l = [48])) := by simp
    rw [this]
    generalize decide (bare l = []) = a
    generalize decide ((bare l).length ≤ k) = b
    generalize (bare l).all dig = c
    generalize (decide ((bare l).length = 1) || decide ((bare l).head? ≠ some 48)) = d
    generalize decide (bare l = [48]) = f
    generalize decide (l = [48]) = g
    cases a <;> cases b <;> cases c <;> cases d <;> cases f <;> cases g <;> rfl
  rw [e3]
  cases hc : canB k l with
  | false => rfl
  | true =>
    simp only [Bool.not_true, Bool.false_eq_true, if_false, if_true]
    unfold strconv_Atoi
    rw [if_pos (by rw [tb_size]; exact hl), tb_list, (can_read hk hc).1]
    rfl
/-- two digits -/
def twoB (l : List UInt8) : Bool := decide (l.length = 2) && l.all dig
theorem can_two (l : List UInt8) (h2 : l.length = 2) : canB 3 (49 :: l) = l.all dig ∧ (l.all dig = true → numOf (49 :: l) = 100 + (dval 0 l : Int)) := by
  have hb : bare (49 :: l) = 49 :: l := bare_pos (by simp)
  have hc : canB 3 (49 :: l) = l.all dig := by
    rw [Bool.eq_iff_iff, can_spec, hb]
    constructor
    · intro h
      have := h.2.2.1
      rw [List.all_cons, Bool.and_eq_true] at this
      exact this.2
    · intro h
      refine ⟨by simp, by simp; omega, by rw [List.all_cons, h]; rfl, Or.inr (by simp), fun q => ?_⟩
      have := congrArg List.length q.1
      rw [List.length_cons, h2] at this
      exact absurd this (by decide)
  refine ⟨hc, fun h => ?_⟩
  have hd : (49 :: l).all dig = true := by rw [List.all_cons, h]; rfl
  have ha := atoi_digits (49 :: l) (by simp; omega) (by simp) hd
  unfold numOf
  rw [ha]
  simp only
  match l, h2 with
  | [a, b], _ =>
    have d1 : (a.toNat - 48 : Nat) * 10 + (b.toNat - 48) = dval 0 [a, b] := by
      show _ = (0 * 10 + (a.toNat - 48)) * 10 + (b.toNat - 48)
      omega
    have d2 : dval 0 (49 :: [a, b]) = ((0 * 10 + (UInt8.toNat 49 - 48)) * 10 + (a.toNat - 48)) * 10 + (b.toNat - 48) := rfl
    have d3 : UInt8.toNat 49 = 49 := rfl
    have d4 : dval 0 (49 :: [a, b]) = 100 + dval 0 [a, b] := by
      rw [d2, ← d1, d3]
      omega
    show ((dval 0 (49 :: [a, b]) : Nat) : Int) = 100 + ((dval 0 [a, b] : Nat) : Int)
    rw [d4]
    omega
theorem two_code (l : List UInt8) (hl : l.length ≤ 281474976710000) (most : Int) : ∃ v, cal_twoDigits (tb l) most = some (v, twoB l && decide ((dval 0 l : Int) ≤ most)) ∧ (twoB l = true → v = (dval 0 l : Int)) := by
  unfold cal_twoDigits
  have h1 : (⟨#[49]⟩ : ByteArray) = tb [49] := rfl
  rw [h1, tb_cat _ _ (by simp; omega), Option.bind_some]
  have hn : cal_number (tb ([49] ++ l)) 3 = _ := num_code (49 :: l) (by simp; omega) 3 (by omega)
  rw [hn, Option.bind_some, tb_size]
  by_cases h2 : l.length = 2
  · obtain ⟨c1, c2⟩ := can_two l h2
    rw [c1]
    unfold twoB
    rw [decide_eq_true h2, Bool.true_and]
    have e : (((l.length : Int)) == 2) = true := by simp [h2]
    rw [e]
    by_cases hd : l.all dig = true
    · rw [hd, if_pos rfl, c2 hd]
      have hlt := dval_lt l hd
      rw [h2] at hlt
      have hw : w64 (100 + (dval 0 l : Int) - 100) = (dval 0 l : Int) := by rw [w64_id (by omega) (by omega)]; omega
      simp only [hw]
      exact ⟨_, rfl, fun _ => rfl⟩
    · have hd' : l.all dig = false := by simpa using hd
      rw [hd', if_neg (by decide)]
      exact ⟨_, rfl, fun h => by cases h⟩
  · have e : (((l.length : Int)) == 2) = false := by simp; omega
    have e2 : twoB l = false := by unfold twoB; rw [decide_eq_false h2]; rfl
    rw [e, e2]
    simp only [Bool.and_false, Bool.false_and]
    exact ⟨_, rfl, fun h => by cases h⟩
end Go.Proofs.YtiblhdhpiicdiaaDoor.M
