/-
  Forms and rules: plain part.
-/
import Derived.Test.YtcfhifbmjjhhdaaRosterJudgesM
import Derived.Test.YtcfhifbmjjhhdaaPl
namespace Go.Proofs.Ytcfhifbmjjhhdaa.M
open Go Go.Pu
set_option linter.unusedSimpArgs false
set_option linter.unusedVariables false

theorem compare_swap (a b : Int) : cmp_Compare_int b a = - cmp_Compare_int a b := by
  have h : ∀ x : Int, cmp_isNaN_int x = false := fun x => by simp [cmp_isNaN_int]
  unfold cmp_Compare_int
  simp only [h, Bool.false_eq_true, if_false]
  by_cases h1 : a < b
  · have h2 : ¬ b < a := by omega
    simp [h1, h2]
  · by_cases h2 : b < a <;> simp [h1, h2]
theorem or_int (a b : Int) : cmp_Or_int [a, b] = some (if a ≠ 0 then a else b) := by
  by_cases ha : a = 0 <;> by_cases hb : b = 0 <;> simp [cmp_Or_int, rangeB, idx, ha, hb, Lp.andThen]
theorem or_err (a b : Int) : cmp_Or_api_Errno [a, b] = some (if a ≠ 0 then a else b) := by
  by_cases ha : a = 0 <;> by_cases hb : b = 0 <;> simp [cmp_Or_api_Errno, rangeB, idx, ha, hb, Lp.andThen]

def FormOk (f : staff_Form) : Prop := 0 ≤ f.from_ ∧ f.from_ ≤ 399 ∧ 1 ≤ f.slots ∧ f.slots ≤ 400 - f.from_

theorem forms_eq (l : List staff_Form) : ∃ r, staff_CheckForms l = some r ∧ portref2_FormsFault l = some r ∧ (r = 0 → ∀ f ∈ l, FormOk f) := by
  unfold staff_CheckForms portref2_FormsFault
  by_cases h6 : (60 : Int) < (l.length : Int)
  · simp only [h6, decide_true, if_true]
    exact ⟨_, rfl, rfl, fun h => absurd h (by decide)⟩
  simp only [h6, decide_false, Bool.false_eq_true, if_false]
  have sim := rangeB_sim (R := Int) l.length
    (b := fun k16 (_ : Unit) => Option.bind (idx l (k16 : Int)) fun x30 => if ((!(staff_within x30.from_ 0 399)) || (!(staff_within x30.slots 1 (w64 (400 - x30.from_))))) = true then some (.rt 2) else Option.bind (if (decide ((0 : Int) < (k16 : Int))) = true then (Option.bind (idx l (w64 ((k16 : Int) - 1))) fun x57 => Option.bind (cmp_Or_int ([(cmp_Compare_int x30.from_ x57.from_), (cmp_Compare_int x30.slots x57.slots)] : List Int)) fun x73 => some (decide (x73 ≤ 0))) else (some false)) fun s50 => if s50 = true then some (.rt 5) else some (.nx ()))
    (b' := fun k16 (_ : Unit) => Option.bind (idx l (k16 : Int)) fun x30 => if ((((decide (x30.from_ < 0)) || (decide ((400 : Int) ≤ x30.from_))) || (decide (x30.slots < 1))) || (decide ((w64 (400 - x30.from_)) < x30.slots))) = true then some (.rt 2) else Option.bind (if (decide ((0 : Int) < (k16 : Int))) = true then (Option.bind (idx l (w64 ((k16 : Int) - 1))) fun x64 => Option.bind (cmp_Or_int ([(cmp_Compare_int x64.from_ x30.from_), (cmp_Compare_int x64.slots x30.slots)] : List Int)) fun x81 => some (decide ((0 : Int) ≤ x81))) else (some false)) fun s58 => if s58 = true then some (.rt 5) else some (.nx ()))
    (s := ()) (s' := ()) (fun r => r ≠ 0) (fun k _ _ => ∀ j f, j < k → l[j]? = some f → FormOk f) (fun j f h => absurd h (Nat.not_lt_zero _)) ?_
  · rcases sim with ⟨r, e1, e2, hr⟩ | ⟨t, t', e1, e2, hI⟩
    · rw [e1, e2]
      exact ⟨r, rfl, rfl, fun h => absurd h hr⟩
    · rw [e1, e2]
      refine ⟨0, rfl, rfl, fun _ f hf => ?_⟩
      obtain ⟨j, hj, rfl⟩ := List.mem_iff_getElem.1 hf
      exact hI j _ hj (List.getElem?_eq_getElem hj)
  · rintro k _ _ hk hI
    have hc : l[k]? = some l[k] := List.getElem?_eq_getElem hk
    have hw : w64 ((k : Int) - 1) = (k : Int) - 1 := w64_id (by omega) (by omega)
    rw [idx_lt _ _ hk]
    generalize l[k] = f at hc
    simp only [Option.bind_some, hw]
    by_cases h1 : 0 ≤ f.from_ ∧ f.from_ ≤ 399
    · have hw2 : w64 (400 - f.from_) = 400 - f.from_ := w64_id (by omega) (by omega)
      by_cases h2 : 1 ≤ f.slots ∧ f.slots ≤ 400 - f.from_
      · have e1 : (!(staff_within f.from_ 0 399) || !(staff_within f.slots 1 (w64 (400 - f.from_)))) = false := by rw [hw2]; simp [staff_within]; omega
        have e2 : ((((decide (f.from_ < 0)) || (decide ((400 : Int) ≤ f.from_))) || (decide (f.slots < 1))) || (decide ((w64 (400 - f.from_)) < f.slots))) = false := by rw [hw2]; simp; omega
        simp only [e1, e2, Bool.false_eq_true, if_false]
        have same : ∃ b : Bool, (if (decide ((0 : Int) < (k : Int))) = true then (Option.bind (idx l ((k : Int) - 1)) fun x57 => Option.bind (cmp_Or_int ([(cmp_Compare_int f.from_ x57.from_), (cmp_Compare_int f.slots x57.slots)] : List Int)) fun x73 => some (decide (x73 ≤ 0))) else (some false)) = some b ∧
            (if (decide ((0 : Int) < (k : Int))) = true then (Option.bind (idx l ((k : Int) - 1)) fun x64 => Option.bind (cmp_Or_int ([(cmp_Compare_int x64.from_ f.from_), (cmp_Compare_int x64.slots f.slots)] : List Int)) fun x81 => some (decide ((0 : Int) ≤ x81))) else (some false)) = some b := by
          by_cases h0 : (0 : Int) < (k : Int)
          · simp only [h0, decide_true, if_true]
            rw [show (k : Int) - 1 = ((k - 1 : Nat) : Int) by omega, idx_lt _ _ (by omega)]
            simp only [Option.bind_some, or_int]
            refine ⟨_, rfl, ?_⟩
            rw [compare_swap f.from_, compare_swap f.slots]
            congr 1
            rw [Bool.eq_iff_iff]
            simp only [decide_eq_true_eq]
            split <;> split <;> omega
          · simp only [h0, decide_false, Bool.false_eq_true, if_false]
            exact ⟨_, rfl, rfl⟩
        obtain ⟨b, s1, s2⟩ := same
        rw [s1, s2]
        cases b with
        | true => exact Or.inl ⟨5, rfl, rfl, by decide⟩
        | false =>
          refine Or.inr ⟨(), (), rfl, rfl, fun j f' hj hf => ?_⟩
          rcases Nat.lt_or_eq_of_le (Nat.le_of_lt_succ hj) with h | rfl
          · exact hI j f' h hf
          · rw [hc] at hf; cases hf; exact ⟨h1.1, h1.2, h2.1, h2.2⟩
      · have e1 : (!(staff_within f.from_ 0 399) || !(staff_within f.slots 1 (w64 (400 - f.from_)))) = true := by rw [hw2]; simp [staff_within]; omega
        have e2 : ((((decide (f.from_ < 0)) || (decide ((400 : Int) ≤ f.from_))) || (decide (f.slots < 1))) || (decide ((w64 (400 - f.from_)) < f.slots))) = true := by rw [hw2]; simp; omega
        simp only [e1, e2, if_true]
        exact Or.inl ⟨2, rfl, rfl, by decide⟩
    · have e1 : (!(staff_within f.from_ 0 399) || !(staff_within f.slots 1 (w64 (400 - f.from_)))) = true := by
        have : staff_within f.from_ 0 399 = false := by simp [staff_within]; omega
        rw [this]; rfl
      have e2 : ((((decide (f.from_ < 0)) || (decide ((400 : Int) ≤ f.from_))) || (decide (f.slots < 1))) || (decide ((w64 (400 - f.from_)) < f.slots))) = true := by
        have : ((decide (f.from_ < 0)) || (decide ((400 : Int) ≤ f.from_))) = true := by simp; omega
        rw [this]; rfl
      simp only [e1, e2, if_true]
      exact Or.inl ⟨2, rfl, rfl, by decide⟩

theorem forms_len {l : List staff_Form} (h : staff_CheckForms l = some 0) : l.length ≤ 60 := by
  unfold staff_CheckForms at h
  split at h
  · simp at h
  · rename_i h1
    simp at h1
    omega
theorem rules_eq (r : staff_Rules) : ∃ x, staff_CheckRules r = some x ∧ portref2_RulesFault r = some x ∧ (x = 0 → 0 ≤ r.people ∧ r.people ≤ 60 ∧ 0 ≤ r.most ∧ r.most ≤ 400) := by
  unfold staff_CheckRules portref2_RulesFault
  by_cases h : (0 ≤ r.people ∧ r.people ≤ 60) ∧ (0 ≤ r.rest_ ∧ r.rest_ ≤ 400) ∧ (0 ≤ r.most ∧ r.most ≤ 400)
  · have e1 : (((!(staff_within r.people 0 60)) || (!(staff_within r.rest_ 0 400))) || (!(staff_within r.most 0 400))) = false := by simp [staff_within]; omega
    have e2 : ((((((decide (r.people < 0)) || (decide ((60 : Int) < r.people))) || (decide (r.rest_ < 0))) || (decide ((400 : Int) < r.rest_))) || (decide (r.most < 0))) || (decide ((400 : Int) < r.most))) = false := by simp; omega
    simp only [e1, e2, Bool.false_eq_true, if_false]
    exact ⟨_, rfl, rfl, fun _ => by omega⟩
  · have e1 : (((!(staff_within r.people 0 60)) || (!(staff_within r.rest_ 0 400))) || (!(staff_within r.most 0 400))) = true := by simp [staff_within]; omega
    have e2 : ((((((decide (r.people < 0)) || (decide ((60 : Int) < r.people))) || (decide (r.rest_ < 0))) || (decide ((400 : Int) < r.rest_))) || (decide (r.most < 0))) || (decide ((400 : Int) < r.most))) = true := by simp; omega
    simp only [e1, e2, if_true]
    exact ⟨_, rfl, rfl, fun h => absurd h (by decide)⟩
end Go.Proofs.Ytcfhifbmjjhhdaa.M
