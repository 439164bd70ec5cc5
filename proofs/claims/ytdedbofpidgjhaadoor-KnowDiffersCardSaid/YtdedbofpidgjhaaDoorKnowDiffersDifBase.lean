/-
  The longest common part of two lists, and which lines it takes: plain part.
-/
import Derived.Test.YtdedbofpidgjhaaDoorKnowDiffersPatchOne
namespace Go.Proofs.YtdedbofpidgjhaaDoor.M
open Go Go.Pu
set_option linter.unusedSimpArgs false
set_option linter.unusedVariables false

def lc : List ByteArray → List ByteArray → Nat
  | [], _ => 0
  | _ :: _, [] => 0
  | a :: as, b :: bs => if a = b then lc as bs + 1 else max (lc as (b :: bs)) (lc (a :: as) bs)
termination_by as bs => as.length + bs.length
theorem lc_nil (as : List ByteArray) : lc as [] = 0 := by cases as <;> simp [lc]
theorem lc_step : ∀ (n : Nat) (as bs : List ByteArray), as.length + bs.length ≤ n → (∀ a, lc as bs ≤ lc (a :: as) bs ∧ lc (a :: as) bs ≤ lc as bs + 1) ∧ (∀ b, lc as bs ≤ lc as (b :: bs) ∧ lc as (b :: bs) ≤ lc as bs + 1) := by
  intro n
  induction n with
  | zero =>
    intro as bs h
    obtain rfl : as = [] := List.eq_nil_of_length_eq_zero (by omega)
    obtain rfl : bs = [] := List.eq_nil_of_length_eq_zero (by omega)
    exact ⟨fun a => by simp [lc], fun b => by simp [lc]⟩
  | succ n ih =>
    intro as bs h
    refine ⟨fun a => ?_, fun b => ?_⟩
    · cases bs with
      | nil => simp [lc_nil]
      | cons b bs =>
        have h1 := ih as bs (by simp only [List.length_cons] at h; omega)
        have h2 := h1.2 b
        have h3 := h1.1 a
        rw [lc]
        split
        · omega
        · omega
    · cases as with
      | nil => simp [lc]
      | cons a as =>
        have h1 := ih as bs (by simp only [List.length_cons] at h; omega)
        have h2 := h1.2 b
        have h3 := h1.1 a
        rw [lc]
        split
        · omega
        · omega
theorem lc_a (a : ByteArray) (as bs : List ByteArray) : lc as bs ≤ lc (a :: as) bs ∧ lc (a :: as) bs ≤ lc as bs + 1 := (lc_step _ as bs (Nat.le_refl _)).1 a
theorem lc_b (b : ByteArray) (as bs : List ByteArray) : lc as bs ≤ lc as (b :: bs) ∧ lc as (b :: bs) ≤ lc as bs + 1 := (lc_step _ as bs (Nat.le_refl _)).2 b
theorem lc_le (bs : List ByteArray) : ∀ as : List ByteArray, lc as bs ≤ as.length
  | [] => by simp [lc]
  | a :: as => by have := lc_le bs as; have := lc_a a as bs; rw [List.length_cons]; omega
/-- of what is from i and from j on -/
def TT (x y : List ByteArray) (i j : Nat) : Nat := lc (x.drop i) (y.drop j)
section
variable {x y : List ByteArray}
theorem TT_le (i j : Nat) : TT x y i j ≤ x.length := Nat.le_trans (lc_le _ _) (by rw [List.length_drop]; omega)
theorem TT_endA {i : Nat} (h : x.length ≤ i) (j : Nat) : TT x y i j = 0 := by unfold TT; rw [List.drop_eq_nil_of_le h]; simp [lc]
theorem TT_endB {j : Nat} (h : y.length ≤ j) (i : Nat) : TT x y i j = 0 := by unfold TT; rw [List.drop_eq_nil_of_le h, lc_nil]
theorem TT_eq {i j : Nat} (hi : i < x.length) (hj : j < y.length) (h : x[i] = y[j]) : TT x y i j = TT x y (i + 1) (j + 1) + 1 := by
  unfold TT
  rw [List.drop_eq_getElem_cons hi, List.drop_eq_getElem_cons hj, lc, if_pos h]
theorem TT_ne {i j : Nat} (hi : i < x.length) (hj : j < y.length) (h : x[i] ≠ y[j]) : TT x y i j = max (TT x y (i + 1) j) (TT x y i (j + 1)) := by
  unfold TT
  rw [List.drop_eq_getElem_cons hi, List.drop_eq_getElem_cons hj, lc, if_neg h]
theorem TT_downA (i j : Nat) : TT x y (i + 1) j ≤ TT x y i j ∧ TT x y i j ≤ TT x y (i + 1) j + 1 := by
  by_cases h : i < x.length
  · unfold TT
    rw [List.drop_eq_getElem_cons h]
    exact lc_a _ _ _
  · rw [TT_endA (by omega), TT_endA (by omega)]; omega
theorem TT_downB (i j : Nat) : TT x y i (j + 1) ≤ TT x y i j ∧ TT x y i j ≤ TT x y i (j + 1) + 1 := by
  by_cases h : j < y.length
  · unfold TT
    rw [List.drop_eq_getElem_cons h]
    exact lc_b _ _ _
  · rw [TT_endB (by omega), TT_endB (by omega)]; omega
theorem TT_monoB (i j : Nat) : ∀ d, TT x y i (j + d) ≤ TT x y i j
  | 0 => Nat.le_refl _
  | d + 1 => Nat.le_trans (TT_downB i (j + d)).1 (TT_monoB i j d)
/-- the other formula -/
theorem TT_max {i j : Nat} (hi : i < x.length) (hj : j < y.length) : TT x y i j = if x[i] = y[j] then max (max (TT x y (i + 1) j) (TT x y i (j + 1))) (1 + TT x y (i + 1) (j + 1)) else max (TT x y (i + 1) j) (TT x y i (j + 1)) := by
  split
  · rename_i h
    rw [TT_eq hi hj h]
    have h1 := (TT_downB (x := x) (y := y) (i + 1) j).2
    have h2 := (TT_downA (x := x) (y := y) i (j + 1)).2
    omega
  · rename_i h
    exact TT_ne hi hj h
/-- a pair that is alike can be taken -/
theorem TT_take {k l j : Nat} (hk : k < x.length) (hl : l < y.length) (hj : j ≤ l) (h : x[k] = y[l]) : TT x y (k + 1) (l + 1) + 1 ≤ TT x y k j := by
  rw [← TT_eq hk hl h]
  have := TT_monoB (x := x) (y := y) k j (l - j)
  rw [show j + (l - j) = l by omega] at this
  exact this
/-- a line that no best choice takes -/
theorem TT_skip {k : Nat} (hk : k < x.length) : ∀ (d j : Nat), y.length ≤ j + d → (∀ l (hl : l < y.length), j ≤ l → x[k] = y[l] → TT x y (k + 1) (l + 1) + 1 ≠ TT x y k j) → TT x y (k + 1) j = TT x y k j
  | 0, j, hd, _ => by rw [TT_endB (by omega), TT_endB (by omega)]
  | d + 1, j, hd, h => by
    by_cases hj : j < y.length
    · by_cases he : x[k] = y[j]
      · exact absurd (TT_eq hk hj he).symm (h j hj (Nat.le_refl _) he)
      · have h1 := TT_ne hk hj he
        have h2 := (TT_downA (x := x) (y := y) k j).1
        have h3 := (TT_downB (x := x) (y := y) (k + 1) j).1
        by_cases hm : TT x y k j = TT x y (k + 1) j
        · exact hm.symm
        · have h4 : TT x y k (j + 1) = TT x y k j := by omega
          have := TT_skip hk d (j + 1) (by omega) fun l hl hjl hxl => by rw [h4]; exact h l hl (by omega) hxl
          omega
    · rw [TT_endB (by omega), TT_endB (by omega)]
/-- the first line of y from j on that is a -/
def fst0 (a : ByteArray) (y : List ByteArray) (j : Nat) : Nat := j + (y.drop j).findIdx fun b => decide (b = a)
theorem fst_spec (a : ByteArray) {j : Nat} (hj : j ≤ y.length) : j ≤ fst0 a y j ∧ fst0 a y j ≤ y.length ∧ (∀ l (hl : l < y.length), j ≤ l → l < fst0 a y j → y[l] ≠ a) ∧ ∀ (h : fst0 a y j < y.length), y[fst0 a y j] = a := by
  unfold fst0
  have h1 := List.findIdx_le_length (p := fun b => decide (b = a)) (xs := y.drop j)
  rw [List.length_drop] at h1
  refine ⟨by omega, by omega, fun l hl h2 h3 => ?_, fun h => ?_⟩
  · have := List.not_of_lt_findIdx (p := fun b => decide (b = a)) (xs := y.drop j) (i := l - j) (by omega)
    simp only [List.getElem_drop, decide_eq_false_iff_not] at this
    have e : j + (l - j) = l := by omega
    simp only [e] at this
    simpa using this
  · have h2 : (y.drop j).findIdx (fun b => decide (b = a)) < (y.drop j).length := by rw [List.length_drop]; omega
    have := List.findIdx_getElem (p := fun b => decide (b = a)) (xs := y.drop j) (w := h2)
    simpa using this
theorem fst_unique (a : ByteArray) {j l : Nat} (hj : j ≤ y.length) (h1 : j ≤ l) (h2 : l ≤ y.length) (h3 : ∀ m (hm : m < y.length), j ≤ m → m < l → y[m] ≠ a) (h4 : ∀ (h : l < y.length), y[l] = a) : l = fst0 a y j := by
  obtain ⟨f1, f2, f3, f4⟩ := fst_spec (y := y) a hj
  rcases Nat.lt_trichotomy l (fst0 a y j) with h | h | h
  · exact absurd (h4 (by omega)) (f3 l (by omega) h1 h)
  · exact h
  · exact absurd (f4 (by omega)) (h3 _ (by omega) f1 h)
/-- the pairs that are taken, from k and j on -/
def goP (x y : List ByteArray) : Nat → Nat → Nat → List (Nat × Nat)
  | 0, _, _ => []
  | n + 1, k, j => if TT x y k j = 0 then [] else match x[k]? with
    | none => []
    | some a => if fst0 a y j < y.length ∧ TT x y (k + 1) (fst0 a y j + 1) + 1 = TT x y k j then (k, fst0 a y j) :: goP x y n (k + 1) (fst0 a y j + 1) else goP x y n (k + 1) j
theorem goP_zero {n k j : Nat} (h : TT x y k j = 0) : goP x y n k j = [] := by
  cases n with
  | zero => rfl
  | succ n => rw [goP, if_pos h]
theorem goP_step {n k j : Nat} (h : TT x y k j ≠ 0) (hk : k < x.length) : goP x y (n + 1) k j = if fst0 x[k] y j < y.length ∧ TT x y (k + 1) (fst0 x[k] y j + 1) + 1 = TT x y k j then (k, fst0 x[k] y j) :: goP x y n (k + 1) (fst0 x[k] y j + 1) else goP x y n (k + 1) j := by
  rw [goP, if_neg h, List.getElem?_eq_getElem hk]
/-- if the first line does not do, no line does -/
theorem first_does {k j l : Nat} (hk : k < x.length) (hj : j ≤ y.length) (hl : l < y.length) (hjl : j ≤ l) (he : x[k] = y[l]) (h : TT x y (k + 1) (l + 1) + 1 = TT x y k j) : fst0 x[k] y j < y.length ∧ TT x y (k + 1) (fst0 x[k] y j + 1) + 1 = TT x y k j := by
  obtain ⟨f1, f2, f3, f4⟩ := fst_spec (y := y) x[k] hj
  have hle : fst0 x[k] y j ≤ l := by
    rcases Nat.lt_or_ge l (fst0 x[k] y j) with q | q
    · exact absurd he.symm (f3 l hl hjl q)
    · exact q
  have hlt : fst0 x[k] y j < y.length := by omega
  refine ⟨hlt, ?_⟩
  have h1 := TT_take hk hlt f1 (f4 hlt).symm
  have h2 := TT_monoB (x := x) (y := y) (k + 1) (fst0 x[k] y j + 1) (l - fst0 x[k] y j)
  rw [show fst0 x[k] y j + 1 + (l - fst0 x[k] y j) = l + 1 by omega] at h2
  omega
theorem skip_same {k j : Nat} (hk : k < x.length) (hj : j ≤ y.length) (h : ¬ (fst0 x[k] y j < y.length ∧ TT x y (k + 1) (fst0 x[k] y j + 1) + 1 = TT x y k j)) : TT x y (k + 1) j = TT x y k j :=
  TT_skip hk (y.length - j) j (by omega) fun l hl hjl he hq => h (first_does hk hj hl hjl he hq)
end
/-- the table -/
def rowT (x y : List ByteArray) (i : Nat) : List Int := (List.range (y.length + 1)).map fun j => (TT x y i j : Int)
def tabT (x y : List ByteArray) : List (List Int) := (List.range (x.length + 1)).map (rowT x y)
theorem row_at {x y : List ByteArray} {i j : Nat} (h : j ≤ y.length) : idx (rowT x y i) (j : Int) = some (TT x y i j : Int) := by
  rw [idx_nat]
  simp [rowT, show j < y.length + 1 by omega]
theorem tab_at {x y : List ByteArray} {i : Nat} (h : i ≤ x.length) : idx (tabT x y) (i : Int) = some (rowT x y i) := by
  rw [idx_nat]
  simp [tabT, show i < x.length + 1 by omega]
/-- one more edit -/
def tellE (y : List ByteArray) (s : Nat × Nat × List know_Edit) (p : Nat × Nat) : Nat × Nat × List know_Edit :=
  (p.1 + 1, p.2 + 1, if s.1 < p.1 ∨ s.2.1 < p.2 then s.2.2 ++ [⟨(s.1 : Int), (p.1 : Int) - (s.1 : Int), (y.take p.2).drop s.2.1⟩] else s.2.2)
end Go.Proofs.YtdedbofpidgjhaaDoor.M
