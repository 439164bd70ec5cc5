/-
  StaffKeeps: the program's answer is the reference's, for all arguments.
-/
import Derived.Test.YtjjdbhfigpmciaaStaffKeepsBigKeep
namespace Go.Proofs.Ytjjdbhfigpmciaa.M
open Go Go.Pu
set_option linter.unusedSimpArgs false
set_option linter.unusedVariables false

theorem load_cases (l : staff_Load) : (LoadOK l ∧ staff_checkLoad l = some 0 ∧ portref2_LoadFault l = some 0) ∨ (staff_checkLoad l = some 2 ∧ portref2_LoadFault l = some 2) := by
  unfold staff_checkLoad portref2_LoadFault
  by_cases h : LoadOK l
  · refine .inl ⟨h, ?_, ?_⟩
    · rw [if_neg]
      obtain ⟨h1, h2, h3, h4, h5, h6⟩ := h
      simp only [staff_within, Bool.or_eq_true, Bool.not_eq_true', Bool.and_eq_false_iff, decide_eq_false_iff_not]
      omega
    · rw [if_neg]
      obtain ⟨h1, h2, h3, h4, h5, h6⟩ := h
      simp only [Bool.or_eq_true, decide_eq_true_eq]
      omega
  · refine .inr ⟨?_, ?_⟩
    · rw [if_pos]
      simp only [staff_within, Bool.or_eq_true, Bool.not_eq_true', Bool.and_eq_false_iff, decide_eq_false_iff_not]
      exact Classical.byContradiction fun hn => h ⟨by omega, by omega, by omega, by omega, by omega, by omega⟩
    · rw [if_pos]
      simp only [Bool.or_eq_true, decide_eq_true_eq]
      exact Classical.byContradiction fun hn => h ⟨by omega, by omega, by omega, by omega, by omega, by omega⟩

theorem prom_cases (p : staff_Promise) : (PromOK p ∧ staff_checkPromise p = some 0 ∧ portref2_PromiseFault p = some 0) ∨ (staff_checkPromise p = some 2 ∧ portref2_PromiseFault p = some 2) := by
  unfold staff_checkPromise portref2_PromiseFault
  by_cases h : PromOK p
  · refine .inl ⟨h, ?_, ?_⟩
    · rw [if_neg]
      obtain ⟨h1, h2, h3, h4, h5, h6, h7, h8⟩ := h
      simp only [staff_within, Bool.or_eq_true, Bool.not_eq_true', Bool.and_eq_false_iff, decide_eq_false_iff_not, decide_eq_true_eq]
      omega
    · rw [if_neg]
      obtain ⟨h1, h2, h3, h4, h5, h6, h7, h8⟩ := h
      simp only [Bool.or_eq_true, decide_eq_true_eq]
      omega
  · refine .inr ⟨?_, ?_⟩
    · rw [if_pos]
      simp only [staff_within, Bool.or_eq_true, Bool.not_eq_true', Bool.and_eq_false_iff, decide_eq_false_iff_not, decide_eq_true_eq]
      exact Classical.byContradiction fun hn => h ⟨by omega, by omega, by omega, by omega, by omega, by omega, by omega, by omega⟩
    · rw [if_pos]
      simp only [Bool.or_eq_true, decide_eq_true_eq]
      exact Classical.byContradiction fun hn => h ⟨by omega, by omega, by omega, by omega, by omega, by omega, by omega, by omega⟩

theorem or3 (a b c : Int) : cmp_Or_api_Errno [a, b, c] = some (if a ≠ 0 then a else if b ≠ 0 then b else c) := by
  by_cases ha : a = 0
  · by_cases hb : b = 0
    · by_cases hc : c = 0
      · simp [cmp_Or_api_Errno, rangeB, idx, Lp.andThen, ha, hb, hc]
      · simp [cmp_Or_api_Errno, rangeB, idx, Lp.andThen, ha, hb, hc]
    · simp [cmp_Or_api_Errno, rangeB, idx, Lp.andThen, ha, hb]
  · simp [cmp_Or_api_Errno, rangeB, idx, Lp.andThen, ha]
theorem or2 (a b : Int) : cmp_Or_api_Errno [a, b] = some (if a ≠ 0 then a else b) := by
  by_cases ha : a = 0
  · by_cases hb : b = 0
    · simp [cmp_Or_api_Errno, rangeB, idx, Lp.andThen, ha, hb]
    · simp [cmp_Or_api_Errno, rangeB, idx, Lp.andThen, ha, hb]
  · simp [cmp_Or_api_Errno, rangeB, idx, Lp.andThen, ha]

theorem keeps_eq (l : staff_Load) (p : staff_Promise) (n : Int) : ∃ x, staff_Keeps l p n = some x ∧ portref2_KeepsOf l p n = some x := by
  unfold staff_Keeps portref2_KeepsOf portref2_loadFault
  rcases load_cases l with ⟨hl, e1, e2⟩ | ⟨e1, e2⟩ <;> rcases prom_cases p with ⟨hp, e3, e4⟩ | ⟨e3, e4⟩ <;> simp only [e1, e2, e3, e4, or3, Option.bind_some]
  · by_cases hn : 0 ≤ n ∧ n ≤ 60
    · have c1 : staff_checkPeople n = 0 := by
        unfold staff_checkPeople
        rw [if_neg]
        simp only [staff_within, Bool.not_eq_true', Bool.and_eq_false_iff, decide_eq_false_iff_not]
        omega
      have c2 : ((decide (n < 0)) || (decide ((60 : Int) < n))) = false := by
        rw [Bool.or_eq_false_iff, decide_eq_false_iff_not, decide_eq_false_iff_not]
        omega
      obtain ⟨m, rfl⟩ := Int.eq_ofNat_of_zero_le hn.1
      obtain ⟨b, h1, h2⟩ := keeps_both hl hp m (by omega)
      simp [c1, c2, h1, h2]
    · have c1 : staff_checkPeople n = 2 := by
        unfold staff_checkPeople
        rw [if_pos]
        simp only [staff_within, Bool.not_eq_true', Bool.and_eq_false_iff, decide_eq_false_iff_not]
        omega
      have c2 : ((decide (n < 0)) || (decide ((60 : Int) < n))) = true := by
        rw [Bool.or_eq_true, decide_eq_true_eq, decide_eq_true_eq]
        omega
      simp [c1, c2]
  · by_cases hn : 0 ≤ n ∧ n ≤ 60
    · have c1 : staff_checkPeople n = 0 := by
        unfold staff_checkPeople
        rw [if_neg]
        simp only [staff_within, Bool.not_eq_true', Bool.and_eq_false_iff, decide_eq_false_iff_not]
        omega
      have c2 : ((decide (n < 0)) || (decide ((60 : Int) < n))) = false := by
        rw [Bool.or_eq_false_iff, decide_eq_false_iff_not, decide_eq_false_iff_not]
        omega
      simp [c1, c2]
    · have c1 : staff_checkPeople n = 2 := by
        unfold staff_checkPeople
        rw [if_pos]
        simp only [staff_within, Bool.not_eq_true', Bool.and_eq_false_iff, decide_eq_false_iff_not]
        omega
      have c2 : ((decide (n < 0)) || (decide ((60 : Int) < n))) = true := by
        rw [Bool.or_eq_true, decide_eq_true_eq, decide_eq_true_eq]
        omega
      simp [c1, c2]
  · simp
  · simp

theorem whileB_nx {S R : Type} {body : S → Option (Ctl S R)} {s s' : S} {r : Lp S R} (h : body s = some (.nx s')) (h' : whileB body s' = some r) : whileB body s = some r := by
  obtain ⟨n, hn⟩ := whileB_iff.1 h'
  exact whileB_iff.2 ⟨n + 1, by rw [whileN, h]; exact hn⟩
theorem whileB_bk {S R : Type} {body : S → Option (Ctl S R)} {s s' : S} (h : body s = some (.bk s')) : whileB body s = some (.fin s') := whileB_iff.2 ⟨1, by rw [whileN, h]⟩
theorem whileB_rt {S R : Type} {body : S → Option (Ctl S R)} {s : S} {r : R} (h : body s = some (.rt r)) : whileB body s = some (.rt r) := whileB_iff.2 ⟨1, by rw [whileN, h]⟩

/-- the least number that keeps the promise, on both sides -/
theorem least_both {l : staff_Load} {p : staff_Promise} (hl : LoadOK l) (hp : PromOK p) :
    ∃ x : Lp Int Int, whileB (R := Int × Int) (fun (s38 : Int) => if (decide (s38 < 61)) = true then Option.bind (staff_Load_keeps l p s38) fun x52 => if x52 = true then some (.rt (s38, 0)) else some (.nx (w64 (s38 + 1))) else some (.bk s38)) 0 = some (match x with | .fin s => .fin s | .rt r => .rt (r, 0)) ∧
      whileB (R := Int) (fun (s23 : Int) => if (decide (s23 < 61)) = true then Option.bind (portref2_keeps l p s23) fun x37 => if x37 = true then some (.rt s23) else some (.nx (w64 (s23 + 1))) else some (.bk s23)) 0 = some x ∧ (∀ r, x = .rt r → 0 ≤ r) := by
  have key : ∀ (d k : Nat), k + d = 61 → ∃ x : Lp Int Int, whileB (R := Int × Int) (fun (s38 : Int) => if (decide (s38 < 61)) = true then Option.bind (staff_Load_keeps l p s38) fun x52 => if x52 = true then some (.rt (s38, 0)) else some (.nx (w64 (s38 + 1))) else some (.bk s38)) (k : Int) = some (match x with | .fin s => .fin s | .rt r => .rt (r, 0)) ∧
      whileB (R := Int) (fun (s23 : Int) => if (decide (s23 < 61)) = true then Option.bind (portref2_keeps l p s23) fun x37 => if x37 = true then some (.rt s23) else some (.nx (w64 (s23 + 1))) else some (.bk s23)) (k : Int) = some x ∧ (∀ r, x = .rt r → 0 ≤ r) := by
    intro d
    induction d with
    | zero =>
      intro k hk
      have e : decide ((k : Int) < 61) = false := decide_eq_false (by omega)
      refine ⟨.fin (k : Int), ?_, ?_, fun r h => by cases h⟩
      · exact whileB_bk (by simp only [e, Bool.false_eq_true, if_false])
      · exact whileB_bk (by simp only [e, Bool.false_eq_true, if_false])
    | succ d ih =>
      intro k hk
      have e : decide ((k : Int) < 61) = true := decide_eq_true (by omega)
      obtain ⟨b, h1, h2⟩ := keeps_both hl hp k (by omega)
      cases b with
      | true =>
        refine ⟨.rt (k : Int), ?_, ?_, fun r h => by cases h; omega⟩
        · exact whileB_rt (by simp only [e, if_true, h1, Option.bind_some])
        · exact whileB_rt (by simp only [e, if_true, h2, Option.bind_some])
      | false =>
        have w : w64 ((k : Int) + 1) = ((k + 1 : Nat) : Int) := by rw [w64_id (by omega) (by omega)]; omega
        obtain ⟨x, i1, i2, i3⟩ := ih (k + 1) (by omega)
        refine ⟨x, ?_, ?_, i3⟩
        · exact whileB_nx (by simp only [e, if_true, h1, Option.bind_some, Bool.false_eq_true, if_false, w]) i1
        · exact whileB_nx (by simp only [e, if_true, h2, Option.bind_some, Bool.false_eq_true, if_false, w]) i2
  exact key 61 0 rfl

theorem staff_eq (l : staff_Load) (p : staff_Promise) : ∃ x, staff_Staff l p = some x ∧ portref2_StaffOf l p = some x := by
  unfold staff_Staff portref2_StaffOf portref2_least
  rcases load_cases l with ⟨hl, e1, e2⟩ | ⟨e1, e2⟩ <;> rcases prom_cases p with ⟨hp, e3, e4⟩ | ⟨e3, e4⟩ <;> simp only [e1, e2, e3, e4, or2, Option.bind_some]
  · obtain ⟨x, h1, h2, h3⟩ := least_both hl hp
    simp only [h1, h2, Option.bind_some, ne_eq, not_true_eq_false, if_false, bne_self_eq_false, Bool.false_eq_true]
    cases x with
    | fin s => simp [Lp.andThen]
    | rt r =>
      have := h3 r rfl
      have e : decide (r < 0) = false := decide_eq_false (by omega)
      simp [Lp.andThen, this]
  · simp
  · simp
  · simp

theorem staffkeeps_true (l : staff_Load) (p : staff_Promise) (n : Int) : portlaw2_StaffKeeps l p n = some true := by
  unfold portlaw2_StaffKeeps
  obtain ⟨x, h1, h2⟩ := keeps_eq l p n
  obtain ⟨y, h3, h4⟩ := staff_eq l p
  simp only [h1, h2, h3, h4, Option.bind_some]
  simp
end Go.Proofs.Ytjjdbhfigpmciaa.M
