import Derived.Test.YtabkhhpkibbheaaClockRanksCalCount
namespace Go.Proofs.Ytabkhhpkibbheaa.M
open Go Go.Pu
set_option linter.unusedSimpArgs false
set_option linter.unusedVariables false
theorem err_three (a b c : Int) : cmp_Or_api_Errno [a, b, c] = some (if a ≠ 0 then a else if b ≠ 0 then b else c) := by
 by_cases ha : a = 0 <;> by_cases hb : b = 0 <;> by_cases hc : c = 0 <;> simp [cmp_Or_api_Errno, rangeB, idx, ha, hb, hc, Lp.andThen]
theorem add_iter {O : Int → Prop} {b : Int} (hb : b ≤ 3000001) : ∀ (l : List cal_Span) (a w : Int), 0 ≤ a → Apart O a b l → 0 ≤ w → w ≤ 4000000 →
  ∃ r z, iterB (yieldB (fun (x80 : cal_Span) (s72 : (Int × Int × Int)) => if (decide ((w64 (x80.to_ - x80.from_)) ≤ s72.2.2)) = true then some ((s72.1, s72.2.1, w64 (s72.2.2 - (w64 (x80.to_ - x80.from_)))), none) else some ((0, w64 (x80.from_ + s72.2.2), s72.2.2), some 0))) l ((0, 0, w), none) = some (r, z) ∧
   ((z.2 = some 0 ∧ z.1.1 = 0 ∧ a ≤ z.1.2.1 ∧ z.1.2.1 < b ∧ cnt O a z.1.2.1 = w ∧ O z.1.2.1) ∨ (z.2 = none ∧ cnt O a b ≤ w))
 | [], a, w, h0, hl, hw, hw2 => by
  refine ⟨_, _, rfl, .inr ⟨rfl, ?_⟩⟩
  rw [cnt_none fun u h1 h2 => apart_nil hl u h1 h2]
  exact hw
 | x :: l, a, w, h0, hl, hw, hw2 => by
  obtain ⟨g1, g2, g3, g4⟩ := apart_cons hl
  have hw64 : w64 (x.to_ - x.from_) = x.to_ - x.from_ := w64_id (by omega) (by omega)
  have c1 : cnt O a x.from_ = 0 := cnt_none fun u h1 h2 => g2 u h1 h2
  rw [iterB]
  simp only [yieldB, Option.isNone_none, if_true, hw64]
  by_cases hc : x.to_ - x.from_ ≤ w
  ·simp only [hc, decide_true, if_true, Option.bind_some, Option.isNone_none]
   rw [w64_id (n := w - (x.to_ - x.from_)) (by omega) (by omega)]
   obtain ⟨r, z, e, hz⟩ := add_iter hb l x.to_ (w - (x.to_ - x.from_)) (by omega) (apart_tail hl) (by omega) (by omega)
   have c2 : cnt O a x.to_ = x.to_ - x.from_ := by
    rw [cnt_split (m := x.from_) g1.1 (by omega), c1, cnt_all (by omega) g3]
    omega
   refine ⟨r, z, e, ?_⟩
   rcases hz with ⟨z1, z2, z3, z4, z5, z6⟩ | ⟨z1, z2⟩
   ·refine .inl ⟨z1, z2, by omega, z4, ?_, z6⟩
    rw [cnt_split (m := x.to_) (by omega) z3, c2, z5]
    omega
   ·refine .inr ⟨z1, ?_⟩
    rw [cnt_split (m := x.to_) (by omega) g1.2.2, c2]
    omega
  ·simp only [hc, decide_false, Bool.false_eq_true, if_false, Option.bind_some, Option.isNone_some]
   rw [w64_id (n := x.from_ + w) (by omega) (by omega)]
   refine ⟨_, _, rfl, .inl ⟨rfl, rfl, by simp only; omega, by simp only; omega, ?_, g3 _ (by simp only; omega) (by simp only; omega)⟩⟩
   simp only
   rw [cnt_split (m := x.from_) g1.1 (by omega), c1, cnt_all (by omega) (fun u h1 h2 => g3 u h1 (by omega))]
   omega
theorem add_val {c : cal_Calendar} (hc : CalOk c) (hcc : cal_CheckCalendar c = some 0) (m work : Int) (h0 : 0 ≤ m) (h1 : m ≤ 3000000) (h2 : 0 ≤ work) (h3 : work ≤ 3000001) :
  (∃ q, cal_Add c m work = some (q, 0) ∧ m ≤ q ∧ q ≤ 3000000 ∧ cnt (Opn c) m q = work ∧ Opn c q) ∨ (∃ q, cal_Add c m work = some (q, 7) ∧ cnt (Opn c) m 3000001 ≤ work) := by
 have e1 : cal_moment m = 0 := by
  have e : cal_within m 0 3000000 = true := by simp [cal_within]; omega
  simp [cal_moment, e]
 have e3 : cal_workOf work = 0 := by
  have e : cal_within work 0 3000001 = true := by simp [cal_within]; omega
  simp [cal_workOf, e]
 have hop := open_spec hc m 3000001 (by omega) (by omega)
 obtain ⟨rr, z, e, hz⟩ := add_iter (Int.le_refl _) (openL c m 3000001) m work h0 hop (by omega) (by omega)
 unfold cal_Add
 simp only [hcc, Option.bind_some, err_three, e1, e3, ne_eq, not_true, if_false, bne_self_eq_false, Bool.false_eq_true, cal_Calendar_open]
 rw [open_val hc m 3000001 (by omega) (by omega), e]
 simp only [Option.map_some, Option.bind_some]
 rcases hz with ⟨z1, z2, z3, z4, z5, z6⟩ | ⟨z1, z2⟩
 ·rw [if_pos z1, z2]
  exact .inl ⟨_, rfl, z3, by omega, z5, z6⟩
 ·rw [if_neg (by rw [z1]; simp)]
  exact .inr ⟨_, rfl, z2⟩
end Go.Proofs.Ytabkhhpkibbheaa.M
