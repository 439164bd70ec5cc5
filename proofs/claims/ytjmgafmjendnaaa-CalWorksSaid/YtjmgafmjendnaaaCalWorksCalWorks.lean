/-
  End, Add, Back and their references agree: plain part.
-/
import Derived.Test.YtjmgafmjendnaaaCalWorksCalCount
namespace Go.Proofs.Ytjmgafmjendnaaa.M
open Go Go.Pu

theorem err_three (a b c : Int) : cmp_Or_api_Errno [a, b, c] = some (if a ≠ 0 then a else if b ≠ 0 then b else c) := by
  by_cases ha : a = 0 <;> by_cases hb : b = 0 <;> by_cases hc : c = 0 <;> simp [cmp_Or_api_Errno, rangeB, idx, ha, hb, hc, Lp.andThen]

theorem end_iter {O : Int → Prop} {b : Int} (hb : b ≤ 3000001) : ∀ (l : List cal_Span) (a w : Int), 0 ≤ a → Apart O a b l → 0 < w → w ≤ 4000000 →
    ∃ r z, iterB (yieldB (fun (x87 : cal_Span) (s79 : (Int × Int × Int)) => if (decide ((w64 (x87.to_ - x87.from_)) < s79.2.2)) = true then some ((s79.1, s79.2.1, w64 (s79.2.2 - (w64 (x87.to_ - x87.from_)))), none) else some ((0, w64 (x87.from_ + s79.2.2), s79.2.2), some 0))) l ((0, 0, w), none) = some (r, z) ∧
      ((z.2 = some 0 ∧ z.1.1 = 0 ∧ a ≤ z.1.2.1 ∧ z.1.2.1 ≤ b ∧ cnt O a z.1.2.1 = w ∧ ∀ m', a ≤ m' → m' < z.1.2.1 → cnt O a m' < w) ∨ (z.2 = none ∧ cnt O a b < w))
  | [], a, w, h0, hl, hw, hw2 => by
    refine ⟨_, _, rfl, .inr ⟨rfl, ?_⟩⟩
    rw [cnt_none fun u h1 h2 => apart_nil hl u h1 h2]
    exact hw
  | x :: l, a, w, h0, hl, hw, hw2 => by
    obtain ⟨g1, g2, g3, g4⟩ := apart_cons hl
    have hw64 : w64 (x.to_ - x.from_) = x.to_ - x.from_ := w64_id (by omega) (by omega)
    have c1 : cnt O a x.from_ = 0 := cnt_none fun u h1 h2 => g2 u h1 h2
    rw [iterB]
    simp only [yieldB, Option.isNone_none, if_true, hw64]
    by_cases hc : x.to_ - x.from_ < w
    · simp only [hc, decide_true, if_true, Option.bind_some, Option.isNone_none]
      rw [w64_id (n := w - (x.to_ - x.from_)) (by omega) (by omega)]
      obtain ⟨r, z, e, hz⟩ := end_iter hb l x.to_ (w - (x.to_ - x.from_)) (by omega) (apart_tail hl) (by omega) (by omega)
      have c2 : cnt O a x.to_ = x.to_ - x.from_ := by
        rw [cnt_split (m := x.from_) g1.1 (by omega), c1, cnt_all (by omega) g3]
        omega
      refine ⟨r, z, e, ?_⟩
      rcases hz with ⟨z1, z2, z3, z4, z5, z6⟩ | ⟨z1, z2⟩
      · refine .inl ⟨z1, z2, by omega, z4, ?_, fun m' h1 h2 => ?_⟩
        · rw [cnt_split (m := x.to_) (by omega) z3, c2, z5]
          omega
        · rcases Int.lt_or_le m' x.to_ with h3 | h3
          · have := cnt_mono (O := O) h1 (Int.le_of_lt h3)
            omega
          · rw [cnt_split (m := x.to_) (by omega) h3, c2]
            have := z6 m' h3 h2
            omega
      · refine .inr ⟨z1, ?_⟩
        rw [cnt_split (m := x.to_) (by omega) g1.2.2, c2]
        omega
    · simp only [hc, decide_false, Bool.false_eq_true, if_false, Option.bind_some, Option.isNone_some]
      rw [w64_id (n := x.from_ + w) (by omega) (by omega)]
      refine ⟨_, _, rfl, .inl ⟨rfl, rfl, by simp only; omega, by simp only; omega, ?_, fun m' h1 h2 => ?_⟩⟩
      · simp only
        rw [cnt_split (m := x.from_) g1.1 (by omega), c1, cnt_all (by omega) (fun u h1 h2 => g3 u h1 (by omega))]
        omega
      · simp only at h2
        rcases Int.lt_or_le m' x.from_ with h3 | h3
        · rw [cnt_none fun u h1 h2 => g2 u h1 (by omega)]
          exact hw
        · rw [cnt_split (m := x.from_) g1.1 h3, c1, cnt_all h3 (fun u h1 h2 => g3 u h1 (by omega))]
          omega

theorem add_iter {O : Int → Prop} {b : Int} (hb : b ≤ 3000001) : ∀ (l : List cal_Span) (a w : Int), 0 ≤ a → Apart O a b l → 0 ≤ w → w ≤ 4000000 →
    ∃ r z, iterB (yieldB (fun (x80 : cal_Span) (s72 : (Int × Int × Int)) => if (decide ((w64 (x80.to_ - x80.from_)) ≤ s72.2.2)) = true then some ((s72.1, s72.2.1, w64 (s72.2.2 - (w64 (x80.to_ - x80.from_)))), none) else some ((0, w64 (x80.from_ + s72.2.2), s72.2.2), some 0))) l ((0, 0, w), none) = some (r, z) ∧
      ((z.2 = some 0 ∧ z.1.1 = 0 ∧ a ≤ z.1.2.1 ∧ z.1.2.1 < b ∧ cnt O a z.1.2.1 = w ∧ O z.1.2.1) ∨ (z.2 = none ∧ cnt O a b ≤ w))
  | [], a, w, h0, hl, hw, hw2 => by
    refine ⟨_, _, rfl, .inr ⟨rfl, ?_⟩⟩
    rw [cnt_none fun u h1 h2 => apart_nil hl u h1 h2]
    exact hw
  | x :: l, a, w, h0, hl, hw, hw2 => by
    obtain ⟨g1, g2, g3, g4⟩ := apart_cons hl
    have hw64 : w64 (x.to_ - x.from_) = x.to_ - x.from_ := w64_id (by omega) (by omega)
    have c1 : cnt O a x.from_ = 0 := cnt_none fun u h1 h2 => g2 u h1 h2
    rw [iterB]
    simp only [yieldB, Option.isNone_none, if_true, hw64]
    by_cases hc : x.to_ - x.from_ ≤ w
    · simp only [hc, decide_true, if_true, Option.bind_some, Option.isNone_none]
      rw [w64_id (n := w - (x.to_ - x.from_)) (by omega) (by omega)]
      obtain ⟨r, z, e, hz⟩ := add_iter hb l x.to_ (w - (x.to_ - x.from_)) (by omega) (apart_tail hl) (by omega) (by omega)
      have c2 : cnt O a x.to_ = x.to_ - x.from_ := by
        rw [cnt_split (m := x.from_) g1.1 (by omega), c1, cnt_all (by omega) g3]
        omega
      refine ⟨r, z, e, ?_⟩
      rcases hz with ⟨z1, z2, z3, z4, z5, z6⟩ | ⟨z1, z2⟩
      · refine .inl ⟨z1, z2, by omega, z4, ?_, z6⟩
        rw [cnt_split (m := x.to_) (by omega) z3, c2, z5]
        omega
      · refine .inr ⟨z1, ?_⟩
        rw [cnt_split (m := x.to_) (by omega) g1.2.2, c2]
        omega
    · simp only [hc, decide_false, Bool.false_eq_true, if_false, Option.bind_some, Option.isNone_some]
      rw [w64_id (n := x.from_ + w) (by omega) (by omega)]
      refine ⟨_, _, rfl, .inl ⟨rfl, rfl, by simp only; omega, by simp only; omega, ?_, g3 _ (by simp only; omega) (by simp only; omega)⟩⟩
      simp only
      rw [cnt_split (m := x.from_) g1.1 (by omega), c1, cnt_all (by omega) (fun u h1 h2 => g3 u h1 (by omega))]
      omega

theorem back_iter {O : Int → Prop} {a : Int} (ha : 0 ≤ a) : ∀ (r : List cal_Span) (b w : Int), b ≤ 3000001 → a ≤ b → Apart O a b r.reverse → 0 < w → w ≤ 4000000 →
    ∃ q z, iterB (yieldB (fun (x : cal_Span) (s95 : (Int × Int × Int)) => if (decide ((w64 (x.to_ - x.from_)) < s95.2.2)) = true then some ((s95.1, s95.2.1, w64 (s95.2.2 - (w64 (x.to_ - x.from_)))), none) else some ((0, w64 (x.to_ - s95.2.2), s95.2.2), some 0))) r ((0, 0, w), none) = some (q, z) ∧
      ((z.2 = some 0 ∧ z.1.1 = 0 ∧ a ≤ z.1.2.1 ∧ z.1.2.1 ≤ b ∧ cnt O z.1.2.1 b = w ∧ ∀ m', z.1.2.1 < m' → m' ≤ b → cnt O m' b < w) ∨ (z.2 = none ∧ cnt O a b < w))
  | [], b, w, hb, hab, hl, hw, hw2 => by
    refine ⟨_, _, rfl, .inr ⟨rfl, ?_⟩⟩
    rw [cnt_none fun u h1 h2 => apart_nil hl u h1 h2]
    exact hw
  | x :: r, b, w, hb, hab, hl, hw, hw2 => by
    rw [List.reverse_cons] at hl
    obtain ⟨g1, g2, g3, g4⟩ := apart_last hl
    have hw64 : w64 (x.to_ - x.from_) = x.to_ - x.from_ := w64_id (by omega) (by omega)
    have c1 : cnt O x.to_ b = 0 := cnt_none fun u h1 h2 => g2 u h1 h2
    have c3 : ∀ m, x.from_ ≤ m → m ≤ x.to_ → cnt O m b = x.to_ - m := fun m h1 h2 => by
      rw [cnt_split (m := x.to_) h2 g1.2.2, c1, cnt_all h2 (fun u q1 q2 => g3 u (by omega) q2)]
      omega
    rw [iterB]
    simp only [yieldB, Option.isNone_none, if_true, hw64]
    by_cases hc : x.to_ - x.from_ < w
    · simp only [hc, decide_true, if_true, Option.bind_some, Option.isNone_none]
      rw [w64_id (n := w - (x.to_ - x.from_)) (by omega) (by omega)]
      obtain ⟨q, z, e, hz⟩ := back_iter ha r x.from_ (w - (x.to_ - x.from_)) (by omega) g1.1 g4 (by omega) (by omega)
      have c2 := c3 x.from_ (Int.le_refl _) (by omega)
      refine ⟨q, z, e, ?_⟩
      rcases hz with ⟨z1, z2, z3, z4, z5, z6⟩ | ⟨z1, z2⟩
      · refine .inl ⟨z1, z2, z3, by omega, ?_, fun m' h1 h2 => ?_⟩
        · rw [cnt_split (m := x.from_) z4 (by omega), c2, z5]
          omega
        · rcases Int.lt_or_le x.from_ m' with h3 | h3
          · rcases Int.lt_or_le x.to_ m' with h4 | h4
            · rw [cnt_none fun u q1 q2 => g2 u (by omega) q2]
              exact hw
            · rw [c3 m' (by omega) h4]
              omega
          · rw [cnt_split (m := x.from_) h3 (by omega), c2]
            have := z6 m' h1 h3
            omega
      · refine .inr ⟨z1, ?_⟩
        rw [cnt_split (m := x.from_) g1.1 (by omega), c2]
        omega
    · simp only [hc, decide_false, Bool.false_eq_true, if_false, Option.bind_some, Option.isNone_some]
      rw [w64_id (n := x.to_ - w) (by omega) (by omega)]
      refine ⟨_, _, rfl, .inl ⟨rfl, rfl, by simp only; omega, by simp only; omega, ?_, fun m' h1 h2 => ?_⟩⟩
      · simp only
        rw [c3 _ (by omega) (by omega)]
        omega
      · simp only at h1
        rcases Int.lt_or_le x.to_ m' with h4 | h4
        · rw [cnt_none fun u q1 q2 => g2 u (by omega) q2]
          exact hw
        · rw [c3 m' (by omega) h4]
          omega

/-- from the end on -/
theorem backward_val {S : Type} (y : (Int × cal_Span) → S → Option (Bool × S)) (y' : cal_Span → S → Option (Bool × S)) (hy : ∀ i x s, y (i, x) s = y' x s) (l : List cal_Span) (hlen : l.length ≤ 100000) (s : S) :
    slices_Backward_Lcal_Span_cal_Span_1 y s l = (iterB y' l.reverse s).map (·.2) := by
  unfold slices_Backward_Lcal_Span_cal_Span_1
  simp only [hy]
  have key : ∀ (k : Nat) (s : S), k ≤ l.length → whileB (fun s14 => if (decide ((0 : Int) ≤ s14.1)) = true then Option.bind (idx l s14.1) fun x29 => Option.bind (y' x29 s14.2) fun x34 => if (!x34.1) = true then some (.rt x34.2) else some (.nx (w64 (s14.1 - 1), x34.2)) else some (.bk (s14.1, s14.2))) ((k : Int) - 1, s) =
      Option.bind (iterB y' (l.take k).reverse s) fun r => some (if r.1 = true then Lp.fin (-1, r.2) else Lp.rt r.2) := by
    intro k
    induction k with
    | zero =>
      intro s _
      rw [whileB_eq]
      simp [iterB]
    | succ k ih =>
      intro s hk
      rw [whileB_eq]
      have hx : l[k]? = some l[k] := List.getElem?_eq_getElem (by omega)
      rw [List.take_add_one, hx]
      generalize l[k] = x at hx
      have h0 : (0 : Int) ≤ ((k + 1 : Nat) : Int) - 1 := by omega
      rw [show ((k + 1 : Nat) : Int) - 1 = (k : Int) by omega] at h0 ⊢
      simp only [h0, decide_true, if_true, idx_nat, hx, Option.bind_some, hy, Option.toList_some, List.reverse_append, List.reverse_singleton, List.singleton_append]
      rw [iterB]
      cases y' x s with
      | none => rfl
      | some r =>
        obtain ⟨r1, r2⟩ := r
        cases r1 with
        | true =>
          simp only [Option.bind_some, Bool.not_true, Bool.false_eq_true, if_false, if_true]
          rw [w64_id (by omega) (by omega)]
          exact ih r2 (by omega)
        | false => simp
  rw [w64_id (by omega) (by omega), key l.length s (Nat.le_refl _), List.take_of_length_le (Nat.le_refl _)]
  cases iterB y' l.reverse s with
  | none => rfl
  | some r =>
    obtain ⟨r1, r2⟩ := r
    cases r1 <;> simp [Lp.andThen]

/-! the references -/
theorem endIn_val {c : cal_Calendar} (hc : CalOk c) (from_ work : Int) (h0 : 0 ≤ from_) (h1 : from_ ≤ 3000000) :
    ∃ o, whileB (R := Int × Int) (fun s48 : Int × Int => if (decide (s48.2 ≤ 3000001)) = true then Option.bind (α := Lp _ _) (if (s48.1 == work) = true then some (.rt (s48.2, 0)) else Option.bind (if (decide (s48.2 ≤ 3000000)) = true then (Option.bind (portref2_Clock_Open c s48.2) fun x78 => some x78) else (some false)) fun s70 => Option.bind (if s70 = true then some (w64 (s48.1 + 1)) else some s48.1) fun s86 => some (.fin s86)) fun o60 => o60.andThen (fun y => some (.rt y)) fun s61 => some (.nx (s61, w64 (s48.2 + 1))) else some (.bk (s48.1, s48.2))) (0, from_) = some o ∧
      ((∃ m, o = .rt (m, 0) ∧ from_ ≤ m ∧ m ≤ 3000001 ∧ cnt (Opn c) from_ m = work ∧ ∀ m', from_ ≤ m' → m' < m → cnt (Opn c) from_ m' ≠ work) ∨ ((∃ s, o = .fin s) ∧ ∀ m', from_ ≤ m' → m' ≤ 3000001 → cnt (Opn c) from_ m' ≠ work)) := by
  refine whileB_spec (R := Int × Int) (fun s => from_ ≤ s.2 ∧ s.2 ≤ 3000002 ∧ (s.2 ≤ 3000001 → s.1 = cnt (Opn c) from_ s.2) ∧ (0 ≤ s.1 ∧ s.1 ≤ s.2) ∧ ∀ m', from_ ≤ m' → m' < s.2 → cnt (Opn c) from_ m' ≠ work) (fun s => (3000003 - s.2).toNat) _
    ⟨Int.le_refl _, by simp only; omega, fun _ => cnt_self.symm, by simp only; omega, fun m' q1 q2 => by simp only at q2; omega⟩ ?_
  rintro ⟨n, m⟩ ⟨i1, i2, i3, i4, i5⟩
  simp only at i1 i2 i3 i4 i5 ⊢
  by_cases hm : m ≤ 3000001
  rotate_left
  · simp only [hm, decide_false, Bool.false_eq_true, if_false]
    exact ⟨_, rfl, .inr ⟨⟨_, rfl⟩, fun m' q1 q2 => i5 m' q1 (by omega)⟩⟩
  have hn := i3 hm
  simp only [hm, decide_true, if_true]
  by_cases hw : n = work
  · have : (n == work) = true := by simpa using hw
    simp only [this, if_true, Option.bind_some, Lp.andThen_rt]
    exact ⟨_, rfl, .inl ⟨m, rfl, i1, hm, by rw [← hn]; exact hw, i5⟩⟩
  · have : (n == work) = false := by simpa using hw
    simp only [this, Bool.false_eq_true, if_false]
    have hw1 : w64 (m + 1) = m + 1 := w64_id (by omega) (by omega)
    have hw2 : w64 (n + 1) = n + 1 := w64_id (by omega) (by omega)
    have next : ∀ m', from_ ≤ m' → m' < m + 1 → cnt (Opn c) from_ m' ≠ work := fun m' q1 q2 => by
      by_cases he : m' = m
      · subst he; rw [← hn]; exact hw
      · exact i5 m' q1 (by omega)
    by_cases h3 : m ≤ 3000000
    · obtain ⟨b, hb, hbo⟩ := clock_open hc m (by omega) h3
      simp only [h3, decide_true, if_true, hb, Option.bind_some]
      cases b with
      | true =>
        simp only [if_true, Option.bind_some, Lp.andThen_fin, hw1, hw2]
        exact ⟨_, rfl, ⟨by simp only; omega, by simp only; omega, fun _ => by simp only; rw [cnt_step_yes i1 (hbo.1 rfl), hn], by simp only; omega, next⟩, by simp only; omega⟩
      | false =>
        simp only [Bool.false_eq_true, if_false, Option.bind_some, Lp.andThen_fin, hw1]
        exact ⟨_, rfl, ⟨by simp only; omega, by simp only; omega, fun _ => by simp only; rw [cnt_step_no i1 (fun h => by have := hbo.2 h; cases this), hn], by simp only; omega, next⟩, by simp only; omega⟩
    · simp only [h3, decide_false, Bool.false_eq_true, if_false, Option.bind_some, Lp.andThen_fin, hw1]
      exact ⟨_, rfl, ⟨by simp only; omega, by simp only; omega, fun h => by simp only at h; omega, by simp only; omega, next⟩, by simp only; omega⟩

theorem addIn_val {c : cal_Calendar} (hc : CalOk c) (from_ work : Int) (h0 : 0 ≤ from_) (h1 : from_ ≤ 3000000) :
    ∃ o, whileB (R := Int × Int) (fun s48 : Int × Int => if (decide (s48.2 ≤ 3000000)) = true then Option.bind (α := Lp _ _) (Option.bind (portref2_Clock_Open c s48.2) fun x68 => Option.bind (α := Lp _ _) (if x68 = true then if (s48.1 == work) = true then some (.rt (s48.2, 0)) else some (.fin (w64 (s48.1 + 1))) else some (.fin s48.1)) fun o73 => o73.andThen (fun y => some (.rt y)) fun s74 => some (.fin s74)) fun o60 => o60.andThen (fun y => some (.rt y)) fun s61 => some (.nx (s61, w64 (s48.2 + 1))) else some (.bk (s48.1, s48.2))) (0, from_) = some o ∧
      ((∃ m, o = .rt (m, 0) ∧ from_ ≤ m ∧ m ≤ 3000000 ∧ cnt (Opn c) from_ m = work ∧ Opn c m) ∨ ((∃ s, o = .fin s) ∧ ∀ m', from_ ≤ m' → m' ≤ 3000000 → Opn c m' → cnt (Opn c) from_ m' ≠ work)) := by
  refine whileB_spec (R := Int × Int) (fun s => from_ ≤ s.2 ∧ s.2 ≤ 3000001 ∧ s.1 = cnt (Opn c) from_ s.2 ∧ (0 ≤ s.1 ∧ s.1 ≤ s.2) ∧ ∀ m', from_ ≤ m' → m' < s.2 → Opn c m' → cnt (Opn c) from_ m' ≠ work) (fun s => (3000003 - s.2).toNat) _
    ⟨Int.le_refl _, by simp only; omega, cnt_self.symm, by simp only; omega, fun m' q1 q2 => by simp only at q2; omega⟩ ?_
  rintro ⟨n, m⟩ ⟨i1, i2, hn, i4, i5⟩
  simp only at i1 i2 hn i4 i5 ⊢
  by_cases hm : m ≤ 3000000
  rotate_left
  · simp only [hm, decide_false, Bool.false_eq_true, if_false]
    exact ⟨_, rfl, .inr ⟨⟨_, rfl⟩, fun m' q1 q2 => i5 m' q1 (by omega)⟩⟩
  have hw1 : w64 (m + 1) = m + 1 := w64_id (by omega) (by omega)
  have hw2 : w64 (n + 1) = n + 1 := w64_id (by omega) (by omega)
  obtain ⟨b, hb, hbo⟩ := clock_open hc m (by omega) hm
  simp only [hm, decide_true, if_true, hb, Option.bind_some]
  cases b with
  | true =>
    simp only [if_true]
    by_cases hw : n = work
    · have : (n == work) = true := by simpa using hw
      simp only [this, if_true, Option.bind_some, Lp.andThen_rt]
      exact ⟨_, rfl, .inl ⟨m, rfl, i1, hm, by rw [← hn]; exact hw, hbo.1 rfl⟩⟩
    · have : (n == work) = false := by simpa using hw
      simp only [this, Bool.false_eq_true, if_false, Option.bind_some, Lp.andThen_fin, hw1, hw2]
      refine ⟨_, rfl, ⟨by simp only; omega, by simp only; omega, by simp only; rw [cnt_step_yes i1 (hbo.1 rfl), hn], by simp only; omega, fun m' q1 q2 => ?_⟩, by simp only; omega⟩
      by_cases he : m' = m
      · subst he; intro _; rw [← hn]; exact hw
      · exact i5 m' q1 (by simp only at q2; omega)
  | false =>
    have hno : ¬ Opn c m := fun h => by have := hbo.2 h; cases this
    simp only [Bool.false_eq_true, if_false, Option.bind_some, Lp.andThen_fin, hw1]
    refine ⟨_, rfl, ⟨by simp only; omega, by simp only; omega, by simp only; rw [cnt_step_no i1 hno, hn], by simp only; omega, fun m' q1 q2 => ?_⟩, by simp only; omega⟩
    by_cases he : m' = m
    · subst he; exact fun h => absurd h hno
    · exact i5 m' q1 (by simp only at q2; omega)

theorem backIn_val {c : cal_Calendar} (hc : CalOk c) (to_ work : Int) (h0 : 0 ≤ to_) (h1 : to_ ≤ 3000001) :
    ∃ o, whileB (R := Int × Int) (fun s48 : Int × Int => if (decide ((0 : Int) ≤ s48.2)) = true then Option.bind (α := Lp _ _) (if (s48.1 == work) = true then some (.rt (s48.2, 0)) else Option.bind (if (decide ((0 : Int) < s48.2)) = true then (Option.bind (portref2_Clock_Open c (w64 (s48.2 - 1))) fun x78 => some x78) else (some false)) fun s70 => Option.bind (if s70 = true then some (w64 (s48.1 + 1)) else some s48.1) fun s86 => some (.fin s86)) fun o60 => o60.andThen (fun y => some (.rt y)) fun s61 => some (.nx (s61, w64 (s48.2 - 1))) else some (.bk (s48.1, s48.2))) (0, to_) = some o ∧
      ((∃ m, o = .rt (m, 0) ∧ 0 ≤ m ∧ m ≤ to_ ∧ cnt (Opn c) m to_ = work ∧ ∀ m', m < m' → m' ≤ to_ → cnt (Opn c) m' to_ ≠ work) ∨ ((∃ s, o = .fin s) ∧ ∀ m', 0 ≤ m' → m' ≤ to_ → cnt (Opn c) m' to_ ≠ work)) := by
  refine whileB_spec (R := Int × Int) (fun s => -1 ≤ s.2 ∧ s.2 ≤ to_ ∧ (0 ≤ s.2 → s.1 = cnt (Opn c) s.2 to_) ∧ (0 ≤ s.1 ∧ s.1 ≤ to_ - s.2) ∧ ∀ m', s.2 < m' → m' ≤ to_ → cnt (Opn c) m' to_ ≠ work) (fun s => (s.2 + 2).toNat) _
    ⟨by simp only; omega, Int.le_refl _, fun _ => cnt_self.symm, by simp only; omega, fun m' q1 q2 => by simp only at q1; omega⟩ ?_
  rintro ⟨n, m⟩ ⟨i1, i2, i3, i4, i5⟩
  simp only at i1 i2 i3 i4 i5 ⊢
  by_cases hm : 0 ≤ m
  rotate_left
  · simp only [hm, decide_false, Bool.false_eq_true, if_false]
    exact ⟨_, rfl, .inr ⟨⟨_, rfl⟩, fun m' q1 q2 => i5 m' (by omega) q2⟩⟩
  have hn := i3 hm
  simp only [hm, decide_true, if_true]
  by_cases hw : n = work
  · have : (n == work) = true := by simpa using hw
    simp only [this, if_true, Option.bind_some, Lp.andThen_rt]
    exact ⟨_, rfl, .inl ⟨m, rfl, hm, i2, by rw [← hn]; exact hw, i5⟩⟩
  · have : (n == work) = false := by simpa using hw
    simp only [this, Bool.false_eq_true, if_false]
    have hw1 : w64 (m - 1) = m - 1 := w64_id (by omega) (by omega)
    have hw2 : w64 (n + 1) = n + 1 := w64_id (by omega) (by omega)
    have next : ∀ m', m - 1 < m' → m' ≤ to_ → cnt (Opn c) m' to_ ≠ work := fun m' q1 q2 => by
      by_cases he : m' = m
      · subst he; rw [← hn]; exact hw
      · exact i5 m' (by omega) q2
    by_cases h3 : 0 < m
    · obtain ⟨b, hb, hbo⟩ := clock_open hc (m - 1) (by omega) (by omega)
      have hs := cnt_split (O := Opn c) (a := m - 1) (m := m) (b := to_) (by omega) i2
      simp only [h3, decide_true, if_true, hw1, hb, Option.bind_some]
      cases b with
      | true =>
        have e : cnt (Opn c) (m - 1) m = 1 := by
          rw [cnt_all (by omega) (fun u q1 q2 => by rw [show u = m - 1 by omega]; exact hbo.1 rfl)]
          omega
        simp only [if_true, Option.bind_some, Lp.andThen_fin, hw2]
        exact ⟨_, rfl, ⟨by simp only; omega, by simp only; omega, fun _ => by simp only; omega, by simp only; omega, next⟩, by simp only; omega⟩
      | false =>
        have e : cnt (Opn c) (m - 1) m = 0 := cnt_none fun u q1 q2 => by
          rw [show u = m - 1 by omega]
          exact fun h => by have := hbo.2 h; cases this
        simp only [Bool.false_eq_true, if_false, Option.bind_some, Lp.andThen_fin]
        exact ⟨_, rfl, ⟨by simp only; omega, by simp only; omega, fun _ => by simp only; omega, by simp only; omega, next⟩, by simp only; omega⟩
    · simp only [h3, decide_false, Bool.false_eq_true, if_false, Option.bind_some, Lp.andThen_fin, hw1]
      exact ⟨_, rfl, ⟨by simp only; omega, by simp only; omega, fun h => by simp only at h; omega, by simp only; omega, next⟩, by simp only; omega⟩

/-- two answers are one -/
theorem end_same (c : cal_Calendar) (m work : Int) : ∃ q, cal_End c m work = some q ∧ portref2_EndIn c m work = some q := by
  obtain ⟨r, a1, b1, c1⟩ := cal_eq c
  unfold cal_End portref2_EndIn portref2_workFault
  simp only [a1, b1, Option.bind_some, err_three]
  by_cases hr : r = 0
  rotate_left
  · have : (r != 0) = true := by simpa using hr
    simp [hr]
  have hc := c1 hr
  subst hr
  simp only [ne_eq, not_true, if_false, bne_self_eq_false, Bool.false_eq_true]
  by_cases hm : (0 ≤ m ∧ m ≤ 3000000) ∧ (0 ≤ work ∧ work ≤ 3000001)
  rotate_left
  · have e1 : (if ¬ cal_moment m = 0 then cal_moment m else cal_workOf work) = 2 := by
      unfold cal_moment cal_workOf
      by_cases h1 : 0 ≤ m ∧ m ≤ 3000000
      · have e : cal_within m 0 3000000 = true := by simp [cal_within, h1]
        have e' : cal_within work 0 3000001 = false := by simp [cal_within]; omega
        simp [e, e']
      · have e : cal_within m 0 3000000 = false := by simp [cal_within]; omega
        simp [e]
    have e2 : ((((decide (m < 0)) || (decide (3000000 < m))) || (decide (work < 0))) || (decide ((3000001 : Int) < work))) = true := by simp; omega
    simp [e1, e2]
  have e1 : cal_moment m = 0 := by
    have e : cal_within m 0 3000000 = true := by simp [cal_within, hm]
    simp [cal_moment, e]
  have e3 : cal_workOf work = 0 := by
    have e : cal_within work 0 3000001 = true := by simp [cal_within, hm]
    simp [cal_workOf, e]
  have e2 : ((((decide (m < 0)) || (decide (3000000 < m))) || (decide (work < 0))) || (decide ((3000001 : Int) < work))) = false := by simp; omega
  obtain ⟨o, p1, p2⟩ := endIn_val hc m work hm.1.1 hm.1.2
  simp only [e1, e2, e3, not_true, if_false, bne_self_eq_false, Bool.false_eq_true, Option.bind_some, portref2_NewClock, p1]
  by_cases hw : work = 0
  · subst hw
    refine ⟨(m, 0), by simp, ?_⟩
    rcases p2 with ⟨v, rfl, q1, q2, q3, q4⟩ | ⟨⟨s, rfl⟩, q1⟩
    · have : v = m := by
        rcases Int.lt_or_eq_of_le q1 with h | h
        · exact absurd cnt_self (q4 m (Int.le_refl _) h)
        · exact h.symm
      subst this
      rfl
    · exact absurd cnt_self (q1 m (Int.le_refl _) (by omega))
  · have hwb : (work == 0) = false := by simpa using hw
    have hop := open_spec hc m 3000001 (by omega) (by omega)
    obtain ⟨rr, z, e, hz⟩ := end_iter (Int.le_refl _) (openL c m 3000001) m work hm.1.1 hop (by omega) (by omega)
    simp only [hwb, Bool.false_eq_true, if_false, cal_Calendar_open, Option.bind_some]
    rw [open_val hc m 3000001 (by omega) (by omega), e]
    simp only [Option.map_some, Option.bind_some]
    rcases hz with ⟨z1, z2, z3, z4, z5, z6⟩ | ⟨z1, z2⟩
    · rw [if_pos z1, z2]
      refine ⟨_, rfl, ?_⟩
      rcases p2 with ⟨v, rfl, q1, q2, q3, q4⟩ | ⟨⟨s, rfl⟩, q1⟩
      · have : v = z.1.2.1 := by
          rcases Int.lt_trichotomy v z.1.2.1 with h | h | h
          · have := z6 v q1 h; omega
          · exact h
          · exact absurd z5 (q4 _ z3 h)
        subst this
        rfl
      · exact absurd z5 (q1 _ z3 z4)
    · rw [if_neg (by rw [z1]; simp)]
      refine ⟨_, rfl, ?_⟩
      rcases p2 with ⟨v, rfl, q1, q2, q3, q4⟩ | ⟨⟨s, rfl⟩, q1⟩
      · have := cnt_mono (O := Opn c) q1 q2; omega
      · rfl

theorem add_same (c : cal_Calendar) (m work : Int) : ∃ q, cal_Add c m work = some q ∧ portref2_AddIn c m work = some q := by
  obtain ⟨r, a1, b1, c1⟩ := cal_eq c
  unfold cal_Add portref2_AddIn portref2_workFault
  simp only [a1, b1, Option.bind_some, err_three]
  by_cases hr : r = 0
  rotate_left
  · have : (r != 0) = true := by simpa using hr
    simp [hr]
  have hc := c1 hr
  subst hr
  simp only [ne_eq, not_true, if_false, bne_self_eq_false, Bool.false_eq_true]
  by_cases hm : (0 ≤ m ∧ m ≤ 3000000) ∧ (0 ≤ work ∧ work ≤ 3000001)
  rotate_left
  · have e1 : (if ¬ cal_moment m = 0 then cal_moment m else cal_workOf work) = 2 := by
      unfold cal_moment cal_workOf
      by_cases h1 : 0 ≤ m ∧ m ≤ 3000000
      · have e : cal_within m 0 3000000 = true := by simp [cal_within, h1]
        have e' : cal_within work 0 3000001 = false := by simp [cal_within]; omega
        simp [e, e']
      · have e : cal_within m 0 3000000 = false := by simp [cal_within]; omega
        simp [e]
    have e2 : ((((decide (m < 0)) || (decide (3000000 < m))) || (decide (work < 0))) || (decide ((3000001 : Int) < work))) = true := by simp; omega
    simp [e1, e2]
  have e1 : cal_moment m = 0 := by
    have e : cal_within m 0 3000000 = true := by simp [cal_within, hm]
    simp [cal_moment, e]
  have e3 : cal_workOf work = 0 := by
    have e : cal_within work 0 3000001 = true := by simp [cal_within, hm]
    simp [cal_workOf, e]
  have e2 : ((((decide (m < 0)) || (decide (3000000 < m))) || (decide (work < 0))) || (decide ((3000001 : Int) < work))) = false := by simp; omega
  obtain ⟨o, p1, p2⟩ := addIn_val hc m work hm.1.1 hm.1.2
  have hop := open_spec hc m 3000001 (by omega) (by omega)
  obtain ⟨rr, z, e, hz⟩ := add_iter (Int.le_refl _) (openL c m 3000001) m work hm.1.1 hop (by omega) (by omega)
  simp only [e1, e2, e3, not_true, if_false, bne_self_eq_false, Bool.false_eq_true, Option.bind_some, portref2_NewClock, p1, cal_Calendar_open]
  rw [open_val hc m 3000001 (by omega) (by omega), e]
  simp only [Option.map_some, Option.bind_some]
  rcases hz with ⟨z1, z2, z3, z4, z5, z6⟩ | ⟨z1, z2⟩
  · rw [if_pos z1, z2]
    refine ⟨_, rfl, ?_⟩
    rcases p2 with ⟨v, rfl, q1, q2, q3, q4⟩ | ⟨⟨s, rfl⟩, q1⟩
    · have : v = z.1.2.1 := by
        rcases Int.lt_trichotomy v z.1.2.1 with h | h | h
        · have h2 := cnt_step_yes q1 q4
          have h3 := cnt_mono (O := Opn c) (a := m) (m := v + 1) (b := z.1.2.1) (by omega) (by omega)
          omega
        · exact h
        · have h2 := cnt_step_yes z3 z6
          have h3 := cnt_mono (O := Opn c) (a := m) (m := z.1.2.1 + 1) (b := v) (by omega) (by omega)
          omega
      subst this
      rfl
    · exact absurd z5 (q1 _ z3 (by omega) z6)
  · rw [if_neg (by rw [z1]; simp)]
    refine ⟨_, rfl, ?_⟩
    rcases p2 with ⟨v, rfl, q1, q2, q3, q4⟩ | ⟨⟨s, rfl⟩, q1⟩
    · have h2 := cnt_step_yes q1 q4
      have h3 := cnt_mono (O := Opn c) (a := m) (m := v + 1) (b := 3000001) (by omega) (by omega)
      omega
    · rfl

theorem back_same (c : cal_Calendar) (m work : Int) : ∃ q, cal_Back c m work = some q ∧ portref2_BackIn c m work = some q := by
  obtain ⟨r, a1, b1, c1⟩ := cal_eq c
  unfold cal_Back portref2_BackIn portref2_workFault
  simp only [a1, b1, Option.bind_some]
  by_cases hr : r = 0
  rotate_left
  · have : (r != 0) = true := by simpa using hr
    simp [hr]
  have hc := c1 hr
  subst hr
  simp only [bne_self_eq_false, Bool.false_eq_true, if_false]
  by_cases hm : (0 ≤ m ∧ m ≤ 3000001) ∧ (0 ≤ work ∧ work ≤ 3000001)
  rotate_left
  · have e1 : ((!(cal_within m 0 3000001)) || ((cal_workOf work) != 0)) = true := by
      by_cases h1 : 0 ≤ m ∧ m ≤ 3000001
      · have e' : cal_within work 0 3000001 = false := by simp [cal_within]; omega
        simp [cal_workOf, e']
      · have e : cal_within m 0 3000001 = false := by simp [cal_within]; omega
        simp [e]
    have e2 : ((((decide (m < 0)) || (decide (3000001 < m))) || (decide (work < 0))) || (decide ((3000001 : Int) < work))) = true := by simp; omega
    simp [e1, e2]
  have e1 : ((!(cal_within m 0 3000001)) || ((cal_workOf work) != 0)) = false := by
    have e : cal_within m 0 3000001 = true := by simp [cal_within, hm]
    have e' : cal_within work 0 3000001 = true := by simp [cal_within, hm]
    simp [cal_workOf, e, e']
  have e2 : ((((decide (m < 0)) || (decide (3000001 < m))) || (decide (work < 0))) || (decide ((3000001 : Int) < work))) = false := by simp; omega
  obtain ⟨o, p1, p2⟩ := backIn_val hc m work hm.1.1 hm.1.2
  simp only [e1, e2, bne_self_eq_false, Bool.false_eq_true, if_false, Option.bind_some, portref2_NewClock, p1]
  by_cases hw : work = 0
  · subst hw
    refine ⟨(m, 0), by simp, ?_⟩
    rcases p2 with ⟨v, rfl, q1, q2, q3, q4⟩ | ⟨⟨s, rfl⟩, q1⟩
    · have : v = m := by
        rcases Int.lt_or_eq_of_le q2 with h | h
        · exact absurd cnt_self (q4 m h (Int.le_refl _))
        · exact h
      subst this
      rfl
    · exact absurd cnt_self (q1 m hm.1.1 (Int.le_refl _))
  · have hwb : (work == 0) = false := by simpa using hw
    have hop := open_spec hc 0 m (by omega) hm.1
    have hlen := open_len hc 0 m
    obtain ⟨rr, z, e, hz⟩ := back_iter (Int.le_refl 0) (openL c 0 m).reverse m work hm.1.2 hm.1.1 (by rw [List.reverse_reverse]; exact hop) (by omega) (by omega)
    have hcol : slices_Collect_cal_Span (fun _ y s => cal_Calendar_open_1 y s c 0 m) = some (openL c 0 m) := by
      unfold slices_Collect_cal_Span slices_AppendSeq_Lcal_Span_cal_Span
      dsimp only
      rw [open_val hc 0 m (by omega) hm.1, iter_collect 8796093022208 (openL c 0 m) [] (by simp; omega)]
      rfl
    simp only [hwb, Bool.false_eq_true, if_false, cal_Calendar_open, Option.bind_some, hcol, slices_Backward_Lcal_Span_cal_Span]
    rw [backward_val _ (yieldB (fun (x : cal_Span) (s95 : (Int × Int × Int)) => if (decide ((w64 (x.to_ - x.from_)) < s95.2.2)) = true then some ((s95.1, s95.2.1, w64 (s95.2.2 - (w64 (x.to_ - x.from_)))), none) else some ((0, w64 (x.to_ - s95.2.2), s95.2.2), some 0))) (fun i x s => rfl) (openL c 0 m) (by omega), e]
    simp only [Option.map_some, Option.bind_some]
    rcases hz with ⟨z1, z2, z3, z4, z5, z6⟩ | ⟨z1, z2⟩
    · rw [if_pos z1, z2]
      refine ⟨_, rfl, ?_⟩
      rcases p2 with ⟨v, rfl, q1, q2, q3, q4⟩ | ⟨⟨s, rfl⟩, q1⟩
      · have : v = z.1.2.1 := by
          rcases Int.lt_trichotomy v z.1.2.1 with h | h | h
          · exact absurd z5 (q4 _ h z4)
          · exact h
          · have := z6 v h q2; omega
        subst this
        rfl
      · exact absurd z5 (q1 _ z3 z4)
    · rw [if_neg (by rw [z1]; simp)]
      refine ⟨_, rfl, ?_⟩
      rcases p2 with ⟨v, rfl, q1, q2, q3, q4⟩ | ⟨⟨s, rfl⟩, q1⟩
      · have h3 := cnt_split (O := Opn c) q1 q2
        have h4 := cnt_nonneg (O := Opn c) (a := 0) (b := v)
        omega
      · rfl

theorem works_true (c : cal_Calendar) (m work : Int) : portlaw2_CalWorks c m work = some true := by
  obtain ⟨q1, a1, b1⟩ := end_same c m work
  obtain ⟨q2, a2, b2⟩ := add_same c m work
  obtain ⟨q3, a3, b3⟩ := back_same c m work
  unfold portlaw2_CalWorks
  simp [a1, b1, a2, b2, a3, b3]
end Go.Proofs.Ytjmgafmjendnaaa.M
