/-
  NextOpen, NextClosed and their references agree: plain part.
-/
import Derived.Test.YtjmgafmjendnaaaCalNextCalIter
namespace Go.Proofs.Ytjmgafmjendnaaa.M
open Go Go.Pu

theorem or_two' (a b : Int) : cmp_Or_api_Errno [a, b] = some (if a ≠ 0 then a else b) := or_two a b

theorem nextIn_val {c : cal_Calendar} (hc : CalOk c) (m : Int) (b : Bool) (h0 : 0 ≤ m) (h1 : m ≤ 3000000) :
    ∃ o, whileB (R := Int × Int) (fun s49 => if (decide (s49 ≤ 3000000)) = true then Option.bind (portref2_Clock_Open c s49) fun x61 => if (x61 == b) = true then some (.rt (s49, 0)) else some (.nx (w64 (s49 + 1))) else some (.bk s49)) m = some o ∧
      ((∃ v, o = .rt (v, 0) ∧ m ≤ v ∧ v ≤ 3000000 ∧ (Opn c v ↔ b = true) ∧ ∀ u, m ≤ u → u < v → ¬ (Opn c u ↔ b = true)) ∨ ((∃ v, o = .fin v) ∧ ∀ u, m ≤ u → u ≤ 3000000 → ¬ (Opn c u ↔ b = true))) := by
  refine whileB_spec (R := Int × Int) (fun s => m ≤ s ∧ s ≤ 3000001 ∧ ∀ u, m ≤ u → u < s → ¬ (Opn c u ↔ b = true)) (fun s => (3000002 - s).toNat) _ ⟨Int.le_refl _, by omega, fun u q1 q2 => by omega⟩ ?_
  rintro s ⟨q1, q2, q3⟩
  by_cases hs : s ≤ 3000000
  · obtain ⟨d, hd, hdo⟩ := clock_open hc s (by omega) hs
    simp only [hs, decide_true, if_true, hd, Option.bind_some]
    by_cases he : (d == b) = true
    · simp only [he, if_true]
      have : d = b := by simpa using he
      subst this
      exact ⟨_, rfl, .inl ⟨s, rfl, q1, hs, hdo.symm, q3⟩⟩
    · simp only [he, Bool.false_eq_true, if_false]
      rw [w64_id (by omega) (by omega)]
      refine ⟨_, rfl, ⟨by omega, by omega, fun u u1 u2 => ?_⟩, by omega⟩
      by_cases hu : u = s
      · subst hu
        rw [← hdo]
        intro h
        cases d <;> cases b <;> simp_all
      · exact q3 u u1 (by omega)
  · simp only [hs, decide_false, Bool.false_eq_true, if_false]
    exact ⟨_, rfl, .inr ⟨⟨s, rfl⟩, fun u u1 u2 => q3 u u1 (by omega)⟩⟩

/-- the first span of a list -/
theorem apart_nil {O : Int → Prop} {a b : Int} (h : Apart O a b []) (m : Int) (h1 : a ≤ m) (h2 : m < b) : ¬ O m := by
  rw [h.all m h1 h2]
  simp
theorem apart_cons {O : Int → Prop} {a b : Int} {x : cal_Span} {l : List cal_Span} (h : Apart O a b (x :: l)) : (a ≤ x.from_ ∧ x.from_ < x.to_ ∧ x.to_ ≤ b) ∧ (∀ m, a ≤ m → m < x.from_ → ¬ O m) ∧ (∀ m, x.from_ ≤ m → m < x.to_ → O m) ∧ (x.to_ < b → ¬ O x.to_) := by
  have he := h.each x (by simp)
  have hp := (List.pairwise_cons.1 h.apart).1
  refine ⟨he, fun m h1 h2 => ?_, fun m h1 h2 => (h.all m (by omega) (by omega)).2 ⟨x, by simp, h1, h2⟩, fun h1 => ?_⟩
  · rw [h.all m h1 (by omega)]
    rintro ⟨y, hy, q1, q2⟩
    rcases List.mem_cons.1 hy with rfl | hy
    · omega
    · have := hp y hy; omega
  · rw [h.all _ (by omega) h1]
    rintro ⟨y, hy, q1, q2⟩
    rcases List.mem_cons.1 hy with rfl | hy
    · omega
    · have := hp y hy; omega

theorem next_true (c : cal_Calendar) (m : Int) : portlaw2_CalNext c m = some true := by
  obtain ⟨r, a1, b1, c1⟩ := cal_eq c
  unfold portlaw2_CalNext cal_NextOpen cal_NextClosed portref2_NextIn
  simp only [a1, b1, Option.bind_some, or_two]
  by_cases hr : r = 0
  rotate_left
  · have : (r != 0) = true := by simpa using hr
    simp [hr]
  have hc := c1 hr
  subst hr
  simp only [ne_eq, not_true, if_false, bne_self_eq_false, Bool.false_eq_true]
  by_cases hm : 0 ≤ m ∧ m ≤ 3000000
  rotate_left
  · have h1 : cal_moment m = 2 := by
      unfold cal_moment
      rw [if_pos]
      simp [cal_within]
      omega
    have h2 : portref2_IsMoment m = false := by
      simp [portref2_IsMoment]
      omega
    simp [h1, h2]
  have h1 : cal_moment m = 0 := by
    unfold cal_moment
    rw [if_neg]
    simp [cal_within]
    omega
  have h2 : portref2_IsMoment m = true := by
    simp [portref2_IsMoment]
    omega
  have hop := open_spec hc m 3000001 (by omega) (by omega)
  simp only [h1, h2, bne_self_eq_false, Bool.false_eq_true, if_false, Bool.not_true, cal_Calendar_open, portref2_NewClock, Option.bind_some]
  rw [open_val hc m 3000001 (by omega) (by omega), open_val hc m 3000001 (by omega) (by omega)]
  obtain ⟨o1, p1, p2⟩ := nextIn_val hc m true hm.1 hm.2
  obtain ⟨o2, p3, p4⟩ := nextIn_val hc m false hm.1 hm.2
  rw [p1, p3]
  simp only [Option.bind_some]
  cases hl : openL c m 3000001 with
  | nil =>
    rw [hl] at hop
    have hno := apart_nil hop
    simp only [iterB, Option.map_some, Option.bind_some, reduceCtorEq, if_false, show ¬ (3000000 : Int) < m by omega, decide_false, Bool.false_eq_true]
    have e1 : o1.andThen (fun y => some y) (fun _ => some (0, 7)) = some ((0 : Int), (7 : Int)) := by
      rcases p2 with ⟨v, rfl, q1, q2, q3, q4⟩ | ⟨⟨v, rfl⟩, q1⟩
      · exact absurd (q3.2 rfl) (hno v q1 (by omega))
      · rfl
    have e2 : o2.andThen (fun y => some y) (fun _ => some (0, 7)) = some (m, (0 : Int)) := by
      rcases p4 with ⟨v, rfl, q1, q2, q3, q4⟩ | ⟨⟨v, rfl⟩, q1⟩
      · have : v = m := by
          rcases Int.lt_or_eq_of_le q1 with h | h
          · have := q4 m (Int.le_refl _) h
            exact absurd ⟨fun h => absurd h (hno m (Int.le_refl _) (by omega)), fun h => by cases h⟩ this
          · exact h.symm
        subst this
        rfl
      · exact absurd ⟨fun h => absurd h (hno m (Int.le_refl _) (by omega)), fun h => by cases h⟩ (q1 m (Int.le_refl _) hm.2)
    simp [e1, e2]
  | cons x l =>
    rw [hl] at hop
    obtain ⟨g1, g2, g3, g4⟩ := apart_cons hop
    have e1 : o1.andThen (fun y => some y) (fun _ => some (0, 7)) = some (x.from_, (0 : Int)) := by
      rcases p2 with ⟨v, rfl, q1, q2, q3, q4⟩ | ⟨⟨v, rfl⟩, q1⟩
      · have : v = x.from_ := by
          rcases Int.lt_trichotomy v x.from_ with h | h | h
          · exact absurd (q3.2 rfl) (g2 v q1 h)
          · exact h
          · exact absurd ⟨fun _ => rfl, fun _ => g3 x.from_ (Int.le_refl _) g1.2.1⟩ (q4 x.from_ g1.1 h)
        subst this
        rfl
      · exact absurd ⟨fun _ => rfl, fun _ => g3 x.from_ (Int.le_refl _) g1.2.1⟩ (q1 x.from_ g1.1 (by omega))
    simp only [iterB, yieldB, Option.isNone_none, if_true, Option.bind_some, Option.isNone_some, Bool.false_eq_true, if_false, Option.map_some, e1]
    by_cases hx : x.from_ = m
    · have hxb : (x.from_ == m) = true := by simpa using hx
      simp only [hxb, if_true, Option.bind_some, Option.isNone_some, Bool.false_eq_true, if_false, Option.map_some]
      by_cases ht : (3000000 : Int) < x.to_
      · have e2 : o2.andThen (fun y => some y) (fun _ => some (0, 7)) = some ((0 : Int), (7 : Int)) := by
          rcases p4 with ⟨v, rfl, q1, q2, q3, q4⟩ | ⟨⟨v, rfl⟩, q1⟩
          · have := q3.1 (g3 v (by omega) (by omega))
            cases this
          · rfl
        simp [e2, ht]
      · have e2 : o2.andThen (fun y => some y) (fun _ => some (0, 7)) = some (x.to_, (0 : Int)) := by
          rcases p4 with ⟨v, rfl, q1, q2, q3, q4⟩ | ⟨⟨v, rfl⟩, q1⟩
          · have : v = x.to_ := by
              rcases Int.lt_trichotomy v x.to_ with h | h | h
              · have := q3.1 (g3 v (by omega) h)
                cases this
              · exact h
              · exact absurd ⟨fun h => absurd h (g4 (by omega)), fun h => by cases h⟩ (q4 x.to_ (by omega) h)
            subst this
            rfl
          · exact absurd ⟨fun h => absurd h (g4 (by omega)), fun h => by cases h⟩ (q1 x.to_ (by omega) (by omega))
        simp [e2, ht]
    · have hxb : (x.from_ == m) = false := by simpa using hx
      have e2 : o2.andThen (fun y => some y) (fun _ => some (0, 7)) = some (m, (0 : Int)) := by
        have hno : ¬ Opn c m := g2 m (Int.le_refl _) (by omega)
        rcases p4 with ⟨v, rfl, q1, q2, q3, q4⟩ | ⟨⟨v, rfl⟩, q1⟩
        · have : v = m := by
            rcases Int.lt_or_eq_of_le q1 with h | h
            · have := q4 m (Int.le_refl _) h
              exact absurd ⟨fun h => absurd h hno, fun h => by cases h⟩ this
            · exact h.symm
          subst this
          rfl
        · exact absurd ⟨fun h => absurd h hno, fun h => by cases h⟩ (q1 m (Int.le_refl _) hm.2)
      simp only [hxb, Bool.false_eq_true, if_false, Option.bind_some, Option.isNone_some, Option.map_some, show ¬ (3000000 : Int) < m by omega, decide_false]
      simp [e2]
end Go.Proofs.Ytjmgafmjendnaaa.M
