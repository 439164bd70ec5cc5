/-
  OnDuty, NextChange and their references agree: plain part.
-/
import Derived.Test.YtehofjchjogbkaaDoorRouteDutyDutyBase
namespace Go.Proofs.YtehofjchjogbkaaDoor.M
open Go Go.Pu
set_option linter.unusedSimpArgs false
set_option linter.unusedVariables false

theorem apart_nil {O : Int → Prop} {a b : Int} (h : Apart O a b []) (m : Int) (h1 : a ≤ m) (h2 : m < b) : ¬ O m := by
  rw [h.all m h1 h2]
  simp
theorem apart_cons {O : Int → Prop} {a b : Int} {x : cal_Span} {l : List cal_Span} (h : Apart O a b (x :: l)) : (a ≤ x.from_ ∧ x.from_ < x.to_ ∧ x.to_ ≤ b) ∧ (∀ m, a ≤ m → m < x.from_ → ¬ O m) ∧ (∀ m, x.from_ ≤ m → m < x.to_ → O m) ∧ (x.to_ < b → ¬ O x.to_) := by
  have he := h.each x (by simp)
  have hp := (List.pairwise_cons.1 h.apart).1
  refine ⟨he, fun m h1 h2 => ?_, fun m h1 h2 => (h.all m (by omega) (by omega)).2 ⟨x, by simp, h1, h2⟩, fun h1 => ?_⟩
  · rw [h.all m h1 (by omega)]
    rintro ⟨y, hy, q1, q2⟩
    rcases List.mem_cons.1 hy with rfl | hy
    · omega
    · have := hp y hy; omega
  · rw [h.all _ (by omega) h1]
    rintro ⟨y, hy, q1, q2⟩
    rcases List.mem_cons.1 hy with rfl | hy
    · omega
    · have := hp y hy; omega

/-- the next moment at which a calendar changes -/
theorem turn_eq {c : cal_Calendar} (hc : CalOk c ∧ cal_CheckCalendar c = some 0) (m : Int) (hm : 0 ≤ m ∧ m ≤ 3000000) :
    (∃ t, route_turn c m = some (t, 0) ∧ m < t ∧ t ≤ 3000000 ∧ ¬ (Opn c t ↔ Opn c m) ∧ ∀ u, m ≤ u → u < t → (Opn c u ↔ Opn c m)) ∨
    (route_turn c m = some (0, 7) ∧ ∀ u, m ≤ u → u ≤ 3000000 → (Opn c u ↔ Opn c m)) := by
  obtain ⟨b, o1, _, ob⟩ := open_eq hc m hm
  obtain ⟨hc, h0⟩ := hc
  have hop := open_spec hc m 3000001 (by omega) (by omega)
  unfold route_turn
  simp only [o1, Option.bind_some]
  cases b with
  | true =>
    have hO : Opn c m := ob.1 rfl
    simp only [if_true]
    unfold cal_NextClosed
    simp only [h0, Option.bind_some, or_two2, moment_in hm, ne_eq, not_true, if_false, bne_self_eq_false, Bool.false_eq_true, cal_Calendar_open]
    rw [open_val hc m 3000001 (by omega) (by omega)]
    cases hl : openL c m 3000001 with
    | nil => rw [hl] at hop; exact absurd hO (apart_nil hop m (Int.le_refl _) (by omega))
    | cons x l =>
      rw [hl] at hop
      obtain ⟨g1, g2, g3, g4⟩ := apart_cons hop
      have hx : x.from_ = m := by
        rcases Int.lt_or_eq_of_le g1.1 with h | h
        · exact absurd hO (g2 m (Int.le_refl _) h)
        · exact h.symm
      have hxb : (x.from_ == m) = true := by simpa using hx
      simp only [iterB, yieldB, Option.isNone_none, if_true, hxb, Option.bind_some, Option.isNone_some, Bool.false_eq_true, if_false, Option.map_some]
      by_cases ht : (3000000 : Int) < x.to_
      · right
        simp only [decide_eq_true ht, if_true, Option.bind_some]
        exact ⟨by trivial, fun u u1 u2 => ⟨fun _ => hO, fun _ => g3 u (by omega) (by omega)⟩⟩
      · left
        simp only [decide_eq_false ht, Bool.false_eq_true, if_false, Option.bind_some]
        exact ⟨x.to_, rfl, by omega, by omega, fun h => g4 (by omega) (h.2 hO), fun u u1 u2 => ⟨fun _ => hO, fun _ => g3 u (by omega) u2⟩⟩
  | false =>
    have hO : ¬ Opn c m := fun h => by have := ob.2 h; cases this
    simp only [Bool.false_eq_true, if_false]
    unfold cal_NextOpen
    simp only [h0, Option.bind_some, or_two2, moment_in hm, ne_eq, not_true, if_false, bne_self_eq_false, Bool.false_eq_true, cal_Calendar_open]
    rw [open_val hc m 3000001 (by omega) (by omega)]
    cases hl : openL c m 3000001 with
    | nil =>
      rw [hl] at hop
      right
      refine ⟨by simp [iterB], fun u u1 u2 => ⟨fun h => absurd h (apart_nil hop u u1 (by omega)), fun h => absurd h hO⟩⟩
    | cons x l =>
      rw [hl] at hop
      obtain ⟨g1, g2, g3, g4⟩ := apart_cons hop
      have hx : m < x.from_ := by
        rcases Int.lt_or_eq_of_le g1.1 with h | h
        · exact h
        · exact absurd (g3 m (by omega) (by omega)) hO
      left
      refine ⟨x.from_, by simp [iterB, yieldB], hx, by omega, fun h => hO (h.1 (g3 _ (Int.le_refl _) g1.2.1)), fun u u1 u2 => ⟨fun h => absurd h (g2 u u1 u2), fun h => absurd h hO⟩⟩

theorem contains_person (s : List route_Person) (q : route_Person → Bool) : slices_ContainsFunc_Lroute_Person_route_Person s (fun x => some (q x)) = some (s.any q) := by
  unfold slices_ContainsFunc_Lroute_Person_route_Person slices_IndexFunc_Lroute_Person_route_Person
  rw [rangeB_index s q]
  cases hf : s.findIdx? q with
  | none =>
    have hn := List.findIdx?_eq_none_iff.1 hf
    have ha : s.any q = false := by
      rw [List.any_eq_false]
      intro x hx
      simpa using hn x hx
    rw [ha]
    rfl
  | some i =>
    have ha : s.any q = true := by
      obtain ⟨h1, h2, _⟩ := List.findIdx?_eq_some_iff_getElem.1 hf
      exact List.any_eq_true.2 ⟨_, List.getElem_mem h1, h2⟩
    rw [ha]
    show some (decide ((0 : Int) ≤ (i : Int))) = some true
    rw [decide_eq_true (Int.natCast_nonneg i)]

/-- somebody's duty is another than at m -/
def Chg (people : List route_Person) (cals : List cal_Calendar) (m u : Int) : Prop := ∃ p ∈ people, ∃ c, idx cals p.calendar = some c ∧ ¬ (Opn c u ↔ Opn c m)
def Nxt (people : List route_Person) (cals : List cal_Calendar) (m : Int) (r : Int × Int) : Prop :=
  (∃ t, r = (t, 0) ∧ m < t ∧ t ≤ 3000000 ∧ Chg people cals m t ∧ ∀ u, m ≤ u → u < t → ¬ Chg people cals m u) ∨ (r = (0, 7) ∧ ∀ u, m ≤ u → u ≤ 3000000 → ¬ Chg people cals m u)
theorem nxt_one {people : List route_Person} {cals : List cal_Calendar} {m : Int} {r s : Int × Int} (h1 : Nxt people cals m r) (h2 : Nxt people cals m s) : r = s := by
  rcases h1 with ⟨t, rfl, a1, a2, a3, a4⟩ | ⟨rfl, a1⟩
  · rcases h2 with ⟨t', rfl, b1, b2, b3, b4⟩ | ⟨rfl, b1⟩
    · rcases Int.lt_trichotomy t t' with h | h | h
      · exact absurd a3 (b4 t (by omega) h)
      · rw [h]
      · exact absurd b3 (a4 t' (by omega) h)
    · exact absurd a3 (b1 t (by omega) a2)
  · rcases h2 with ⟨t', rfl, b1, b2, b3, b4⟩ | ⟨rfl, b1⟩
    · exact absurd b3 (a1 t' (by omega) b2)
    · rfl

theorem has_cal {people : List route_Person} {cals : List cal_Calendar} (hd : DutyOk people cals) {k : Nat} {p : route_Person} (h : people[k]? = some p) : ∃ c, idx cals p.calendar = some c ∧ cals[p.calendar.toNat]? = some c ∧ CalOk c ∧ cal_CheckCalendar c = some 0 := by
  obtain ⟨h1, h2⟩ := hd.has k p h
  obtain ⟨c, e1, e2⟩ := idx_of h1 h2
  exact ⟨c, e1, e2, hd.each _ c e2⟩

/-- one calendar, all that use it -/
def SameTo (people : List route_Person) (cals : List cal_Calendar) (m v : Int) (k : Nat) : Prop := ∀ (j : Nat) (c : cal_Calendar), j < k → cals[j]? = some c → (∃ p ∈ people, p.calendar = (j : Int)) → ∀ u, m ≤ u → u < v → (Opn c u ↔ Opn c m)

theorem changes_val {people : List route_Person} {cals : List cal_Calendar} (hd : DutyOk people cals) (m : Int) (hm : 0 ≤ m ∧ m ≤ 3000000) :
    ∃ s, rangeB (R := Int × Int) (fun k20 s26 => Option.bind (Option.bind (idx cals (k20 : Int)) fun x47 => Option.bind (slices_ContainsFunc_Lroute_Person_route_Person people (fun y92 => route_NextChange_1 y92 (k20 : Int))) fun x93 => if (!x93) = true then some s26 else Option.bind (route_turn x47 m) fun x116 => Option.bind (if ((x116.2 == 0) && ((decide (s26 < 0)) || (decide (x116.1 < s26)))) = true then some x116.1 else some s26) fun s125 => some s125) fun s40 => some (.nx s40)) cals.length 0 (-1) = some (.fin s) ∧
      ((s = -1 ∧ SameTo people cals m 3000001 cals.length) ∨ (m < s ∧ s ≤ 3000000 ∧ Chg people cals m s ∧ SameTo people cals m s cals.length)) := by
  refine rangeB_inv (R := Int × Int) (b := fun k20 s26 => Option.bind (Option.bind (idx cals (k20 : Int)) fun x47 => Option.bind (slices_ContainsFunc_Lroute_Person_route_Person people (fun y92 => route_NextChange_1 y92 (k20 : Int))) fun x93 => if (!x93) = true then some s26 else Option.bind (route_turn x47 m) fun x116 => Option.bind (if ((x116.2 == 0) && ((decide (s26 < 0)) || (decide (x116.1 < s26)))) = true then some x116.1 else some s26) fun s125 => some s125) fun s40 => some (.nx s40)) cals.length (fun k s => (s = -1 ∧ SameTo people cals m 3000001 k) ∨ (m < s ∧ s ≤ 3000000 ∧ Chg people cals m s ∧ SameTo people cals m s k)) (s := -1) (.inl ⟨rfl, fun j c h => absurd h (Nat.not_lt_zero j)⟩) ?_
  intro k s hk hI
  have hx : cals[k]? = some cals[k] := List.getElem?_eq_getElem hk
  generalize cals[k] = c at hx
  unfold route_NextChange_1
  rw [contains_person people (fun y => y.calendar == (k : Int))]
  simp only [idx_nat, hx, Option.bind_some]
  have step : ∀ v, SameTo people cals m v k → ((∃ p ∈ people, p.calendar = (k : Int)) → ∀ u, m ≤ u → u < v → (Opn c u ↔ Opn c m)) → SameTo people cals m v (k + 1) := by
    intro v h1 h2 j d hj hd'
    by_cases h : j = k
    · subst h
      rw [hx] at hd'
      cases hd'
      exact h2
    · exact h1 j d (by omega) hd'
  have mono : ∀ v v', v' ≤ v → SameTo people cals m v k → SameTo people cals m v' k := fun v v' h h1 j d hj hd' hp u u1 u2 => h1 j d hj hd' hp u u1 (by omega)
  cases ha : people.any (fun y => y.calendar == (k : Int)) with
  | false =>
    have hno : ¬ ∃ p ∈ people, p.calendar = (k : Int) := by
      rintro ⟨p, hp, e⟩
      have := List.any_eq_false.1 ha p hp
      simp [e] at this
    simp only [Bool.not_false, if_true, Option.bind_some]
    refine ⟨s, rfl, ?_⟩
    rcases hI with ⟨h1, h2⟩ | ⟨h1, h2, h3, h4⟩
    · exact .inl ⟨h1, step _ h2 fun h => absurd h hno⟩
    · exact .inr ⟨h1, h2, h3, step _ h4 fun h => absurd h hno⟩
  | true =>
    obtain ⟨p, hp, e⟩ := List.any_eq_true.1 ha
    have e : p.calendar = (k : Int) := by simpa using e
    have hidx : idx cals p.calendar = some c := by rw [e, idx_nat, hx]
    simp only [Bool.not_true, Bool.false_eq_true, if_false]
    rcases turn_eq (hd.each k c hx) m hm with ⟨t, t1, t2, t3, t4, t5⟩ | ⟨t1, t2⟩
    · simp only [t1, Option.bind_some, beq_self_eq_true, Bool.true_and]
      by_cases hlt : ((decide (s < 0)) || (decide (t < s))) = true
      · simp only [hlt, if_true, Option.bind_some]
        refine ⟨t, rfl, .inr ⟨t2, t3, ⟨p, hp, c, hidx, t4⟩, ?_⟩⟩
        have hlt : s < 0 ∨ t < s := by simpa using hlt
        rcases hI with ⟨h1, h2⟩ | ⟨h1, h2, h3, h4⟩
        · exact step _ (mono _ _ (by omega) h2) fun _ => t5
        · exact step _ (mono _ _ (by omega) h4) fun _ => t5
      · simp only [hlt, Bool.false_eq_true, if_false, Option.bind_some]
        have hlt : 0 ≤ s ∧ s ≤ t := by simp at hlt; omega
        rcases hI with ⟨h1, h2⟩ | ⟨h1, h2, h3, h4⟩
        · omega
        · exact ⟨s, rfl, .inr ⟨h1, h2, h3, step _ h4 fun _ u u1 u2 => t5 u u1 (by omega)⟩⟩
    · simp only [t1, Option.bind_some, show ((7 : Int) == 0) = false from rfl, Bool.false_and, Bool.false_eq_true, if_false]
      refine ⟨s, rfl, ?_⟩
      rcases hI with ⟨h1, h2⟩ | ⟨h1, h2, h3, h4⟩
      · exact .inl ⟨h1, step _ h2 fun _ u u1 u2 => t2 u u1 (by omega)⟩
      · exact .inr ⟨h1, h2, h3, step _ h4 fun _ u u1 u2 => t2 u u1 (by omega)⟩

theorem same_no {people : List route_Person} {cals : List cal_Calendar} (hd : DutyOk people cals) {m v : Int} (h : SameTo people cals m v cals.length) (u : Int) (h1 : m ≤ u) (h2 : u < v) : ¬ Chg people cals m u := by
  rintro ⟨p, hp, c, hi, hn⟩
  obtain ⟨k, hk⟩ := List.mem_iff_getElem?.1 hp
  obtain ⟨c', e1, e2, _⟩ := has_cal hd hk
  rw [hi] at e1
  cases e1
  obtain ⟨q1, q2⟩ := hd.has k p hk
  exact hn (h _ c (by omega) e2 ⟨p, hp, by omega⟩ u h1 h2)

/-- one moment of the reference's search -/
theorem look_val {people : List route_Person} {cals : List cal_Calendar} (hd : DutyOk people cals) (s : Int) (h0 : 1 ≤ s) (h1 : s ≤ 3000000) :
    ∃ o, rangeB (R := Int) (fun k39 (_ : Unit) => Option.bind (idx people (k39 : Int)) fun x58 => Option.bind (idx cals x58.calendar) fun x77 => Option.bind (portref2_Clock_Open x77 s) fun x86 => Option.bind (portref2_Clock_Open x77 (w64 (s - 1))) fun x97 => if (!(x86 == x97)) = true then some (.rt s) else some (.nx ())) people.length 0 () = some o ∧
      ((o = .rt s ∧ ∃ p ∈ people, ∃ c, idx cals p.calendar = some c ∧ ¬ (Opn c s ↔ Opn c (s - 1))) ∨ (o = .fin () ∧ ∀ p ∈ people, ∀ c, idx cals p.calendar = some c → (Opn c s ↔ Opn c (s - 1)))) := by
  refine rangeB_spec (R := Int) people.length (fun k _ => ∀ (j : Nat) (p : route_Person) (c : cal_Calendar), j < k → people[j]? = some p → idx cals p.calendar = some c → (Opn c s ↔ Opn c (s - 1))) _ (fun j p c h => absurd h (Nat.not_lt_zero j)) ?_ ?_
  · intro k _ hk hI
    have hx : people[k]? = some people[k] := List.getElem?_eq_getElem hk
    generalize people[k] = p at hx
    obtain ⟨c, e1, e2, e3⟩ := has_cal hd hx
    obtain ⟨b1, _, d1, o1⟩ := open_eq e3 s (by omega)
    obtain ⟨b2, _, d2, o2⟩ := open_eq e3 (s - 1) (by omega)
    rw [w64_id (n := s - 1) (by omega) (by omega)]
    simp only [idx_nat, hx, Option.bind_some, e1, d1, d2]
    by_cases hb : b1 = b2
    · subst hb
      simp only [beq_self_eq_true, Bool.not_true, Bool.false_eq_true, if_false]
      refine ⟨.nx (), rfl, fun j q d hj hq hd' => ?_⟩
      by_cases h : j = k
      · subst h
        rw [hx] at hq
        cases hq
        rw [e1] at hd'
        cases hd'
        exact o1.symm.trans o2
      · exact hI j q d (by omega) hq hd'
    · have : (!(b1 == b2)) = true := by cases b1 <;> cases b2 <;> simp_all
      simp only [this, if_true]
      refine ⟨.rt s, rfl, .inl ⟨rfl, p, List.mem_of_getElem? hx, c, e1, fun h => hb ?_⟩⟩
      have : b1 = true ↔ b2 = true := o1.trans (h.trans o2.symm)
      cases b1 <;> cases b2 <;> simp_all
  · intro _ hI
    refine .inr ⟨rfl, fun p hp c hc => ?_⟩
    obtain ⟨k, hk⟩ := List.mem_iff_getElem?.1 hp
    exact hI k p c (List.getElem?_eq_some_iff.1 hk).1 hk hc

theorem change_val {people : List route_Person} {cals : List cal_Calendar} (hd : DutyOk people cals) (m : Int) (hm : 0 ≤ m ∧ m ≤ 3000000) :
    ∃ t, portref2_duty_change ⟨people, cals, []⟩ m 3000000 = some t ∧ Nxt people cals m (if t < 0 then (0, 7) else (t, 0)) := by
  unfold portref2_duty_change
  rw [w64_id (n := m + 1) (by omega) (by omega)]
  obtain ⟨o, ho, hQ⟩ := whileB_spec (R := Int) (body := fun s15 => if (decide (s15 ≤ 3000000)) = true then Option.bind (α := Lp _ _) (Option.bind (rangeB (fun k39 (_ : Unit) => Option.bind (idx people (k39 : Int)) fun x58 => Option.bind (idx cals x58.calendar) fun x77 => Option.bind (portref2_Clock_Open x77 s15) fun x86 => Option.bind (portref2_Clock_Open x77 (w64 (s15 - 1))) fun x97 => if (!(x86 == x97)) = true then some (.rt s15) else some (.nx ())) people.length 0 ()) fun o36 => o36.andThen (fun y => some (.rt y)) fun s37 => some (.fin ())) fun o28 => o28.andThen (fun y => some (.rt y)) fun s29 => some (.nx (w64 (s15 + 1))) else some (.bk s15))
    (fun s => m < s ∧ s ≤ 3000001 ∧ ∀ u, m ≤ u → u < s → ¬ Chg people cals m u) (fun s => (3000002 - s).toNat)
    (fun o => (∃ v, o = .rt v ∧ m < v ∧ v ≤ 3000000 ∧ Chg people cals m v ∧ ∀ u, m ≤ u → u < v → ¬ Chg people cals m u) ∨ ((∃ v, o = .fin v) ∧ ∀ u, m ≤ u → u ≤ 3000000 → ¬ Chg people cals m u)) (s := m + 1)
    ⟨by omega, by omega, fun u u1 u2 => by
      have : u = m := by omega
      subst this
      rintro ⟨p, hp, c, _, hn⟩
      exact hn Iff.rfl⟩ (by
    rintro s ⟨q1, q2, q3⟩
    by_cases hs : s ≤ 3000000
    · simp only [hs, decide_true, if_true]
      obtain ⟨o, ho, h⟩ := look_val hd s (by omega) hs
      rw [ho]
      rcases h with ⟨rfl, p, hp, c, hc, hn⟩ | ⟨rfl, h⟩
      · refine ⟨.rt s, rfl, .inl ⟨s, rfl, q1, hs, ⟨p, hp, c, hc, fun h => ?_⟩, q3⟩⟩
        have h1 : ¬ Chg people cals m (s - 1) := q3 (s - 1) (by omega) (by omega)
        have h2 : Opn c (s - 1) ↔ Opn c m := Classical.byContradiction fun h2 => h1 ⟨p, hp, c, hc, h2⟩
        exact hn (h.trans h2.symm)
      · refine ⟨.nx (s + 1), ?_, ⟨by omega, by omega, fun u u1 u2 => ?_⟩, by omega⟩
        · simp only [Option.bind_some, Lp.andThen]
          rw [w64_id (n := s + 1) (by omega) (by omega)]
        · by_cases hu : u = s
          · subst hu
            rintro ⟨p, hp, c, hc, hn⟩
            have h1 : ¬ Chg people cals m (u - 1) := q3 (u - 1) (by omega) (by omega)
            have h2 : Opn c (u - 1) ↔ Opn c m := Classical.byContradiction fun h2 => h1 ⟨p, hp, c, hc, h2⟩
            exact hn ((h p hp c hc).trans h2)
          · exact q3 u u1 (by omega)
    · simp only [hs, decide_false, Bool.false_eq_true, if_false]
      exact ⟨.bk s, rfl, .inr ⟨⟨s, rfl⟩, fun u u1 u2 => q3 u u1 (by omega)⟩⟩)
  rw [ho]
  rcases hQ with ⟨v, rfl, h1, h2, h3, h4⟩ | ⟨⟨v, rfl⟩, h⟩
  · refine ⟨v, rfl, .inl ⟨v, ?_, h1, h2, h3, h4⟩⟩
    rw [if_neg (by omega)]
  · exact ⟨-1, rfl, .inr ⟨rfl, h⟩⟩

theorem equal_ints (l : List Int) : slices_Equal_Lint_int l l = some true := by
  unfold slices_Equal_Lint_int
  simp only [bne_self_eq_false, Bool.false_eq_true, if_false]
  obtain ⟨t, h, _⟩ := rangeB_inv (R := Bool) (b := fun k9 (_ : Unit) => Option.bind (idx l (k9 : Int)) fun x29 => Option.bind (idx l (k9 : Int)) fun x33 => if (x29 != x33) = true then some (.rt false) else some (.nx ())) l.length (fun _ _ => True) (s := ()) trivial
    (fun k s hk _ => by rw [idx_lt _ _ hk]; simp)
  rw [h]
  rfl

theorem moments (m : Int) : route_moment m = if portref2_IsMoment m = true then 0 else 2 := by
  unfold route_moment portref2_IsMoment route_within
  by_cases h : 0 ≤ m ∧ m ≤ 3000000 <;> simp [h]

theorem on_eq (people : List route_Person) (cals : List cal_Calendar) (m : Int) (hs : ∀ p ∈ people, ∀ k ∈ p.skills, k.name.size ≤ 9223372036854775807) : ∃ x, route_OnDuty people cals m = some x ∧ portref2_OnDutyOf people cals m = some x := by
  obtain ⟨r, a1, b1, c1⟩ := duty_eq people cals hs
  unfold route_OnDuty portref2_OnDutyOf
  simp only [a1, b1, Option.bind_some, or_two2, moments]
  by_cases hr : r = 0
  rotate_left
  · have : (r != 0) = true := by simpa using hr
    simp only [hr, ne_eq, not_false_eq_true, if_true, this]
    exact ⟨_, rfl, rfl⟩
  subst hr
  have hd := c1 rfl
  simp only [ne_eq, not_true, if_false, bne_self_eq_false, Bool.false_eq_true]
  cases hm : portref2_IsMoment m with
  | false => exact ⟨([], 2), by simp, by simp⟩
  | true =>
    have hm' : 0 ≤ m ∧ m ≤ 3000000 := by simpa [portref2_IsMoment] using hm
    simp only [if_true, bne_self_eq_false, Bool.not_true, Bool.false_eq_true, if_false, duty_val people cals (by have := hd.most; omega), Option.bind_some]
    rcases rangeB_sim (R := List Int × Int) (b := fun k20 s28 => Option.bind (Option.bind (idx people (k20 : Int)) fun x53 => Option.bind (idx cals x53.calendar) fun x72 => Option.bind (cal_Open x72 m) fun x83 => Option.bind (if x83.1 = true then Option.bind (appendL 17592186044416 s28 ([(k20 : Int)] : List Int)) fun x104 => some x104 else some s28) fun s88 => some s88) fun s44 => some (.nx s44))
      (b' := fun k25 s33 => Option.bind (Option.bind (idx people (k25 : Int)) fun x58 => Option.bind (portref2_duty_on ⟨people, cals, []⟩ x58 m) fun x79 => Option.bind (if x79 = true then Option.bind (appendL 17592186044416 s33 ([(k25 : Int)] : List Int)) fun x101 => some x101 else some s33) fun s85 => some s85) fun s49 => some (.nx s49)) people.length (fun _ => True) (fun k s s' => s = s' ∧ s.length ≤ k) (s := ([] : List Int)) (s' := ([] : List Int)) ⟨rfl, Nat.le_refl _⟩
      (by
        rintro k s _ hk ⟨rfl, hl⟩
        have h40 := hd.ppl.1
        have hx : people[k]? = some people[k] := List.getElem?_eq_getElem hk
        generalize people[k] = p at hx
        obtain ⟨c, e1, e2, e3⟩ := has_cal hd hx
        obtain ⟨b, d1, d2, _⟩ := open_eq e3 m hm'
        simp only [idx_nat, hx, Option.bind_some, e1, d1, on_val people cals p c m e1, d2]
        cases b with
        | true =>
          have hap : appendL 17592186044416 s [(k : Int)] = some (s ++ [(k : Int)]) := by
            unfold appendL
            rw [if_pos (by simp; omega)]
          simp only [if_true, hap, Option.bind_some]
          exact .inr ⟨_, _, rfl, rfl, rfl, by simp; omega⟩
        | false =>
          simp only [Bool.false_eq_true, if_false, Option.bind_some]
          exact .inr ⟨_, _, rfl, rfl, rfl, by omega⟩) with ⟨r, g1, g2, _⟩ | ⟨t, _, g1, g2, rfl, _⟩
    · rw [g1, g2]
      exact ⟨_, rfl, rfl⟩
    · rw [g1, g2]
      exact ⟨_, rfl, rfl⟩

theorem next_eq (people : List route_Person) (cals : List cal_Calendar) (m : Int) (hs : ∀ p ∈ people, ∀ k ∈ p.skills, k.name.size ≤ 9223372036854775807) : ∃ x, route_NextChange people cals m = some x ∧ portref2_NextChangeOf people cals m = some x := by
  obtain ⟨r, a1, b1, c1⟩ := duty_eq people cals hs
  unfold route_NextChange portref2_NextChangeOf
  simp only [a1, b1, Option.bind_some, or_two2, moments]
  by_cases hr : r = 0
  rotate_left
  · have : (r != 0) = true := by simpa using hr
    simp only [hr, ne_eq, not_false_eq_true, if_true, this]
    exact ⟨_, rfl, rfl⟩
  subst hr
  have hd := c1 rfl
  simp only [ne_eq, not_true, if_false, bne_self_eq_false, Bool.false_eq_true]
  cases hm : portref2_IsMoment m with
  | false => exact ⟨(0, 2), by simp, by simp⟩
  | true =>
    have hm' : 0 ≤ m ∧ m ≤ 3000000 := by simpa [portref2_IsMoment] using hm
    simp only [if_true, bne_self_eq_false, Bool.not_true, Bool.false_eq_true, if_false, duty_val people cals (by have := hd.most; omega), Option.bind_some]
    obtain ⟨s, e1, e2⟩ := changes_val hd m hm'
    obtain ⟨t, f1, f2⟩ := change_val hd m hm'
    rw [e1, f1]
    have hN : Nxt people cals m (if s < 0 then (0, 7) else (s, 0)) := by
      rcases e2 with ⟨rfl, h⟩ | ⟨h1, h2, h3, h4⟩
      · exact .inr ⟨rfl, fun u u1 u2 => same_no hd h u u1 (by omega)⟩
      · refine .inl ⟨s, ?_, h1, h2, h3, fun u u1 u2 => same_no hd h4 u u1 u2⟩
        rw [if_neg (by omega)]
    have he := nxt_one hN f2
    refine ⟨if s < 0 then (0, 7) else (s, 0), ?_, ?_⟩
    · simp only [Option.bind_some, Lp.andThen]
      by_cases h : s < 0 <;> simp [h]
    · rw [he]
      simp only [Option.bind_some]
      by_cases h : t < 0 <;> simp [h]

theorem duty_true (people : List route_Person) (cals : List cal_Calendar) (m : Int) (hs : ∀ p ∈ people, ∀ k ∈ p.skills, k.name.size ≤ 9223372036854775807) : portlaw2_RouteDuty people cals m = some true := by
  obtain ⟨x, a1, a2⟩ := on_eq people cals m hs
  obtain ⟨y, b1, b2⟩ := next_eq people cals m hs
  unfold portlaw2_RouteDuty
  simp only [a1, a2, b1, b2, Option.bind_some, beq_self_eq_true, if_true, equal_ints]
end Go.Proofs.YtehofjchjogbkaaDoor.M
