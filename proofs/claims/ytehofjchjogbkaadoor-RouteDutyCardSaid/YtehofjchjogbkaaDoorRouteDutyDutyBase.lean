/-
  Who is on duty: what is checked, the clocks: plain part.
-/
import Derived.Test.YtehofjchjogbkaaDoorRouteDutyCalIter
import Derived.Test.YtehofjchjogbkaaDoorRouteDutyRouteBase
namespace Go.Proofs.YtehofjchjogbkaaDoor.M
open Go Go.Pu
set_option linter.unusedSimpArgs false
set_option linter.unusedVariables false

theorem meter_val (cals : List cal_Calendar) (h : cals.length ≤ 1000) : portref2_newMeter cals = some ⟨cals⟩ := by
  unfold portref2_newMeter
  obtain ⟨t, ht, hI⟩ := rangeB_inv (R := portref2_meter) (b := fun k11 s19 => Option.bind (idx cals (k11 : Int)) fun x34 => Option.bind (portref2_NewClock x34) fun x72 => Option.bind (appendL 17592186044416 s19.clocks [x72]) fun x86 => some (.nx (⟨x86⟩ : portref2_meter))) cals.length (fun k s => s = ⟨cals.take k⟩) (s := ⟨[]⟩) (by simp) (by
    rintro k s hk rfl
    refine ⟨_, ?_, rfl⟩
    have hx := List.getElem?_eq_getElem hk
    rw [idx_nat, hx]
    simp only [Option.bind_some, portref2_NewClock]
    unfold appendL
    rw [if_pos (by simp; omega)]
    rw [List.take_add_one, hx]
    rfl)
  rw [ht, hI]
  simp [Lp.andThen]

theorem duty_val (people : List route_Person) (cals : List cal_Calendar) (h : cals.length ≤ 1000) : portref2_newDuty people cals = some ⟨people, cals, []⟩ := by
  unfold portref2_newDuty
  rw [meter_val cals h]
  rfl

structure DutyOk (people : List route_Person) (cals : List cal_Calendar) : Prop where
  ppl : PeopleOK people
  most : cals.length ≤ 20
  each : ∀ (k : Nat) (c : cal_Calendar), cals[k]? = some c → CalOk c ∧ cal_CheckCalendar c = some 0
  has : ∀ (k : Nat) (p : route_Person), people[k]? = some p → 0 ≤ p.calendar ∧ p.calendar < (cals.length : Int)

theorem cals_eq (cals : List cal_Calendar) : (∃ r, rangeB (R := Int) (fun k14 (_ : Unit) => Option.bind (idx cals (k14 : Int)) fun x33 => Option.bind (cal_CheckCalendar x33) fun x68 => if (x68 != 0) = true then some (.rt x68) else some (.nx ())) cals.length 0 () = some (.rt r) ∧ rangeB (R := Int) (fun k14 (_ : Unit) => Option.bind (idx cals (k14 : Int)) fun x33 => Option.bind (portref2_CalendarFault x33) fun x68 => if (x68 != 0) = true then some (.rt x68) else some (.nx ())) cals.length 0 () = some (.rt r) ∧ r ≠ 0) ∨
    (rangeB (R := Int) (fun k14 (_ : Unit) => Option.bind (idx cals (k14 : Int)) fun x33 => Option.bind (cal_CheckCalendar x33) fun x68 => if (x68 != 0) = true then some (.rt x68) else some (.nx ())) cals.length 0 () = some (.fin ()) ∧ rangeB (R := Int) (fun k14 (_ : Unit) => Option.bind (idx cals (k14 : Int)) fun x33 => Option.bind (portref2_CalendarFault x33) fun x68 => if (x68 != 0) = true then some (.rt x68) else some (.nx ())) cals.length 0 () = some (.fin ()) ∧ ∀ (k : Nat) (c : cal_Calendar), cals[k]? = some c → CalOk c ∧ cal_CheckCalendar c = some 0) := by
  rcases rangeB_sim (R := Int) (b := fun k14 (_ : Unit) => Option.bind (idx cals (k14 : Int)) fun x33 => Option.bind (cal_CheckCalendar x33) fun x68 => if (x68 != 0) = true then some (.rt x68) else some (.nx ()))
    (b' := fun k14 (_ : Unit) => Option.bind (idx cals (k14 : Int)) fun x33 => Option.bind (portref2_CalendarFault x33) fun x68 => if (x68 != 0) = true then some (.rt x68) else some (.nx ())) cals.length (fun r => r ≠ 0) (fun k _ _ => ∀ (j : Nat) (c : cal_Calendar), j < k → cals[j]? = some c → CalOk c ∧ cal_CheckCalendar c = some 0) (s := ()) (s' := ()) (fun j c h => absurd h (Nat.not_lt_zero j))
    (by
      intro k s s' hk hI
      have hx : cals[k]? = some cals[k] := List.getElem?_eq_getElem hk
      generalize cals[k] = c at hx
      obtain ⟨r, a1, b1, c1⟩ := cal_eq c
      simp only [idx_nat, hx, Option.bind_some, a1, b1]
      by_cases hr : r = 0
      · subst hr
        simp only [bne_self_eq_false, Bool.false_eq_true, if_false]
        refine .inr ⟨(), (), by trivial, by trivial, fun j d hj hd => ?_⟩
        by_cases h : j = k
        · subst h
          rw [hx] at hd
          cases hd
          exact ⟨c1 rfl, a1⟩
        · exact hI j d (by omega) hd
      · have : (r != 0) = true := by simpa using hr
        simp only [this, if_true]
        exact .inl ⟨r, rfl, rfl, hr⟩) with ⟨r, g1, g2, hr⟩ | ⟨t, t', g1, g2, hI⟩
  · exact .inl ⟨r, g1, g2, hr⟩
  · refine .inr ⟨g1, g2, fun k c h => hI k c ?_ h⟩
    have := List.getElem?_eq_some_iff.1 h
    exact this.1

theorem duty_eq (people : List route_Person) (cals : List cal_Calendar) (hs : ∀ p ∈ people, ∀ k ∈ p.skills, k.name.size ≤ 9223372036854775807) :
    ∃ r, route_checkCals people cals = some r ∧ portref2_dutyFault people cals = some r ∧ (r = 0 → DutyOk people cals) := by
  obtain ⟨r, a1, b1, c1⟩ := people_eq people hs
  unfold route_checkCals portref2_dutyFault portref2_CalsFault
  simp only [a1, b1, Option.bind_some]
  by_cases hr : r = 0
  rotate_left
  · have : (r != 0) = true := by simpa using hr
    simp only [this, if_true]
    exact ⟨r, rfl, rfl, fun h => absurd h hr⟩
  subst hr
  have hp := c1 rfl
  simp only [bne_self_eq_false, Bool.false_eq_true, if_false]
  by_cases h20 : (20 : Int) < (cals.length : Int)
  · simp only [decide_eq_true h20, if_true, Option.bind_some]
    exact ⟨4, rfl, rfl, fun h => absurd h (by decide)⟩
  simp only [decide_eq_false h20, Bool.false_eq_true, if_false]
  rcases cals_eq cals with ⟨r, g1, g2, hr⟩ | ⟨g1, g2, hc⟩
  · rw [g1, g2]
    have : (r != 0) = true := by simpa using hr
    simp only [Option.bind_some, Lp.andThen, this, if_true]
    exact ⟨r, rfl, rfl, fun h => absurd h hr⟩
  rw [g1, g2]
  simp only [Option.bind_some, Lp.andThen, bne_self_eq_false, Bool.false_eq_true, if_false]
  rw [rangeB_any people (fun x => decide ((cals.length : Int) ≤ x.calendar)) (7 : Int)]
  unfold slices_ContainsFunc_Lroute_Person_route_Person slices_IndexFunc_Lroute_Person_route_Person portref2_dutyFault_1
  rw [rangeB_index people (fun x => decide ((cals.length : Int) ≤ x.calendar))]
  cases hf : people.findIdx? (fun x => decide ((cals.length : Int) ≤ x.calendar)) with
  | none =>
    have hn := List.findIdx?_eq_none_iff.1 hf
    have ha : people.any (fun x => decide ((cals.length : Int) ≤ x.calendar)) = false := by
      rw [List.any_eq_false]
      intro x hx
      simpa using hn x hx
    simp only [ha, Bool.false_eq_true, if_false, Option.bind_some]
    refine ⟨0, rfl, rfl, fun _ => ⟨hp, by omega, hc, fun k p h => ?_⟩⟩
    have h1 := hn p (List.mem_of_getElem? h)
    have h2 := (hp.2 k p h).2.2.1
    simp at h1
    omega
  | some i =>
    have ha : people.any (fun x => decide ((cals.length : Int) ≤ x.calendar)) = true := by
      obtain ⟨h1, h2, _⟩ := List.findIdx?_eq_some_iff_getElem.1 hf
      exact List.any_eq_true.2 ⟨_, List.getElem_mem h1, h2⟩
    simp only [ha, if_true, Option.bind_some]
    refine ⟨7, rfl, ?_, fun h => absurd h (by decide)⟩
    show (if decide ((0 : Int) ≤ (i : Int)) = true then some (7 : Int) else some 0) = some 7
    rw [if_pos (decide_eq_true (Int.natCast_nonneg i))]

theorem or_two2 (a b : Int) : cmp_Or_api_Errno [a, b] = some (if a ≠ 0 then a else b) := or_two a b

theorem moment_in {m : Int} (hm : 0 ≤ m ∧ m ≤ 3000000) : cal_moment m = 0 := by
  unfold cal_moment
  rw [if_neg]
  simp [cal_within]
  omega

/-- cal.Open and the reference's clock -/
theorem open_eq {c : cal_Calendar} (hc : CalOk c ∧ cal_CheckCalendar c = some 0) (m : Int) (hm : 0 ≤ m ∧ m ≤ 3000000) : ∃ b, cal_Open c m = some (b, 0) ∧ portref2_Clock_Open c m = some b ∧ (b = true ↔ Opn c m) := by
  obtain ⟨hc, h0⟩ := hc
  have hop := open_spec hc m (m + 1) (by omega) (by omega)
  obtain ⟨b, hb, hbo⟩ := clock_open hc m hm.1 hm.2
  refine ⟨b, ?_, hb, hbo⟩
  unfold cal_Open
  simp only [h0, Option.bind_some, or_two2, moment_in hm, ne_eq, not_true, if_false, bne_self_eq_false, Bool.false_eq_true, cal_Calendar_open]
  rw [w64_id (n := m + 1) (by omega) (by omega), open_val hc m (m + 1) (by omega) (by omega)]
  have hall := hop.all m (Int.le_refl _) (by omega)
  cases hl : openL c m (m + 1) with
  | nil =>
    rw [hl] at hall
    have : b = false := by
      cases b with
      | false => rfl
      | true => have := hall.1 (hbo.1 rfl); simp at this
    subst this
    simp [iterB]
  | cons x l =>
    have he := hop.each x (by rw [hl]; simp)
    have : b = true := hbo.2 (hall.2 ⟨x, by rw [hl]; simp, by omega, by omega⟩)
    subst this
    simp [iterB, yieldB]

theorem on_val (people : List route_Person) (cals : List cal_Calendar) (p : route_Person) (c : cal_Calendar) (m : Int) (h : idx cals p.calendar = some c) : portref2_duty_on ⟨people, cals, []⟩ p m = portref2_Clock_Open c m := by
  unfold portref2_duty_on
  simp [mapGet, h]
end Go.Proofs.YtehofjchjogbkaaDoor.M
