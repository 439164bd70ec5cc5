/-
  RouteNeeds: NeedsAt and Able agree with the reference.
-/
import Derived.Test.YtigplgkbilmabaaDoorRouteNeedsRouteBase
namespace Go.Proofs.YtigplgkbilmabaaDoor.M
open Go Go.Pu
set_option linter.unusedSimpArgs false
set_option linter.unusedVariables false

theorem err3 (a b c : Int) : cmp_Or_api_Errno [a, b, c] = some (if a ≠ 0 then a else if b ≠ 0 then b else c) := by
  by_cases ha : a = 0 <;> by_cases hb : b = 0 <;> by_cases hc : c = 0 <;> simp [cmp_Or_api_Errno, rangeB, idx, ha, hb, hc, Lp.andThen]
theorem err2 (a b : Int) : cmp_Or_api_Errno [a, b] = some (if a ≠ 0 then a else b) := by
  by_cases ha : a = 0 <;> by_cases hb : b = 0 <;> simp [cmp_Or_api_Errno, rangeB, idx, ha, hb, Lp.andThen]

theorem skills_len {l : List route_Skill} (h : route_checkSkills l = some 0) : l.length ≤ 12 := by
  unfold route_checkSkills at h
  by_cases h1 : (12 : Int) < (l.length : Int)
  · simp [h1] at h
  · omega

theorem work_eq (w : route_Work) (hs : ∀ k ∈ w.needs, k.name.size ≤ 9223372036854775807) : ∃ r, route_CheckWork [w] = some r ∧ portref2_WorkFault [w] = some r ∧ (r = 0 → w.needs.length ≤ 12) := by
  obtain ⟨r, h1, h2⟩ := skills_eq w.needs hs
  unfold route_CheckWork portref2_WorkFault
  have e1 : decide ((200 : Int) < (([w] : List route_Work).length : Int)) = false := decide_eq_false (by simp)
  have hi : idx [w] ((0 : Nat) : Int) = some w := rfl
  have hsl : sliceL [w] none (some ((0 : Nat) : Int)) = some [] := by rfl
  have hc : ∀ q : route_Work → Option Bool, slices_ContainsFunc_Lroute_Work_route_Work [] q = some false := fun q => by
    simp [slices_ContainsFunc_Lroute_Work_route_Work, slices_IndexFunc_Lroute_Work_route_Work, rangeB, Lp.andThen]
  have hr : (!(route_within w.ticket 1 400)) = ((decide (w.ticket < 1)) || (decide ((400 : Int) < w.ticket))) := by
    rw [Bool.eq_iff_iff]
    simp only [route_within, Bool.not_eq_true', Bool.and_eq_false_iff, decide_eq_false_iff_not, Bool.or_eq_true, decide_eq_true_eq]
    omega
  have hr2 : ((((!(route_within w.weight 1 20)) || (!(route_within w.urgency 0 9))) || (!(route_within w.since 0 3000000))) || (!(route_within w.former 0 40))) = (((((((decide (w.weight < 1)) || (decide ((20 : Int) < w.weight))) || (decide (w.urgency < 0))) || (decide ((9 : Int) < w.urgency))) || (!(portref2_IsMoment w.since))) || (decide (w.former < 0))) || (decide ((40 : Int) < w.former))) := by
    rw [Bool.eq_iff_iff]
    simp only [route_within, portref2_IsMoment, Bool.not_eq_true', Bool.and_eq_false_iff, decide_eq_false_iff_not, Bool.or_eq_true, decide_eq_true_eq]
    omega
  simp only [e1, Bool.false_eq_true, if_false, List.length_singleton, rangeB, hi, hsl, hc, Option.bind_some, hr, hr2, h1, h2]
  by_cases b1 : ((decide (w.ticket < 1)) || (decide ((400 : Int) < w.ticket))) = true
  · simp only [b1, if_true]
    exact ⟨2, rfl, rfl, fun h => absurd h (by decide)⟩
  rw [Bool.not_eq_true] at b1
  simp only [b1, Bool.false_eq_true, if_false]
  by_cases b2 : (((((((decide (w.weight < 1)) || (decide ((20 : Int) < w.weight))) || (decide (w.urgency < 0))) || (decide ((9 : Int) < w.urgency))) || (!(portref2_IsMoment w.since))) || (decide (w.former < 0))) || (decide ((40 : Int) < w.former))) = true
  · simp only [b2, if_true]
    exact ⟨2, rfl, rfl, fun h => absurd h (by decide)⟩
  rw [Bool.not_eq_true] at b2
  simp only [b2, Bool.false_eq_true, if_false]
  by_cases h0 : r = 0
  · subst h0
    exact ⟨0, rfl, rfl, fun _ => skills_len h1⟩
  · have : (r != 0) = true := by simpa using h0
    simp only [this, if_true]
    exact ⟨r, rfl, rfl, fun h => absurd h h0⟩

theorem steps_eq (l : List route_Step) : ∃ r, route_CheckSteps l = some r ∧ portref2_StepsFault l = some r ∧ (r = 0 → l.length ≤ 8) := by
  unfold route_CheckSteps portref2_StepsFault
  by_cases h : (8 : Int) < (l.length : Int)
  · simp only [decide_eq_true h, if_true]
    exact ⟨4, rfl, rfl, fun h => absurd h (by decide)⟩
  simp only [decide_eq_false h, Bool.false_eq_true, if_false]
  rcases rangeB_sim (R := Int) (b := fun k7 (_ : Unit) => Option.bind (idx l (k7 : Int)) fun x27 => if ((!(route_within x27.after 1 3000000)) || (!(route_within x27.lower 0 9))) = true then some (.rt 2) else Option.bind (if (decide ((0 : Int) < (k7 : Int))) = true then (Option.bind (idx l (w64 ((k7 : Int) - 1))) fun x48 => some (decide (x27.after ≤ x48.after))) else (some false)) fun s46 => if s46 = true then some (.rt 5) else some (.nx ()))
    (b' := fun k7 (_ : Unit) => Option.bind (idx l (k7 : Int)) fun x27 => if ((((decide (x27.after < 1)) || (decide ((3000000 : Int) < x27.after))) || (decide (x27.lower < 0))) || (decide ((9 : Int) < x27.lower))) = true then some (.rt 2) else Option.bind (if (decide ((0 : Int) < (k7 : Int))) = true then (Option.bind (idx l (w64 ((k7 : Int) - 1))) fun x54 => some (decide (x27.after ≤ x54.after))) else (some false)) fun s52 => if s52 = true then some (.rt 5) else some (.nx ())) l.length (fun r => r ≠ 0) (fun _ _ _ => True) (s := ()) (s' := ()) trivial
    (by
      rintro k _ _ hk _
      have hx : l[k]? = some l[k] := List.getElem?_eq_getElem hk
      generalize l[k] = x at hx
      have hr : ((!(route_within x.after 1 3000000)) || (!(route_within x.lower 0 9))) = ((((decide (x.after < 1)) || (decide ((3000000 : Int) < x.after))) || (decide (x.lower < 0))) || (decide ((9 : Int) < x.lower))) := by
        rw [Bool.eq_iff_iff]
        simp only [route_within, Bool.not_eq_true', Bool.and_eq_false_iff, decide_eq_false_iff_not, Bool.or_eq_true, decide_eq_true_eq]
        omega
      simp only [idx_nat, hx, Option.bind_some, hr]
      generalize ((((decide (x.after < 1)) || (decide ((3000000 : Int) < x.after))) || (decide (x.lower < 0))) || (decide ((9 : Int) < x.lower))) = rk
      cases rk with
      | true => exact .inl ⟨2, rfl, rfl, by decide⟩
      | false =>
        simp only [Bool.false_eq_true, if_false]
        obtain ⟨b, hb⟩ : ∃ b : Bool, (if (decide ((0 : Int) < (k : Int))) = true then (Option.bind (idx l (w64 ((k : Int) - 1))) fun x48 => some (decide (x.after ≤ x48.after))) else (some false)) = some b := by
          by_cases h0 : (0 : Int) < (k : Int)
          · have hw : w64 ((k : Int) - 1) = ((k - 1 : Nat) : Int) := by rw [w64_id (by omega) (by omega)]; omega
            rw [if_pos (by simpa using h0), hw, idx_lt _ _ (by omega)]
            exact ⟨_, rfl⟩
          · rw [if_neg (by simpa using h0)]
            exact ⟨_, rfl⟩
        rw [hb]
        cases b with
        | true => exact .inl ⟨5, rfl, rfl, by decide⟩
        | false => exact .inr ⟨(), (), rfl, rfl, trivial⟩) with ⟨r, h1, h2, hr⟩ | ⟨_, _, h1, h2, _⟩
  · rw [h1, h2]
    exact ⟨r, rfl, rfl, fun h => absurd h hr⟩
  · rw [h1, h2]
    exact ⟨0, rfl, rfl, fun _ => by omega⟩

theorem needsAt_eq (w : route_Work) (steps : List route_Step) (m : Int) (hn : w.needs.length ≤ 12) : ∃ r, route_needsAt w steps m = some r ∧ portref2_needsAt w steps m = some r := by
  unfold route_needsAt portref2_needsAt slices_Clone_Lroute_Skill_route_Skill
  obtain ⟨s, hs, hI⟩ := rangeB_inv (R := List route_Skill) (b := fun k14 s20 => Option.bind (Option.bind (idx steps (k14 : Int)) fun x41 => Option.bind (if (decide (x41.after ≤ (w64 (m - w.since)))) = true then some (k14 : Int) else some s20) fun s51 => some s51) fun s34 => some (.nx s34))
    steps.length (fun k s => s = -1 ∨ ∃ j : Nat, j < k ∧ s = (j : Int)) (s := -1) (.inl rfl)
    (by
      rintro k s hk hI
      have hx : steps[k]? = some steps[k] := List.getElem?_eq_getElem hk
      generalize steps[k] = x at hx
      simp only [idx_nat, hx, Option.bind_some]
      by_cases h : x.after ≤ w64 (m - w.since)
      · simp only [decide_eq_true h, if_true, Option.bind_some]
        exact ⟨_, rfl, .inr ⟨k, Nat.lt_succ_self _, rfl⟩⟩
      · simp only [decide_eq_false h, Bool.false_eq_true, if_false, Option.bind_some]
        refine ⟨_, rfl, hI.imp id ?_⟩
        rintro ⟨j, h1, h2⟩
        exact ⟨j, by omega, h2⟩)
  rw [hs]
  simp only [Option.bind_some, Lp.andThen_fin]
  rcases hI with rfl | ⟨j, hj, rfl⟩
  · have hap : appendL 5864062014805 ([] : List route_Skill) w.needs = some w.needs := by
      unfold appendL
      rw [if_pos (by simp; omega)]
      rfl
    have e : decide ((-1 : Int) < 0) = true := by decide
    simp only [e, if_true, if_pos (show (-1 : Int) < 0 by decide), Option.bind_some, hap]
    exact ⟨_, rfl, rfl⟩
  · have hx : steps[j]? = some steps[j] := List.getElem?_eq_getElem hj
    generalize steps[j] = x77 at hx
    have e : decide ((j : Int) < 0) = false := decide_eq_false (by omega)
    simp only [e, Bool.false_eq_true, if_false, if_neg (show ¬ (j : Int) < 0 by omega), idx_nat, hx, Option.map_some, Option.bind_some]
    by_cases ha : x77.any = true
    · simp only [ha, if_true]
      exact ⟨_, rfl, rfl⟩
    · simp only [ha, if_false, Bool.false_eq_true]
      obtain ⟨t, ht, _⟩ := rangeB_inv (R := List route_Skill) (b := fun k91 s99 => Option.bind (Option.bind (idx w.needs (k91 : Int)) fun x124 => Option.bind (if (decide ((1 : Int) ≤ (w64 (x124.rank - x77.lower)))) = true then Option.bind (appendL 5864062014805 s99 ([(⟨x124.name, w64 (x124.rank - x77.lower)⟩ : route_Skill)] : List route_Skill)) fun x164 => some x164 else some s99) fun s149 => some s149) fun s115 => some (.nx s115))
        w.needs.length (fun k s => s.length ≤ k) (s := ([] : List route_Skill)) (by simp)
        (by
          rintro k s hk hI
          have hx : w.needs[k]? = some w.needs[k] := List.getElem?_eq_getElem hk
          generalize w.needs[k] = y at hx
          simp only [idx_nat, hx, Option.bind_some]
          by_cases h : 1 ≤ w64 (y.rank - x77.lower)
          · have hap : appendL 5864062014805 s [(⟨y.name, w64 (y.rank - x77.lower)⟩ : route_Skill)] = some (s ++ [⟨y.name, w64 (y.rank - x77.lower)⟩]) := by
              unfold appendL
              rw [if_pos (by simp; omega)]
            simp only [decide_eq_true h, if_true, hap, Option.bind_some]
            exact ⟨_, rfl, by simp; omega⟩
          · simp only [decide_eq_false h, Bool.false_eq_true, if_false, Option.bind_some]
            exact ⟨_, rfl, by omega⟩)
      simp only [idx_nat] at ht
      rw [ht]
      exact ⟨t, rfl, rfl⟩

theorem needs_eq (w : route_Work) (steps : List route_Step) (m : Int) (hs : ∀ k ∈ w.needs, k.name.size ≤ 9223372036854775807) : ∃ x, route_NeedsAt w steps m = some x ∧ portref2_NeedsOf w steps m = some x := by
  unfold route_NeedsAt portref2_NeedsOf
  obtain ⟨r1, a1, b1, c1⟩ := work_eq w hs
  obtain ⟨r2, a2, b2, c2⟩ := steps_eq steps
  simp only [a1, b1, a2, b2, err3, Option.bind_some]
  by_cases h1 : r1 = 0
  rotate_left
  · have : (r1 != 0) = true := by simpa using h1
    simp only [h1, ne_eq, not_false_eq_true, if_true, this]
    exact ⟨_, rfl, rfl⟩
  subst h1
  by_cases h2 : r2 = 0
  rotate_left
  · have : (r2 != 0) = true := by simpa using h2
    simp only [h2, ne_eq, not_true, if_false, not_false_eq_true, if_true, this, bne_self_eq_false, Bool.false_eq_true]
    exact ⟨_, rfl, rfl⟩
  subst h2
  simp only [ne_eq, not_true, if_false, bne_self_eq_false, Bool.false_eq_true]
  by_cases hm : 0 ≤ m ∧ m ≤ 3000000
  · have e1 : route_moment m = 0 := by
      unfold route_moment
      rw [if_neg]
      simp [route_within]
      omega
    have e2 : (!(portref2_IsMoment m)) = false := by
      simp [portref2_IsMoment]
      omega
    obtain ⟨r, g1, g2⟩ := needsAt_eq w steps m (c1 rfl)
    simp only [e1, e2, bne_self_eq_false, Bool.false_eq_true, if_false, g1, g2, Option.bind_some]
    exact ⟨_, rfl, rfl⟩
  · have e1 : route_moment m = 2 := by
      unfold route_moment
      rw [if_pos]
      simp [route_within]
      omega
    have e2 : (!(portref2_IsMoment m)) = true := by
      simp [portref2_IsMoment]
      omega
    have e3 : ((2 : Int) != 0) = true := by decide
    simp only [e1, e2, e3, if_true]
    exact ⟨_, rfl, rfl⟩

theorem contains_skill (s : List route_Skill) (q : route_Skill → Bool) : ∃ b, slices_ContainsFunc_Lroute_Skill_route_Skill s (fun x => some (q x)) = some b := by
  unfold slices_ContainsFunc_Lroute_Skill_route_Skill slices_IndexFunc_Lroute_Skill_route_Skill
  rw [rangeB_index]
  cases s.findIdx? q <;> exact ⟨_, rfl⟩
theorem able_eq (p : route_Person) (needs : List route_Skill) : ∃ b, route_Person_able p needs = some b ∧ portref2_able p needs = some b := by
  have same : portref2_able p needs = route_Person_able p needs := rfl
  rw [same]
  unfold route_Person_able route_Person_able_1
  obtain ⟨x, hx, hq⟩ := rangeB_spec (R := Bool) (body := fun k14 (_ : Unit) => Option.bind (idx needs (k14 : Int)) fun x33 => Option.bind (slices_ContainsFunc_Lroute_Skill_route_Skill p.skills (fun y50 => some ((strEq y50.name x33.name) && (decide (x33.rank ≤ y50.rank))))) fun x51 => if (!x51) = true then some (.rt false) else some (.nx ()))
    needs.length (fun _ _ => True) (fun _ => True) (s := ()) trivial
    (by
      rintro k _ hk _
      have hx : needs[k]? = some needs[k] := List.getElem?_eq_getElem hk
      generalize needs[k] = y at hx
      obtain ⟨b, hb⟩ := contains_skill p.skills (fun z => (strEq z.name y.name) && (decide (y.rank ≤ z.rank)))
      simp only [idx_nat, hx, Option.bind_some, hb]
      cases b with
      | true => exact ⟨.nx (), rfl, trivial⟩
      | false => exact ⟨.rt false, rfl, trivial⟩)
    (fun _ _ => trivial)
  rw [hx]
  cases x with
  | fin s => exact ⟨true, rfl, rfl⟩
  | rt r => exact ⟨r, rfl, rfl⟩

theorem ables_eq (people : List route_Person) (needs : List route_Skill) (h1 : ∀ p ∈ people, ∀ k ∈ p.skills, k.name.size ≤ 9223372036854775807) (h2 : ∀ k ∈ needs, k.name.size ≤ 9223372036854775807) : ∃ x, route_Able people needs = some x ∧ portref2_AbleOf people needs = some x := by
  unfold route_Able portref2_AbleOf
  obtain ⟨r1, a1, b1, c1⟩ := people_eq people h1
  obtain ⟨r2, a2, b2⟩ := skills_eq needs h2
  simp only [a1, b1, a2, b2, err2, Option.bind_some]
  by_cases h1 : r1 = 0
  rotate_left
  · have : (r1 != 0) = true := by simpa using h1
    simp only [h1, ne_eq, not_false_eq_true, if_true, this]
    exact ⟨_, rfl, rfl⟩
  have hp := (c1 h1).1
  subst h1
  by_cases h2 : r2 = 0
  rotate_left
  · have : (r2 != 0) = true := by simpa using h2
    simp only [h2, ne_eq, not_true, if_false, not_false_eq_true, if_true, this, bne_self_eq_false, Bool.false_eq_true]
    exact ⟨_, rfl, rfl⟩
  subst h2
  simp only [ne_eq, not_true, if_false, bne_self_eq_false, Bool.false_eq_true]
  rcases rangeB_sim (R := List Int × Int) (b := fun k23 s31 => Option.bind (Option.bind (idx people (k23 : Int)) fun x57 => Option.bind (route_Person_able x57 needs) fun x78 => Option.bind (if x78 = true then Option.bind (appendL 17592186044416 s31 ([(k23 : Int)] : List Int)) fun x98 => some x98 else some s31) fun s83 => some s83) fun s48 => some (.nx s48))
    (b' := fun k18 s26 => Option.bind (Option.bind (idx people (k18 : Int)) fun x51 => Option.bind (portref2_able x51 needs) fun x72 => Option.bind (if x72 = true then Option.bind (appendL 17592186044416 s26 ([(k18 : Int)] : List Int)) fun x92 => some x92 else some s26) fun s77 => some s77) fun s42 => some (.nx s42)) people.length (fun _ => True) (fun k s s' => s = s' ∧ s.length ≤ k) (s := ([] : List Int)) (s' := ([] : List Int)) ⟨rfl, Nat.le_refl _⟩
    (by
      rintro k s _ hk ⟨rfl, hl⟩
      have hx : people[k]? = some people[k] := List.getElem?_eq_getElem hk
      generalize people[k] = x at hx
      obtain ⟨b, e1, e2⟩ := able_eq x needs
      simp only [idx_nat, hx, Option.bind_some, e1, e2]
      cases b with
      | true =>
        have hap : appendL 17592186044416 s [(k : Int)] = some (s ++ [(k : Int)]) := by
          unfold appendL
          rw [if_pos (by simp; omega)]
        simp only [if_true, hap, Option.bind_some]
        exact .inr ⟨_, _, rfl, rfl, rfl, by simp; omega⟩
      | false =>
        simp only [Bool.false_eq_true, if_false, Option.bind_some]
        exact .inr ⟨_, _, rfl, rfl, rfl, by omega⟩) with ⟨r, g1, g2, _⟩ | ⟨t, _, g1, g2, rfl, _⟩
  · rw [g1, g2]
    exact ⟨_, rfl, rfl⟩
  · rw [g1, g2]
    exact ⟨_, rfl, rfl⟩

theorem equal_ints (l : List Int) : slices_Equal_Lint_int l l = some true := by
  unfold slices_Equal_Lint_int
  obtain ⟨t, ht, _⟩ := rangeB_inv (R := Bool) (b := fun k9 (_ : Unit) => Option.bind (idx l (k9 : Int)) fun x29 => Option.bind (idx l (k9 : Int)) fun x33 => if (x29 != x33) = true then some (.rt false) else some (.nx ())) l.length (fun _ _ => True) (s := ()) trivial
    (fun k s hk _ => ⟨(), by simp [idx_lt _ _ hk], trivial⟩)
  rw [if_neg (by simp), ht]
  rfl
theorem equal_skills (l : List route_Skill) : slices_Equal_Lroute_Skill_route_Skill l l = some true := by
  unfold slices_Equal_Lroute_Skill_route_Skill
  obtain ⟨t, ht, _⟩ := rangeB_inv (R := Bool) (b := fun k9 (_ : Unit) => Option.bind (idx l (k9 : Int)) fun x29 => Option.bind (idx l (k9 : Int)) fun x34 => if (!(strEq x29.name x34.name && (x29.rank == x34.rank))) = true then some (.rt false) else some (.nx ())) l.length (fun _ _ => True) (s := ()) trivial
    (fun k s hk _ => ⟨(), by
      have : strEq l[k].name l[k].name = true := by unfold strEq; simp
      simp [idx_lt _ _ hk, this], trivial⟩)
  rw [if_neg (by simp), ht]
  rfl

theorem needs_true (people : List route_Person) (w : route_Work) (steps : List route_Step) (m : Int) (h1 : ∀ p ∈ people, ∀ k ∈ p.skills, k.name.size ≤ 9223372036854775807) (h2 : ∀ k ∈ w.needs, k.name.size ≤ 9223372036854775807) : portlaw2_RouteNeeds people w steps m = some true := by
  unfold portlaw2_RouteNeeds
  obtain ⟨x, a1, b1⟩ := needs_eq w steps m h2
  obtain ⟨y, a2, b2⟩ := ables_eq people w.needs h1 h2
  simp only [a1, b1, a2, b2, Option.bind_some, equal_ints, equal_skills, beq_self_eq_true, if_true]
end Go.Proofs.YtigplgkbilmabaaDoor.M
