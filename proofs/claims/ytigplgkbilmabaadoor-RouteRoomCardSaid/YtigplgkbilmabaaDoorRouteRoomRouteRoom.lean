/-
  RouteRoom: Room, Spread and CheckHeld agree with the reference.
-/
import Derived.Test.YtigplgkbilmabaaDoorRouteRoomRouteBase
namespace Go.Proofs.YtigplgkbilmabaaDoor.M
open Go Go.Pu
set_option linter.unusedSimpArgs false
set_option linter.unusedVariables false

/-- the place of a person; -1: nowhere -/
def pos (people : List route_Person) (no : Int) : Int := match people.findIdx? (fun p => p.no == no) with | some i => (i : Int) | none => -1
theorem index_val (people : List route_Person) (no : Int) : slices_IndexFunc_Lroute_Person_route_Person people (fun y9 => some (y9.no == no)) = some (pos people no) := by
  unfold slices_IndexFunc_Lroute_Person_route_Person
  rw [rangeB_index people (fun p => p.no == no)]
  unfold pos
  cases people.findIdx? (fun p => p.no == no) <;> rfl
theorem position_val (people : List route_Person) (no : Int) : route_position people no = some (pos people no) := by
  unfold route_position route_position_1
  rw [index_val]
  rfl
theorem personAt_val (people : List route_Person) (no : Int) : portref2_personAt people no = some (pos people no) := by
  unfold portref2_personAt portref2_personAt_1
  rw [index_val]
  rfl
theorem pos_at {people : List route_Person} {no : Int} (h : 0 ≤ pos people no) : ∃ (i : Nat) (p : route_Person), pos people no = (i : Int) ∧ people[i]? = some p ∧ p.no = no := by
  unfold pos at h ⊢
  cases hf : people.findIdx? (fun p => p.no == no) with
  | none => rw [hf] at h; simp at h
  | some i =>
    obtain ⟨hi, hp, _⟩ := List.findIdx?_eq_some_iff_getElem.1 hf
    exact ⟨i, people[i], rfl, List.getElem?_eq_getElem hi, by simpa using hp⟩
theorem no_inj {people : List route_Person} (hp : PeopleOK people) {i j : Nat} {p q : route_Person} (h1 : people[i]? = some p) (h2 : people[j]? = some q) (h : p.no = q.no) : i = j := by
  rcases Nat.lt_trichotomy i j with h3 | h3 | h3
  · have := (hp.2 j q h2).2.2.2 i p h3 h1
    omega
  · exact h3
  · have := (hp.2 i p h1).2.2.2 j q h3 h2
    omega

def HeldOK (people : List route_Person) (l : List route_Held) : Prop := l.length ≤ 400 ∧ ∀ (j : Nat) (h : route_Held), l[j]? = some h → (1 ≤ h.weight ∧ h.weight ≤ 20) ∧ 0 ≤ pos people h.person

theorem held_eq (people : List route_Person) (l : List route_Held) : ∃ r, route_checkHeld people l = some r ∧ portref2_heldAlone people l = some r ∧ (r = 0 → HeldOK people l) := by
  unfold route_checkHeld portref2_heldAlone
  by_cases h : (400 : Int) < (l.length : Int)
  · simp only [decide_eq_true h, if_true]
    exact ⟨4, rfl, rfl, fun h => absurd h (by decide)⟩
  simp only [decide_eq_false h, Bool.false_eq_true, if_false]
  rcases rangeB_sim (R := Int) (b := fun k9 (_ : Unit) => Option.bind (idx l (k9 : Int)) fun x29 => if (!(route_within x29.ticket 1 400)) = true then some (.rt 2) else Option.bind (if (decide ((0 : Int) < (k9 : Int))) = true then (Option.bind (idx l (w64 ((k9 : Int) - 1))) fun x47 => some (decide (x29.ticket ≤ x47.ticket))) else (some false)) fun s45 => if s45 = true then some (.rt 5) else Option.bind (route_position people x29.person) fun x57 => if (decide (x57 < 0)) = true then some (.rt 7) else if ((!(route_within x29.weight 1 20)) || (!(route_within x29.since 0 3000000))) = true then some (.rt 2) else some (.nx ()))
    (b' := fun k9 (_ : Unit) => Option.bind (idx l (k9 : Int)) fun x29 => if ((decide (x29.ticket < 1)) || (decide ((400 : Int) < x29.ticket))) = true then some (.rt 2) else Option.bind (if (decide ((0 : Int) < (k9 : Int))) = true then (Option.bind (idx l (w64 ((k9 : Int) - 1))) fun x50 => some (decide (x29.ticket ≤ x50.ticket))) else (some false)) fun s48 => if s48 = true then some (.rt 5) else Option.bind (portref2_personAt people x29.person) fun x60 => if (decide (x60 < 0)) = true then some (.rt 7) else if (((decide (x29.weight < 1)) || (decide ((20 : Int) < x29.weight))) || (!(portref2_IsMoment x29.since))) = true then some (.rt 2) else some (.nx ())) l.length (fun r => r ≠ 0) (fun k _ _ => ∀ (j : Nat) (h : route_Held), j < k → l[j]? = some h → (1 ≤ h.weight ∧ h.weight ≤ 20) ∧ 0 ≤ pos people h.person) (s := ()) (s' := ()) (fun j p h => absurd h (Nat.not_lt_zero _))
    (by
      rintro k _ _ hk hI
      have hx : l[k]? = some l[k] := List.getElem?_eq_getElem hk
      generalize l[k] = x at hx
      have hr : (!(route_within x.ticket 1 400)) = ((decide (x.ticket < 1)) || (decide ((400 : Int) < x.ticket))) := by
        rw [Bool.eq_iff_iff]
        simp only [route_within, Bool.not_eq_true', Bool.and_eq_false_iff, decide_eq_false_iff_not, Bool.or_eq_true, decide_eq_true_eq]
        omega
      have hr2 : ((!(route_within x.weight 1 20)) || (!(route_within x.since 0 3000000))) = (((decide (x.weight < 1)) || (decide ((20 : Int) < x.weight))) || (!(portref2_IsMoment x.since))) := by
        rw [Bool.eq_iff_iff]
        simp only [route_within, portref2_IsMoment, Bool.not_eq_true', Bool.and_eq_false_iff, decide_eq_false_iff_not, Bool.or_eq_true, decide_eq_true_eq]
        omega
      simp only [idx_nat, hx, Option.bind_some, hr, hr2, position_val, personAt_val]
      by_cases hno : ((decide (x.ticket < 1)) || (decide ((400 : Int) < x.ticket))) = true
      · simp only [hno, if_true]
        exact .inl ⟨2, rfl, rfl, by decide⟩
      rw [Bool.not_eq_true] at hno
      simp only [hno, Bool.false_eq_true, if_false]
      obtain ⟨b, hb⟩ : ∃ b : Bool, (if (decide ((0 : Int) < (k : Int))) = true then (Option.bind (idx l (w64 ((k : Int) - 1))) fun x47 => some (decide (x.ticket ≤ x47.ticket))) else (some false)) = some b := by
        by_cases h0 : (0 : Int) < (k : Int)
        · have hw : w64 ((k : Int) - 1) = ((k - 1 : Nat) : Int) := by rw [w64_id (by omega) (by omega)]; omega
          rw [if_pos (by simpa using h0), hw, idx_lt _ _ (by omega)]
          exact ⟨_, rfl⟩
        · rw [if_neg (by simpa using h0)]
          exact ⟨_, rfl⟩
      rw [hb]
      cases b with
      | true => exact .inl ⟨5, rfl, rfl, by decide⟩
      | false =>
        simp only [Option.bind_some, Bool.false_eq_true, if_false]
        by_cases hp : pos people x.person < 0
        · simp only [decide_eq_true hp, if_true]
          exact .inl ⟨7, rfl, rfl, by decide⟩
        simp only [decide_eq_false hp, Bool.false_eq_true, if_false]
        by_cases hcp : (((decide (x.weight < 1)) || (decide ((20 : Int) < x.weight))) || (!(portref2_IsMoment x.since))) = true
        · simp only [hcp, if_true]
          exact .inl ⟨2, rfl, rfl, by decide⟩
        rw [Bool.not_eq_true] at hcp
        simp only [hcp, Bool.false_eq_true, if_false]
        refine .inr ⟨(), (), by first | rfl | trivial, by first | rfl | trivial, fun j h hj hh => ?_⟩
        rcases Nat.lt_or_eq_of_le (Nat.le_of_lt_succ hj) with h3 | rfl
        · exact hI j h h3 hh
        · rw [hx] at hh
          cases hh
          simp only [Bool.or_eq_false_iff, decide_eq_false_iff_not] at hcp
          exact ⟨by omega, by omega⟩) with ⟨r, h1, h2, hr⟩ | ⟨_, _, h1, h2, hI⟩
  · rw [h1, h2]
    exact ⟨r, rfl, rfl, fun h => absurd h hr⟩
  · rw [h1, h2]
    exact ⟨0, rfl, rfl, fun _ => ⟨by omega, fun j p hp => hI j p (List.getElem?_eq_some_iff.1 hp).1 hp⟩⟩

theorem check_eq (people : List route_Person) (l : List route_Held) (hs : ∀ p ∈ people, ∀ k ∈ p.skills, k.name.size ≤ 9223372036854775807) : ∃ r, route_CheckHeld people l = some r ∧ portref2_HeldFault people l = some r ∧ (r = 0 → PeopleOK people ∧ HeldOK people l) := by
  unfold route_CheckHeld portref2_HeldFault
  obtain ⟨r1, a1, b1, c1⟩ := people_eq people hs
  obtain ⟨r2, a2, b2, c2⟩ := held_eq people l
  simp only [a1, b1, a2, b2, Option.bind_some]
  by_cases h : r1 = 0
  · subst h
    exact ⟨r2, by first | rfl | trivial, by first | rfl | trivial, fun h => ⟨c1 rfl, c2 h⟩⟩
  · have : (r1 != 0) = true := by simpa using h
    simp only [this, if_true]
    exact ⟨r1, rfl, rfl, fun h' => absurd h' h⟩

/-- what a person holds, of the first k -/
def wsum (held : List route_Held) (no : Int) (k : Nat) : Int := ((held.take k).map fun h => if h.person = no then h.weight else 0).sum
theorem wsum_succ {held : List route_Held} {no : Int} {k : Nat} {h : route_Held} (hk : held[k]? = some h) : wsum held no (k + 1) = wsum held no k + if h.person = no then h.weight else 0 := by
  unfold wsum
  rw [List.take_add_one, hk]
  simp
theorem wsum_bound {people : List route_Person} {held : List route_Held} (ho : HeldOK people held) (no : Int) : ∀ k, k ≤ held.length → 0 ≤ wsum held no k ∧ wsum held no k ≤ 20 * (k : Int)
  | 0, _ => by simp [wsum]
  | k + 1, hk => by
    have ih := wsum_bound ho no k (by omega)
    have hx : held[k]? = some held[k] := List.getElem?_eq_getElem (by omega)
    have hw := (ho.2 k _ hx).1
    rw [wsum_succ hx]
    split <;> omega

theorem weights_val {people : List route_Person} {held : List route_Held} (hp : PeopleOK people) (ho : HeldOK people held) : ∃ ws, route_weights people held = some ws ∧ ws.length = people.length ∧ ∀ (i : Nat) (p : route_Person), people[i]? = some p → ws[i]? = some (wsum held p.no held.length) := by
  unfold route_weights
  have hmk : makeL 35184372088832 (people.length : Int) (0 : Int) = some (List.replicate people.length 0) := by
    have := hp.1
    rw [makeL, if_pos (by omega), Int.toNat_natCast]
  rw [hmk]
  simp only [Option.bind_some]
  obtain ⟨t, ht, h1, h2⟩ := rangeB_inv (R := List Int) (b := fun k14 s22 => Option.bind (idx held (k14 : Int)) fun x37 => Option.bind (route_position people x37.person) fun x51 => Option.bind (idx s22 x51) fun x52 => Option.bind (setI s22 x51 (w64 (x52 + x37.weight))) fun x65 => some (.nx x65))
    held.length (fun k s => s.length = people.length ∧ ∀ (i : Nat) (p : route_Person), people[i]? = some p → s[i]? = some (wsum held p.no k)) (s := List.replicate people.length 0)
    ⟨by simp, fun i p hi => by
      have := (List.getElem?_eq_some_iff.1 hi).1
      simp [wsum, this]⟩
    (by
      rintro k s hk ⟨i1, i2⟩
      have hx : held[k]? = some held[k] := List.getElem?_eq_getElem hk
      generalize held[k] = x at hx
      obtain ⟨hw, hps⟩ := ho.2 k x hx
      obtain ⟨i0, p0, e1, e2, e3⟩ := pos_at hps
      have hs0 := i2 i0 p0 e2
      have hlt := (List.getElem?_eq_some_iff.1 hs0).1
      have hb := wsum_bound ho p0.no k (by omega)
      have hkl := ho.1
      have hw2 : w64 (wsum held p0.no k + x.weight) = wsum held p0.no k + x.weight := w64_id (by omega) (by omega)
      have hset : setI s (i0 : Int) (wsum held p0.no k + x.weight) = some (s.set i0 (wsum held p0.no k + x.weight)) := by
        rw [setI, if_pos ⟨by omega, by simpa using hlt⟩, Int.toNat_natCast]
      simp only [idx_nat, hx, position_val, e1, hs0, hw2, hset, Option.bind_some]
      refine ⟨_, rfl, by simpa using i1, fun i p hi => ?_⟩
      rw [wsum_succ hx, List.getElem?_set]
      by_cases hii : i0 = i
      · subst hii
        rw [e2] at hi
        cases hi
        rw [if_pos rfl, if_pos hlt, if_pos e3.symm]
      · rw [if_neg hii, i2 i p hi]
        have : ¬ x.person = p.no := fun h => hii (no_inj hp e2 hi (by omega))
        rw [if_neg this, Int.add_zero])
  rw [ht]
  exact ⟨t, rfl, h1, h2⟩

theorem weightOf_val {people : List route_Person} {held : List route_Held} (ho : HeldOK people held) (no : Int) : ∃ s, portref2_weightOf held no = some (wsum held no held.length, s) := by
  unfold portref2_weightOf
  obtain ⟨t, ht, h1⟩ := rangeB_inv (R := Int × Int) (b := fun k6 s12 => Option.bind (Option.bind (idx held (k6 : Int)) fun x33 => Option.bind (if (x33.person == no) = true then some (w64 (s12.1 + x33.weight), (if s12.2 < x33.since then x33.since else s12.2)) else some (s12.1, s12.2)) fun s48 => some (s48.1, s48.2)) fun s26 => some (.nx (s26.1, s26.2)))
    held.length (fun k s => s.1 = wsum held no k) (s := (0, -1)) rfl
    (by
      rintro k ⟨s, z⟩ hk h1
      dsimp only at h1 ⊢
      have hx : held[k]? = some held[k] := List.getElem?_eq_getElem hk
      generalize held[k] = x at hx
      have hw := (ho.2 k x hx).1
      have hb := wsum_bound ho no k (by omega)
      have hkl := ho.1
      simp only [idx_nat, hx, Option.bind_some]
      by_cases hn : x.person = no
      · have e : (x.person == no) = true := by simpa using hn
        rw [if_pos e]
        refine ⟨_, rfl, ?_⟩
        show w64 (s + x.weight) = wsum held no (k + 1)
        rw [wsum_succ hx, if_pos hn, h1, w64_id (by omega) (by omega)]
      · have e : (x.person == no) = false := by simpa using hn
        rw [e]
        refine ⟨_, rfl, ?_⟩
        show s = wsum held no (k + 1)
        rw [wsum_succ hx, if_neg hn, h1, Int.add_zero])
  rw [ht]
  obtain ⟨a, b⟩ := t
  dsimp only at h1
  subst h1
  exact ⟨b, rfl⟩

theorem room_eq (people : List route_Person) (held : List route_Held) (hs : ∀ p ∈ people, ∀ k ∈ p.skills, k.name.size ≤ 9223372036854775807) : ∃ r, route_Room people held = some r ∧ portref2_RoomOf people held = some r := by
  unfold route_Room portref2_RoomOf
  obtain ⟨e, a1, b1, c1⟩ := check_eq people held hs
  simp only [a1, b1, Option.bind_some]
  by_cases h0 : e = 0
  rotate_left
  · have : (e != 0) = true := by simpa using h0
    simp only [this, if_true]
    exact ⟨([], e), rfl, rfl⟩
  obtain ⟨hp, ho⟩ := c1 h0
  subst h0
  simp only [bne_self_eq_false, Bool.false_eq_true, if_false]
  obtain ⟨ws, hws, hl, hv⟩ := weights_val hp ho
  have hpl := hp.1
  have hol := ho.1
  rw [hws]
  simp only [Option.bind_some]
  obtain ⟨t, ht, t1, t2⟩ := rangeB_inv (R := List Int × Int) (b := fun k21 s29 => Option.bind (idx people (k21 : Int)) fun x44 => Option.bind (idx s29 (k21 : Int)) fun x63 => Option.bind (setI s29 (k21 : Int) (w64 (x44.capacity - x63))) fun x75 => some (.nx x75))
    people.length (fun k s => s.length = people.length ∧ ∀ (i : Nat) (p : route_Person), people[i]? = some p → s[i]? = some (if i < k then p.capacity - wsum held p.no held.length else wsum held p.no held.length)) (s := ws)
    ⟨hl, fun i p hi => by rw [hv i p hi, if_neg (Nat.not_lt_zero _)]⟩
    (by
      rintro k s hk ⟨i1, i2⟩
      have hx : people[k]? = some people[k] := List.getElem?_eq_getElem hk
      generalize people[k] = x at hx
      have hsk := i2 k x hx
      rw [if_neg (Nat.lt_irrefl _)] at hsk
      have hb := wsum_bound ho x.no held.length (Nat.le_refl _)
      have hc := (hp.2 k x hx).2.1
      have hw : w64 (x.capacity - wsum held x.no held.length) = x.capacity - wsum held x.no held.length := w64_id (by omega) (by omega)
      have hset : setI s (k : Int) (x.capacity - wsum held x.no held.length) = some (s.set k (x.capacity - wsum held x.no held.length)) := by
        rw [setI, if_pos ⟨by omega, by omega⟩, Int.toNat_natCast]
      simp only [idx_nat, hx, hsk, hw, hset, Option.bind_some]
      refine ⟨_, rfl, by simpa using i1, fun i p hi => ?_⟩
      rw [List.getElem?_set]
      by_cases hik : k = i
      · subst hik
        rw [hx] at hi
        cases hi
        rw [if_pos rfl, if_pos (by omega), if_pos (by omega)]
      · rw [if_neg hik, i2 i p hi]
        by_cases h : i < k
        · rw [if_pos h, if_pos (by omega)]
        · rw [if_neg h, if_neg (by omega)])
  obtain ⟨u, hu, u1⟩ := rangeB_inv (R := List Int × Int) (b := fun k13 s21 => Option.bind (idx people (k13 : Int)) fun x36 => Option.bind (portref2_weightOf held x36.no) fun x55 => Option.bind (appendL 17592186044416 s21 ([w64 (x36.capacity - x55.1)] : List Int)) fun x65 => some (.nx x65))
    people.length (fun k s => s = (people.take k).map fun p => p.capacity - wsum held p.no held.length) (s := ([] : List Int)) (by simp)
    (by
      rintro k s hk rfl
      have hx : people[k]? = some people[k] := List.getElem?_eq_getElem hk
      generalize people[k] = x at hx
      obtain ⟨z, hz⟩ := weightOf_val ho x.no
      have hb := wsum_bound ho x.no held.length (Nat.le_refl _)
      have hc := (hp.2 k x hx).2.1
      have hw : w64 (x.capacity - wsum held x.no held.length) = x.capacity - wsum held x.no held.length := w64_id (by omega) (by omega)
      have hap : appendL 17592186044416 ((people.take k).map fun p => p.capacity - wsum held p.no held.length) [x.capacity - wsum held x.no held.length] = some (((people.take k).map fun p => p.capacity - wsum held p.no held.length) ++ [x.capacity - wsum held x.no held.length]) := by
        unfold appendL
        rw [if_pos (by simp; omega)]
      simp only [idx_nat, hx, hz, hw, hap, Option.bind_some]
      refine ⟨_, rfl, ?_⟩
      rw [List.take_add_one, hx]
      simp)
  rw [ht, hu]
  have : t = u := by
    rw [u1, List.take_of_length_le (Nat.le_refl _)]
    apply List.ext_getElem?
    intro i
    rw [List.getElem?_map]
    by_cases hi : i < people.length
    · have hx : people[i]? = some people[i] := List.getElem?_eq_getElem hi
      rw [t2 i _ hx, hx, if_pos hi]
      rfl
    · rw [List.getElem?_eq_none (by omega), List.getElem?_eq_none (by omega)]
      rfl
  subst this
  exact ⟨(t, 0), rfl, rfl⟩

/-- least and greatest of what has been seen -/
def LoHi (s : Int × Int) (l : List Int) : Prop := (∀ x ∈ l, 0 ≤ x) ∧ ((l = [] ∧ s = (-1, -1)) ∨ (l ≠ [] ∧ s.1 ∈ l ∧ (∀ x ∈ l, s.1 ≤ x) ∧ s.2 ∈ l ∧ ∀ x ∈ l, x ≤ s.2))

theorem min_val (l : List Int) (hl : l ≠ []) (hlen : l.length ≤ 1000) : ∃ m, slices_Min_Lint_int l = some m ∧ m ∈ l ∧ ∀ x ∈ l, m ≤ x := by
  have h0 : 0 < l.length := List.length_pos_iff.2 hl
  unfold slices_Min_Lint_int
  have e : decide ((l.length : Int) < 1) = false := decide_eq_false (by omega)
  have hx : idx l 0 = some l[0] := idx_lt l 0 h0
  simp only [e, Bool.false_eq_true, if_false, hx, Option.bind_some]
  obtain ⟨r, hr, m, i, rfl, h1, h2⟩ := whileB_spec (R := Int) (body := fun (s15 : Int × Int) => if (decide (s15.2 < (l.length : Int))) = true then Option.bind (idx l s15.2) fun x26 => some (.nx ((if x26 < s15.1 then x26 else s15.1), w64 (s15.2 + 1))) else some (.bk (s15.1, s15.2)))
    (fun s => ∃ k : Nat, s.2 = (k : Int) ∧ 1 ≤ k ∧ k ≤ l.length ∧ s.1 ∈ l ∧ ∀ (j : Nat) (y : Int), j < k → l[j]? = some y → s.1 ≤ y) (fun s => l.length - s.2.toNat) (fun r => ∃ m i, r = .fin (m, i) ∧ m ∈ l ∧ ∀ x ∈ l, m ≤ x) (s := (l[0], 1))
    ⟨1, rfl, Nat.le_refl _, h0, List.getElem_mem h0, fun j y hj hy => by
      obtain rfl : j = 0 := by omega
      rw [List.getElem?_eq_getElem h0] at hy
      cases hy
      exact Int.le_refl _⟩
    (by
      rintro ⟨m, i⟩ ⟨k, hi, k1, k2, h1, h2⟩
      dsimp only at hi h1 h2 ⊢
      subst hi
      by_cases hk : k < l.length
      · have hy : l[k]? = some l[k] := List.getElem?_eq_getElem hk
        have hym := List.getElem_mem hk
        generalize l[k] = y at hy hym
        have hw : w64 ((k : Int) + 1) = ((k + 1 : Nat) : Int) := by rw [w64_id (by omega) (by omega)]; omega
        simp only [decide_eq_true (show (k : Int) < (l.length : Int) by omega), if_true, idx_nat, hy, hw, Option.bind_some]
        refine ⟨_, rfl, ⟨k + 1, rfl, by omega, by omega, ?_, fun j z hj hz => ?_⟩, by simp only [Int.toNat_natCast]; omega⟩
        · show (if y < m then y else m) ∈ l
          split
          · exact hym
          · exact h1
        · show (if y < m then y else m) ≤ z
          rcases Nat.lt_or_eq_of_le (Nat.le_of_lt_succ hj) with h3 | rfl
          · have := h2 j z h3 hz
            split <;> omega
          · rw [hy] at hz
            cases hz
            split <;> omega
      · simp only [decide_eq_false (show ¬ (k : Int) < (l.length : Int) by omega), Bool.false_eq_true, if_false]
        refine ⟨_, rfl, m, _, rfl, h1, fun x hx => ?_⟩
        obtain ⟨j, hj, rfl⟩ := List.mem_iff_getElem.1 hx
        exact h2 j _ (by omega) (List.getElem?_eq_getElem hj))
  rw [hr]
  exact ⟨m, rfl, h1, h2⟩
theorem max_val (l : List Int) (hl : l ≠ []) (hlen : l.length ≤ 1000) : ∃ m, slices_Max_Lint_int l = some m ∧ m ∈ l ∧ ∀ x ∈ l, x ≤ m := by
  have h0 : 0 < l.length := List.length_pos_iff.2 hl
  unfold slices_Max_Lint_int
  have e : decide ((l.length : Int) < 1) = false := decide_eq_false (by omega)
  have hx : idx l 0 = some l[0] := idx_lt l 0 h0
  simp only [e, Bool.false_eq_true, if_false, hx, Option.bind_some]
  obtain ⟨r, hr, m, i, rfl, h1, h2⟩ := whileB_spec (R := Int) (body := fun (s15 : Int × Int) => if (decide (s15.2 < (l.length : Int))) = true then Option.bind (idx l s15.2) fun x26 => some (.nx ((if s15.1 < x26 then x26 else s15.1), w64 (s15.2 + 1))) else some (.bk (s15.1, s15.2)))
    (fun s => ∃ k : Nat, s.2 = (k : Int) ∧ 1 ≤ k ∧ k ≤ l.length ∧ s.1 ∈ l ∧ ∀ (j : Nat) (y : Int), j < k → l[j]? = some y → y ≤ s.1) (fun s => l.length - s.2.toNat) (fun r => ∃ m i, r = .fin (m, i) ∧ m ∈ l ∧ ∀ x ∈ l, x ≤ m) (s := (l[0], 1))
    ⟨1, rfl, Nat.le_refl _, h0, List.getElem_mem h0, fun j y hj hy => by
      obtain rfl : j = 0 := by omega
      rw [List.getElem?_eq_getElem h0] at hy
      cases hy
      exact Int.le_refl _⟩
    (by
      rintro ⟨m, i⟩ ⟨k, hi, k1, k2, h1, h2⟩
      dsimp only at hi h1 h2 ⊢
      subst hi
      by_cases hk : k < l.length
      · have hy : l[k]? = some l[k] := List.getElem?_eq_getElem hk
        have hym := List.getElem_mem hk
        generalize l[k] = y at hy hym
        have hw : w64 ((k : Int) + 1) = ((k + 1 : Nat) : Int) := by rw [w64_id (by omega) (by omega)]; omega
        simp only [decide_eq_true (show (k : Int) < (l.length : Int) by omega), if_true, idx_nat, hy, hw, Option.bind_some]
        refine ⟨_, rfl, ⟨k + 1, rfl, by omega, by omega, ?_, fun j z hj hz => ?_⟩, by simp only [Int.toNat_natCast]; omega⟩
        · show (if m < y then y else m) ∈ l
          split
          · exact hym
          · exact h1
        · show z ≤ (if m < y then y else m)
          rcases Nat.lt_or_eq_of_le (Nat.le_of_lt_succ hj) with h3 | rfl
          · have := h2 j z h3 hz
            split <;> omega
          · rw [hy] at hz
            cases hz
            split <;> omega
      · simp only [decide_eq_false (show ¬ (k : Int) < (l.length : Int) by omega), Bool.false_eq_true, if_false]
        refine ⟨_, rfl, m, _, rfl, h1, fun x hx => ?_⟩
        obtain ⟨j, hj, rfl⟩ := List.mem_iff_getElem.1 hx
        exact h2 j _ (by omega) (List.getElem?_eq_getElem hj))
  rw [hr]
  exact ⟨m, rfl, h1, h2⟩

theorem spread_eq (people : List route_Person) (held : List route_Held) (hs : ∀ p ∈ people, ∀ k ∈ p.skills, k.name.size ≤ 9223372036854775807) : ∃ r, route_Spread people held = some r ∧ portref2_SpreadOf people held = some r := by
  unfold route_Spread portref2_SpreadOf
  obtain ⟨e, a1, b1, c1⟩ := check_eq people held hs
  simp only [a1, b1, Option.bind_some]
  by_cases h0 : e = 0
  rotate_left
  · have : (e != 0) = true := by simpa using h0
    simp only [this, if_true]
    exact ⟨(0, 0, e), rfl, rfl⟩
  obtain ⟨hp, ho⟩ := c1 h0
  subst h0
  simp only [bne_self_eq_false, Bool.false_eq_true, if_false]
  obtain ⟨ws, hws, hl, hv⟩ := weights_val hp ho
  have hpl := hp.1
  have hol := ho.1
  rw [hws]
  simp only [Option.bind_some, hl]
  rcases rangeB_sim (R := Int × Int × Int) (b := fun k21 s25 => Option.bind (Option.bind (idx ws (k21 : Int)) fun x42 => Option.bind (idx people (k21 : Int)) fun x47 => if (x47.capacity == 0) = true then some (s25.1, s25.2) else Option.bind (quo (w64 (x42 * 1000)) x47.capacity) fun x58 => Option.bind (if ((decide (s25.1 < 0)) || (decide (x58 < s25.1))) = true then some x58 else some s25.1) fun s62 => some (s62, (if s25.2 < x58 then x58 else s25.2))) fun s37 => some (.nx (s37.1, s37.2)))
    (b' := fun k13 s21 => Option.bind (Option.bind (idx people (k13 : Int)) fun x46 => Option.bind (if (decide ((0 : Int) < x46.capacity)) = true then Option.bind (portref2_weightOf held x46.no) fun x77 => Option.bind (quo (w64 (1000 * x77.1)) x46.capacity) fun x82 => Option.bind (appendL 17592186044416 s21 ([x82] : List Int)) fun x88 => some x88 else some s21) fun s66 => some s66) fun s37 => some (.nx s37)) people.length (fun _ => True) (fun k s l => LoHi s l ∧ l.length ≤ k) (s := (-1, -1)) (s' := ([] : List Int)) ⟨⟨by simp, .inl ⟨rfl, rfl⟩⟩, Nat.le_refl _⟩
    (by
      rintro k ⟨lo, hi⟩ l hk ⟨⟨hnn, hI⟩, hlk⟩
      have hx : people[k]? = some people[k] := List.getElem?_eq_getElem hk
      generalize people[k] = x at hx
      have hb := wsum_bound ho x.no held.length (Nat.le_refl _)
      have hc := (hp.2 k x hx).2.1
      obtain ⟨z, hz⟩ := weightOf_val ho x.no
      simp only [idx_nat, hv k x hx, hx, Option.bind_some]
      by_cases hc0 : x.capacity = 0
      · have e1 : (x.capacity == 0) = true := by simpa using hc0
        have e2 : decide ((0 : Int) < x.capacity) = false := decide_eq_false (by omega)
        simp only [e1, e2, if_true, Bool.false_eq_true, if_false, Option.bind_some]
        exact .inr ⟨_, _, rfl, rfl, ⟨hnn, hI⟩, by omega⟩
      · have e1 : (x.capacity == 0) = false := by simpa using hc0
        have e2 : decide ((0 : Int) < x.capacity) = true := decide_eq_true (by omega)
        have hw1 : w64 (wsum held x.no held.length * 1000) = wsum held x.no held.length * 1000 := w64_id (by omega) (by omega)
        have hw2 : w64 (1000 * wsum held x.no held.length) = wsum held x.no held.length * 1000 := by rw [w64_id (by omega) (by omega), Int.mul_comm]
        have hq0 : 0 ≤ Int.tdiv (wsum held x.no held.length * 1000) x.capacity := Int.tdiv_nonneg (by omega) (by omega)
        have hqle : Int.tdiv (wsum held x.no held.length * 1000) x.capacity ≤ wsum held x.no held.length * 1000 := by
          rw [Int.tdiv_eq_ediv_of_nonneg (by omega)]
          exact Int.ediv_le_self _ (by omega)
        have hquo : quo (wsum held x.no held.length * 1000) x.capacity = some (Int.tdiv (wsum held x.no held.length * 1000) x.capacity) := by
          unfold quo
          rw [if_neg hc0]
          congr 1
          exact w64_id (by omega) (by omega)
        simp only [e1, e2, if_true, Bool.false_eq_true, if_false, Option.bind_some, hz, hw1, hw2, hquo]
        generalize Int.tdiv (wsum held x.no held.length * 1000) x.capacity = q at hq0 hqle
        have hap : appendL 17592186044416 l [q] = some (l ++ [q]) := by
          unfold appendL
          rw [if_pos (by simp; omega)]
        simp only [hap, Option.bind_some]
        have hlow : (if ((decide (lo < 0)) || (decide (q < lo))) = true then some q else some lo) = some (if lo < 0 ∨ q < lo then q else lo) := by
          by_cases h : lo < 0 ∨ q < lo
          · rw [if_pos (by simpa using h), if_pos h]
          · rw [if_neg (by simpa using h), if_neg h]
        simp only [hlow, Option.bind_some]
        refine .inr ⟨_, _, rfl, rfl, ⟨?_, .inr ⟨by simp, ?_⟩⟩, by simp; omega⟩
        · intro y hy
          rcases List.mem_append.1 hy with h | h
          · exact hnn y h
          · rw [List.mem_singleton.1 h]; exact hq0
        · rcases hI with ⟨rfl, hst⟩ | ⟨hne, h1, h2, h3, h4⟩
          · cases hst
            have : (if (-1 : Int) < 0 ∨ q < -1 then q else -1) = q := if_pos (.inl (by decide))
            rw [this]
            have : (if (-1 : Int) < q then q else -1) = q := if_pos (by omega)
            rw [this]
            simp
          · have hlo := hnn _ h1
            dsimp only at h1 h2 h3 h4 hlo ⊢
            refine ⟨?_, fun y hy => ?_, ?_, fun y hy => ?_⟩
            · split
              · simp
              · exact List.mem_append_left _ h1
            · rcases List.mem_append.1 hy with h | h
              · have := h2 y h
                split <;> omega
              · rw [List.mem_singleton.1 h]
                split <;> omega
            · split
              · simp
              · exact List.mem_append_left _ h3
            · rcases List.mem_append.1 hy with h | h
              · have := h4 y h
                split <;> omega
              · rw [List.mem_singleton.1 h]
                split <;> omega) with ⟨r, h1, h2, _⟩ | ⟨s, l, h1, h2, ⟨hnn, hI⟩, hlk⟩
  · rw [h1, h2]
    exact ⟨r, rfl, rfl⟩
  · rw [h1, h2]
    simp only [Option.bind_some, Lp.andThen_fin]
    rcases hI with ⟨rfl, rfl⟩ | ⟨hne, g1, g2, g3, g4⟩
    · exact ⟨(0, 0, 7), rfl, rfl⟩
    · have hlen : 0 < l.length := List.length_pos_iff.2 hne
      have e1 : ((l.length : Int) == 0) = false := by simpa using hne
      have hs0 := hnn _ g1
      have e2 : decide (s.1 < 0) = false := decide_eq_false (by omega)
      obtain ⟨m, hm, m1, m2⟩ := min_val l hne (by omega)
      obtain ⟨n, hn, n1, n2⟩ := max_val l hne (by omega)
      have em : m = s.1 := Int.le_antisymm (m2 _ g1) (g2 _ m1)
      have en : n = s.2 := Int.le_antisymm (g4 _ n1) (n2 _ g3)
      subst em en
      simp only [e1, e2, Bool.false_eq_true, if_false, hm, hn, Option.bind_some]
      exact ⟨_, rfl, rfl⟩

theorem equal_ints (l : List Int) : slices_Equal_Lint_int l l = some true := by
  unfold slices_Equal_Lint_int
  obtain ⟨t, ht, _⟩ := rangeB_inv (R := Bool) (b := fun k9 (_ : Unit) => Option.bind (idx l (k9 : Int)) fun x29 => Option.bind (idx l (k9 : Int)) fun x33 => if (x29 != x33) = true then some (.rt false) else some (.nx ())) l.length (fun _ _ => True) (s := ()) trivial
    (fun k s hk _ => ⟨(), by simp [idx_lt _ _ hk], trivial⟩)
  rw [if_neg (by simp), ht]
  rfl

theorem room_true (people : List route_Person) (held : List route_Held) (hs : ∀ p ∈ people, ∀ k ∈ p.skills, k.name.size ≤ 9223372036854775807) : portlaw2_RouteRoom people held = some true := by
  unfold portlaw2_RouteRoom
  obtain ⟨x, a1, b1⟩ := room_eq people held hs
  obtain ⟨y, a2, b2⟩ := spread_eq people held hs
  obtain ⟨e, a3, b3, _⟩ := check_eq people held hs
  simp only [a1, b1, a2, b2, a3, b3, Option.bind_some, equal_ints, beq_self_eq_true, if_true]
end Go.Proofs.YtigplgkbilmabaaDoor.M
