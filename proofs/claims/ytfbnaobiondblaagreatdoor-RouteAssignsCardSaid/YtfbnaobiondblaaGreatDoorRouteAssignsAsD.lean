import Derived.Test.YtfbnaobiondblaaGreatDoorRouteAssignsAsB
import Derived.Test.YtfbnaobiondblaaGreatDoorRouteAssignsAsC
import Derived.Test.YtfbnaobiondblaaGreatDoorRouteAssignsM
import Derived.Test.YtfbnaobiondblaaGreatDoorPj
namespace Go.Proofs.YtfbnaobiondblaaGreatDoor.M
open Go Go.Pu
set_option linter.unusedSimpArgs false
set_option linter.unusedVariables false
theorem needsAt_eq (w : route_Work) (steps : List route_Step) (m : Int) (hn : w.needs.length ≤ 12) : ∃ r, route_needsAt w steps m = some r ∧ portref2_needsAt w steps m = some r := by
 unfold route_needsAt portref2_needsAt slices_Clone_Lroute_Skill_route_Skill
 obtain ⟨s, hs, hI⟩ := rangeB_inv (R := List route_Skill) (b := fun k14 s20 => Option.bind (Option.bind (idx steps (k14 : Int)) fun x41 => Option.bind (if (decide (x41.after ≤ (w64 (m - w.since)))) = true then some (k14 : Int) else some s20) fun s51 => some s51) fun s34 => some (.nx s34))
  steps.length (fun k s => s = -1 ∨ ∃ j : Nat, j < k ∧ s = (j : Int)) (s := -1) (.inl rfl)
  (by
   rintro k s hk hI
   have hx : steps[k]? = some steps[k] := List.getElem?_eq_getElem hk
   generalize steps[k] = x at hx
   simp only [idx_nat, hx, Option.bind_some]
   by_cases h : x.after ≤ w64 (m - w.since)
   ·simp only [decide_eq_true h, if_true, Option.bind_some]
    exact ⟨_, rfl, .inr ⟨k, Nat.lt_succ_self _, rfl⟩⟩
   ·simp only [decide_eq_false h, Bool.false_eq_true, if_false, Option.bind_some]
    refine ⟨_, rfl, hI.imp id ?_⟩
    rintro ⟨j, h1, h2⟩
    exact ⟨j, by omega, h2⟩)
 rw [hs]
 simp only [Option.bind_some, Lp.andThen_fin]
 rcases hI with rfl | ⟨j, hj, rfl⟩
 ·have hap : appendL 5864062014805 ([] : List route_Skill) w.needs = some w.needs := by
   unfold appendL
   rw [if_pos (by simp; omega)]
   rfl
  have e : decide ((-1 : Int) < 0) = true := by decide
  simp only [e, if_true, if_pos (show (-1 : Int) < 0 by decide), Option.bind_some, hap]
  exact ⟨_, rfl, rfl⟩
 ·have hx : steps[j]? = some steps[j] := List.getElem?_eq_getElem hj
  generalize steps[j] = x77 at hx
  have e : decide ((j : Int) < 0) = false := decide_eq_false (by omega)
  simp only [e, Bool.false_eq_true, if_false, if_neg (show ¬ (j : Int) < 0 by omega), idx_nat, hx, Option.map_some, Option.bind_some]
  by_cases ha : x77.any = true
  ·simp only [ha, if_true]
   exact ⟨_, rfl, rfl⟩
  ·simp only [ha, if_false, Bool.false_eq_true]
   obtain ⟨t, ht, _⟩ := rangeB_inv (R := List route_Skill) (b := fun k91 s99 => Option.bind (Option.bind (idx w.needs (k91 : Int)) fun x124 => Option.bind (if (decide ((1 : Int) ≤ (w64 (x124.rank - x77.lower)))) = true then Option.bind (appendL 5864062014805 s99 ([(⟨x124.name, w64 (x124.rank - x77.lower)⟩ : route_Skill)] : List route_Skill)) fun x164 => some x164 else some s99) fun s149 => some s149) fun s115 => some (.nx s115))
    w.needs.length (fun k s => s.length ≤ k) (s := ([] : List route_Skill)) (by simp)
    (by
     rintro k s hk hI
     have hx : w.needs[k]? = some w.needs[k] := List.getElem?_eq_getElem hk
     generalize w.needs[k] = y at hx
     simp only [idx_nat, hx, Option.bind_some]
     by_cases h : 1 ≤ w64 (y.rank - x77.lower)
     ·have hap : appendL 5864062014805 s [(⟨y.name, w64 (y.rank - x77.lower)⟩ : route_Skill)] = some (s ++ [⟨y.name, w64 (y.rank - x77.lower)⟩]) := by
       unfold appendL
       rw [if_pos (by simp; omega)]
      simp only [decide_eq_true h, if_true, hap, Option.bind_some]
      exact ⟨_, rfl, by simp; omega⟩
     ·simp only [decide_eq_false h, Bool.false_eq_true, if_false, Option.bind_some]
      exact ⟨_, rfl, by omega⟩)
   simp only [idx_nat] at ht
   rw [ht]
   exact ⟨t, rfl, rfl⟩
theorem contains_skill (s : List route_Skill) (q : route_Skill → Bool) : ∃ b, slices_ContainsFunc_Lroute_Skill_route_Skill s (fun x => some (q x)) = some b := by
 unfold slices_ContainsFunc_Lroute_Skill_route_Skill slices_IndexFunc_Lroute_Skill_route_Skill
 rw [rangeB_index]
 cases s.findIdx? q <;> exact ⟨_, rfl⟩
theorem able_eq (p : route_Person) (needs : List route_Skill) : ∃ b, route_Person_able p needs = some b ∧ portref2_able p needs = some b := by
 have same : portref2_able p needs = route_Person_able p needs := rfl
 rw [same]
 unfold route_Person_able route_Person_able_1
 obtain ⟨x, hx, hq⟩ := rangeB_spec (R := Bool) (body := fun k14 (_ : Unit) => Option.bind (idx needs (k14 : Int)) fun x33 => Option.bind (slices_ContainsFunc_Lroute_Skill_route_Skill p.skills (fun y50 => some ((strEq y50.name x33.name) && (decide (x33.rank ≤ y50.rank))))) fun x51 => if (!x51) = true then some (.rt false) else some (.nx ()))
  needs.length (fun _ _ => True) (fun _ => True) (s := ()) trivial
  (by
   rintro k _ hk _
   have hx : needs[k]? = some needs[k] := List.getElem?_eq_getElem hk
   generalize needs[k] = y at hx
   obtain ⟨b, hb⟩ := contains_skill p.skills (fun z => (strEq z.name y.name) && (decide (y.rank ≤ z.rank)))
   simp only [idx_nat, hx, Option.bind_some, hb]
   cases b with
   | true => exact ⟨.nx (), rfl, trivial⟩
   | false => exact ⟨.rt false, rfl, trivial⟩)
  (fun _ _ => trivial)
 rw [hx]
 cases x with
 | fin s => exact ⟨true, rfl, rfl⟩
 | rt r => exact ⟨r, rfl, rfl⟩
theorem equal_skills (l : List route_Skill) : slices_Equal_Lroute_Skill_route_Skill l l = some true := by
 unfold slices_Equal_Lroute_Skill_route_Skill
 obtain ⟨t, ht, _⟩ := rangeB_inv (R := Bool) (b := fun k9 (_ : Unit) => Option.bind (idx l (k9 : Int)) fun x29 => Option.bind (idx l (k9 : Int)) fun x34 => if (!(strEq x29.name x34.name && (x29.rank == x34.rank))) = true then some (.rt false) else some (.nx ())) l.length (fun _ _ => True) (s := ()) trivial
  (fun k s hk _ => ⟨(), by
   have : strEq l[k].name l[k].name = true := by unfold strEq; simp
   simp [idx_lt _ _ hk, this], trivial⟩)
 rw [if_neg (by simp), ht]
 rfl
end Go.Proofs.YtfbnaobiondblaaGreatDoor.M
namespace Go.Proofs.YtfbnaobiondblaaGreatDoor.M
open Go Go.Pu
set_option linter.unusedSimpArgs false
set_option linter.unusedVariables false
theorem setI_nat {α : Type} (l : List α) (k : Nat) (x : α) (h : k < l.length) : setI l (k : Int) x = some (l.set k x) := by
 rw [setI, if_pos ⟨by omega, by simpa using h⟩, Int.toNat_natCast]
theorem take_snoc {α : Type} {l : List α} {k : Nat} {x : α} (h : l[k]? = some x) : l.take (k + 1) = l.take k ++ [x] := by
 rw [List.take_add_one, h]
 rfl
def AllOK (people : List route_Person) (l : List route_Held) : Prop := l.length ≤ 1000 ∧ ∀ h ∈ l, (1 ≤ h.weight ∧ h.weight ≤ 20) ∧ 0 ≤ pos people h.person
theorem HeldOK.all {people : List route_Person} {l : List route_Held} (h : HeldOK people l) : AllOK people l := ⟨by have := h.1; omega, fun x hx => by
 obtain ⟨j, hj⟩ := List.mem_iff_getElem?.1 hx
 exact (h.2 j x hj).1⟩
def wOf (l : List route_Held) (no : Int) : Int := (l.map fun h => if h.person = no then h.weight else 0).sum
def lOf (l : List route_Held) (no : Int) : Int := l.foldl (fun s h => if h.person = no then (if s < h.since then h.since else s) else s) (-1)
theorem wOf_snoc (l : List route_Held) (h : route_Held) (no : Int) : wOf (l ++ [h]) no = wOf l no + if h.person = no then h.weight else 0 := by simp [wOf]
theorem lOf_snoc (l : List route_Held) (h : route_Held) (no : Int) : lOf (l ++ [h]) no = if h.person = no then (if lOf l no < h.since then h.since else lOf l no) else lOf l no := by
 unfold lOf
 rw [List.foldl_append]
 rfl
theorem wOf_bnd (no : Int) : ∀ l : List route_Held, (∀ h ∈ l, 1 ≤ h.weight ∧ h.weight ≤ 20) → 0 ≤ wOf l no ∧ wOf l no ≤ 20 * (l.length : Int)
 | [], _ => by simp [wOf]
 | h :: l, hl => by
  have ih := wOf_bnd no l fun x hx => hl x (List.mem_cons_of_mem _ hx)
  have hh := hl h List.mem_cons_self
  have e : wOf (h :: l) no = (if h.person = no then h.weight else 0) + wOf l no := by simp [wOf]
  rw [e, List.length_cons]
  split <;> omega
theorem AllOK.bnd {people : List route_Person} {l : List route_Held} (h : AllOK people l) (no : Int) : 0 ≤ wOf l no ∧ wOf l no ≤ 20000 := by
 have := wOf_bnd no l fun x hx => (h.2 x hx).1
 have := h.1
 omega
theorem AllOK.bndT {people : List route_Person} {l : List route_Held} (h : AllOK people l) (no : Int) (k : Nat) : 0 ≤ wOf (l.take k) no ∧ wOf (l.take k) no ≤ 20000 := by
 have h1 := wOf_bnd no (l.take k) fun x hx => (h.2 x (List.mem_of_mem_take hx)).1
 have := h.1
 have h2 : (l.take k).length ≤ l.length := by rw [List.length_take]; omega
 omega
theorem weightOf_all {people : List route_Person} {held : List route_Held} (ho : AllOK people held) (no : Int) : portref2_weightOf held no = some (wOf held no, lOf held no) := by
 unfold portref2_weightOf
 obtain ⟨t, ht, h1⟩ := rangeB_inv (R := Int × Int) (b := (fun k6 s12 => Option.bind (Option.bind (idx held (k6 : Int)) fun x33 => Option.bind (if (x33.person == no) = true then some (w64 (s12.1 + x33.weight), (if s12.2 < x33.since then x33.since else s12.2)) else some (s12.1, s12.2)) fun s48 => some (s48.1, s48.2)) fun s26 => some (.nx (s26.1, s26.2))))
  held.length (fun k s => s = (wOf (held.take k) no, lOf (held.take k) no)) (s := (0, -1)) (by simp [wOf, lOf])
  (by
   rintro k _ hk rfl
   have hx : held[k]? = some held[k] := List.getElem?_eq_getElem hk
   have hw := (ho.2 _ (List.getElem_mem hk)).1
   generalize held[k] = x at hx hw
   have hb := ho.bndT no k
   simp only [idx_nat, hx, Option.bind_some]
   rw [take_snoc hx, wOf_snoc, lOf_snoc]
   by_cases hn : x.person = no
   ·have e : (x.person == no) = true := by simpa using hn
    rw [if_pos e, if_pos hn, if_pos hn, w64_id (by omega) (by omega)]
    exact ⟨_, rfl, rfl⟩
   ·have e : (x.person == no) = false := by simpa using hn
    rw [e, if_neg hn, if_neg hn, Int.add_zero]
    exact ⟨_, rfl, rfl⟩)
 rw [ht, h1, List.take_length]
 rfl
theorem weights_all {people : List route_Person} {held : List route_Held} (hp : PeopleOK people) (ho : AllOK people held) : ∃ ws, route_weights people held = some ws ∧ ws.length = people.length ∧ ∀ (i : Nat) (p : route_Person), people[i]? = some p → ws[i]? = some (wOf held p.no) := by
 unfold route_weights
 have hmk : makeL 35184372088832 (people.length : Int) (0 : Int) = some (List.replicate people.length 0) := by
  have := hp.1
  rw [makeL, if_pos (by omega), Int.toNat_natCast]
 rw [hmk]
 simp only [Option.bind_some]
 obtain ⟨t, ht, h1, h2⟩ := rangeB_inv (R := List Int) (b := (fun k14 s22 => Option.bind (idx held (k14 : Int)) fun x37 => Option.bind (route_position people x37.person) fun x51 => Option.bind (idx s22 x51) fun x52 => Option.bind (setI s22 x51 (w64 (x52 + x37.weight))) fun x65 => some (.nx x65)))
  held.length (fun k s => s.length = people.length ∧ ∀ (i : Nat) (p : route_Person), people[i]? = some p → s[i]? = some (wOf (held.take k) p.no)) (s := List.replicate people.length 0)
  ⟨by simp, fun i p hi => by
   have := (List.getElem?_eq_some_iff.1 hi).1
   simp [wOf, this]⟩
  (by
   rintro k s hk ⟨i1, i2⟩
   have hx : held[k]? = some held[k] := List.getElem?_eq_getElem hk
   obtain ⟨hw, hps⟩ := ho.2 _ (List.getElem_mem hk)
   generalize held[k] = x at hx hw hps
   obtain ⟨i0, p0, e1, e2, e3⟩ := pos_at hps
   have hs0 := i2 i0 p0 e2
   have hlt := (List.getElem?_eq_some_iff.1 hs0).1
   have hb := ho.bndT p0.no k
   have hw2 : w64 (wOf (held.take k) p0.no + x.weight) = wOf (held.take k) p0.no + x.weight := w64_id (by omega) (by omega)
   simp only [idx_nat, hx, position_val, e1, hs0, hw2, setI_nat _ _ _ hlt, Option.bind_some]
   refine ⟨_, rfl, by simpa using i1, fun i p hi => ?_⟩
   rw [take_snoc hx, wOf_snoc, List.getElem?_set]
   by_cases hii : i0 = i
   ·subst hii
    rw [e2] at hi
    cases hi
    rw [if_pos rfl, if_pos hlt, if_pos e3.symm]
   ·rw [if_neg hii, i2 i p hi]
    have : ¬ x.person = p.no := fun h => hii (no_inj hp e2 hi (by omega))
    rw [if_neg this, Int.add_zero])
 rw [ht]
 rw [List.take_length] at h2
 exact ⟨t, rfl, h1, h2⟩
structure DeskOk (people : List route_Person) (cals : List cal_Calendar) (m : Int) (all : List route_Held) (d : route_desk) : Prop where
 ppl : d.people = people
 dty : ∀ (i : Nat) (p : route_Person), people[i]? = some p → ∃ b, portref2_duty_on ⟨people, cals, []⟩ p m = some b ∧ d.duty[i]? = some b
 wlen : d.weights.length = people.length
 wei : ∀ (i : Nat) (p : route_Person), people[i]? = some p → d.weights[i]? = some (wOf all p.no)
 llen : d.latest.length = people.length
 lat : ∀ (i : Nat) (p : route_Person), people[i]? = some p → d.latest[i]? = some (lOf all p.no)
theorem at_val {people : List route_Person} {cals : List cal_Calendar} {held : List route_Held} (hd : DutyOk people cals) (ho : AllOK people held) (steps : List route_Step) (m : Int) (hm : 0 ≤ m ∧ m ≤ 3000000) :
  ∃ d, route_assigner_at ⟨people, cals, steps, List.replicate people.length false⟩ held m = some d ∧ DeskOk people cals m held d := by
 have hp := hd.ppl
 have hp1 := hp.1
 have hcl := hd.most
 unfold route_assigner_at
 dsimp only
 have hm1 : makeL 281474976710656 (people.length : Int) (false : Bool) = some (List.replicate people.length false) := by rw [makeL, if_pos (by omega), Int.toNat_natCast]
 have hm2 : makeL 35184372088832 (people.length : Int) (0 : Int) = some (List.replicate people.length 0) := by rw [makeL, if_pos (by omega), Int.toNat_natCast]
 have hm3 : makeL 281474976710656 (cals.length : Int) (false : Bool) = some (List.replicate cals.length false) := by rw [makeL, if_pos (by omega), Int.toNat_natCast]
 obtain ⟨ws, w1, w2, w3⟩ := weights_all hp ho
 rw [hm1, Option.bind_some, w1, Option.bind_some, hm2, Option.bind_some, hm3, Option.bind_some]
 obtain ⟨op, o1, o2, o3⟩ := rangeB_inv (R := route_desk) (b := (fun k77 s85 => Option.bind (idx cals (k77 : Int)) fun x100 => Option.bind (cal_Open x100 m) fun x135 => Option.bind (idx s85 (k77 : Int)) fun x139 => Option.bind (setI s85 (k77 : Int) x135.1) fun x144 => some (.nx x144)))
  cals.length (fun k s => s.length = cals.length ∧ ∀ (j : Nat) (c : cal_Calendar), j < k → cals[j]? = some c → ∃ b, portref2_Clock_Open c m = some b ∧ s[j]? = some b) (s := List.replicate cals.length false)
  ⟨by simp, fun j c h => absurd h (Nat.not_lt_zero _)⟩
  (by
   rintro k s hk ⟨i1, i2⟩
   have hx : cals[k]? = some cals[k] := List.getElem?_eq_getElem hk
   generalize cals[k] = c at hx
   obtain ⟨b, b1, b2, _⟩ := open_eq (hd.each k c hx) m hm
   have hs : s[k]? = some s[k] := List.getElem?_eq_getElem (by omega)
   simp only [idx_nat, hx, Option.bind_some, b1, hs, setI_nat s k _ (show k < s.length by omega)]
   refine ⟨_, rfl, by simpa using i1, fun j c2 hj hc2 => ?_⟩
   rw [List.getElem?_set]
   by_cases hjk : k = j
   ·subst hjk
    rw [hx] at hc2
    cases hc2
    exact ⟨b, b2, by rw [if_pos rfl, if_pos (by omega)]⟩
   ·rw [if_neg hjk]
    exact i2 j c2 (by omega) hc2)
 rw [o1, Option.bind_some, Lp.andThen_fin]
 obtain ⟨d1, e1, e2, e3, e4, e5, e6⟩ := rangeB_inv (R := route_desk) (b := (fun k158 s172 => Option.bind (idx people (k158 : Int)) fun x193 => Option.bind (idx op x193.calendar) fun x212 => Option.bind (if x212 = true then (Option.bind (idx (List.replicate people.length false) (k158 : Int)) fun x223 => some (!x223)) else (some false)) fun s218 => Option.bind (idx s172.duty (k158 : Int)) fun x227 => Option.bind (setI s172.duty (k158 : Int) s218) fun x235 => Option.bind (idx s172.latest (k158 : Int)) fun x239 => Option.bind (setI s172.latest (k158 : Int) (-1)) fun x244 => some (.nx (⟨s172.people, x235, s172.weights, x244⟩ : route_desk))))
  people.length (fun k s => s.people = people ∧ s.weights = ws ∧ s.duty.length = people.length ∧ s.latest.length = people.length ∧ ∀ (j : Nat) (p : route_Person), j < k → people[j]? = some p → (∃ b, portref2_duty_on ⟨people, cals, []⟩ p m = some b ∧ s.duty[j]? = some b) ∧ s.latest[j]? = some (-1))
  (s := (⟨people, List.replicate people.length false, ws, List.replicate people.length 0⟩ : route_desk))
  ⟨rfl, rfl, by simp, by simp, fun j c h => absurd h (Nat.not_lt_zero _)⟩
  (by
   rintro k s hk ⟨i1, i2, i3, i4, i5⟩
   have hx : people[k]? = some people[k] := List.getElem?_eq_getElem hk
   generalize people[k] = p at hx
   obtain ⟨c, c1, c2, c3⟩ := has_cal hd hx
   obtain ⟨b, b1, b2⟩ := o3 _ c (List.getElem?_eq_some_iff.1 c2).1 c2
   have hop : idx op p.calendar = some b := by
    unfold idx
    rw [if_pos (hd.has k p hx).1]
    exact b2
   have haw : idx (List.replicate people.length false) (k : Int) = some false := by
    rw [idx_nat, List.getElem?_replicate, if_pos hk]
   have hs18 : (if b = true then (Option.bind (idx (List.replicate people.length false) (k : Int)) fun x223 => some (!x223)) else (some false)) = some b := by
    rw [haw]
    cases b <;> rfl
   have hs1 : s.duty[k]? = some s.duty[k] := List.getElem?_eq_getElem (by omega)
   have hs2 : s.latest[k]? = some s.latest[k] := List.getElem?_eq_getElem (by omega)
   simp only [idx_nat people, hx, Option.bind_some, hop, hs18]
   simp only [idx_nat, hs1, hs2, Option.bind_some, setI_nat s.duty k _ (show k < s.duty.length by omega), setI_nat s.latest k _ (show k < s.latest.length by omega)]
   refine ⟨_, rfl, i1, i2, by simpa using i3, by simpa using i4, fun j q hj hq => ?_⟩
   dsimp only
   rw [List.getElem?_set, List.getElem?_set]
   by_cases hjk : k = j
   ·subst hjk
    rw [hx] at hq
    cases hq
    refine ⟨⟨b, by rw [on_val people cals p c m c1]; exact b1, by rw [if_pos rfl, if_pos (by omega)]⟩, by rw [if_pos rfl, if_pos (by omega)]⟩
   ·rw [if_neg hjk, if_neg hjk]
    exact i5 j q (by omega) hq)
 rw [e1, Option.bind_some, Lp.andThen_fin]
 obtain ⟨d2, f1, f2, f3, f4, f5, f6⟩ := rangeB_inv (R := route_desk) (b := (fun k254 s268 => Option.bind (idx held (k254 : Int)) fun x289 => Option.bind (route_position people x289.person) fun x307 => Option.bind (idx s268.latest x307) fun x311 => Option.bind (setI s268.latest x307 (if x311 < x289.since then x289.since else x311)) fun x324 => some (.nx (⟨s268.people, s268.duty, s268.weights, x324⟩ : route_desk))))
  held.length (fun k s => s.people = people ∧ s.weights = ws ∧ s.duty = d1.duty ∧ s.latest.length = people.length ∧ ∀ (i : Nat) (p : route_Person), people[i]? = some p → s.latest[i]? = some (lOf (held.take k) p.no)) (s := d1)
  ⟨e2, e3, rfl, e5, fun i p hi => by rw [(e6 i p (List.getElem?_eq_some_iff.1 hi).1 hi).2]; rfl⟩
  (by
   rintro k s hk ⟨i1, i2, i3, i4, i5⟩
   have hx : held[k]? = some held[k] := List.getElem?_eq_getElem hk
   obtain ⟨hw, hps⟩ := ho.2 _ (List.getElem_mem hk)
   generalize held[k] = x at hx hw hps
   obtain ⟨i0, p0, g1, g2, g3⟩ := pos_at hps
   have hs0 := i5 i0 p0 g2
   have hlt := (List.getElem?_eq_some_iff.1 hs0).1
   simp only [idx_nat, hx, position_val, g1, hs0, setI_nat _ _ _ hlt, Option.bind_some]
   refine ⟨_, rfl, i1, i2, i3, by simpa using i4, fun i p hi => ?_⟩
   dsimp only
   rw [take_snoc hx, lOf_snoc, List.getElem?_set]
   by_cases hii : i0 = i
   ·subst hii
    rw [g2] at hi
    cases hi
    rw [if_pos rfl, if_pos hlt, if_pos g3.symm]
   ·rw [if_neg hii, i5 i p hi]
    have : ¬ x.person = p.no := fun h => hii (no_inj hp g2 hi (by omega))
    rw [if_neg this])
 rw [f1, Option.bind_some, Lp.andThen_fin]
 rw [List.take_length] at f6
 refine ⟨d2, rfl, f2, fun i p hi => ?_, by rw [f3]; exact w2, fun i p hi => by rw [f3]; exact w3 i p hi, f5, f6⟩
 rw [f4]
 exact (e6 i p (List.getElem?_eq_some_iff.1 hi).1 hi).1
end Go.Proofs.YtfbnaobiondblaaGreatDoor.M
namespace Go.Proofs.YtfbnaobiondblaaGreatDoor.M
open Go Go.Pu
set_option linter.unusedSimpArgs false
set_option linter.unusedVariables false
def candL (cand : Nat → Bool) (n : Nat) : List Int := ((List.range n).filter cand).map fun (i : Nat) => (i : Int)
def stepB (cand fm : Nat → Bool) (lt : Nat → Nat → Bool) (b : Int) (k : Nat) : Int := if cand k = true then (if b < 0 then (k : Int) else if fm b.toNat = true then b else if fm k = true then (k : Int) else if lt k b.toNat = true then (k : Int) else b) else b
def bestB (cand fm : Nat → Bool) (lt : Nat → Nat → Bool) : Nat → Int
 | 0 => -1
 | n + 1 => stepB cand fm lt (bestB cand fm lt n) n
def minL (lt : Nat → Nat → Bool) : List Int → Int
 | [] => -1
 | c :: t => t.foldl (fun m x => if lt x.toNat m.toNat = true then x else m) c
theorem minL_snoc (lt : Nat → Nat → Bool) {l : List Int} (h : l ≠ []) (x : Int) : minL lt (l ++ [x]) = if lt x.toNat (minL lt l).toNat = true then x else minL lt l := by
 cases l with
 | nil => exact absurd rfl h
 | cons c t =>
  show (t ++ [x]).foldl _ c = _
  rw [List.foldl_append]
  rfl
theorem candL_succ (cand : Nat → Bool) (n : Nat) : candL cand (n + 1) = candL cand n ++ if cand n = true then [(n : Int)] else [] := by
 unfold candL
 rw [List.range_succ, List.filter_append, List.map_append]
 by_cases h : cand n = true
 ·simp [h]
 ·simp [h]
theorem candL_mem {cand : Nat → Bool} {n : Nat} {x : Int} (h : x ∈ candL cand n) : ∃ i : Nat, i < n ∧ cand i = true ∧ x = (i : Int) := by
 unfold candL at h
 obtain ⟨i, hi, rfl⟩ := List.mem_map.1 h
 obtain ⟨h1, h2⟩ := List.mem_filter.1 hi
 exact ⟨i, List.mem_range.1 h1, h2, rfl⟩
theorem candL_len (cand : Nat → Bool) (n : Nat) : (candL cand n).length ≤ n := by
 unfold candL
 rw [List.length_map]
 have := List.length_filter_le cand (List.range n)
 simpa using this
theorem candL_sorted (cand : Nat → Bool) : ∀ n, (candL cand n).Pairwise (· < ·)
 | 0 => List.Pairwise.nil
 | n + 1 => by
  rw [candL_succ, List.pairwise_append]
  refine ⟨candL_sorted cand n, by split <;> simp, fun a ha b hb => ?_⟩
  obtain ⟨i, hi, _, rfl⟩ := candL_mem ha
  split at hb
  ·obtain rfl := List.mem_singleton.1 hb
   omega
  ·cases hb
theorem best_none (cand fm : Nat → Bool) (lt : Nat → Nat → Bool) : ∀ n, (∀ i, i < n → cand i = true → fm i = false) → bestB cand fm lt n = minL lt (candL cand n) ∧ ((candL cand n = [] ∧ bestB cand fm lt n = -1) ∨ (candL cand n ≠ [] ∧ ∃ i : Nat, i < n ∧ cand i = true ∧ bestB cand fm lt n = (i : Int)))
 | 0, _ => ⟨rfl, .inl ⟨rfl, rfl⟩⟩
 | n + 1, h => by
  obtain ⟨h1, h2⟩ := best_none cand fm lt n fun i hi => h i (by omega)
  have hb : bestB cand fm lt (n + 1) = stepB cand fm lt (bestB cand fm lt n) n := rfl
  rw [hb, candL_succ]
  by_cases hc : cand n = true
  ·rw [if_pos hc]
   unfold stepB
   rw [if_pos hc]
   rcases h2 with ⟨e1, e2⟩ | ⟨e1, i, hi, ci, e2⟩
   ·rw [e1, e2, if_pos (by decide)]
    exact ⟨rfl, .inr ⟨by simp, n, Nat.lt_succ_self n, hc, rfl⟩⟩
   ·have f1 : fm (bestB cand fm lt n).toNat = false := by rw [e2]; exact h i (by omega) ci
    rw [if_neg (by rw [e2]; omega), f1, if_neg (by decide), h n (Nat.lt_succ_self n) hc, if_neg (by decide), minL_snoc lt e1, ← h1, Int.toNat_natCast]
    refine ⟨rfl, .inr ⟨by simp, ?_⟩⟩
    split
    ·exact ⟨n, Nat.lt_succ_self n, hc, rfl⟩
    ·exact ⟨i, by omega, ci, e2⟩
  ·rw [if_neg hc, List.append_nil]
   unfold stepB
   rw [if_neg hc]
   refine ⟨h1, h2.imp id ?_⟩
   rintro ⟨e1, i, hi, ci, e2⟩
   exact ⟨e1, i, by omega, ci, e2⟩
theorem best_former (cand fm : Nat → Bool) (lt : Nat → Nat → Bool) (f : Nat) (hc : cand f = true) (hf : fm f = true) (h : ∀ i, i < f → cand i = true → fm i = false) : ∀ n, f < n → bestB cand fm lt n = (f : Int)
 | 0, h0 => absurd h0 (Nat.not_lt_zero _)
 | n + 1, h0 => by
  have hb : bestB cand fm lt (n + 1) = stepB cand fm lt (bestB cand fm lt n) n := rfl
  rw [hb]
  rcases Nat.lt_or_eq_of_le (Nat.le_of_lt_succ h0) with h1 | rfl
  ·rw [best_former cand fm lt f hc hf h n h1]
   unfold stepB
   by_cases hn : cand n = true
   ·rw [if_pos hn, if_neg (by omega), Int.toNat_natCast, if_pos hf]
   ·rw [if_neg hn]
  ·obtain ⟨h1, h2⟩ := best_none cand fm lt f h
   unfold stepB
   rw [if_pos hc]
   rcases h2 with ⟨e1, e2⟩ | ⟨e1, i, hi, ci, e2⟩
   ·rw [e2, if_pos (by decide)]
   ·have f1 : fm (bestB cand fm lt f).toNat = false := by rw [e2]; exact h i hi ci
    rw [if_neg (by rw [e2]; omega), f1, if_neg (by decide), if_pos hf]
theorem minFunc_val (lt : Nat → Nat → Bool) (cmp : Int → Int → Option Int) (c : Int) (l : List Int) (hlen : (c :: l).length ≤ 1000) (h : ∀ a b, a ∈ c :: l → b ∈ c :: l → b < a → ∃ r, cmp a b = some r ∧ (r < 0 ↔ lt a.toNat b.toNat = true)) (hs : (c :: l).Pairwise (· < ·)) : slices_MinFunc_Lint_int (c :: l) cmp = some (minL lt (c :: l)) := by
 generalize hx : c :: l = x at *
 unfold slices_MinFunc_Lint_int
 have hl : 1 ≤ x.length := by rw [← hx]; simp
 rw [decide_eq_false (by omega), if_neg (by decide)]
 have h0 : idx x 0 = some c := by rw [← hx]; rfl
 rw [h0, Option.bind_some]
 obtain ⟨r, hr, t, rfl, hq⟩ := whileB_spec (R := Int) (body := (fun (s17 : Int × Int) => if (decide (s17.2 < (x.length : Int))) = true then Option.bind (Option.bind (idx x s17.2) fun x38 => Option.bind (cmp x38 s17.1) fun x42 => Option.bind (if (decide (x42 < 0)) = true then some x38 else some s17.1) fun s47 => some s47) fun s30 => some (.nx (s30, w64 (s17.2 + 1))) else some (.bk (s17.1, s17.2))))
  (fun s => ∃ k : Nat, 1 ≤ k ∧ k ≤ x.length ∧ s.2 = (k : Int) ∧ s.1 = minL lt (x.take k) ∧ s.1 ∈ x.take k) (fun s => x.length - s.2.toNat) (fun r => ∃ t, r = .fin t ∧ t.1 = minL lt x) (s := (c, 1))
  ⟨1, Nat.le_refl 1, hl, rfl, by rw [← hx]; rfl, by rw [← hx]; simp⟩
  (by
   rintro ⟨m, i⟩ ⟨k, k1, k2, e1, e2, e3⟩
   dsimp only at e1 e2 e3 ⊢
   subst e1
   by_cases hk : k < x.length
   ·have hy : x[k]? = some x[k] := List.getElem?_eq_getElem hk
    have hym : x[k] ∈ x := List.getElem_mem hk
    have hlt : m < x[k] := by
     obtain ⟨j, hj⟩ := List.mem_iff_getElem?.1 e3
     have hj2 := (List.getElem?_eq_some_iff.1 hj).1
     rw [List.length_take] at hj2
     rw [List.getElem?_take_of_lt (by omega)] at hj
     have := List.pairwise_iff_getElem.1 hs j k (by omega) hk (by omega)
     rw [List.getElem?_eq_getElem (by omega)] at hj
     rw [← Option.some.inj hj]
     exact this
    have hw : w64 ((k : Int) + 1) = ((k + 1 : Nat) : Int) := by rw [w64_id (by omega) (by omega)]; omega
    obtain ⟨r, r1, r2⟩ := h x[k] m hym (List.mem_of_mem_take e3) hlt
    have htk : x.take (k + 1) = x.take k ++ [x[k]] := take_snoc hy
    generalize x[k] = y at hy hym hlt r1 r2 htk
    rw [decide_eq_true (show (k : Int) < (x.length : Int) by omega)]
    simp only [if_true, idx_nat, hy, Option.bind_some, r1, hw]
    have hne : x.take k ≠ [] := List.ne_nil_of_mem e3
    have hm : minL lt (x.take (k + 1)) = if lt y.toNat m.toNat = true then y else m := by rw [htk, minL_snoc lt hne, ← e2]
    by_cases hr : r < 0
    ·rw [decide_eq_true hr]
     simp only [if_true, Option.bind_some]
     refine ⟨_, rfl, ⟨k + 1, by omega, by omega, rfl, ?_, ?_⟩, by simp only [Int.toNat_natCast]; omega⟩
     ·rw [hm, if_pos (r2.1 hr)]
     ·rw [htk]; simp
    ·rw [decide_eq_false hr]
     simp only [Bool.false_eq_true, if_false, Option.bind_some]
     refine ⟨_, rfl, ⟨k + 1, by omega, by omega, rfl, ?_, ?_⟩, by simp only [Int.toNat_natCast]; omega⟩
     ·rw [hm, if_neg (fun h => hr (r2.2 h))]
     ·rw [htk]; exact List.mem_append_left _ e3
   ·rw [decide_eq_false (by omega)]
    simp only [Bool.false_eq_true, if_false]
    refine ⟨_, rfl, _, rfl, ?_⟩
    rw [List.take_of_length_le (by omega)] at e2
    exact e2)
 rw [hr, Option.bind_some, Lp.andThen_fin, hq]
def candF (people : List route_Person) (cals : List cal_Calendar) (m : Int) (all : List route_Held) (w : route_Work) (needs : List route_Skill) (k : Nat) : Bool := match people[k]? with
 | some p => (portref2_able p needs == some true) && ((portref2_duty_on ⟨people, cals, []⟩ p m == some true) && !(decide (w64 (p.capacity - wOf all p.no) < w.weight)))
 | none => false
def fmF (people : List route_Person) (w : route_Work) (k : Nat) : Bool := match people[k]? with
 | some p => p.no == w.former
 | none => false
def ltF (people : List route_Person) (all : List route_Held) (a b : Nat) : Bool := match people[a]?, people[b]? with
 | some p, some q => decide (firstNZ [cmpI (w64 (wOf all p.no * q.capacity)) (w64 (wOf all q.no * p.capacity)), cmpI (lOf all p.no) (lOf all q.no)] < 0)
 | _, _ => false
theorem choose_val {people : List route_Person} {cals : List cal_Calendar} {m : Int} {all : List route_Held} {d : route_desk} (hp : PeopleOK people) (hk : DeskOk people cals m all d) (w : route_Work) (needs : List route_Skill) :
  route_desk_choose d w needs = some (bestB (candF people cals m all w needs) (fmF people w) (ltF people all) people.length) := by
 unfold route_desk_choose
 rw [hk.ppl]
 have hp1 := hp.1
 have step : ∀ (k : Nat) (p : route_Person), people[k]? = some p → ∃ b1 b2, route_Person_able p needs = some b1 ∧ d.duty[k]? = some b2 ∧ d.weights[k]? = some (wOf all p.no) ∧ candF people cals m all w needs k = (b1 && (b2 && !(decide (w64 (p.capacity - wOf all p.no) < w.weight)))) := fun k p h => by
  obtain ⟨b1, e1, e2⟩ := able_eq p needs
  obtain ⟨b2, e3, e4⟩ := hk.dty k p h
  refine ⟨b1, b2, e1, e4, hk.wei k p h, ?_⟩
  unfold candF
  simp only [h, e2, e3]
  cases b1 <;> cases b2 <;> rfl
 obtain ⟨r, hr, hq⟩ := rangeB_spec (R := Int) (body := (fun k18 s26 => Option.bind (α := Lp _ _) (Option.bind (idx people (k18 : Int)) fun x51 => Option.bind (idx d.duty (k18 : Int)) fun x73 => Option.bind (if (!x73) = true then (some true) else (Option.bind (idx d.weights (k18 : Int)) fun x84 => some (decide ((w64 (x51.capacity - x84)) < w.weight)))) fun s78 => Option.bind (if s78 = true then (some true) else (Option.bind (route_Person_able x51 needs) fun x94 => some (!x94))) fun s90 => if s90 = true then some (.fin s26) else if (x51.no == w.former) = true then some (.rt (k18 : Int)) else Option.bind (appendL 17592186044416 s26 ([(k18 : Int)] : List Int)) fun x109 => some (.fin x109)) fun o41 => o41.andThen (fun y => some (.rt y)) fun s42 => some (.nx s42)))
  people.length (fun k s => s = candL (candF people cals m all w needs) k ∧ ∀ i, i < k → candF people cals m all w needs i = true → fmF people w i = false)
  (fun r => (∃ f : Nat, r = .rt (f : Int) ∧ f < people.length ∧ candF people cals m all w needs f = true ∧ fmF people w f = true ∧ ∀ i, i < f → candF people cals m all w needs i = true → fmF people w i = false) ∨ (r = .fin (candL (candF people cals m all w needs) people.length) ∧ ∀ i, i < people.length → candF people cals m all w needs i = true → fmF people w i = false))
  (s := []) ⟨rfl, fun i h => absurd h (Nat.not_lt_zero _)⟩
  (by
   rintro k s hkn ⟨rfl, hI⟩
   have hx : people[k]? = some people[k] := List.getElem?_eq_getElem hkn
   generalize people[k] = p at hx
   obtain ⟨b1, b2, e1, e2, e3, e4⟩ := step k p hx
   have hf : fmF people w k = (p.no == w.former) := by unfold fmF; simp only [hx]
   have hs90 : Option.bind (if (!b2) = true then (some true) else (Option.bind (some (wOf all p.no)) fun x84 => some (decide ((w64 (p.capacity - x84)) < w.weight)))) (fun s78 => (if s78 = true then (some true) else (Option.bind (some b1) fun x94 => some (!x94)))) = some (!(candF people cals m all w needs k)) := by
    rw [e4]
    cases b2
    ·cases b1 <;> rfl
    ·simp only [Bool.not_true, Bool.false_eq_true, if_false, Option.bind_some, Bool.true_and]
     cases decide (w64 (p.capacity - wOf all p.no) < w.weight) <;> cases b1 <;> rfl
   simp only [idx_nat, hx, e2, e3, e1, Option.bind_some]
   rw [← Option.bind_assoc]
   rw [Option.bind_some] at hs90
   simp only [Option.bind_some] at hs90 ⊢
   rw [hs90, Option.bind_some]
   by_cases hc : candF people cals m all w needs k = true
   ·rw [hc]
    simp only [Bool.not_true, Bool.false_eq_true, if_false]
    by_cases hn : (p.no == w.former) = true
    ·rw [if_pos hn]
     exact ⟨.rt (k : Int), rfl, .inl ⟨k, rfl, hkn, hc, by rw [hf]; exact hn, hI⟩⟩
    ·rw [if_neg hn]
     have hl := candL_len (candF people cals m all w needs) k
     unfold appendL
     rw [if_pos (by simp; omega)]
     refine ⟨.nx _, rfl, ?_, fun i hi ci => ?_⟩
     ·rw [candL_succ, if_pos hc]
     ·rcases Nat.lt_or_eq_of_le (Nat.le_of_lt_succ hi) with h1 | rfl
      ·exact hI i h1 ci
      ·rw [hf]; simpa using hn
   ·rw [Bool.not_eq_true] at hc
    rw [hc]
    simp only [Bool.not_false, if_true]
    refine ⟨.nx _, rfl, ?_, fun i hi ci => ?_⟩
    ·rw [candL_succ, hc, if_neg (by decide), List.append_nil]
    ·rcases Nat.lt_or_eq_of_le (Nat.le_of_lt_succ hi) with h1 | rfl
     ·exact hI i h1 ci
     ·rw [hc] at ci; cases ci)
  (by
   rintro s ⟨rfl, h⟩
   exact .inr ⟨rfl, h⟩)
 rw [hr, Option.bind_some]
 rcases hq with ⟨f, rfl, f1, f2, f3, f4⟩ | ⟨rfl, hno⟩
 ·rw [best_former _ _ _ f f2 f3 f4 _ f1]
  rfl
 ·rw [Lp.andThen_fin]
  obtain ⟨h1, h2⟩ := best_none (candF people cals m all w needs) (fmF people w) (ltF people all) people.length hno
  rcases h2 with ⟨e1, e2⟩ | ⟨e1, _⟩
  ·rw [e1, e2]
   rfl
  ·have hl := candL_len (candF people cals m all w needs) people.length
   have hso := candL_sorted (candF people cals m all w needs) people.length
   have hme : ∀ x ∈ candL (candF people cals m all w needs) people.length, ∃ i : Nat, i < people.length ∧ x = (i : Int) := fun x hx => by
    obtain ⟨i, hi, _, e⟩ := candL_mem hx
    exact ⟨i, hi, e⟩
   rw [h1]
   generalize candL (candF people cals m all w needs) people.length = x at *
   cases x with
   | nil => exact absurd rfl e1
   | cons c l =>
    rw [if_neg (by simp; omega), minFunc_val (ltF people all) _ c l (by omega) _ hso]
    ·rfl
    ·intro a b ha hb hlt
     obtain ⟨i, hi, rfl⟩ := hme a ha
     obtain ⟨j, hj, rfl⟩ := hme b hb
     have hx : people[i]? = some people[i] := List.getElem?_eq_getElem hi
     have hy : people[j]? = some people[j] := List.getElem?_eq_getElem hj
     generalize people[i] = p at hx
     generalize people[j] = q at hy
     unfold route_desk_before
     rw [hk.ppl]
     simp only [idx_nat, hx, hy, Option.bind_some, hk.wei i p hx, hk.wei j q hy, hk.lat i p hx, hk.lat j q hy, or_val, compare_cmpI]
     refine ⟨_, rfl, ?_⟩
     have hno2 := (hp.2 i p hx).2.2.2 j q (by omega) hy
     unfold ltF
     simp only [Int.toNat_natCast, hx, hy, decide_eq_true_eq]
     have e3 : cmpI p.no q.no = 1 := by unfold cmpI; rw [if_neg (by omega), if_pos hno2]
     rw [e3]
     generalize cmpI (w64 (wOf all p.no * q.capacity)) (w64 (wOf all q.no * p.capacity)) = u
     generalize cmpI (lOf all p.no) (lOf all q.no) = v
     simp only [firstNZ]
     by_cases hu : u ≠ 0
     ·rw [if_pos hu, if_pos hu]
     ·rw [if_neg hu, if_neg hu]
      by_cases hv : v ≠ 0
      ·rw [if_pos hv, if_pos hv]
      ·rw [if_neg hv, if_neg hv]
       simp
theorem best_at {people : List route_Person} {cals : List cal_Calendar} {m : Int} {all : List route_Held} {w : route_Work} {needs : List route_Skill} : ∀ n, bestB (candF people cals m all w needs) (fmF people w) (ltF people all) n = -1 ∨ ∃ i : Nat, i < n ∧ (∃ p, people[i]? = some p) ∧ bestB (candF people cals m all w needs) (fmF people w) (ltF people all) n = (i : Int)
 | 0 => .inl rfl
 | n + 1 => by
  have hb : bestB (candF people cals m all w needs) (fmF people w) (ltF people all) (n + 1) = stepB (candF people cals m all w needs) (fmF people w) (ltF people all) (bestB (candF people cals m all w needs) (fmF people w) (ltF people all) n) n := rfl
  have ih := best_at (people := people) (cals := cals) (m := m) (all := all) (w := w) (needs := needs) n
  rw [hb]
  unfold stepB
  have old : ∀ b, (b = -1 ∨ ∃ i : Nat, i < n ∧ (∃ p, people[i]? = some p) ∧ b = (i : Int)) → (b = -1 ∨ ∃ i : Nat, i < n + 1 ∧ (∃ p, people[i]? = some p) ∧ b = (i : Int)) := by
   rintro b (h | ⟨i, h1, h2, h3⟩)
   ·exact .inl h
   ·exact .inr ⟨i, by omega, h2, h3⟩
  by_cases hc : candF people cals m all w needs n = true
  ·rw [if_pos hc]
   have hx : ∃ p, people[n]? = some p := by
    unfold candF at hc
    cases h : people[n]? with
    | none => rw [h] at hc; cases hc
    | some p => exact ⟨p, rfl⟩
   have nw : ∃ i : Nat, i < n + 1 ∧ (∃ p, people[i]? = some p) ∧ (n : Int) = (i : Int) := ⟨n, Nat.lt_succ_self n, hx, rfl⟩
   split
   ·exact .inr nw
   ·split
    ·exact old _ ih
    ·split
     ·exact .inr nw
     ·split
      ·exact .inr nw
      ·exact old _ ih
  ·rw [if_neg hc]
   exact old _ ih
theorem ref_choose {people : List route_Person} {cals : List cal_Calendar} {m : Int} {all : List route_Held} {d : route_desk} (ho : AllOK people all) (hk : DeskOk people cals m all d) (w : route_Work) (needs : List route_Skill) :
  rangeB (R := Empty) (fun k110 s116 => Option.bind (Option.bind (idx people (k110 : Int)) fun x137 => Option.bind (portref2_weightOf all x137.no) fun x156 => Option.bind (Option.bind (portref2_able x137 needs) fun x171 => if (!x171) = true then (if true = true then (some true) else (some (decide ((w64 (x137.capacity - x156.1)) < w.weight)))) else (Option.bind (portref2_duty_on (⟨people, cals, []⟩ : portref2_duty) x137 m) fun x184 => if (!x184) = true then (some true) else (some (decide ((w64 (x137.capacity - x156.1)) < w.weight))))) fun s161 => if s161 = true then some s116 else Option.bind ((if s116 < 0 then some true else (idx people s116).map fun _ => false)) fun x196 => Option.bind (if x196 = true then (some true) else (Option.bind (idx people s116) fun x202 => Option.bind (portref2_duty_ahead  x137 x202 w all) fun x213 => some x213)) fun s198 => Option.bind (if s198 = true then some (k110 : Int) else some s116) fun s218 => some s218) fun s130 => some (.nx s130)) people.length 0 (-1) = some (.fin (bestB (candF people cals m all w needs) (fmF people w) (ltF people all) people.length)) := by
 obtain ⟨t, h1, h2⟩ := rangeB_inv (R := Empty) (b := (fun k110 s116 => Option.bind (Option.bind (idx people (k110 : Int)) fun x137 => Option.bind (portref2_weightOf all x137.no) fun x156 => Option.bind (Option.bind (portref2_able x137 needs) fun x171 => if (!x171) = true then (if true = true then (some true) else (some (decide ((w64 (x137.capacity - x156.1)) < w.weight)))) else (Option.bind (portref2_duty_on (⟨people, cals, []⟩ : portref2_duty) x137 m) fun x184 => if (!x184) = true then (some true) else (some (decide ((w64 (x137.capacity - x156.1)) < w.weight))))) fun s161 => if s161 = true then some s116 else Option.bind ((if s116 < 0 then some true else (idx people s116).map fun _ => false)) fun x196 => Option.bind (if x196 = true then (some true) else (Option.bind (idx people s116) fun x202 => Option.bind (portref2_duty_ahead  x137 x202 w all) fun x213 => some x213)) fun s198 => Option.bind (if s198 = true then some (k110 : Int) else some s116) fun s218 => some s218) fun s130 => some (.nx s130)))
  people.length (fun k s => s = bestB (candF people cals m all w needs) (fmF people w) (ltF people all) k) (s := -1) rfl
  (by
   rintro k s hkn rfl
   have hx : people[k]? = some people[k] := List.getElem?_eq_getElem hkn
   generalize people[k] = p at hx
   obtain ⟨b1, e1, e2⟩ := able_eq p needs
   obtain ⟨b2, e3, e4⟩ := hk.dty k p hx
   have hc : candF people cals m all w needs k = (b1 && (b2 && !(decide (w64 (p.capacity - wOf all p.no) < w.weight)))) := by
    unfold candF
    simp only [hx, e2, e3]
    cases b1 <;> cases b2 <;> rfl
   have hf : fmF people w k = (p.no == w.former) := by unfold fmF; simp only [hx]
   have hs161 : (if (!b1) = true then (if true = true then (some true) else (some (decide ((w64 (p.capacity - wOf all p.no)) < w.weight)))) else (Option.bind (some b2) fun x184 => if (!x184) = true then (some true) else (some (decide ((w64 (p.capacity - wOf all p.no)) < w.weight))))) = some (!(candF people cals m all w needs k)) := by
    rw [hc]
    cases b1 <;> cases b2 <;> cases decide (w64 (p.capacity - wOf all p.no) < w.weight) <;> rfl
   simp only [idx_nat people k, hx, Option.bind_some, weightOf_all ho, e2, e3, if_true]
   simp only [if_true, Option.bind_some] at hs161
   have hbk : bestB (candF people cals m all w needs) (fmF people w) (ltF people all) (k + 1) = stepB (candF people cals m all w needs) (fmF people w) (ltF people all) (bestB (candF people cals m all w needs) (fmF people w) (ltF people all) k) k := rfl
   rw [hs161, hbk, Option.bind_some]
   have hat := best_at (people := people) (cals := cals) (m := m) (all := all) (w := w) (needs := needs) k
   generalize bestB (candF people cals m all w needs) (fmF people w) (ltF people all) k = b at *
   unfold stepB
   by_cases hcc : candF people cals m all w needs k = true
   ·rw [hcc]
    simp only [Bool.not_true, Bool.false_eq_true, if_false, if_true]
    rcases hat with rfl | ⟨i, hi, ⟨q, hq⟩, rfl⟩
    ·exact ⟨_, rfl, rfl⟩
    ·have hi2 := (List.getElem?_eq_some_iff.1 hq).1
     rw [if_neg (show ¬ (i : Int) < 0 by omega), if_neg (show ¬ (i : Int) < 0 by omega)]
     simp only [idx_nat, hq, Option.map_some, Option.bind_some, Bool.false_eq_true, if_false, Int.toNat_natCast]
     unfold portref2_duty_ahead
     have hf2 : fmF people w i = (q.no == w.former) := by unfold fmF; simp only [hq]
     rw [hf2, hf]
     by_cases g1 : (q.no == w.former) = true
     ·rw [if_pos g1, if_pos g1]
      exact ⟨_, rfl, rfl⟩
     ·rw [if_neg g1, if_neg g1]
      by_cases g2 : (p.no == w.former) = true
      ·rw [if_pos g2, if_pos g2]
       exact ⟨_, rfl, rfl⟩
      ·rw [if_neg g2, if_neg g2]
       have hlt : ltF people all k i = decide (firstNZ [cmpI (w64 (wOf all p.no * q.capacity)) (w64 (wOf all q.no * p.capacity)), cmpI (lOf all p.no) (lOf all q.no)] < 0) := by
        unfold ltF
        simp only [hx, hq]
       simp only [weightOf_all ho, Option.bind_some, or_val, compare_cmpI, hlt]
       by_cases g3 : firstNZ [cmpI (w64 (wOf all p.no * q.capacity)) (w64 (wOf all q.no * p.capacity)), cmpI (lOf all p.no) (lOf all q.no)] < 0
       ·rw [decide_eq_true g3]
        exact ⟨_, rfl, rfl⟩
       ·rw [decide_eq_false g3]
        exact ⟨_, rfl, rfl⟩
   ·rw [Bool.not_eq_true] at hcc
    rw [hcc]
    exact ⟨_, rfl, rfl⟩)
 rw [h1, h2]
end Go.Proofs.YtfbnaobiondblaaGreatDoor.M
namespace Go.Proofs.YtfbnaobiondblaaGreatDoor.M
open Go Go.Pu
set_option linter.unusedSimpArgs false
set_option linter.unusedVariables false
theorem mapGet_put_ {κ α : Type} [DecidableEq κ] (l : List (κ × α)) (k k' : κ) (v : α) : mapGet (mapPut l k v) k' = if k = k' then some v else mapGet l k' := by
 unfold mapPut
 by_cases h : ∃ p ∈ l, p.1 = k
 ·rw [if_pos h]
  induction l with
  | nil => obtain ⟨p, hp, _⟩ := h; simp at hp
  | cons p l ih =>
   rw [List.map_cons, mapGet, mapGet]
   by_cases hp : p.1 = k
   ·rw [if_pos hp]
    by_cases hk : k = k'
    ·rw [if_pos hk, if_pos hk]
    ·rw [if_neg hk, if_neg hk, if_neg (by rw [hp]; exact hk)]
     by_cases h2 : ∃ p ∈ l, p.1 = k
     ·rw [ih h2, if_neg hk]
     ·have : l.map (fun q => if q.1 = k then (k, v) else q) = l := by
       conv => rhs; rw [← List.map_id l]
       apply List.map_congr_left
       intro q hq
       rw [if_neg (fun e => h2 ⟨q, hq, e⟩)]
       rfl
      rw [this]
   ·rw [if_neg hp]
    have h2 : ∃ p ∈ l, p.1 = k := by
     obtain ⟨q, hq, e⟩ := h
     rcases List.mem_cons.1 hq with rfl | hq
     ·exact absurd e hp
     ·exact ⟨q, hq, e⟩
    by_cases hp' : p.1 = k'
    ·rw [if_pos hp', if_pos hp', if_neg (fun e => hp (hp'.trans e.symm))]
    ·rw [if_neg hp', if_neg hp', ih h2]
 ·rw [if_neg h]
  induction l with
  | nil => simp [mapGet]
  | cons p l ih =>
   have hp : p.1 ≠ k := fun e => h ⟨p, by simp, e⟩
   have h2 : ¬ ∃ p ∈ l, p.1 = k := fun ⟨q, hq, e⟩ => h ⟨q, by simp [hq], e⟩
   rw [List.cons_append, mapGet, mapGet, ih h2]
   by_cases hp' : p.1 = k'
   ·rw [if_pos hp', if_pos hp', if_neg (fun e => hp (hp'.trans e.symm))]
   ·rw [if_neg hp', if_neg hp']
end Go.Proofs.YtfbnaobiondblaaGreatDoor.M
namespace Go.Proofs.YtfbnaobiondblaaGreatDoor.M
open Go Go.Pu
set_option linter.unusedSimpArgs false
set_option linter.unusedVariables false
theorem rangeB_both {S S' R R' : Type} {b : Nat → S → Option (Ctl S R)} {b' : Nat → S' → Option (Ctl S' R')} (n : Nat) (I : Nat → S → S' → Prop) {s : S} {s' : S'} (h0 : I 0 s s')
  (round : ∀ k s s', k < n → I k s s' → ∃ t t', b k s = some (.nx t) ∧ b' k s' = some (.nx t') ∧ I (k + 1) t t') :
  ∃ t t', rangeB b n 0 s = some (.fin t) ∧ rangeB b' n 0 s' = some (.fin t') ∧ I n t t' := by
 have key : ∀ m k s s', k + m = n → I k s s' → ∃ t t', rangeB b m k s = some (.fin t) ∧ rangeB b' m k s' = some (.fin t') ∧ I n t t' := by
  intro m
  induction m with
  | zero =>
   intro k s s' hk hI
   obtain rfl : k = n := by omega
   exact ⟨s, s', rfl, rfl, hI⟩
  | succ m ih =>
   intro k s s' hk hI
   obtain ⟨t, t', h1, h2, hI'⟩ := round k s s' (by omega) hI
   rw [rangeB, rangeB, h1, h2]
   exact ih (k + 1) t t' (by omega) hI'
 exact key n 0 s s' (by omega) h0
theorem orderL_perm (l : List route_Work) : (orderL l).Perm (intsN l.length) := List.mergeSort_perm _ _
theorem orderL_len (l : List route_Work) : (orderL l).length = l.length := by rw [(orderL_perm l).length_eq, intsN_len]
theorem intsN_nodup (n : Nat) : (intsN n).Nodup := by
 unfold intsN
 exact List.pairwise_map.2 (List.nodup_range.imp fun h e => h (Int.ofNat.inj e))
theorem orderL_at {l : List route_Work} {k : Nat} {x : Int} (h : (orderL l)[k]? = some x) : ∃ (j : Nat) (w : route_Work), x = (j : Int) ∧ j < l.length ∧ l[j]? = some w := by
 obtain ⟨j, hj, rfl⟩ := intsN_mem ((orderL_perm l).mem_iff.1 (List.mem_of_getElem? h))
 exact ⟨j, l[j], rfl, hj, List.getElem?_eq_getElem hj⟩
theorem orderL_inj {l : List route_Work} {i k : Nat} {x : Int} (h1 : (orderL l)[i]? = some x) (h2 : (orderL l)[k]? = some x) : i = k := by
 have hn : (orderL l).Nodup := (orderL_perm l).nodup_iff.2 (intsN_nodup _)
 obtain ⟨a1, a2⟩ := List.getElem?_eq_some_iff.1 h1
 obtain ⟨b1, b2⟩ := List.getElem?_eq_some_iff.1 h2
 rcases Nat.lt_trichotomy i k with h | h | h
 ·exact absurd (a2.trans b2.symm) (List.pairwise_iff_getElem.1 hn i k a1 b1 h)
 ·exact h
 ·exact absurd (b2.trans a2.symm) (List.pairwise_iff_getElem.1 hn k i b1 a1 h)
structure Run (people : List route_Person) (cals : List cal_Calendar) (m : Int) (held : List route_Held) (waiting : List route_Work) (k : Nat) (s : List Bool × List route_Held × route_desk) (s' : List route_Held × List route_Held × List (Int × Bool)) : Prop where
 all : s'.1 = held ++ s.2.1
 desk : DeskOk people cals m s'.1 s.2.2
 ok : AllOK people s'.1
 len : s.1.length = waiting.length
 gone : ∀ j, j < waiting.length → s.1[j]? = some ((mapGet s'.2.2 (j : Int)).getD false)
 few : s.2.1.length ≤ k
 given : s'.2.1 = s.2.1
 from_ : ∀ h ∈ s.2.1, ∃ (i : Nat) (x : Int) (w : route_Work), i < k ∧ (orderL waiting)[i]? = some x ∧ idx waiting x = some w ∧ h.ticket = w.ticket
 apart : (held ++ s.2.1).Pairwise (fun a b => a.ticket ≠ b.ticket)
theorem desk_more {people : List route_Person} {cals : List cal_Calendar} {m : Int} {all : List route_Held} {d : route_desk} (hp : PeopleOK people) (hk : DeskOk people cals m all d) {i : Nat} {p : route_Person} (hi : people[i]? = some p) (w : Int) (h : route_Held) (h1 : h.person = p.no) (h2 : h.weight = w) (h3 : h.since = m) :
  DeskOk people cals m (all ++ [h]) (⟨d.people, d.duty, d.weights.set i (wOf all p.no + w), d.latest.set i (if lOf all p.no < m then m else lOf all p.no)⟩ : route_desk) := by
 have hil := (List.getElem?_eq_some_iff.1 hi).1
 refine ⟨hk.ppl, hk.dty, by simpa using hk.wlen, fun j q hq => ?_, by simpa using hk.llen, fun j q hq => ?_⟩
 ·dsimp only
  rw [List.getElem?_set, wOf_snoc]
  by_cases hij : i = j
  ·subst hij
   rw [hi] at hq
   cases hq
   rw [if_pos rfl, if_pos (by rw [hk.wlen]; exact hil), if_pos h1, h2]
  ·rw [if_neg hij, hk.wei j q hq, if_neg (fun e => hij (no_inj hp hi hq (h1.symm.trans e))), Int.add_zero]
 ·dsimp only
  rw [List.getElem?_set, lOf_snoc]
  by_cases hij : i = j
  ·subst hij
   rw [hi] at hq
   cases hq
   rw [if_pos rfl, if_pos (by rw [hk.llen]; exact hil), if_pos h1, h3]
  ·rw [if_neg hij, hk.lat j q hq, if_neg (fun e => hij (no_inj hp hi hq (h1.symm.trans e)))]
theorem pos_of {people : List route_Person} {i : Nat} {p : route_Person} (hi : people[i]? = some p) : 0 ≤ pos people p.no := by
 unfold pos
 cases hf : people.findIdx? (fun q => q.no == p.no) with
 | none =>
  have := List.findIdx?_eq_none_iff.1 hf p (List.mem_of_getElem? hi)
  simp at this
 | some j => dsimp only; omega
theorem run_eq {people : List route_Person} {cals : List cal_Calendar} {held : List route_Held} {waiting : List route_Work} (steps : List route_Step) {m : Int} (hp : PeopleOK people) (hw : WorkOK waiting) (hh : HeldOK people held)
  (hap : ∀ h ∈ held, ∀ w ∈ waiting, h.ticket ≠ w.ticket) {d : route_desk} (hd : DeskOk people cals m held d) :
  ∃ t t', rangeB (R := List route_Held × List route_Work) (fun k36 s54 => Option.bind (Option.bind (idx (orderL waiting) (k36 : Int)) fun x99 => Option.bind (idx waiting x99) fun x104 => Option.bind (route_needsAt x104 steps m) fun x135 => Option.bind (route_desk_choose s54.2.2 x104 x135) fun x143 => if (decide (x143 < 0)) = true then some (s54.1, s54.2.1, s54.2.2) else Option.bind (idx s54.1 x99) fun x149 => Option.bind (setI s54.1 x99 true) fun x154 => Option.bind (idx s54.2.2.weights x143) fun x158 => Option.bind (setI s54.2.2.weights x143 (w64 (x158 + x104.weight))) fun x171 => Option.bind (idx s54.2.2.latest x143) fun x175 => Option.bind (setI s54.2.2.latest x143 (if x175 < m then m else x175)) fun x187 => Option.bind (idx people x143) fun x199 => Option.bind (appendL 4398046511104 s54.2.1 ([(⟨x104.ticket, x199.no, x104.weight, m⟩ : route_Held)] : List route_Held)) fun x210 => some (x154, x210, (⟨s54.2.2.people, s54.2.2.duty, x171, x187⟩ : route_desk))) fun s80 => some (.nx (s80.1, s80.2.1, s80.2.2))) (orderL waiting).length 0 (List.replicate waiting.length false, ([] : (List route_Held)), d) = some (.fin t) ∧
   rangeB (R := List route_Held × List route_Work × List route_Held) (fun k36 s46 => Option.bind (Option.bind (idx (orderL waiting) (k36 : Int)) fun x75 => Option.bind (idx waiting x75) fun x80 => Option.bind (portref2_needsAt x80 steps m) fun x101 => Option.bind (rangeB (R := Empty) (fun k110 s116 => Option.bind (Option.bind (idx people (k110 : Int)) fun x137 => Option.bind (portref2_weightOf s46.1 x137.no) fun x156 => Option.bind (Option.bind (portref2_able x137 x101) fun x171 => if (!x171) = true then (if true = true then (some true) else (some (decide ((w64 (x137.capacity - x156.1)) < x80.weight)))) else (Option.bind (portref2_duty_on (⟨people, cals, []⟩ : portref2_duty) x137 m) fun x184 => if (!x184) = true then (some true) else (some (decide ((w64 (x137.capacity - x156.1)) < x80.weight))))) fun s161 => if s161 = true then some s116 else Option.bind ((if s116 < 0 then some true else (idx people s116).map fun _ => false)) fun x196 => Option.bind (if x196 = true then (some true) else (Option.bind (idx people s116) fun x202 => Option.bind (portref2_duty_ahead  x137 x202 x80 s46.1) fun x213 => some x213)) fun s198 => Option.bind (if s198 = true then some (k110 : Int) else some s116) fun s218 => some s218) fun s130 => some (.nx s130)) people.length 0 (-1)) fun o107 => o107.andThen (fun y => y.elim) fun s108 => Option.bind ((if s108 < 0 then some true else (idx people s108).map fun _ => false)) fun x230 => Option.bind (if (!x230) = true then Option.bind (idx people s108) fun x251 => Option.bind (appendL 4398046511104 s46.1 ([(⟨x80.ticket, x251.no, x80.weight, m⟩ : route_Held)] : List route_Held)) fun x275 => Option.bind (appendL 4398046511104 s46.2.1 ([(⟨x80.ticket, x251.no, x80.weight, m⟩ : route_Held)] : List route_Held)) fun x291 => some (x275, x291, (mapPut s46.2.2 x75 true)) else some (s46.1, s46.2.1, s46.2.2)) fun s232 => some (s232.1, s232.2.1, s232.2.2)) fun s64 => some (.nx (s64.1, s64.2.1, s64.2.2))) (orderL waiting).length 0 (held, ([] : (List route_Held)), ([] : List (Int × Bool))) = some (.fin t') ∧
   Run people cals m held waiting (orderL waiting).length t t' := by
 refine rangeB_both _ (fun k s s' => Run people cals m held waiting k s s') ⟨by simp, hd, hh.all, by simp, fun j hj => by simp [mapGet, hj], by simp, rfl, (fun h hm => by cases hm), ?_⟩ ?_
 ·rw [List.append_nil, List.pairwise_iff_getElem]
  intro i j h1 h2 hij
  have := (hh.2 j _ (List.getElem?_eq_getElem h2)).2 i _ hij (List.getElem?_eq_getElem h1)
  omega
 ·rintro k ⟨tk, out, dk⟩ ⟨al, gv, gm⟩ hk hI
  obtain ⟨i1, i2, i3, i4, i5, i6, i7, i8, i9⟩ := hI
  dsimp only at i1 i2 i3 i4 i5 i6 i7 i8 i9 ⊢
  subst i7
  have hx : (orderL waiting)[k]? = some (orderL waiting)[k] := List.getElem?_eq_getElem hk
  generalize (orderL waiting)[k] = x at hx
  obtain ⟨j, w, rfl, hj, hwj⟩ := orderL_at hx
  have hwo := hw.2 j w hj hwj
  obtain ⟨nd, n1, n2⟩ := needsAt_eq w steps m hwo.2.1.2.2.2.2
  have hch := choose_val hp i2 w nd
  have hrf := ref_choose i3 i2 w nd
  have hat := best_at (people := people) (cals := cals) (m := m) (all := al) (w := w) (needs := nd) people.length
  simp only [idx_nat, hx, hwj, n1, n2, Option.bind_some, hch]
  simp only [idx_nat] at hrf
  rw [hrf]
  simp only [Option.bind_some, Lp.andThen_fin]
  generalize bestB (candF people cals m al w nd) (fmF people w) (ltF people al) people.length = b at hat
  have keep : ∀ h ∈ gv, ∃ (i : Nat) (x : Int) (w : route_Work), i < k + 1 ∧ (orderL waiting)[i]? = some x ∧ idx waiting x = some w ∧ h.ticket = w.ticket := fun h hm => by
   obtain ⟨i, x, v, a1, a2⟩ := i8 h hm
   exact ⟨i, x, v, by omega, a2⟩
  rcases hat with rfl | ⟨i, hi, ⟨p, hpi⟩, rfl⟩
  ·have e : decide ((-1 : Int) < 0) = true := by decide
   simp only [e, if_true, if_pos (show (-1 : Int) < 0 by decide), Option.bind_some, Bool.not_true, Bool.false_eq_true, if_false]
   exact ⟨_, _, rfl, rfl, i1, i2, i3, i4, i5, by dsimp only; omega, rfl, keep, i9⟩
  ·have e : decide ((i : Int) < 0) = false := decide_eq_false (by omega)
   have hjt : j < tk.length := by rw [i4]; exact hj
   have hwl : i < dk.weights.length := by rw [i2.wlen]; exact hi
   have hll : i < dk.latest.length := by rw [i2.llen]; exact hi
   have hb := i3.bnd p.no
   have hwt : (1 ≤ w.weight ∧ w.weight ≤ 20) := hwo.2.1.1
   have hw2 : w64 (wOf al p.no + w.weight) = wOf al p.no + w.weight := w64_id (by omega) (by omega)
   have hk2 : k < waiting.length := by rw [orderL_len] at hk; exact hk
   have hwl2 := hw.1
   have hheld := hh.1
   have hal : al.length = held.length + gv.length := by rw [i1, List.length_append]
   simp only [e, Bool.false_eq_true, if_false, if_neg (show ¬ (i : Int) < 0 by omega), idx_nat, hpi, Option.map_some, Option.bind_some, Bool.not_false, if_true, i5 j hj, setI_nat _ _ _ hjt, i2.wei i p hpi, i2.lat i p hpi, hw2, setI_nat _ _ _ hwl, setI_nat _ _ _ hll]
   have hap1 : ∀ (l : List route_Held) (h : route_Held), l.length ≤ 1000 → appendL 4398046511104 l [h] = some (l ++ [h]) := fun l h hl => by
    unfold appendL
    rw [if_pos (by rw [List.length_singleton]; omega)]
   simp only [hap1 al _ (by omega), hap1 gv _ (by omega), Option.bind_some]
   have hnew : ∀ h ∈ held ++ gv, h.ticket ≠ w.ticket := fun h hm => by
    rcases List.mem_append.1 hm with h1 | h1
    ·exact hap h h1 w (List.mem_of_getElem? hwj)
    ·obtain ⟨i', x', v, a1, a2, a3, a4⟩ := i8 h h1
     obtain ⟨j', v', rfl, b2, b3⟩ := orderL_at a2
     rw [idx_nat, b3] at a3
     cases a3
     have hjj : j' ≠ j := by
      rintro rfl
      have := orderL_inj a2 hx
      omega
     rw [a4]
     rcases Nat.lt_or_ge j' j with h2 | h2
     ·exact hwo.2.2 j' v h2 b3
     ·exact fun e => (hw.2 j' v b2 b3).2.2 j w (by omega) hwj e.symm
   refine ⟨_, _, rfl, rfl, ?_, ?_, ?_, ?_, ?_, ?_, rfl, ?_, ?_⟩
   ·dsimp only
    rw [i1, List.append_assoc]
   ·exact desk_more hp i2 hpi w.weight _ rfl rfl rfl
   ·refine ⟨by dsimp only; rw [List.length_append, List.length_singleton]; omega, fun h hm => ?_⟩
    rcases List.mem_append.1 hm with h1 | h1
    ·exact i3.2 h h1
    ·rw [List.mem_singleton] at h1
     subst h1
     exact ⟨hwt, pos_of hpi⟩
   ·simpa using i4
   ·intro q hq
    dsimp only
    rw [mapGet_put_, List.getElem?_set]
    by_cases hjq : j = q
    ·subst hjq
     rw [if_pos rfl, if_pos hjt, if_pos rfl]
     rfl
    ·rw [if_neg hjq, if_neg (show ¬ ((j : Int) = (q : Int)) by omega), i5 q hq]
   ·dsimp only
    rw [List.length_append, List.length_singleton]
    omega
   ·intro h hm
    rcases List.mem_append.1 hm with h1 | h1
    ·exact keep h h1
    ·rw [List.mem_singleton] at h1
     subst h1
     exact ⟨k, _, w, Nat.lt_succ_self k, hx, by rw [idx_nat]; exact hwj, rfl⟩
   ·dsimp only
    rw [← List.append_assoc, List.pairwise_append]
    refine ⟨i9, List.pairwise_singleton _ _, fun a ha b hb => ?_⟩
    rw [List.mem_singleton] at hb
    subst hb
    exact hnew a ha
end Go.Proofs.YtfbnaobiondblaaGreatDoor.M
