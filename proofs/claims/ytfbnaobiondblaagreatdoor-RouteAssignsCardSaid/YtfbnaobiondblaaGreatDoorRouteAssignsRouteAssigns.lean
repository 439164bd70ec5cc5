import Derived.Test.YtfbnaobiondblaaGreatDoorRouteAssignsAsD
import Derived.Test.YtfbnaobiondblaaGreatDoorRouteAssignsRouteSteps
namespace Go.Proofs.YtfbnaobiondblaaGreatDoor.M
open Go Go.Pu
set_option linter.unusedSimpArgs false
set_option linter.unusedVariables false
theorem err5 (a b c d e : Int) : cmp_Or_api_Errno [a, b, c, d, e] = some (if a ≠ 0 then a else if b ≠ 0 then b else if c ≠ 0 then c else if d ≠ 0 then d else e) := by
 by_cases ha : a = 0 <;> by_cases hb : b = 0 <;> by_cases hc : c = 0 <;> by_cases hd : d = 0 <;> by_cases he : e = 0 <;> simp [cmp_Or_api_Errno, rangeB, idx, ha, hb, hc, hd, he, Lp.andThen]
def hpos (l : List route_Held) (n : Int) : Int := match l.findIdx? (fun h => h.ticket == n) with | some i => (i : Int) | none => -1
theorem hpos_any (l : List route_Held) (n : Int) : decide ((0 : Int) ≤ hpos l n) = l.any fun h => h.ticket == n := by
 rw [← findIdx_any]
 unfold hpos
 cases l.findIdx? (fun h => h.ticket == n) <;> rfl
theorem held_has (l : List route_Held) (n : Int) : slices_IndexFunc_Lroute_Held_route_Held l (fun h => some (h.ticket == n)) = some (hpos l n) := by
 unfold slices_IndexFunc_Lroute_Held_route_Held hpos
 rw [rangeB_index]
 cases l.findIdx? (fun h => h.ticket == n) <;> rfl
theorem held_any (l : List route_Held) (w : route_Work) : slices_ContainsFunc_Lroute_Held_route_Held l (fun y76 => route_Assign_1 y76 w) = some (l.any fun h => h.ticket == w.ticket) := by
 unfold slices_ContainsFunc_Lroute_Held_route_Held route_Assign_1
 rw [held_has, Option.bind_some, hpos_any]
theorem heldAt_any (l : List route_Held) (w : route_Work) : portref2_AssignOf_1 w l = some (l.any fun h => h.ticket == w.ticket) := by
 unfold portref2_AssignOf_1 portref2_heldAt portref2_heldAt_1
 rw [held_has, Option.bind_some, Option.bind_some, hpos_any]
theorem twice_ref (l : List route_Held) (ws : List route_Work) : slices_ContainsFunc_Lroute_Work_route_Work ws (fun y92 => portref2_AssignOf_1 y92 l) = some (ws.any fun w => l.any fun h => h.ticket == w.ticket) := by
 simp only [heldAt_any]
 unfold slices_ContainsFunc_Lroute_Work_route_Work slices_IndexFunc_Lroute_Work_route_Work
 rw [rangeB_index ws (fun w => l.any fun h => h.ticket == w.ticket), ← findIdx_any]
 cases ws.findIdx? (fun w => l.any fun h => h.ticket == w.ticket) <;> rfl
theorem ticket_ok (l : List route_Held) (hlen : l.length ≤ 1000) (hap : l.Pairwise fun a b => a.ticket ≠ b.ticket) : SortOk (fun x y => some (cmp_Compare_int x.ticket y.ticket)) l := by
 have lt_ : ∀ x y : route_Held, cmpLt (fun x y : route_Held => some (cmp_Compare_int x.ticket y.ticket)) x y = decide (x.ticket < y.ticket) := fun x y => by
  unfold cmpLt
  simp only [compare_cmpI, cmpI]
  split
  ·rename_i h; simp [h]
  ·rename_i h
   split <;> simp [h]
 refine ⟨by omega, fun x _ y _ => ⟨_, rfl⟩, fun x _ => ?_, fun x _ y _ z _ => ?_, fun x _ y _ z _ => ?_, fun x hx y hy => ?_⟩
 ·rw [lt_]; simp
 ·simp only [lt_, decide_eq_true_eq]; omega
 ·simp only [lt_, decide_eq_false_iff_not]; omega
 ·simp only [lt_, decide_eq_false_iff_not]
  intro h1 h2
  obtain ⟨i, hi, rfl⟩ := List.mem_iff_getElem.1 hx
  obtain ⟨j, hj, rfl⟩ := List.mem_iff_getElem.1 hy
  rcases Nat.lt_trichotomy i j with h | h | h
  ·have := List.pairwise_iff_getElem.1 hap i j hi hj h; omega
  ·subst h; rfl
  ·have := List.pairwise_iff_getElem.1 hap j i hj hi h; omega
theorem concat_val (a b : List route_Held) (h : a.length + b.length ≤ 1000) : slices_Concat_Lroute_Held_route_Held [a, b] = some (a ++ b) := by
 have e1 : w64 (0 + (a.length : Int)) = (a.length : Int) := by rw [w64_id (by omega) (by omega)]; omega
 have e2 : w64 ((a.length : Int) + (b.length : Int)) = (a.length : Int) + (b.length : Int) := by rw [w64_id (by omega) (by omega)]
 have d1 : decide ((a.length : Int) < 0) = false := decide_eq_false (by omega)
 have d2 : decide ((a.length : Int) + (b.length : Int) < 0) = false := decide_eq_false (by omega)
 have hg : slices_Grow_Lroute_Held_route_Held (α := route_Held) ((a.length : Int) + (b.length : Int)) = some [] := by
  unfold slices_Grow_Lroute_Held_route_Held
  rw [if_pos (by omega)]
 have h1 : appendL 4398046511104 ([] : List route_Held) a = some a := by
  unfold appendL
  rw [if_pos (by simp; omega), List.nil_append]
 have h2 : appendL 4398046511104 a b = some (a ++ b) := by
  unfold appendL
  rw [if_pos (by omega)]
 have i0 : idx [a, b] ((0 : Nat) : Int) = some a := rfl
 have i1 : idx [a, b] ((0 + 1 : Nat) : Int) = some b := rfl
 unfold slices_Concat_Lroute_Held_route_Held
 simp only [List.length_cons, List.length_nil, Nat.zero_add, Nat.reduceAdd, rangeB, i0, i1, Option.bind_some, e1, e2, d1, d2, Bool.false_eq_true, if_false, Lp.andThen_fin, hg, h1, h2]
theorem equal_held (l : List route_Held) : slices_Equal_Lroute_Held_route_Held l l = some true := by
 unfold slices_Equal_Lroute_Held_route_Held
 obtain ⟨t, ht, _⟩ := rangeB_inv (R := Bool) (b := fun k9 (_ : Unit) => Option.bind (idx l (k9 : Int)) fun x29 => Option.bind (idx l (k9 : Int)) fun x34 => if (!(x29.ticket == x34.ticket && (x29.person == x34.person && (x29.weight == x34.weight && (x29.since == x34.since))))) = true then some (.rt false) else some (.nx ())) l.length (fun _ _ => True) (s := ()) trivial
  (fun k s hk _ => ⟨(), by simp [idx_lt _ _ hk], trivial⟩)
 rw [if_neg (by simp), ht]
 rfl
theorem alike_work (l : List route_Work) : portref2_Alike l l = some true := by
 unfold portref2_Alike slices_EqualFunc_Lroute_Work_Lroute_Work_route_Work_route_Work
 have one : ∀ w : route_Work, portref2_Alike_7 w w = some true := fun w => by
  unfold portref2_Alike_7
  simp only [beq_self_eq_true, if_true, equal_skills, Option.bind_some]
 obtain ⟨t, ht, _⟩ := rangeB_inv (R := Bool) (b := fun k9 (_ : Unit) => Option.bind (idx l (k9 : Int)) fun x29 => Option.bind (idx l (k9 : Int)) fun x47 => Option.bind (portref2_Alike_7 x29 x47) fun x71 => if (!x71) = true then some (.rt false) else some (.nx ())) l.length (fun _ _ => True) (s := ()) trivial
  (fun k s hk _ => ⟨(), by simp [idx_lt _ _ hk, one], trivial⟩)
 rw [if_pos rfl, if_neg (by simp), ht]
 rfl
theorem left_eq (waiting : List route_Work) (hw : WorkOK waiting) (tk : List Bool) (gm : List (Int × Bool)) (hg : ∀ j, j < waiting.length → tk[j]? = some ((mapGet gm (j : Int)).getD false)) :
  ∃ l, rangeB (R := List route_Held × List route_Work) (fun k223 s231 => Option.bind (Option.bind (idx waiting (k223 : Int)) fun x256 => Option.bind (idx tk (k223 : Int)) fun x274 => Option.bind (if (!x274) = true then Option.bind (slices_Clone_Lroute_Skill_route_Skill x256.needs) fun x292 => Option.bind (appendL 2199023255552 s231 ([(⟨x256.ticket, x256.weight, x256.urgency, x256.since, x256.former, x292⟩ : route_Work)] : List route_Work)) fun x319 => some (x319, (⟨x256.ticket, x256.weight, x256.urgency, x256.since, x256.former, x292⟩ : route_Work)) else some (s231, x256)) fun s280 => some s280.1) fun s247 => some (.nx s247)) waiting.length 0 ([] : (List route_Work)) = some (.fin l) ∧
   rangeB (R := List route_Held × List route_Work × List route_Held) (fun k309 s317 => Option.bind (Option.bind (idx waiting (k309 : Int)) fun x342 => Option.bind (if (!((mapGet gm (k309 : Int)).getD false)) = true then Option.bind (appendL 2199023255552 s317 ([x342] : List route_Work)) fun x382 => some x382 else some s317) fun s361 => some s361) fun s333 => some (.nx s333)) waiting.length 0 ([] : (List route_Work)) = some (.fin l) := by
 obtain ⟨t, t', h1, h2, h3, _⟩ := rangeB_both (R := List route_Held × List route_Work) (R' := List route_Held × List route_Work × List route_Held) (b := (fun k223 s231 => Option.bind (Option.bind (idx waiting (k223 : Int)) fun x256 => Option.bind (idx tk (k223 : Int)) fun x274 => Option.bind (if (!x274) = true then Option.bind (slices_Clone_Lroute_Skill_route_Skill x256.needs) fun x292 => Option.bind (appendL 2199023255552 s231 ([(⟨x256.ticket, x256.weight, x256.urgency, x256.since, x256.former, x292⟩ : route_Work)] : List route_Work)) fun x319 => some (x319, (⟨x256.ticket, x256.weight, x256.urgency, x256.since, x256.former, x292⟩ : route_Work)) else some (s231, x256)) fun s280 => some s280.1) fun s247 => some (.nx s247)))
  (b' := (fun k309 s317 => Option.bind (Option.bind (idx waiting (k309 : Int)) fun x342 => Option.bind (if (!((mapGet gm (k309 : Int)).getD false)) = true then Option.bind (appendL 2199023255552 s317 ([x342] : List route_Work)) fun x382 => some x382 else some s317) fun s361 => some s361) fun s333 => some (.nx s333))) waiting.length (fun k s s' => s = s' ∧ s.length ≤ k) (s := []) (s' := []) ⟨rfl, by simp⟩
  (by
   rintro k s _ hk ⟨rfl, hl⟩
   have hx : waiting[k]? = some waiting[k] := List.getElem?_eq_getElem hk
   generalize waiting[k] = w at hx
   have hwo := hw.2 k w hk hx
   have hwl := hw.1
   simp only [idx_nat, hx, hg k hk, Option.bind_some]
   cases ((mapGet gm (k : Int)).getD false) with
   | true => exact ⟨s, s, rfl, rfl, rfl, by omega⟩
   | false =>
    have hc : slices_Clone_Lroute_Skill_route_Skill w.needs = some w.needs := by
     have := hwo.2.1.2.2.2.2
     unfold slices_Clone_Lroute_Skill_route_Skill appendL
     rw [if_pos (by simp; omega)]
     rfl
    have ha : appendL 2199023255552 s [w] = some (s ++ [w]) := by
     unfold appendL
     rw [if_pos (by rw [List.length_singleton]; omega)]
    simp only [Bool.not_false, if_true, hc, Option.bind_some, ha]
    exact ⟨_, _, rfl, rfl, rfl, by rw [List.length_append, List.length_singleton]; omega⟩)
 exact ⟨t, h1, by rw [h2, h3]⟩
theorem assigns_true (people : List route_Person) (cals : List cal_Calendar) (held : List route_Held) (waiting : List route_Work) (steps : List route_Step) (m : Int)
  (h1 : ∀ p ∈ people, ∀ k ∈ p.skills, k.name.size ≤ 9223372036854775807) (h2 : ∀ w ∈ waiting, ∀ k ∈ w.needs, k.name.size ≤ 9223372036854775807) : portlaw2_RouteAssigns people cals held waiting steps m = some true := by
 suffices h : ∃ x, route_Assign people cals held waiting steps m = some x ∧ portref2_AssignOf people cals held waiting steps m = some x by
  obtain ⟨x, e1, e2⟩ := h
  unfold portlaw2_RouteAssigns
  simp only [e1, e2, Option.bind_some, beq_self_eq_true, if_true, equal_held, alike_work]
 unfold route_Assign portref2_AssignOf
 obtain ⟨r1, a1, b1, c1⟩ := duty_eq people cals h1
 obtain ⟨r2, a2, b2, c2⟩ := held_eq people held
 obtain ⟨r3, a3, b3, c3⟩ := work_eq waiting h2
 obtain ⟨r4, a4, b4, c4⟩ := steps_eq steps
 simp only [a1, a2, a3, a4, b1, Option.bind_some, err5, moments]
 by_cases e1 : r1 = 0
 rotate_left
 ·have e : (r1 == 0) = false := by simpa using e1
  have e' : (r1 != 0) = true := by simpa using e1
  simp only [e, e', if_pos e1, Bool.false_eq_true, if_false, Option.bind_some, Bool.false_and, if_true]
  exact ⟨_, rfl, rfl⟩
 subst e1
 simp only [beq_self_eq_true, if_true, b2, Option.bind_some, ne_eq, not_true_eq_false, if_false]
 by_cases e2 : r2 = 0
 rotate_left
 ·have e : (r2 == 0) = false := by simpa using e2
  have e' : (r2 != 0) = true := by simpa using e2
  simp only [e, e', e2, not_false_eq_true, if_true, Bool.false_eq_true, if_false, Option.bind_some, Bool.false_and]
  exact ⟨_, rfl, rfl⟩
 subst e2
 simp only [beq_self_eq_true, if_true, b3, Option.bind_some, ne_eq, not_true_eq_false, if_false]
 by_cases e3 : r3 = 0
 rotate_left
 ·have e : (r3 == 0) = false := by simpa using e3
  have e' : (r3 != 0) = true := by simpa using e3
  simp only [e, e', e3, not_false_eq_true, if_true, Bool.false_eq_true, if_false, Option.bind_some, Bool.false_and]
  exact ⟨_, rfl, rfl⟩
 subst e3
 simp only [beq_self_eq_true, if_true, b4, Option.bind_some, ne_eq, not_true_eq_false, if_false]
 by_cases e4 : r4 = 0
 rotate_left
 ·have e : (r4 == 0) = false := by simpa using e4
  have e' : (r4 != 0) = true := by simpa using e4
  simp only [e, e', e4, not_false_eq_true, if_true, Bool.false_eq_true, if_false, Option.bind_some, Bool.false_and]
  exact ⟨_, rfl, rfl⟩
 subst e4
 simp only [beq_self_eq_true, if_true, Option.bind_some, ne_eq, not_true_eq_false, if_false, Bool.true_and]
 have hd := c1 rfl
 have hp := hd.ppl
 have hh := c2 rfl
 have hw := c3 rfl
 cases hm : portref2_IsMoment m with
 | false =>
  simp only [Bool.not_false, if_true, Bool.false_eq_true, if_false, Option.bind_some]
  exact ⟨_, rfl, rfl⟩
 | true =>
  simp only [Bool.not_true, Bool.false_eq_true, if_false, if_true, Option.bind_some, beq_self_eq_true, twice_ref, bne_self_eq_false, held_any]
  rw [rangeB_any waiting (fun w => held.any fun h => h.ticket == w.ticket) ((([] : List route_Held), ([] : List route_Work), (6 : Int)))]
  cases ht : (waiting.any fun w => held.any fun h => h.ticket == w.ticket) with
  | true => exact ⟨_, rfl, rfl⟩
  | false =>
   simp only [Bool.false_eq_true, if_false, Option.bind_some, Lp.andThen_fin, bne_self_eq_false]
   have hap : ∀ h ∈ held, ∀ w ∈ waiting, h.ticket ≠ w.ticket := fun h hm w hwm e => by
    rw [List.any_eq_false] at ht
    refine ht w hwm ?_
    rw [List.any_eq_true]
    exact ⟨h, hm, by simpa using e⟩
   have hmm : 0 ≤ m ∧ m ≤ 3000000 := by simpa [portref2_IsMoment] using hm
   have hpl := hp.1
   have hcl := hd.most
   have mk : makeL 281474976710656 (people.length : Int) (false : Bool) = some (List.replicate people.length false) := by rw [makeL, if_pos (by omega), Int.toNat_natCast]
   have mk2 : makeL 281474976710656 (waiting.length : Int) (false : Bool) = some (List.replicate waiting.length false) := by
    have := hw.1
    rw [makeL, if_pos (by omega), Int.toNat_natCast]
   obtain ⟨d, d1, d2⟩ := at_val hd hh.all steps m hmm
   obtain ⟨⟨tk, out, dk⟩, ⟨al, gv, gm⟩, f1, f2, hI⟩ := run_eq steps hp hw hh hap d2
   obtain ⟨i1, i2, i3, i4, i5, i6, i7, i8, i9⟩ := hI
   dsimp only at i1 i2 i3 i4 i5 i6 i7 i8 i9
   subst i7
   subst i1
   obtain ⟨l, l1, l2⟩ := left_eq waiting hw tk gm i5
   have hcl : slices_Clone_Lroute_Held_route_Held held = some held := by
    have := hh.1
    unfold slices_Clone_Lroute_Held_route_Held appendL
    rw [if_pos (by simp; omega)]
    rfl
   have hlen : held.length + gv.length ≤ 1000 := by
    have := i3.1
    rw [List.length_append] at this
    exact this
   have hs : sortFuncL (fun x y : route_Held => some (cmp_Compare_int x.ticket y.ticket)) (held ++ gv) = some ((held ++ gv).mergeSort fun x y => !(cmpLt (fun x y : route_Held => some (cmp_Compare_int x.ticket y.ticket)) y x)) := by
    unfold sortFuncL
    rw [if_pos (ticket_ok _ (by rw [List.length_append]; exact hlen) i9)]
   have v1 : route_assigner_assign ⟨people, cals, steps, List.replicate people.length false⟩ held waiting m = some (gv, l) := by
    unfold route_assigner_assign
    rw [d1, Option.bind_some, mk2, Option.bind_some, route_order_val waiting hw, Option.bind_some]
    dsimp only
    rw [f1, Option.bind_some, Lp.andThen_fin, l1]
    rfl
   have v2 : portref2_duty_assign ⟨people, cals, []⟩ held waiting steps m = some ((held ++ gv).mergeSort (fun x y => !(cmpLt (fun x y : route_Held => some (cmp_Compare_int x.ticket y.ticket)) y x)), l, gv) := by
    unfold portref2_duty_assign
    rw [hcl, Option.bind_some, ref_order_val waiting hw, Option.bind_some]
    dsimp only
    rw [f2, Option.bind_some, Lp.andThen_fin, l2, Option.bind_some, Lp.andThen_fin]
    show Option.bind (sortFuncL (fun x y : route_Held => some (cmp_Compare_int x.ticket y.ticket)) (held ++ gv)) _ = _
    rw [hs]
    rfl
   have v3 : route_byTicket (held ++ gv) = some ((held ++ gv).mergeSort fun x y => !(cmpLt (fun x y : route_Held => some (cmp_Compare_int x.ticket y.ticket)) y x)) := by
    unfold route_byTicket
    show Option.bind (sortFuncL (fun x y : route_Held => some (cmp_Compare_int x.ticket y.ticket)) (held ++ gv)) _ = _
    rw [hs]
    rfl
   rw [mk, Option.bind_some, v1, Option.bind_some, concat_val held gv hlen, Option.bind_some, v3, Option.bind_some, duty_val people cals (by omega), Option.bind_some, v2]
   exact ⟨_, rfl, rfl⟩
end Go.Proofs.YtfbnaobiondblaaGreatDoor.M
