import Derived.Test.YtfbnaobiondblaaGreatDoorRouteAssignsAsB
import Derived.Test.YtfbnaobiondblaaGreatDoorRouteAssignsAsA
import Derived.Test.YtfbnaobiondblaaGreatDoorPr
namespace Go.Proofs.YtfbnaobiondblaaGreatDoor.M
end Go.Proofs.YtfbnaobiondblaaGreatDoor.M
namespace Go.Proofs.YtfbnaobiondblaaGreatDoor.M
open Go Go.Pu
set_option linter.unusedSimpArgs false
set_option linter.unusedVariables false
def WorkTo (l : List route_Work) (k : Nat) : Prop := ∀ (j : Nat) (w : route_Work), j < k → l[j]? = some w → (1 ≤ w.ticket ∧ w.ticket ≤ 400) ∧ ((1 ≤ w.weight ∧ w.weight ≤ 20) ∧ (0 ≤ w.urgency ∧ w.urgency ≤ 9) ∧ (0 ≤ w.since ∧ w.since ≤ 3000000) ∧ (0 ≤ w.former ∧ w.former ≤ 40) ∧ w.needs.length ≤ 12) ∧ ∀ (i : Nat) (q : route_Work), i < j → l[i]? = some q → q.ticket ≠ w.ticket
def WorkOK (l : List route_Work) : Prop := l.length ≤ 200 ∧ WorkTo l l.length
theorem workTo_zero (l : List route_Work) : WorkTo l 0 := fun j w h => by omega
theorem workTo_succ {l : List route_Work} {k : Nat} {w : route_Work} (h : WorkTo l k) (hx : l[k]? = some w) (h1 : ∀ (i : Nat) (q : route_Work), i < k → l[i]? = some q → q.ticket ≠ w.ticket) (h2 : 1 ≤ w.ticket ∧ w.ticket ≤ 400) (h3 : (1 ≤ w.weight ∧ w.weight ≤ 20) ∧ (0 ≤ w.urgency ∧ w.urgency ≤ 9) ∧ (0 ≤ w.since ∧ w.since ≤ 3000000) ∧ (0 ≤ w.former ∧ w.former ≤ 40) ∧ w.needs.length ≤ 12) : WorkTo l (k + 1) := by
 intro j v hj hv
 rcases Nat.lt_or_ge j k with h4 | h4
 ·exact h j v h4 hv
 ·obtain rfl : j = k := by omega
  rw [hx] at hv
  cases hv
  exact ⟨h2, h3, h1⟩
theorem skills_len {l : List route_Skill} (h : route_checkSkills l = some 0) : l.length ≤ 12 := by
 unfold route_checkSkills at h
 by_cases h1 : (12 : Int) < (l.length : Int)
 ·simp [h1] at h
 ·omega
theorem work_eq (l : List route_Work) (hs : ∀ w ∈ l, ∀ k ∈ w.needs, k.name.size ≤ 9223372036854775807) : ∃ r, route_CheckWork l = some r ∧ portref2_WorkFault l = some r ∧ (r = 0 → WorkOK l) := by
 unfold route_CheckWork portref2_WorkFault
 by_cases h : (200 : Int) < (l.length : Int)
 ·simp only [decide_eq_true h, if_true]
  exact ⟨4, rfl, rfl, fun h => by cases h⟩
 simp only [decide_eq_false h, Bool.false_eq_true, if_false]
 rcases rangeB_sim (R := Int) (b := fun k7 (_ : Unit) => Option.bind (idx l (k7 : Int)) fun x27 => if (!(route_within x27.ticket 1 400)) = true then some (.rt 2) else Option.bind (sliceL l none (some (k7 : Int))) fun x47 => Option.bind (slices_ContainsFunc_Lroute_Work_route_Work x47 (fun y50 => route_CheckWork_1 y50 x27)) fun x51 => if x51 = true then some (.rt 6) else if ((((!(route_within x27.weight 1 20)) || (!(route_within x27.urgency 0 9))) || (!(route_within x27.since 0 3000000))) || (!(route_within x27.former 0 40))) = true then some (.rt 2) else Option.bind (route_checkSkills x27.needs) fun x81 => if (x81 != 0) = true then some (.rt x81) else some (.nx ()))
  (b' := fun k7 (_ : Unit) => Option.bind (idx l (k7 : Int)) fun x27 => if ((decide (x27.ticket < 1)) || (decide ((400 : Int) < x27.ticket))) = true then some (.rt 2) else Option.bind (sliceL l none (some (k7 : Int))) fun x50 => Option.bind (slices_ContainsFunc_Lroute_Work_route_Work x50 (fun y53 => portref2_WorkFault_1 y53 x27)) fun x54 => if x54 = true then some (.rt 6) else if (((((((decide (x27.weight < 1)) || (decide ((20 : Int) < x27.weight))) || (decide (x27.urgency < 0))) || (decide ((9 : Int) < x27.urgency))) || (!(portref2_IsMoment x27.since))) || (decide (x27.former < 0))) || (decide ((40 : Int) < x27.former))) = true then some (.rt 2) else Option.bind (portref2_skillsFault x27.needs) fun x93 => if (x93 != 0) = true then some (.rt x93) else some (.nx ())) l.length (fun r => r ≠ 0) (fun k _ _ => WorkTo l k) (s := ()) (s' := ()) (workTo_zero l)
  (by
   rintro k _ _ hk hI
   have hx : l[k]? = some l[k] := List.getElem?_eq_getElem hk
   have hsz := hs _ (List.getElem_mem hk)
   generalize l[k] = w at hx hsz
   have hr : (!(route_within w.ticket 1 400)) = ((decide (w.ticket < 1)) || (decide ((400 : Int) < w.ticket))) := by
    rw [Bool.eq_iff_iff]
    simp only [route_within, Bool.not_eq_true', Bool.and_eq_false_iff, decide_eq_false_iff_not, Bool.or_eq_true, decide_eq_true_eq]
    omega
   have hr2 : ((((!(route_within w.weight 1 20)) || (!(route_within w.urgency 0 9))) || (!(route_within w.since 0 3000000))) || (!(route_within w.former 0 40))) = (((((((decide (w.weight < 1)) || (decide ((20 : Int) < w.weight))) || (decide (w.urgency < 0))) || (decide ((9 : Int) < w.urgency))) || (!(portref2_IsMoment w.since))) || (decide (w.former < 0))) || (decide ((40 : Int) < w.former))) := by
    rw [Bool.eq_iff_iff]
    simp only [route_within, portref2_IsMoment, Bool.not_eq_true', Bool.and_eq_false_iff, decide_eq_false_iff_not, Bool.or_eq_true, decide_eq_true_eq]
    omega
   have hsl : sliceL l none (some (k : Int)) = some (l.take k) := by
    unfold sliceL bounds
    simp
    omega
   have hb : slices_ContainsFunc_Lroute_Work_route_Work (l.take k) (fun y => some (y.ticket == w.ticket)) = some ((l.take k).any fun y => y.ticket == w.ticket) := by
    unfold slices_ContainsFunc_Lroute_Work_route_Work slices_IndexFunc_Lroute_Work_route_Work
    rw [rangeB_index]
    simp only [Option.bind_some]
    rw [← findIdx_any]
    cases (l.take k).findIdx? fun y => y.ticket == w.ticket <;> rfl
   simp only [idx_nat, hx, Option.bind_some, hr, hr2, hsl, route_CheckWork_1, portref2_WorkFault_1, hb]
   have hnew : (l.take k).any (fun y => y.ticket == w.ticket) = false → ¬ (((decide (w.ticket < 1)) || (decide ((400 : Int) < w.ticket))) = true) → ¬ ((((((((decide (w.weight < 1)) || (decide ((20 : Int) < w.weight))) || (decide (w.urgency < 0))) || (decide ((9 : Int) < w.urgency))) || (!(portref2_IsMoment w.since))) || (decide (w.former < 0))) || (decide ((40 : Int) < w.former))) = true) → w.needs.length ≤ 12 → WorkTo l (k + 1) := by
    intro h1 h2 h3 h4
    refine workTo_succ hI hx ?_ (by simp only [Bool.or_eq_true, decide_eq_true_eq] at h2; omega) (by simp only [portref2_IsMoment, Bool.not_eq_true', Bool.and_eq_false_iff, decide_eq_false_iff_not, Bool.or_eq_true, decide_eq_true_eq] at h3; omega)
    intro i q hi hq e
    rw [List.any_eq_false] at h1
    exact h1 q (List.mem_of_getElem? (by rw [List.getElem?_take, if_pos hi]; exact hq)) (by simpa using e)
   revert hnew
   generalize (l.take k).any (fun y => y.ticket == w.ticket) = b
   intro hnew
   by_cases b1 : ((decide (w.ticket < 1)) || (decide ((400 : Int) < w.ticket))) = true
   ·rw [if_pos b1, if_pos b1]
    exact .inl ⟨2, rfl, rfl, by decide⟩
   rw [if_neg b1, if_neg b1]
   cases b with
   | true => exact .inl ⟨6, rfl, rfl, by decide⟩
   | false =>
    simp only [Bool.false_eq_true, if_false]
    by_cases b2 : (((((((decide (w.weight < 1)) || (decide ((20 : Int) < w.weight))) || (decide (w.urgency < 0))) || (decide ((9 : Int) < w.urgency))) || (!(portref2_IsMoment w.since))) || (decide (w.former < 0))) || (decide ((40 : Int) < w.former))) = true
    ·rw [if_pos b2, if_pos b2]
     exact .inl ⟨2, rfl, rfl, by decide⟩
    rw [if_neg b2, if_neg b2]
    obtain ⟨r, h1, h2⟩ := skills_eq w.needs hsz
    simp only [h1, h2, Option.bind_some]
    by_cases h0 : (r != 0) = true
    ·rw [if_pos h0]
     exact .inl ⟨r, rfl, rfl, by simpa using h0⟩
    ·rw [if_neg h0]
     exact .inr ⟨(), (), rfl, rfl, hnew rfl b1 b2 (skills_len (by rw [h1, show r = 0 by simpa using h0]))⟩) with ⟨r, h1, h2, h3⟩ | ⟨_, _, h1, h2, h3⟩
 ·rw [h1, h2]
  exact ⟨r, rfl, rfl, fun h0 => absurd h0 h3⟩
 ·rw [h1, h2]
  exact ⟨0, rfl, rfl, fun _ => ⟨by omega, h3⟩⟩
end Go.Proofs.YtfbnaobiondblaaGreatDoor.M
namespace Go.Proofs.YtfbnaobiondblaaGreatDoor.M
open Go Go.Pu
set_option linter.unusedSimpArgs false
set_option linter.unusedVariables false
def cmpI (x y : Int) : Int := if x < y then -1 else if y < x then 1 else 0
theorem compare_cmpI (x y : Int) : cmp_Compare_int x y = cmpI x y := compare_val x y
def firstNZ : List Int → Int
 | [] => 0
 | x :: l => if x ≠ 0 then x else firstNZ l
theorem or_val (l : List Int) : cmp_Or_int l = some (firstNZ l) := by
 unfold cmp_Or_int
 have key : ∀ (m : List Int) (k : Nat), forL (R := Int) (fun _ x (_ : Unit) => if (x != 0) = true then some (.rt x) else some (.nx ())) m k () = some (if firstNZ m = 0 then .fin () else .rt (firstNZ m)) := by
  intro m
  induction m with
  | nil => intro k; rfl
  | cons x m ih =>
   intro k
   rw [forL, firstNZ]
   by_cases h : x = 0
   ·subst h
    have e : firstNZ m = (if (0 : Int) ≠ 0 then 0 else firstNZ m) := rfl
    rw [← e, if_neg (show ¬ (((0 : Int) != 0) = true) by decide)]
    exact ih (k + 1)
   ·simp [h]
 rw [rangeB_forL l (fun _ x (_ : Unit) => if (x != 0) = true then some (.rt x) else some (.nx ())) _ (fun k _ x hx => by simp [idx_nat, hx]) (), key]
 by_cases h : firstNZ l = 0
 ·simp [h, Lp.andThen]
 ·simp [h, Lp.andThen]
end Go.Proofs.YtfbnaobiondblaaGreatDoor.M
namespace Go.Proofs.YtfbnaobiondblaaGreatDoor.M
open Go Go.Pu
set_option linter.unusedSimpArgs false
set_option linter.unusedVariables false
def intsN (n : Nat) : List Int := (List.range n).map fun i : Nat => (i : Int)
theorem intsN_get (n j : Nat) : (intsN n)[j]? = if j < n then some (j : Int) else none := by
 unfold intsN
 rw [List.getElem?_map]
 by_cases h : j < n
 ·rw [if_pos h, List.getElem?_range h]; rfl
 ·rw [if_neg h, List.getElem?_eq_none (by simpa using h)]; rfl
theorem intsN_mem {n : Nat} {x : Int} (h : x ∈ intsN n) : ∃ j : Nat, j < n ∧ x = (j : Int) := by
 unfold intsN at h
 obtain ⟨j, hj, rfl⟩ := List.mem_map.1 h
 exact ⟨j, List.mem_range.1 hj, rfl⟩
theorem intsN_succ (n : Nat) : intsN (n + 1) = intsN n ++ [(n : Int)] := by
 unfold intsN
 rw [List.range_succ, List.map_append]
 rfl
theorem intsN_len (n : Nat) : (intsN n).length = n := by simp [intsN]
def before (p q : route_Work) : Prop := q.urgency < p.urgency ∨ p.urgency = q.urgency ∧ (p.since < q.since ∨ p.since = q.since ∧ p.ticket < q.ticket)
theorem order_val (l : List route_Work) (i j : Nat) (p q : route_Work) (hp : l[i]? = some p) (hq : l[j]? = some q) : ∃ c, route_order_1 (i : Int) (j : Int) l = some c ∧ (c < 0 ↔ before p q) := by
 unfold route_order_1
 rw [idx_nat, hp, Option.bind_some, idx_nat, hq, Option.bind_some, or_val]
 refine ⟨_, rfl, ?_⟩
 rw [compare_val, compare_val, compare_val]
 simp only [firstNZ, cmpI, before]
 repeat' split
 all_goals omega
theorem order_ok (l : List route_Work) (h : WorkOK l) : SortOk (fun x y => route_order_1 x y l) (intsN l.length) := by
 have at_ : ∀ x ∈ intsN l.length, ∃ (j : Nat) (w : route_Work), x = (j : Int) ∧ l[j]? = some w := fun x hx => by
  obtain ⟨j, hj, rfl⟩ := intsN_mem hx
  exact ⟨j, _, rfl, List.getElem?_eq_getElem hj⟩
 have lt_ : ∀ (i j : Nat) (p q : route_Work), l[i]? = some p → l[j]? = some q → (cmpLt (fun x y => route_order_1 x y l) (i : Int) (j : Int) = true ↔ before p q) := fun i j p q hp hq => by
  obtain ⟨c, hc, hb⟩ := order_val l i j p q hp hq
  unfold cmpLt
  simp only [hc]
  rw [decide_eq_true_eq]
  exact hb
 refine ⟨by rw [intsN_len]; have := h.1; omega, ?_, ?_, ?_, ?_, ?_⟩
 ·intro x hx y hy
  obtain ⟨i, p, rfl, hp⟩ := at_ x hx
  obtain ⟨j, q, rfl, hq⟩ := at_ y hy
  obtain ⟨c, hc, _⟩ := order_val l i j p q hp hq
  exact ⟨c, hc⟩
 ·intro x hx
  obtain ⟨i, p, rfl, hp⟩ := at_ x hx
  rw [← Bool.not_eq_true, lt_ i i p p hp hp]
  unfold before
  omega
 ·intro x hx y hy z hz
  obtain ⟨i, p, rfl, hp⟩ := at_ x hx
  obtain ⟨j, q, rfl, hq⟩ := at_ y hy
  obtain ⟨k, r, rfl, hr⟩ := at_ z hz
  rw [lt_ i j p q hp hq, lt_ j k q r hq hr, lt_ i k p r hp hr]
  unfold before
  omega
 ·intro x hx y hy z hz
  obtain ⟨i, p, rfl, hp⟩ := at_ x hx
  obtain ⟨j, q, rfl, hq⟩ := at_ y hy
  obtain ⟨k, r, rfl, hr⟩ := at_ z hz
  rw [← Bool.not_eq_true, ← Bool.not_eq_true, ← Bool.not_eq_true, lt_ i j p q hp hq, lt_ j k q r hq hr, lt_ i k p r hp hr]
  unfold before
  omega
 ·intro x hx y hy
  obtain ⟨i, p, rfl, hp⟩ := at_ x hx
  obtain ⟨j, q, rfl, hq⟩ := at_ y hy
  rw [← Bool.not_eq_true, ← Bool.not_eq_true, lt_ i j p q hp hq, lt_ j i q p hq hp]
  intro h1 h2
  have ht : p.ticket = q.ticket := by unfold before at h1 h2; omega
  have hi := (List.getElem?_eq_some_iff.1 hp).1
  have hj := (List.getElem?_eq_some_iff.1 hq).1
  rcases Nat.lt_trichotomy i j with h3 | h3 | h3
  ·exact absurd ht ((h.2 j q hj hq).2.2 i p h3 hp)
  ·rw [h3]
  ·exact absurd ht.symm ((h.2 i p hi hp).2.2 j q h3 hq)
noncomputable def orderL (l : List route_Work) : List Int := (intsN l.length).mergeSort fun x y => !(cmpLt (fun x y => route_order_1 x y l) y x)
theorem sort_val (l : List route_Work) (h : WorkOK l) : sortFuncL (fun x y => route_order_1 x y l) (intsN l.length) = some (orderL l) := by
 unfold sortFuncL
 rw [if_pos (order_ok l h)]
 rfl
theorem route_order_val (l : List route_Work) (h : WorkOK l) : route_order l = some (orderL l) := by
 unfold route_order
 obtain ⟨t, h1, h2⟩ := rangeB_inv (R := List Int) (b := fun k19 s27 => Option.bind (appendL 17592186044416 s27 ([(k19 : Int)] : List Int)) fun x47 => some (.nx x47)) l.length (fun k s => s = intsN k) (s := []) rfl fun k s hk hs => by
  subst hs
  unfold appendL
  rw [if_pos (by rw [intsN_len]; have := h.1; simp; omega)]
  exact ⟨_, rfl, (intsN_succ k).symm⟩
 rw [h1, h2, Option.bind_some, Lp.andThen_fin, sort_val l h]
 rfl
theorem ref_order_val (l : List route_Work) (h : WorkOK l) : portref2_orderOf l = some (orderL l) := by
 unfold portref2_orderOf
 unfold makeL
 have hl := h.1
 rw [if_pos (by constructor <;> omega), Option.bind_some]
 have hz : (List.replicate (l.length : Int).toNat (0 : Int)).length = l.length := by simp
 obtain ⟨t, h1, h2, h3⟩ := rangeB_inv (R := List Int) (b := fun k29 s37 => Option.bind (idx s37 (k29 : Int)) fun x52 => Option.bind (setI s37 (k29 : Int) (k29 : Int)) fun x57 => some (.nx x57)) l.length (fun k s => s.length = l.length ∧ ∀ j, j < k → s[j]? = some (j : Int)) (s := List.replicate (l.length : Int).toNat (0 : Int)) ⟨hz, fun j hj => by omega⟩ fun k s hk hs => by
  obtain ⟨hs1, hs2⟩ := hs
  rw [idx_lt s k (by omega), Option.bind_some]
  unfold setI
  rw [if_pos ⟨by omega, by omega⟩]
  refine ⟨_, rfl, by simpa using hs1, fun j hj => ?_⟩
  rw [List.getElem?_set]
  by_cases hjk : k = j
  ·subst hjk
   simp [hs1, hk]
  ·rw [if_neg (by simpa using hjk)]
   exact hs2 j (by omega)
 have e : t = intsN l.length := by
  apply List.ext_getElem?
  intro j
  rw [intsN_get]
  by_cases hj : j < l.length
  ·rw [if_pos hj, h3 j hj]
  ·rw [if_neg hj, List.getElem?_eq_none (by omega)]
 rw [h1, e, Option.bind_some, Lp.andThen_fin]
 show Option.bind (sortFuncL (fun x y => route_order_1 x y l) (intsN l.length)) _ = _
 rw [sort_val l h]
 rfl
end Go.Proofs.YtfbnaobiondblaaGreatDoor.M
