/-
  The order of work: the two sorts agree: plain part.
-/
import Derived.Test.YtgmenjhmnjhgoaaDoorRouteMatchesRouteWork
import Derived.Test.YtgmenjhmnjhgoaaDoorRouteMatchesCmpBase
import Derived.Test.YtgmenjhmnjhgoaaDoorPr
namespace Go.Proofs.YtgmenjhmnjhgoaaDoor.M
open Go Go.Pu
set_option linter.unusedSimpArgs false
set_option linter.unusedVariables false

def intsN (n : Nat) : List Int := (List.range n).map fun i : Nat => (i : Int)
theorem intsN_get (n j : Nat) : (intsN n)[j]? = if j < n then some (j : Int) else none := by
  unfold intsN
  rw [List.getElem?_map]
  by_cases h : j < n
  · rw [if_pos h, List.getElem?_range h]; rfl
  · rw [if_neg h, List.getElem?_eq_none (by simpa using h)]; rfl
theorem intsN_mem {n : Nat} {x : Int} (h : x ∈ intsN n) : ∃ j : Nat, j < n ∧ x = (j : Int) := by
  unfold intsN at h
  obtain ⟨j, hj, rfl⟩ := List.mem_map.1 h
  exact ⟨j, List.mem_range.1 hj, rfl⟩
theorem intsN_succ (n : Nat) : intsN (n + 1) = intsN n ++ [(n : Int)] := by
  unfold intsN
  rw [List.range_succ, List.map_append]
  rfl
theorem intsN_len (n : Nat) : (intsN n).length = n := by simp [intsN]
/-- which work comes first -/
def before (p q : route_Work) : Prop := q.urgency < p.urgency ∨ p.urgency = q.urgency ∧ (p.since < q.since ∨ p.since = q.since ∧ p.ticket < q.ticket)
theorem order_val (l : List route_Work) (i j : Nat) (p q : route_Work) (hp : l[i]? = some p) (hq : l[j]? = some q) : ∃ c, route_order_1 (i : Int) (j : Int) l = some c ∧ (c < 0 ↔ before p q) := by
  unfold route_order_1
  rw [idx_nat, hp, Option.bind_some, idx_nat, hq, Option.bind_some, or_val]
  refine ⟨_, rfl, ?_⟩
  rw [compare_val, compare_val, compare_val]
  simp only [firstNZ, cmpI, before]
  repeat' split
  all_goals omega
theorem order_ok (l : List route_Work) (h : WorkOK l) : SortOk (fun x y => route_order_1 x y l) (intsN l.length) := by
  have at_ : ∀ x ∈ intsN l.length, ∃ (j : Nat) (w : route_Work), x = (j : Int) ∧ l[j]? = some w := fun x hx => by
    obtain ⟨j, hj, rfl⟩ := intsN_mem hx
    exact ⟨j, _, rfl, List.getElem?_eq_getElem hj⟩
  have lt_ : ∀ (i j : Nat) (p q : route_Work), l[i]? = some p → l[j]? = some q → (cmpLt (fun x y => route_order_1 x y l) (i : Int) (j : Int) = true ↔ before p q) := fun i j p q hp hq => by
    obtain ⟨c, hc, hb⟩ := order_val l i j p q hp hq
    unfold cmpLt
    simp only [hc]
    rw [decide_eq_true_eq]
    exact hb
  refine ⟨by rw [intsN_len]; have := h.1; omega, ?_, ?_, ?_, ?_, ?_⟩
  · intro x hx y hy
    obtain ⟨i, p, rfl, hp⟩ := at_ x hx
    obtain ⟨j, q, rfl, hq⟩ := at_ y hy
    obtain ⟨c, hc, _⟩ := order_val l i j p q hp hq
    exact ⟨c, hc⟩
  · intro x hx
    obtain ⟨i, p, rfl, hp⟩ := at_ x hx
    rw [← Bool.not_eq_true, lt_ i i p p hp hp]
    unfold before
    omega
  · intro x hx y hy z hz
    obtain ⟨i, p, rfl, hp⟩ := at_ x hx
    obtain ⟨j, q, rfl, hq⟩ := at_ y hy
    obtain ⟨k, r, rfl, hr⟩ := at_ z hz
    rw [lt_ i j p q hp hq, lt_ j k q r hq hr, lt_ i k p r hp hr]
    unfold before
    omega
  · intro x hx y hy z hz
    obtain ⟨i, p, rfl, hp⟩ := at_ x hx
    obtain ⟨j, q, rfl, hq⟩ := at_ y hy
    obtain ⟨k, r, rfl, hr⟩ := at_ z hz
    rw [← Bool.not_eq_true, ← Bool.not_eq_true, ← Bool.not_eq_true, lt_ i j p q hp hq, lt_ j k q r hq hr, lt_ i k p r hp hr]
    unfold before
    omega
  · intro x hx y hy
    obtain ⟨i, p, rfl, hp⟩ := at_ x hx
    obtain ⟨j, q, rfl, hq⟩ := at_ y hy
    rw [← Bool.not_eq_true, ← Bool.not_eq_true, lt_ i j p q hp hq, lt_ j i q p hq hp]
    intro h1 h2
    have ht : p.ticket = q.ticket := by unfold before at h1 h2; omega
    have hi := (List.getElem?_eq_some_iff.1 hp).1
    have hj := (List.getElem?_eq_some_iff.1 hq).1
    rcases Nat.lt_trichotomy i j with h3 | h3 | h3
    · exact absurd ht ((h.2 j q hj hq).2.2 i p h3 hp)
    · rw [h3]
    · exact absurd ht.symm ((h.2 i p hi hp).2.2 j q h3 hq)
noncomputable def orderL (l : List route_Work) : List Int := (intsN l.length).mergeSort fun x y => !(cmpLt (fun x y => route_order_1 x y l) y x)
theorem sort_val (l : List route_Work) (h : WorkOK l) : sortFuncL (fun x y => route_order_1 x y l) (intsN l.length) = some (orderL l) := by
  unfold sortFuncL
  rw [if_pos (order_ok l h)]
  rfl
theorem route_order_val (l : List route_Work) (h : WorkOK l) : route_order l = some (orderL l) := by
  unfold route_order
  obtain ⟨t, h1, h2⟩ := rangeB_inv (R := List Int) (b := fun k19 s27 => Option.bind (appendL 17592186044416 s27 ([(k19 : Int)] : List Int)) fun x47 => some (.nx x47)) l.length (fun k s => s = intsN k) (s := []) rfl fun k s hk hs => by
    subst hs
    unfold appendL
    rw [if_pos (by rw [intsN_len]; have := h.1; simp; omega)]
    exact ⟨_, rfl, (intsN_succ k).symm⟩
  rw [h1, h2, Option.bind_some, Lp.andThen_fin, sort_val l h]
  rfl
theorem ref_order_val (l : List route_Work) (h : WorkOK l) : portref2_orderOf l = some (orderL l) := by
  unfold portref2_orderOf
  unfold makeL
  have hl := h.1
  rw [if_pos (by constructor <;> omega), Option.bind_some]
  have hz : (List.replicate (l.length : Int).toNat (0 : Int)).length = l.length := by simp
  obtain ⟨t, h1, h2, h3⟩ := rangeB_inv (R := List Int) (b := fun k29 s37 => Option.bind (idx s37 (k29 : Int)) fun x52 => Option.bind (setI s37 (k29 : Int) (k29 : Int)) fun x57 => some (.nx x57)) l.length (fun k s => s.length = l.length ∧ ∀ j, j < k → s[j]? = some (j : Int)) (s := List.replicate (l.length : Int).toNat (0 : Int)) ⟨hz, fun j hj => by omega⟩ fun k s hk hs => by
    obtain ⟨hs1, hs2⟩ := hs
    rw [idx_lt s k (by omega), Option.bind_some]
    unfold setI
    rw [if_pos ⟨by omega, by omega⟩]
    refine ⟨_, rfl, by simpa using hs1, fun j hj => ?_⟩
    rw [List.getElem?_set]
    by_cases hjk : k = j
    · subst hjk
      simp [hs1, hk]
    · rw [if_neg (by simpa using hjk)]
      exact hs2 j (by omega)
  have e : t = intsN l.length := by
    apply List.ext_getElem?
    intro j
    rw [intsN_get]
    by_cases hj : j < l.length
    · rw [if_pos hj, h3 j hj]
    · rw [if_neg hj, List.getElem?_eq_none (by omega)]
  rw [h1, e, Option.bind_some, Lp.andThen_fin]
  show Option.bind (sortFuncL (fun x y => route_order_1 x y l) (intsN l.length)) _ = _
  rw [sort_val l h]
  rfl
theorem equal_ints (l : List Int) : slices_Equal_Lint_int l l = some true := by
  unfold slices_Equal_Lint_int
  rw [if_neg (by simp)]
  obtain ⟨t, h, _⟩ := rangeB_inv (R := Bool) (b := fun k9 _ => Option.bind (idx l (k9 : Int)) fun x29 => Option.bind (idx l (k9 : Int)) fun x33 => if (x29 != x33) = true then some (.rt false) else some (.nx ())) l.length (fun _ _ => True) (s := ()) trivial fun k t hk _ => by
    rw [idx_lt l k hk]
    simp
  rw [h]
  rfl
end Go.Proofs.YtgmenjhmnjhgoaaDoor.M
