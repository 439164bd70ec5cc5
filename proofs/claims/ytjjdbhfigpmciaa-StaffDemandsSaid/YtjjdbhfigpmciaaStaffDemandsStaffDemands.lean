/-
  StaffDemands: the program's answer is the reference's, for all arguments.
-/
import Derived.Test.YtjjdbhfigpmciaaStaffDemandsBigKeep
namespace Go.Proofs.Ytjjdbhfigpmciaa.M
open Go Go.Pu
set_option linter.unusedSimpArgs false
set_option linter.unusedVariables false

theorem load_cases (l : staff_Load) : (LoadOK l ∧ staff_checkLoad l = some 0 ∧ portref2_LoadFault l = some 0) ∨ (staff_checkLoad l = some 2 ∧ portref2_LoadFault l = some 2) := by
  unfold staff_checkLoad portref2_LoadFault
  by_cases h : LoadOK l
  · refine .inl ⟨h, ?_, ?_⟩
    · rw [if_neg]
      obtain ⟨h1, h2, h3, h4, h5, h6⟩ := h
      simp only [staff_within, Bool.or_eq_true, Bool.not_eq_true', Bool.and_eq_false_iff, decide_eq_false_iff_not]
      omega
    · rw [if_neg]
      obtain ⟨h1, h2, h3, h4, h5, h6⟩ := h
      simp only [Bool.or_eq_true, decide_eq_true_eq]
      omega
  · refine .inr ⟨?_, ?_⟩
    · rw [if_pos]
      simp only [staff_within, Bool.or_eq_true, Bool.not_eq_true', Bool.and_eq_false_iff, decide_eq_false_iff_not]
      exact Classical.byContradiction fun hn => h ⟨by omega, by omega, by omega, by omega, by omega, by omega⟩
    · rw [if_pos]
      simp only [Bool.or_eq_true, decide_eq_true_eq]
      exact Classical.byContradiction fun hn => h ⟨by omega, by omega, by omega, by omega, by omega, by omega⟩

theorem prom_cases (p : staff_Promise) : (PromOK p ∧ staff_checkPromise p = some 0 ∧ portref2_PromiseFault p = some 0) ∨ (staff_checkPromise p = some 2 ∧ portref2_PromiseFault p = some 2) := by
  unfold staff_checkPromise portref2_PromiseFault
  by_cases h : PromOK p
  · refine .inl ⟨h, ?_, ?_⟩
    · rw [if_neg]
      obtain ⟨h1, h2, h3, h4, h5, h6, h7, h8⟩ := h
      simp only [staff_within, Bool.or_eq_true, Bool.not_eq_true', Bool.and_eq_false_iff, decide_eq_false_iff_not, decide_eq_true_eq]
      omega
    · rw [if_neg]
      obtain ⟨h1, h2, h3, h4, h5, h6, h7, h8⟩ := h
      simp only [Bool.or_eq_true, decide_eq_true_eq]
      omega
  · refine .inr ⟨?_, ?_⟩
    · rw [if_pos]
      simp only [staff_within, Bool.or_eq_true, Bool.not_eq_true', Bool.and_eq_false_iff, decide_eq_false_iff_not, decide_eq_true_eq]
      exact Classical.byContradiction fun hn => h ⟨by omega, by omega, by omega, by omega, by omega, by omega, by omega, by omega⟩
    · rw [if_pos]
      simp only [Bool.or_eq_true, decide_eq_true_eq]
      exact Classical.byContradiction fun hn => h ⟨by omega, by omega, by omega, by omega, by omega, by omega, by omega, by omega⟩

theorem or2 (a b : Int) : cmp_Or_api_Errno [a, b] = some (if a ≠ 0 then a else b) := by
  by_cases ha : a = 0
  · by_cases hb : b = 0
    · simp [cmp_Or_api_Errno, rangeB, idx, Lp.andThen, ha, hb]
    · simp [cmp_Or_api_Errno, rangeB, idx, Lp.andThen, ha, hb]
  · simp [cmp_Or_api_Errno, rangeB, idx, Lp.andThen, ha]

theorem whileB_nx {S R : Type} {body : S → Option (Ctl S R)} {s s' : S} {r : Lp S R} (h : body s = some (.nx s')) (h' : whileB body s' = some r) : whileB body s = some r := by
  obtain ⟨n, hn⟩ := whileB_iff.1 h'
  exact whileB_iff.2 ⟨n + 1, by rw [whileN, h]; exact hn⟩
theorem whileB_bk {S R : Type} {body : S → Option (Ctl S R)} {s s' : S} (h : body s = some (.bk s')) : whileB body s = some (.fin s') := whileB_iff.2 ⟨1, by rw [whileN, h]⟩
theorem whileB_rt {S R : Type} {body : S → Option (Ctl S R)} {s : S} {r : R} (h : body s = some (.rt r)) : whileB body s = some (.rt r) := whileB_iff.2 ⟨1, by rw [whileN, h]⟩

/-- the least number that keeps the promise, on both sides -/
theorem least_both {l : staff_Load} {p : staff_Promise} (hl : LoadOK l) (hp : PromOK p) :
    ∃ x : Lp Int Int, whileB (R := Int × Int) (fun (s38 : Int) => if (decide (s38 < 61)) = true then Option.bind (staff_Load_keeps l p s38) fun x52 => if x52 = true then some (.rt (s38, 0)) else some (.nx (w64 (s38 + 1))) else some (.bk s38)) 0 = some (match x with | .fin s => .fin s | .rt r => .rt (r, 0)) ∧
      whileB (R := Int) (fun (s23 : Int) => if (decide (s23 < 61)) = true then Option.bind (portref2_keeps l p s23) fun x37 => if x37 = true then some (.rt s23) else some (.nx (w64 (s23 + 1))) else some (.bk s23)) 0 = some x ∧ (∀ r, x = .rt r → 0 ≤ r) := by
  have key : ∀ (d k : Nat), k + d = 61 → ∃ x : Lp Int Int, whileB (R := Int × Int) (fun (s38 : Int) => if (decide (s38 < 61)) = true then Option.bind (staff_Load_keeps l p s38) fun x52 => if x52 = true then some (.rt (s38, 0)) else some (.nx (w64 (s38 + 1))) else some (.bk s38)) (k : Int) = some (match x with | .fin s => .fin s | .rt r => .rt (r, 0)) ∧
      whileB (R := Int) (fun (s23 : Int) => if (decide (s23 < 61)) = true then Option.bind (portref2_keeps l p s23) fun x37 => if x37 = true then some (.rt s23) else some (.nx (w64 (s23 + 1))) else some (.bk s23)) (k : Int) = some x ∧ (∀ r, x = .rt r → 0 ≤ r) := by
    intro d
    induction d with
    | zero =>
      intro k hk
      have e : decide ((k : Int) < 61) = false := decide_eq_false (by omega)
      refine ⟨.fin (k : Int), ?_, ?_, fun r h => by cases h⟩
      · exact whileB_bk (by simp only [e, Bool.false_eq_true, if_false])
      · exact whileB_bk (by simp only [e, Bool.false_eq_true, if_false])
    | succ d ih =>
      intro k hk
      have e : decide ((k : Int) < 61) = true := decide_eq_true (by omega)
      obtain ⟨b, h1, h2⟩ := keeps_both hl hp k (by omega)
      cases b with
      | true =>
        refine ⟨.rt (k : Int), ?_, ?_, fun r h => by cases h; omega⟩
        · exact whileB_rt (by simp only [e, if_true, h1, Option.bind_some])
        · exact whileB_rt (by simp only [e, if_true, h2, Option.bind_some])
      | false =>
        have w : w64 ((k : Int) + 1) = ((k + 1 : Nat) : Int) := by rw [w64_id (by omega) (by omega)]; omega
        obtain ⟨x, i1, i2, i3⟩ := ih (k + 1) (by omega)
        refine ⟨x, ?_, ?_, i3⟩
        · exact whileB_nx (by simp only [e, if_true, h1, Option.bind_some, Bool.false_eq_true, if_false, w]) i1
        · exact whileB_nx (by simp only [e, if_true, h2, Option.bind_some, Bool.false_eq_true, if_false, w]) i2
  exact key 61 0 rfl


/-- the number of one load, on both sides -/
theorem staff_least {l : staff_Load} {p : staff_Promise} (hl : LoadOK l) (h1 : staff_checkLoad l = some 0) (hp : PromOK p) (h2 : staff_checkPromise p = some 0) :
    ∃ r, portref2_least l p = some r ∧ staff_Staff l p = some (if r < 0 then (0, 7) else (r, 0)) := by
  unfold staff_Staff portref2_least
  obtain ⟨x, h3, h4, h5⟩ := least_both hl hp
  simp only [h1, h2, h3, h4, or2, Option.bind_some, ne_eq, not_true_eq_false, if_false, bne_self_eq_false, Bool.false_eq_true]
  cases x with
  | fin s => exact ⟨-1, by simp [Lp.andThen], by simp [Lp.andThen]⟩
  | rt r =>
    have := h5 r rfl
    exact ⟨r, by simp [Lp.andThen], by rw [if_neg (by omega)]; simp [Lp.andThen]⟩

theorem equal_ints (l : List Int) : slices_Equal_Lint_int l l = some true := by
  unfold slices_Equal_Lint_int
  obtain ⟨t, ht, _⟩ := rangeB_inv (R := Bool) (b := fun k9 (_ : Unit) => Option.bind (idx l (k9 : Int)) fun x29 => Option.bind (idx l (k9 : Int)) fun x33 => if (x29 != x33) = true then some (.rt false) else some (.nx ())) l.length (fun _ _ => True) (s := ()) trivial
    (fun k s hk _ => ⟨(), by simp [idx_lt _ _ hk], trivial⟩)
  rw [if_neg (by simp), ht]
  rfl

theorem demand_eq (l : List staff_Load) (p : staff_Promise) : ∃ x, staff_Demand l p = some x ∧ portref2_DemandOf l p = some x := by
  unfold staff_Demand portref2_DemandOf
  by_cases hbig : 400 < (l.length : Int)
  · simp [hbig]
  simp only [decide_eq_false hbig, Bool.false_eq_true, if_false]
  rcases rangeB_sim (R := List Int × Int) (b := fun k13 (_ : Unit) => Option.bind (idx l (k13 : Int)) fun x32 => Option.bind (staff_checkLoad x32) fun x46 => if (x46 != 0) = true then some (.rt (([] : (List Int)), x46)) else some (.nx ()))
    (b' := fun k13 (_ : Unit) => Option.bind (idx l (k13 : Int)) fun x32 => Option.bind (portref2_LoadFault x32) fun x46 => if (x46 != 0) = true then some (.rt (([] : (List Int)), x46)) else some (.nx ()))
    l.length (fun _ => True) (fun k _ _ => ∀ j, j < k → ∀ x, l[j]? = some x → LoadOK x ∧ staff_checkLoad x = some 0) (s := ()) (s' := ()) (fun j hj => absurd hj (Nat.not_lt_zero _))
    (by
      intro k s s' hk hI
      have hx : l[k]? = some l[k] := List.getElem?_eq_getElem hk
      generalize l[k] = x at hx
      simp only [idx_nat, hx, Option.bind_some]
      rcases load_cases x with ⟨hl, e1, e2⟩ | ⟨e1, e2⟩
      · refine .inr ⟨(), (), ?_, ?_, fun j hj y hy => ?_⟩
        · simp [e1]
        · simp [e2]
        · by_cases hjk : j = k
          · subst hjk
            rw [hx] at hy
            obtain rfl := Option.some.inj hy
            exact ⟨hl, e1⟩
          · exact hI j (by omega) y hy
      · exact .inl ⟨_, by simp [e1]; rfl, by simp [e2], trivial⟩) with ⟨r, h1, h2, _⟩ | ⟨_, _, h1, h2, hI⟩
  · rw [h1, h2]
    exact ⟨r, rfl, rfl⟩
  rw [h1, h2]
  simp only [Option.bind_some, Lp.andThen_fin]
  rcases prom_cases p with ⟨hp, e3, e4⟩ | ⟨e3, e4⟩
  · simp only [e3, e4, Option.bind_some, bne_self_eq_false, Bool.false_eq_true, if_false]
    rcases rangeB_sim (R := List Int × Int) (b := fun k63 s72 => Option.bind (idx l (k63 : Int)) fun x87 => Option.bind (staff_Staff x87 p) fun x102 => if (x102.2 != 0) = true then some (.rt (([] : (List Int)), x102.2)) else Option.bind (appendL 17592186044416 s72 ([x102.1] : List Int)) fun x112 => some (.nx x112))
      (b' := fun k63 s72 => Option.bind (idx l (k63 : Int)) fun x87 => Option.bind (portref2_least x87 p) fun x102 => if (decide (x102 < 0)) = true then some (.rt (([] : (List Int)), 7)) else Option.bind (appendL 17592186044416 s72 ([x102] : List Int)) fun x112 => some (.nx x112))
      l.length (fun _ => True) (fun k s s' => s = s' ∧ s.length = k) (s := ([] : List Int)) (s' := ([] : List Int)) ⟨rfl, rfl⟩
      (by
        rintro k s s' hk ⟨rfl, hs⟩
        have hx : l[k]? = some l[k] := List.getElem?_eq_getElem hk
        generalize l[k] = x at hx
        obtain ⟨hl, e1⟩ := hI k hk x hx
        obtain ⟨r, h3, h4⟩ := staff_least hl e1 hp e3
        simp only [idx_nat, hx, Option.bind_some, h3, h4]
        by_cases hr : r < 0
        · exact .inl ⟨([], 7), by simp [hr], by simp [hr], trivial⟩
        · have ha : appendL 17592186044416 s ([r] : List Int) = some (s ++ [r]) := by
            unfold appendL
            rw [if_pos (by simp; omega)]
          exact .inr ⟨s ++ [r], s ++ [r], by simp [hr, ha], by simp [hr, ha], rfl, by simp [hs]⟩) with ⟨r, h1, h2, _⟩ | ⟨t, _, h1, h2, rfl, _⟩
    · rw [h1, h2]
      exact ⟨r, rfl, rfl⟩
    · rw [h1, h2]
      exact ⟨(t, 0), rfl, rfl⟩
  · simp only [e3, e4, Option.bind_some]
    exact ⟨_, rfl, rfl⟩

theorem demands_true (l : List staff_Load) (p : staff_Promise) : portlaw2_StaffDemands l p = some true := by
  unfold portlaw2_StaffDemands
  obtain ⟨x, h1, h2⟩ := demand_eq l p
  simp only [h1, h2, Option.bind_some, equal_ints]
  simp
end Go.Proofs.Ytjjdbhfigpmciaa.M
