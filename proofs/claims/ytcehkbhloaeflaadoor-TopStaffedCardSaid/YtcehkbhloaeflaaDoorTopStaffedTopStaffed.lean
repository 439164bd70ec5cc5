/-
  TopStaffed: a plan for the demand of loads keeps the promise in each slot.
-/
import Derived.Test.YtcehkbhloaeflaaDoorTopStaffedTopPlan
namespace Go.Proofs.YtcehkbhloaeflaaDoor.M
open Go Go.Pu
set_option linter.unusedSimpArgs false
set_option linter.unusedVariables false

theorem load_case (l : staff_Load) : (LoadOK l ∧ staff_checkLoad l = some 0) ∨ staff_checkLoad l = some 2 := by
  unfold staff_checkLoad
  by_cases h : LoadOK l
  · refine .inl ⟨h, ?_⟩
    rw [if_neg]
    obtain ⟨h1, h2, h3, h4, h5, h6⟩ := h
    simp only [staff_within, Bool.or_eq_true, Bool.not_eq_true', Bool.and_eq_false_iff, decide_eq_false_iff_not]
    omega
  · refine .inr ?_
    rw [if_pos]
    simp only [staff_within, Bool.or_eq_true, Bool.not_eq_true', Bool.and_eq_false_iff, decide_eq_false_iff_not]
    exact Classical.byContradiction fun hn => h ⟨by omega, by omega, by omega, by omega, by omega, by omega⟩
theorem prom_case (p : staff_Promise) : (PromOK p ∧ staff_checkPromise p = some 0) ∨ staff_checkPromise p = some 2 := by
  unfold staff_checkPromise
  by_cases h : PromOK p
  · refine .inl ⟨h, ?_⟩
    rw [if_neg]
    obtain ⟨h1, h2, h3, h4, h5, h6, h7, h8⟩ := h
    simp only [staff_within, Bool.or_eq_true, Bool.not_eq_true', Bool.and_eq_false_iff, decide_eq_false_iff_not, decide_eq_true_eq]
    omega
  · refine .inr ?_
    rw [if_pos]
    simp only [staff_within, Bool.or_eq_true, Bool.not_eq_true', Bool.and_eq_false_iff, decide_eq_false_iff_not, decide_eq_true_eq]
    exact Classical.byContradiction fun hn => h ⟨by omega, by omega, by omega, by omega, by omega, by omega, by omega, by omega⟩

theorem err3 (a b c : Int) : cmp_Or_api_Errno [a, b, c] = some (if a ≠ 0 then a else if b ≠ 0 then b else c) := by
  by_cases ha : a = 0 <;> by_cases hb : b = 0 <;> by_cases hc : c = 0 <;> simp [cmp_Or_api_Errno, rangeB, idx, ha, hb, hc, Lp.andThen]

theorem keeps_top {l : staff_Load} {p : staff_Promise} (hl : LoadOK l) (h1 : staff_checkLoad l = some 0) (hp : PromOK p) (h2 : staff_checkPromise p = some 0) (n : Nat) (hn : n ≤ 60) : ∃ b, staff_Keeps l p n = some (b, 0) ∧ (b = true ↔ Kept l p n) := by
  unfold staff_Keeps
  obtain ⟨b, hb, hk⟩ := keeps_val hl hp n hn
  have c1 : staff_checkPeople n = 0 := by
    unfold staff_checkPeople
    rw [if_neg]
    simp only [staff_within, Bool.not_eq_true', Bool.and_eq_false_iff, decide_eq_false_iff_not]
    omega
  refine ⟨b, ?_, hk⟩
  simp [h1, h2, c1, err3, hb]

theorem whileB_nx {S R : Type} {body : S → Option (Ctl S R)} {s s' : S} {r : Lp S R} (h : body s = some (.nx s')) (h' : whileB body s' = some r) : whileB body s = some r := by
  obtain ⟨n, hn⟩ := whileB_iff.1 h'
  exact whileB_iff.2 ⟨n + 1, by rw [whileN, h]; exact hn⟩
theorem whileB_bk {S R : Type} {body : S → Option (Ctl S R)} {s s' : S} (h : body s = some (.bk s')) : whileB body s = some (.fin s') := whileB_iff.2 ⟨1, by rw [whileN, h]⟩
theorem whileB_rt {S R : Type} {body : S → Option (Ctl S R)} {s : S} {r : R} (h : body s = some (.rt r)) : whileB body s = some (.rt r) := whileB_iff.2 ⟨1, by rw [whileN, h]⟩

/-- the least number that keeps the promise -/
theorem staff_spec {l : staff_Load} {p : staff_Promise} (hl : LoadOK l) (h1 : staff_checkLoad l = some 0) (hp : PromOK p) (h2 : staff_checkPromise p = some 0) :
    staff_Staff l p = some (0, 7) ∨ ∃ d : Nat, d ≤ 60 ∧ staff_Staff l p = some ((d : Int), 0) ∧ Kept l p d ∧ ∀ m, m < d → ¬ Kept l p m := by
  unfold staff_Staff
  have key : ∀ (e k : Nat), k + e = 61 → (∀ m, m < k → ¬ Kept l p m) → (∃ s, whileB (R := Int × Int) (fun (s38 : Int) => if (decide (s38 < 61)) = true then Option.bind (staff_Load_keeps l p s38) fun x52 => if x52 = true then some (.rt (s38, 0)) else some (.nx (w64 (s38 + 1))) else some (.bk s38)) (k : Int) = some (.fin s)) ∨
      ∃ d : Nat, d ≤ 60 ∧ whileB (R := Int × Int) (fun (s38 : Int) => if (decide (s38 < 61)) = true then Option.bind (staff_Load_keeps l p s38) fun x52 => if x52 = true then some (.rt (s38, 0)) else some (.nx (w64 (s38 + 1))) else some (.bk s38)) (k : Int) = some (.rt ((d : Int), 0)) ∧ Kept l p d ∧ ∀ m, m < d → ¬ Kept l p m := by
    intro e
    induction e with
    | zero =>
      intro k hk _
      have e : decide ((k : Int) < 61) = false := decide_eq_false (by omega)
      exact .inl ⟨(k : Int), whileB_bk (by simp only [e, Bool.false_eq_true, if_false])⟩
    | succ e ih =>
      intro k hk hno
      have e1 : decide ((k : Int) < 61) = true := decide_eq_true (by omega)
      obtain ⟨b, hb, hiff⟩ := keeps_val hl hp k (by omega)
      cases b with
      | true => exact .inr ⟨k, by omega, whileB_rt (by simp only [e1, if_true, hb, Option.bind_some]), hiff.1 rfl, hno⟩
      | false =>
        have w : w64 ((k : Int) + 1) = ((k + 1 : Nat) : Int) := by rw [w64_id (by omega) (by omega)]; omega
        have hno' : ∀ m, m < k + 1 → ¬ Kept l p m := fun m hm hk' => by
          rcases Nat.lt_or_eq_of_le (Nat.le_of_lt_succ hm) with h | rfl
          · exact hno m h hk'
          · have := hiff.2 hk'
            cases this
        have hstep : (if (decide ((k : Int) < 61)) = true then Option.bind (staff_Load_keeps l p (k : Int)) fun x52 => if x52 = true then some (Ctl.rt (S := Int) (R := Int × Int) ((k : Int), 0)) else some (.nx (w64 ((k : Int) + 1))) else some (.bk (k : Int))) = some (.nx ((k + 1 : Nat) : Int)) := by
          simp only [e1, if_true, hb, Option.bind_some, Bool.false_eq_true, if_false, w]
        rcases ih (k + 1) (by omega) hno' with ⟨s, hs⟩ | ⟨d, d1, d2, d3, d4⟩
        · exact .inl ⟨s, whileB_nx hstep hs⟩
        · exact .inr ⟨d, d1, whileB_nx hstep d2, d3, d4⟩
  simp only [h1, h2, or_err, Option.bind_some, ne_eq, not_true_eq_false, if_false, bne_self_eq_false, Bool.false_eq_true]
  rcases key 61 0 rfl (fun m hm => absurd hm (Nat.not_lt_zero _)) with ⟨s, hs⟩ | ⟨d, d1, d2, d3, d4⟩
  · have hs' := hs
    simp only [Int.natCast_zero] at hs'
    rw [hs']
    exact .inl rfl
  · have hs' := d2
    simp only [Int.natCast_zero] at hs'
    rw [hs']
    exact .inr ⟨d, d1, rfl, d3, d4⟩

theorem demand_spec (l : List staff_Load) (p : staff_Promise) : ∃ x, staff_Demand l p = some x ∧ ((x.2 ≠ 0 ∧ x.1 = []) ∨ (x.2 = 0 ∧ l.length ≤ 400 ∧ PromOK p ∧ staff_checkPromise p = some 0 ∧ x.1.length = l.length ∧
    ∀ (j : Nat) (y : staff_Load), l[j]? = some y → LoadOK y ∧ staff_checkLoad y = some 0 ∧ ∃ d : Nat, d ≤ 60 ∧ x.1[j]? = some (d : Int) ∧ Kept y p d ∧ ∀ m, m < d → ¬ Kept y p m)) := by
  unfold staff_Demand
  by_cases hbig : 400 < (l.length : Int)
  · exact ⟨([], 4), by simp [hbig], .inl ⟨by decide, rfl⟩⟩
  simp only [decide_eq_false hbig, Bool.false_eq_true, if_false]
  obtain ⟨x, hx, hq⟩ := rangeB_spec (R := List Int × Int) (body := fun k13 (_ : Unit) => Option.bind (idx l (k13 : Int)) fun x32 => Option.bind (staff_checkLoad x32) fun x46 => if (x46 != 0) = true then some (.rt (([] : (List Int)), x46)) else some (.nx ()))
    l.length (fun k _ => ∀ (j : Nat), j < k → ∀ x : staff_Load, l[j]? = some x → LoadOK x ∧ staff_checkLoad x = some 0) (fun x => x = .rt ([], 2) ∨ (x = .fin () ∧ ∀ (j : Nat), j < l.length → ∀ x : staff_Load, l[j]? = some x → LoadOK x ∧ staff_checkLoad x = some 0)) (s := ()) (fun j hj => absurd hj (Nat.not_lt_zero _))
    (by
      rintro k _ hk hI
      have hx : l[k]? = some l[k] := List.getElem?_eq_getElem hk
      generalize l[k] = x at hx
      simp only [idx_nat, hx, Option.bind_some]
      rcases load_case x with ⟨hl, e1⟩ | e1
      · refine ⟨.nx (), by simp [e1], fun j hj y hy => ?_⟩
        by_cases hjk : j = k
        · subst hjk
          rw [hx] at hy
          obtain rfl := Option.some.inj hy
          exact ⟨hl, e1⟩
        · exact hI j (by omega) y hy
      · exact ⟨.rt ([], 2), by simp [e1], .inl rfl⟩)
    (fun s h => .inr ⟨rfl, h⟩)
  rw [hx]
  rcases hq with rfl | ⟨rfl, hI⟩
  · exact ⟨([], 2), rfl, .inl ⟨by decide, rfl⟩⟩
  simp only [Option.bind_some, Lp.andThen_fin]
  rcases prom_case p with ⟨hp, e3⟩ | e3
  · simp only [e3, Option.bind_some, bne_self_eq_false, Bool.false_eq_true, if_false]
    obtain ⟨x, hx, hq⟩ := rangeB_spec (R := List Int × Int) (body := fun k63 s72 => Option.bind (idx l (k63 : Int)) fun x87 => Option.bind (staff_Staff x87 p) fun x102 => if (x102.2 != 0) = true then some (.rt (([] : (List Int)), x102.2)) else Option.bind (appendL 17592186044416 s72 ([x102.1] : List Int)) fun x112 => some (.nx x112))
      l.length (fun k s => s.length = k ∧ ∀ (j : Nat) (y : staff_Load), j < k → l[j]? = some y → LoadOK y ∧ staff_checkLoad y = some 0 ∧ ∃ d : Nat, d ≤ 60 ∧ s[j]? = some (d : Int) ∧ Kept y p d ∧ ∀ m, m < d → ¬ Kept y p m)
      (fun x => x = .rt ([], 7) ∨ ∃ s, x = .fin s ∧ s.length = l.length ∧ ∀ (j : Nat) (y : staff_Load), j < l.length → l[j]? = some y → LoadOK y ∧ staff_checkLoad y = some 0 ∧ ∃ d : Nat, d ≤ 60 ∧ s[j]? = some (d : Int) ∧ Kept y p d ∧ ∀ m, m < d → ¬ Kept y p m) (s := ([] : List Int)) ⟨rfl, fun j y h => absurd h (Nat.not_lt_zero _)⟩
      (by
        rintro k s hk ⟨hs, hv⟩
        have hx : l[k]? = some l[k] := List.getElem?_eq_getElem hk
        generalize l[k] = x at hx
        obtain ⟨hl, e1⟩ := hI k hk x hx
        simp only [idx_nat, hx, Option.bind_some]
        rcases staff_spec hl e1 hp e3 with h7 | ⟨d, d1, d2, d3, d4⟩
        · exact ⟨.rt ([], 7), by simp [h7], .inl rfl⟩
        · have ha : appendL 17592186044416 s ([(d : Int)] : List Int) = some (s ++ [(d : Int)]) := by
            unfold appendL
            rw [if_pos (by simp; omega)]
          refine ⟨.nx (s ++ [(d : Int)]), by simp [d2, ha], by simp [hs], fun j y hj hy => ?_⟩
          rcases Nat.lt_or_eq_of_le (Nat.le_of_lt_succ hj) with h3 | rfl
          · obtain ⟨q1, q2, d', q3, q4, q5⟩ := hv j y h3 hy
            exact ⟨q1, q2, d', q3, by rw [List.getElem?_append_left (by omega)]; exact q4, q5⟩
          · rw [hx] at hy
            obtain rfl := Option.some.inj hy
            exact ⟨hl, e1, d, d1, by rw [List.getElem?_append_right (by omega), hs]; simp, d3, d4⟩)
      (fun s h => .inr ⟨s, rfl, h.1, h.2⟩)
    rw [hx]
    rcases hq with rfl | ⟨s, rfl, q1, q2⟩
    · exact ⟨([], 7), rfl, .inl ⟨by decide, rfl⟩⟩
    · exact ⟨(s, 0), rfl, .inr ⟨rfl, by omega, hp, trivial, q1, fun j y hy => q2 j y (List.getElem?_eq_some_iff.1 hy).1 hy⟩⟩
  · exact ⟨([], 2), by simp [e3], .inl ⟨by decide, rfl⟩⟩

theorem staffed_true (loads : List staff_Load) (p : staff_Promise) (forms : List staff_Form) : porttop_TopStaffed loads p forms = some true := by
  unfold porttop_TopStaffed
  have ha : porttop_awakeStaff = some true := rfl
  rw [ha]
  simp only [Option.bind_some, Bool.not_true, Bool.false_eq_true, if_false]
  obtain ⟨x, hx, hq⟩ := demand_spec loads p
  rw [hx]
  simp only [Option.bind_some]
  rcases hq with ⟨q1, q2⟩ | ⟨q0, hl4, hp, hpc, hlen, hv⟩
  · rw [q2]
    simp [q1]
  simp only [q0, bne_self_eq_false, Bool.false_eq_true, if_false]
  have hd : ∀ c ∈ x.1, 0 ≤ c ∧ c ≤ 60 := fun c hc => by
    obtain ⟨j, hj, rfl⟩ := List.mem_iff_getElem.1 hc
    obtain ⟨_, _, d, d1, d2, _⟩ := hv j _ (List.getElem?_eq_getElem (show j < loads.length by omega))
    rw [List.getElem?_eq_getElem hj] at d2
    have := Option.some.inj d2
    omega
  obtain ⟨y, hy, hq⟩ := plan_spec forms x.1 (by omega) hd
  rw [hy]
  simp only [Option.bind_some]
  rcases hq with ⟨q1, q2⟩ | ⟨q1, hf0, h60, hf, hpl, hpb, hcov⟩
  · rw [q2]
    simp [q1]
  simp only [q1, bne_self_eq_false, Bool.false_eq_true, if_false]
  obtain ⟨r, hr, hrl, hrv⟩ := cover_val forms (loads.length : Int) y.1 (by omega) (by omega) h60 hf hpl (fun c hc => by have := hpb c hc; omega)
  have hcv : staff_Cover forms (loads.length : Int) y.1 = some (r, 0) := by
    unfold staff_Cover staff_checkPlan
    have e1 : ((y.1.length : Int) != (forms.length : Int)) = false := by
      rw [hpl]
      exact bne_self_eq_false _
    have e2 : (!(staff_within (loads.length : Int) 0 400)) = false := by
      simp [staff_within]
      omega
    simp only [hf0, e1, Bool.false_eq_true, if_false, numbers_in y.1 60 hpb, Option.bind_some, or_err, ne_eq, not_true_eq_false, bne_self_eq_false, e2, hr]
  rw [hcv]
  simp only [Option.bind_some]
  have e1 : (((((0 : Int) != 0) || ((r.length : Int) != (loads.length : Int))) || ((x.1.length : Int) != (loads.length : Int)))) = false := by
    rw [hrl, hlen]
    simp
  rw [e1]
  simp only [Bool.false_eq_true, if_false]
  obtain ⟨t, ht, _⟩ := rangeB_inv (R := Bool) (b := fun k51 (_ : Unit) => Option.bind (α := Lp Unit Bool) (Option.bind (idx loads (k51 : Int)) fun x78 => Option.bind (idx r (k51 : Int)) fun x91 => Option.bind (idx x.1 (k51 : Int)) fun x96 => if (decide (x91 < x96)) = true then some (.rt false) else Option.bind (staff_Keeps x78 p (if 60 < x91 then 60 else x91)) fun x111 => if ((!x111.1) || (x111.2 != 0)) = true then some (.rt false) else Option.bind (α := Lp Unit Bool) (if (decide ((0 : Int) < x96)) = true then Option.bind (staff_Keeps x78 p (w64 (x96 - 1))) fun x137 => if x137.1 = true then some (.rt false) else some (.fin ()) else some (.fin ())) fun o122 => o122.andThen (fun y => some (.rt y)) fun s123 => some (.fin ())) fun o70 => o70.andThen (fun y => some (.rt y)) fun s71 => some (.nx ()))
    loads.length (fun _ _ => True) (s := ()) trivial
    (by
      rintro k _ hk _
      refine ⟨(), ?_, trivial⟩
      have hlk : loads[k]? = some loads[k] := List.getElem?_eq_getElem hk
      generalize loads[k] = l at hlk
      obtain ⟨hl, hlc, d, d1, d2, d3, d4⟩ := hv k l hlk
      have hrk := hrv k (by omega)
      have hge := hcov k d d2
      have hcb := cov_bound forms y.1 h60 (fun c hc => by have := hpb c hc; omega) k
      generalize cov forms y.1 k = c at hrk hge hcb
      obtain ⟨c, rfl⟩ := Int.eq_ofNat_of_zero_le hcb.1
      have hmin : (if (60 : Int) < (c : Int) then 60 else (c : Int)) = ((min c 60 : Nat) : Int) := by split <;> omega
      obtain ⟨b, hb, hbk⟩ := keeps_top hl hlc hp hpc (min c 60) (by omega)
      have hbt : b = true := hbk.2 (kept_mono hl hp (by omega) d3)
      subst hbt
      have e2 : decide ((c : Int) < (d : Int)) = false := decide_eq_false (by omega)
      simp only [idx_nat, hlk, hrk, d2, Option.bind_some, e2, Bool.false_eq_true, if_false, hmin, hb, Bool.not_true, bne_self_eq_false, Bool.or_self]
      by_cases h0 : (0 : Int) < (d : Int)
      · have hw : w64 ((d : Int) - 1) = ((d - 1 : Nat) : Int) := by rw [w64_id (by omega) (by omega)]; omega
        obtain ⟨b2, hb2, hbk2⟩ := keeps_top hl hlc hp hpc (d - 1) (by omega)
        have hbf : b2 = false := by
          cases b2 with
          | false => rfl
          | true => exact absurd (hbk2.1 rfl) (d4 (d - 1) (by omega))
        subst hbf
        simp only [decide_eq_true h0, if_true, hw, hb2, Option.bind_some, Bool.false_eq_true, if_false, Lp.andThen_fin]
      · simp only [decide_eq_false h0, Bool.false_eq_true, if_false, Option.bind_some, Lp.andThen_fin])
  rw [ht]
  rfl
end Go.Proofs.YtcehkbhloaeflaaDoor.M
