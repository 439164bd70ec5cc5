/-
  Plan and its reference agree: plain part.
-/
import Derived.Test.YtlclnbcjebpfkaaPlanMakesPlanMkBase
namespace Go.Proofs.Ytlclnbcjebpfkaa.M
open Go Go.Pu

def Hs (f : staff_Form) (j : Nat) : Prop := f.from_ ≤ (j : Int) ∧ (j : Int) < f.from_ + f.slots

open Classical in
/-- the form with slot j that ends last, of the first k -/
noncomputable def lngTo (forms : List staff_Form) (j : Nat) : Nat → Int
  | 0 => -1
  | k + 1 => match forms[k]? with
    | none => lngTo forms j k
    | some f => if Hs f j ∧ (lngTo forms j k < 0 ∨ ∃ g, forms[(lngTo forms j k).toNat]? = some g ∧ g.from_ + g.slots < f.from_ + f.slots) then (k : Int) else lngTo forms j k

theorem lng_props (forms : List staff_Form) (j : Nat) : ∀ k, k ≤ forms.length → (lngTo forms j k = -1 ∧ ∀ i f, i < k → forms[i]? = some f → ¬ Hs f j) ∨ (∃ i f, i < k ∧ lngTo forms j k = (i : Int) ∧ forms[i]? = some f ∧ Hs f j)
  | 0, _ => .inl ⟨rfl, fun i f h => absurd h (Nat.not_lt_zero _)⟩
  | k + 1, hk => by
    have ih := lng_props forms j k (by omega)
    have hfk : forms[k]? = some forms[k] := List.getElem?_eq_getElem (by omega)
    generalize forms[k] = f at hfk
    rw [lngTo, hfk]
    simp only
    split
    · rename_i h
      exact .inr ⟨k, f, by omega, rfl, hfk, h.1⟩
    · rename_i h
      rcases ih with ⟨h1, h2⟩ | ⟨i, g, h1, h2, h3, h4⟩
      · refine .inl ⟨h1, fun i g hi hg hh => ?_⟩
        rcases Nat.lt_or_eq_of_le (Nat.le_of_lt_succ hi) with h3 | rfl
        · exact h2 i g h3 hg hh
        · rw [hfk] at hg; cases hg
          exact h ⟨hh, .inl (by omega)⟩
      · exact .inr ⟨i, g, by omega, h2, h3, h4⟩

noncomputable def lng (forms : List staff_Form) (j : Nat) : Int := lngTo forms j forms.length

theorem lng_loop {R : Type} (forms : List staff_Form) (j : Nat) (hj : j ≤ 400) (hf : ∀ f ∈ forms, FormOk f) :
    rangeB (R := R) (fun k6 s12 => Option.bind (Option.bind (idx forms (k6 : Int)) fun x33 => Option.bind (if ((decide (x33.from_ ≤ (j : Int))) && (decide ((j : Int) < (w64 (x33.from_ + x33.slots))))) = true then (Option.bind (if (decide (s12 < 0)) = true then (some true) else (Option.bind (idx forms s12) fun x57 => some (decide ((w64 (x57.from_ + x57.slots)) < (w64 (x33.from_ + x33.slots)))))) fun s54 => some s54) else (some false)) fun s52 => Option.bind (if s52 = true then some (k6 : Int) else some s12) fun s70 => some s70) fun s26 => some (.nx s26)) forms.length 0 (-1) = some (.fin (lng forms j)) := by
  obtain ⟨t, h, rfl⟩ := rangeB_inv (R := R) (b := fun k6 s12 => Option.bind (Option.bind (idx forms (k6 : Int)) fun x33 => Option.bind (if ((decide (x33.from_ ≤ (j : Int))) && (decide ((j : Int) < (w64 (x33.from_ + x33.slots))))) = true then (Option.bind (if (decide (s12 < 0)) = true then (some true) else (Option.bind (idx forms s12) fun x57 => some (decide ((w64 (x57.from_ + x57.slots)) < (w64 (x33.from_ + x33.slots)))))) fun s54 => some s54) else (some false)) fun s52 => Option.bind (if s52 = true then some (k6 : Int) else some s12) fun s70 => some s70) fun s26 => some (.nx s26)) forms.length (fun k s => s = lngTo forms j k) (s := -1) rfl (by
    rintro k _ hk rfl
    have hok := hf _ (List.getElem_mem hk)
    have hfk : forms[k]? = some forms[k] := List.getElem?_eq_getElem hk
    rw [idx_lt _ _ hk, lngTo, hfk]
    generalize forms[k] = f at hok hfk
    obtain ⟨o1, o2, o3, o4⟩ := hok
    have hw : w64 (f.from_ + f.slots) = f.from_ + f.slots := w64_id (by omega) (by omega)
    simp only [Option.bind_some, hw]
    by_cases hh : Hs f j
    · have h1 : (decide (f.from_ ≤ (j : Int)) && decide ((j : Int) < f.from_ + f.slots)) = true := by
        simp only [Bool.and_eq_true, decide_eq_true_eq]; exact hh
      simp only [h1, if_true]
      rcases lng_props forms j k (by omega) with ⟨h2, h3⟩ | ⟨i, g, h2, h3, h4, h5⟩
      · rw [h2]
        simp [hh]
      · have hok' := hf _ (List.mem_of_getElem? h4)
        obtain ⟨q1, q2, q3, q4⟩ := hok'
        have hw' : w64 (g.from_ + g.slots) = g.from_ + g.slots := w64_id (by omega) (by omega)
        have hn : ¬ ((i : Int) < 0) := by omega
        rw [h3]
        simp only [hn, decide_false, Bool.false_eq_true, if_false, idx_nat, h4, Option.bind_some, hw', Int.toNat_natCast, false_or, hh, true_and, Option.some.injEq, exists_eq_left']
        by_cases hlt : g.from_ + g.slots < f.from_ + f.slots
        · simp [hlt]
        · simp [hlt]
    · have h1 : (decide (f.from_ ≤ (j : Int)) && decide ((j : Int) < f.from_ + f.slots)) = false := by
        rw [← Bool.not_eq_true]
        simp only [Bool.and_eq_true, decide_eq_true_eq]; exact hh
      simp [h1, hh])
  exact h

theorem longest_val (forms : List staff_Form) (j : Nat) (hj : j ≤ 400) (hf : ∀ f ∈ forms, FormOk f) : staff_longest forms (j : Int) = some (lng forms j) := by
  unfold staff_longest
  rw [lng_loop forms j hj hf]
  rfl

theorem contains_form (s : List staff_Form) (q : staff_Form → Bool) : slices_ContainsFunc_Lstaff_Form_staff_Form s (fun x => some (q x)) = some (s.any q) := by
  unfold slices_ContainsFunc_Lstaff_Form_staff_Form slices_IndexFunc_Lstaff_Form_staff_Form
  rw [rangeB_index, ← findIdx_any]
  cases s.findIdx? q <;> rfl

theorem has_val (forms : List staff_Form) (j : Nat) (hj : j ≤ 400) (hf : ∀ f ∈ forms, FormOk f) :
    ∃ b : Bool, slices_ContainsFunc_Lstaff_Form_staff_Form forms (fun y67 => portref2_PlanOf_2 y67 (fun y68 y69 => portref2_PlanOf_1 y68 y69) (j : Int)) = some b ∧ (!b) = decide (lng forms j < 0) := by
  have e : (fun y67 => portref2_PlanOf_2 y67 (fun y68 y69 => portref2_PlanOf_1 y68 y69) (j : Int)) = fun y => some (decide (y.from_ ≤ (j : Int)) && decide ((j : Int) < w64 (y.from_ + y.slots))) := by
    funext y
    simp [portref2_PlanOf_2, portref2_PlanOf_1]
  rw [e, contains_form]
  refine ⟨_, rfl, ?_⟩
  rw [Bool.eq_iff_iff]
  simp only [Bool.not_eq_true', decide_eq_true_eq, List.any_eq_false, Bool.and_eq_true, not_and]
  rcases lng_props forms j forms.length (Nat.le_refl _) with ⟨h1, h2⟩ | ⟨i, g, h1, h2, h3, h4⟩
  · refine ⟨fun _ => by unfold lng; omega, fun _ f hfm h3 h4 => ?_⟩
    obtain ⟨i, hi, rfl⟩ := List.mem_iff_getElem.1 hfm
    obtain ⟨o1, o2, o3, o4⟩ := hf _ hfm
    rw [w64_id (by omega) (by omega)] at h4
    exact h2 i _ hi (List.getElem?_eq_getElem hi) ⟨h3, h4⟩
  · have hm := List.mem_of_getElem? h3
    obtain ⟨o1, o2, o3, o4⟩ := hf _ hm
    refine ⟨fun h => absurd (h g hm h4.1) ?_, fun h => by unfold lng at h; omega⟩
    rw [w64_id (by omega) (by omega)]
    exact fun h => h h4.2

/-- one slot of the plan -/
noncomputable def stepP (forms : List staff_Form) (k : Nat) (n : Int) (plan : List Int) : List Int :=
  if n - cov forms plan k ≤ 0 then plan else plan.set (lng forms k).toNat (plan[(lng forms k).toNat]?.getD 0 + (n - cov forms plan k))
/-- the plan after k slots -/
noncomputable def itP (forms : List staff_Form) (demand : List Int) : Nat → List Int
  | 0 => List.replicate forms.length 0
  | k + 1 => stepP forms k (demand[k]?.getD 0) (itP forms demand k)

theorem step_len (forms : List staff_Form) (k : Nat) (n : Int) (plan : List Int) : (stepP forms k n plan).length = plan.length := by
  unfold stepP
  split <;> simp
theorem it_len (forms : List staff_Form) (demand : List Int) (k : Nat) : (itP forms demand k).length = forms.length := by
  induction k with
  | zero => simp [itP]
  | succ k ih => rw [itP, step_len, ih]
theorem cov_nonneg (forms : List staff_Form) : ∀ (plan : List Int) (j : Nat), (∀ c ∈ plan, 0 ≤ c) → 0 ≤ cov forms plan j := by
  induction forms with
  | nil => intro plan j _; simp [cov]
  | cons f forms ih =>
    intro plan j hp
    cases plan with
    | nil => simp [cov]
    | cons c plan =>
      have h1 := ih plan j fun c hc => hp c (by simp [hc])
      have h2 := hp c (by simp)
      have h3 : 0 ≤ share j (f, c) := by unfold share; split <;> simp_all
      simp only [cov] at h1
      simp only [cov, List.zip_cons_cons, List.map_cons, List.sum_cons]
      omega
/-- the numbers stay small, and never fall -/
theorem it_bound (forms : List staff_Form) (demand : List Int) (hd : ∀ d ∈ demand, 0 ≤ d ∧ d ≤ 60) : ∀ k, ∀ c ∈ itP forms demand k, 0 ≤ c ∧ c ≤ 60 * (k : Int) := by
  intro k
  induction k with
  | zero => intro c hc; simp [itP] at hc; omega
  | succ k ih =>
    intro c hc
    rw [itP, stepP] at hc
    have hn : demand[k]?.getD 0 ≤ 60 := by
      cases h : demand[k]? with
      | none => simp
      | some d => exact (hd d (List.mem_of_getElem? h)).2
    have h0 := cov_nonneg forms (itP forms demand k) k fun c hc => (ih c hc).1
    split at hc
    · have := ih c hc; omega
    · rcases List.mem_or_eq_of_mem_set hc with h | h
      · have := ih c h; omega
      · cases h2 : (itP forms demand k)[(lng forms k).toNat]? with
        | none => rw [h2] at h; simp only [Option.getD_none] at h; omega
        | some x => have := ih x (List.mem_of_getElem? h2); rw [h2] at h; simp only [Option.getD_some] at h; omega
theorem it_mono (forms : List staff_Form) (demand : List Int) (k : Nat) (i : Nat) (x : Int) (h : (itP forms demand k)[i]? = some x) : ∀ m, ∃ y, (itP forms demand (k + m))[i]? = some y ∧ x ≤ y := by
  intro m
  induction m with
  | zero => exact ⟨x, h, Int.le_refl _⟩
  | succ m ih =>
    obtain ⟨y, h1, h2⟩ := ih
    rw [← Nat.add_assoc, itP, stepP]
    split
    · exact ⟨y, h1, h2⟩
    · rw [List.getElem?_set]
      have hlt := (List.getElem?_eq_some_iff.1 h1).1
      split
      · rename_i h3
        subst h3
        rw [if_pos hlt, h1]
        exact ⟨_, rfl, by simp only [Option.getD_some]; omega⟩
      · exact ⟨y, h1, h2⟩

/-- the loop that lets people be there -/
theorem there_loop {R : Type} (s0 : List Int) (lo hi c : Int) (hs4 : s0.length ≤ 400) (hlo : 0 ≤ lo) (hlo4 : lo ≤ 400) :
    ∃ b : Int, whileB (R := R) (fun s167 : List Int × Int => if (decide (s167.2 < (if hi < (s167.1.length : Int) then hi else (s167.1.length : Int)))) = true then Option.bind (idx s167.1 s167.2) fun x192 => Option.bind (setI s167.1 s167.2 (w64 (x192 + c))) fun x201 => some (.nx (x201, w64 (s167.2 + 1))) else some (.bk (s167.1, s167.2))) (s0, lo) = some (.fin (grown s0 lo hi c s0.length, b)) := by
  obtain ⟨r, h, b, rfl⟩ := whileB_spec (R := R) (body := fun s167 : List Int × Int => if (decide (s167.2 < (if hi < (s167.1.length : Int) then hi else (s167.1.length : Int)))) = true then Option.bind (idx s167.1 s167.2) fun x192 => Option.bind (setI s167.1 s167.2 (w64 (x192 + c))) fun x201 => some (.nx (x201, w64 (s167.2 + 1))) else some (.bk (s167.1, s167.2)))
    (fun s => ∃ i : Nat, s = (grown s0 lo hi c i, (i : Int)) ∧ lo ≤ (i : Int) ∧ i ≤ 400) (fun s => 400 - s.2.toNat)
    (fun r => ∃ b, r = .fin (grown s0 lo hi c s0.length, b)) (s := (s0, lo))
    ⟨lo.toNat, by rw [grown_zero _ _ _ _ _ (by omega), Int.toNat_of_nonneg hlo], by omega, by omega⟩ (by
      rintro _ ⟨i, rfl, h1, h2⟩
      simp only [grown_length]
      by_cases hc : (i : Int) < (if hi < (s0.length : Int) then hi else (s0.length : Int))
      · have hc2 : (i : Int) < hi ∧ i < s0.length := by split at hc <;> omega
        obtain ⟨v, e1, e2⟩ := grown_step s0 lo hi c i hc2.2 h1 hc2.1
        simp only [hc, decide_true, if_true, e1, e2, Option.bind_some]
        rw [w64_id (by omega) (by omega)]
        refine ⟨_, rfl, ⟨i + 1, by congr 1, by omega, by omega⟩, by simp only; omega⟩
      · simp only [hc, decide_false, Bool.false_eq_true, if_false]
        refine ⟨_, rfl, (i : Int), ?_⟩
        rw [grown_same s0 lo hi c i s0.length]
        intro j hj h3 h4
        split at hc <;> omega)
  exact ⟨b, h⟩

theorem set_self {l : List Int} {k : Nat} {x : Int} (h : l[k]? = some x) : l.set k x = l := by
  apply List.ext_getElem?
  intro j
  rw [List.getElem?_set]
  split
  · rename_i hj
    subst hj
    rw [h]
    have := (List.getElem?_eq_some_iff.1 h).1
    simp [this]
  · rfl

/-- the reference's loop within one slot: one person more, until the slot is covered -/
theorem slot_loop (forms : List staff_Form) (plan : List Int) (k : Nat) (n : Int) (hk : k < 400) (h60 : forms.length ≤ 60) (hf : ∀ f ∈ forms, FormOk f) (hl : plan.length = forms.length) (hp : ∀ c ∈ plan, 0 ≤ c ∧ c ≤ 24000) (hn : n ≤ 60) (hlng : 0 < n → 0 ≤ lng forms k) :
    whileB (R := Empty) (fun s157 => Option.bind (portref2_cover forms (w64 ((k : Int) + 1)) s157) fun x170 => Option.bind (idx x170 (k : Int)) fun x178 => if (decide (x178 < n)) = true then Option.bind (rangeB (fun k187 s193 => Option.bind (Option.bind (idx forms (k187 : Int)) fun x214 => Option.bind (portref2_PlanOf_1 x214 (k : Int)) fun x231 => Option.bind (if x231 = true then (Option.bind (if (decide (s193 < 0)) = true then (some true) else (Option.bind (idx forms s193) fun x241 => some (decide ((w64 (x241.from_ + x241.slots)) < (w64 (x214.from_ + x214.slots)))))) fun s238 => some s238) else (some false)) fun s236 => Option.bind (if s236 = true then some (k187 : Int) else some s193) fun s251 => some s251) fun s207 => some (.nx s207)) forms.length 0 (-1)) fun o184 => o184.andThen (fun y => some (.rt y)) fun s185 => Option.bind (idx s157 s185) fun x263 => Option.bind (setI s157 s185 (w64 (x263 + 1))) fun x272 => some (.nx x272) else some (.bk s157)) plan = some (.fin (stepP forms k n plan)) := by
  simp only [portref2_PlanOf_1, Option.bind_some, lng_loop forms k (by omega) hf, Lp.andThen_fin]
  have hw : w64 ((k : Int) + 1) = (k : Int) + 1 := w64_id (by omega) (by omega)
  simp only [hw]
  have c0 := cov_bound forms plan h60 (fun c hc => by have := hp c hc; omega) k
  by_cases hm : n - cov forms plan k ≤ 0
  · rw [stepP, if_pos hm]
    obtain ⟨o, ho, rfl⟩ := whileB_spec (R := Empty) (body := fun s157 : List Int => Option.bind (portref2_cover forms ((k : Int) + 1) s157) fun x170 => Option.bind (idx x170 (k : Int)) fun x178 => if (decide (x178 < n)) = true then Option.bind (idx s157 (lng forms k)) fun x263 => Option.bind (setI s157 (lng forms k) (w64 (x263 + 1))) fun x272 => some (.nx x272) else some (.bk s157))
      (fun s => s = plan) (fun _ => 0) (fun o => o = .fin plan) (s := plan) rfl (by
      intro s hs
      subst hs
      obtain ⟨r, e1, e2, e3⟩ := cover_val forms ((k : Int) + 1) s (by omega) (by omega) h60 hf hl (fun c hc => by have := hp c hc; omega)
      rw [e1]
      have hlt : ¬ cov forms s k < n := by omega
      simp only [Option.bind_some, idx_nat, e3 k (by omega), hlt, decide_false, Bool.false_eq_true, if_false]
      exact ⟨_, rfl, rfl⟩)
    exact ho
  · rw [stepP, if_neg hm]
    have hl0 := hlng (by omega)
    obtain ⟨i, g, i1, i2, i3, i4⟩ : ∃ i f, i < forms.length ∧ lng forms k = (i : Int) ∧ forms[i]? = some f ∧ Hs f k := by
      rcases lng_props forms k forms.length (Nat.le_refl _) with ⟨h1, _⟩ | h
      · unfold lng at hl0; omega
      · exact h
    have hpi : plan[i]? = some plan[i] := List.getElem?_eq_getElem (by omega)
    have hci := hp _ (List.getElem_mem (show i < plan.length by omega))
    generalize plan[i] = c at hpi hci
    rw [i2]
    simp only [Int.toNat_natCast, hpi, Option.getD_some]
    obtain ⟨o, ho, rfl⟩ := whileB_spec (R := Empty) (body := fun s157 : List Int => Option.bind (portref2_cover forms ((k : Int) + 1) s157) fun x170 => Option.bind (idx x170 (k : Int)) fun x178 => if (decide (x178 < n)) = true then Option.bind (idx s157 (i : Int)) fun x263 => Option.bind (setI s157 (i : Int) (w64 (x263 + 1))) fun x272 => some (.nx x272) else some (.bk s157))
      (fun s => ∃ t : Nat, s = plan.set i (c + t) ∧ (t : Int) ≤ n - cov forms plan k) (fun s => (n - cov forms s k).toNat) (fun o => o = .fin (plan.set i (c + (n - cov forms plan k)))) (s := plan) ⟨0, by rw [show c + ((0 : Nat) : Int) = c by omega, set_self hpi], by omega⟩ (by
      rintro _ ⟨t, rfl, ht⟩
      have cs : ∀ c', cov forms (plan.set i c') k = cov forms plan k - c + c' := fun c' => by
        rw [cov_set forms plan i g c c' k i3 hpi, share, share, if_pos (show g.from_ ≤ (k : Int) ∧ (k : Int) < g.from_ + g.slots from i4), if_pos (show g.from_ ≤ (k : Int) ∧ (k : Int) < g.from_ + g.slots from i4)]
      obtain ⟨r, e1, e2, e3⟩ := cover_val forms ((k : Int) + 1) (plan.set i (c + t)) (by omega) (by omega) h60 hf (by simpa using hl) (fun c' hc => by
        rcases List.mem_or_eq_of_mem_set hc with h | h
        · have := hp c' h; omega
        · omega)
      rw [e1]
      simp only [Option.bind_some, idx_nat, e3 k (by omega), cs]
      by_cases hlt : cov forms plan k - c + (c + t) < n
      · simp only [hlt, decide_true, if_true, ← idx_nat, idx_set _ _ _ (show i < plan.length by omega), Option.bind_some]
        rw [setI_at _ (by simpa using (show i < plan.length by omega)), List.set_set, w64_id (by omega) (by omega)]
        refine ⟨_, rfl, ⟨t + 1, by rw [show c + ((t + 1 : Nat) : Int) = c + t + 1 by omega], by omega⟩, ?_⟩
        try rw [cs]
        omega
      · simp only [hlt, decide_false, Bool.false_eq_true, if_false]
        refine ⟨_, rfl, ?_⟩
        rw [show (t : Int) = n - cov forms plan k by omega])
    exact ho

theorem makes_true (forms : List staff_Form) (demand : List Int) : portlaw2_PlanMakes forms demand = some true := by
  have main : ∃ q, staff_Plan forms demand = some q ∧ portref2_PlanOf forms demand = some q := by
    obtain ⟨r1, a1, b1, c1⟩ := forms_eq forms
    obtain ⟨r2, a2, b2, c2⟩ := demand_eq demand 60
    unfold staff_Plan portref2_PlanOf
    simp only [a1, b1, a2, b2, Option.bind_some, or_err]
    by_cases h1 : r1 = 0
    rotate_left
    · have : (r1 != 0) = true := by simpa using h1
      simp only [h1, ne_eq, not_false_eq_true, if_true, this]
      exact ⟨_, rfl, rfl⟩
    by_cases h2 : r2 = 0
    rotate_left
    · have : (r2 != 0) = true := by simpa using h2
      subst h1
      simp only [ne_eq, not_true, if_false, this, if_true, bne_self_eq_false, Bool.false_eq_true]
      exact ⟨_, rfl, rfl⟩
    have hf := c1 h1
    obtain ⟨hl4, hd⟩ := c2 h2
    subst h1 h2
    have h60 : forms.length ≤ 60 := by
      have := a1
      unfold staff_CheckForms at this
      by_cases h : (60 : Int) < (forms.length : Int)
      · simp [h] at this
      · omega
    simp only [ne_eq, not_true, if_false, bne_self_eq_false, Bool.false_eq_true]
    have sim := rangeB_sim (R := List Int × Int) demand.length
      (b := fun k20 (_ : Unit) => Option.bind (idx demand (k20 : Int)) fun x39 => Option.bind (if (decide ((0 : Int) < x39)) = true then (Option.bind (staff_longest forms (k20 : Int)) fun x52 => some (decide (x52 < 0))) else (some false)) fun s44 => if s44 = true then some (.rt (([] : (List Int)), 7)) else some (.nx ()))
      (b' := fun k27 (_ : Unit) => Option.bind (idx demand (k27 : Int)) fun x46 => Option.bind (if (decide ((0 : Int) < x46)) = true then (Option.bind (slices_ContainsFunc_Lstaff_Form_staff_Form forms (fun y67 => portref2_PlanOf_2 y67 (fun y68 y69 => portref2_PlanOf_1 y68 y69) (k27 : Int))) fun x70 => some (!x70)) else (some false)) fun s59 => if s59 = true then some (.rt (([] : (List Int)), 7)) else some (.nx ()))
      (s := ()) (s' := ()) (fun _ => True) (fun k _ _ => ∀ j d, j < k → demand[j]? = some d → 0 < d → 0 ≤ lng forms j) (fun j d h => absurd h (Nat.not_lt_zero _)) (by
      rintro k _ _ hk hI
      have hdk : demand[k]? = some demand[k] := List.getElem?_eq_getElem hk
      rw [idx_lt _ _ hk]
      generalize demand[k] = d at hdk
      obtain ⟨b, e1, e2⟩ := has_val forms k (by omega) hf
      simp only [Option.bind_some, longest_val forms k (by omega) hf, e1, e2]
      by_cases h : 0 < d ∧ lng forms k < 0
      · simp only [h.1, h.2, decide_true, if_true, Option.bind_some]
        exact .inl ⟨_, rfl, rfl, trivial⟩
      · refine .inr ⟨(), (), ?_, ?_, fun j d' hj hd' h0 => ?_⟩
        · by_cases h0 : 0 < d
          · have : ¬ lng forms k < 0 := fun h' => h ⟨h0, h'⟩
            simp [h0, this]
          · simp [h0]
        · by_cases h0 : 0 < d
          · have : ¬ lng forms k < 0 := fun h' => h ⟨h0, h'⟩
            simp [h0, this]
          · simp [h0]
        · rcases Nat.lt_or_eq_of_le (Nat.le_of_lt_succ hj) with h3 | rfl
          · exact hI j d' h3 hd' h0
          · rw [hdk] at hd'; cases hd'
            omega)
    rcases sim with ⟨r, e1, e2, _⟩ | ⟨_, _, e1, e2, hlng⟩
    · rw [e1, e2]
      exact ⟨_, rfl, rfl⟩
    rw [e1, e2]
    simp only [Option.bind_some, Lp.andThen_fin]
    have hmk : ∀ n : Nat, n ≤ 400 → makeL 35184372088832 (n : Int) (0 : Int) = some (List.replicate n 0) := fun n hn => by rw [makeL, if_pos (by omega), Int.toNat_natCast]
    rw [hmk _ hl4, hmk _ (by omega)]
    simp only [Option.bind_some]
    have hpb : ∀ k, k ≤ demand.length → ∀ c ∈ itP forms demand k, 0 ≤ c ∧ c ≤ 24000 := fun k hk c hc => by have := it_bound forms demand hd k c hc; omega
    -- the reference
    obtain ⟨t, ht, rfl⟩ := rangeB_inv (R := List Int × Int) (b := fun k109 s117 => Option.bind (Option.bind (idx demand (k109 : Int)) fun x142 => Option.bind (whileB (R := Empty) (fun s157 => Option.bind (portref2_cover forms (w64 ((k109 : Int) + 1)) s157) fun x170 => Option.bind (idx x170 (k109 : Int)) fun x178 => if (decide (x178 < x142)) = true then Option.bind (rangeB (fun k187 s193 => Option.bind (Option.bind (idx forms (k187 : Int)) fun x214 => Option.bind (portref2_PlanOf_1 x214 (k109 : Int)) fun x231 => Option.bind (if x231 = true then (Option.bind (if (decide (s193 < 0)) = true then (some true) else (Option.bind (idx forms s193) fun x241 => some (decide ((w64 (x241.from_ + x241.slots)) < (w64 (x214.from_ + x214.slots)))))) fun s238 => some s238) else (some false)) fun s236 => Option.bind (if s236 = true then some (k187 : Int) else some s193) fun s251 => some s251) fun s207 => some (.nx s207)) forms.length 0 (-1)) fun o184 => o184.andThen (fun y => some (.rt y)) fun s185 => Option.bind (idx s157 s185) fun x263 => Option.bind (setI s157 s185 (w64 (x263 + 1))) fun x272 => some (.nx x272) else some (.bk s157)) s117) fun o146 => o146.andThen (fun y => y.elim) fun s147 => some s147) fun s133 => some (.nx s133)) demand.length (fun k s => s = itP forms demand k) (s := List.replicate forms.length 0) rfl (by
      rintro k _ hk rfl
      have hdk : demand[k]? = some demand[k] := List.getElem?_eq_getElem hk
      have hdb := hd _ (List.getElem_mem hk)
      rw [idx_lt _ _ hk, itP, hdk]
      generalize demand[k] = d at hdk hdb
      simp only [Option.bind_some, Option.getD_some]
      rw [slot_loop forms (itP forms demand k) k d (by omega) h60 hf (it_len _ _ _) (hpb k (by omega)) hdb.2 (fun h => hlng k d hk hdk h)]
      exact ⟨_, rfl, rfl⟩)
    rw [ht]
    simp only [Option.bind_some, Lp.andThen_fin]
    obtain ⟨ob, ho1, ho2⟩ := numbers_eq (itP forms demand demand.length) 60
    rw [ho2]
    simp only [Option.bind_some]
    -- the program
    obtain ⟨o, hp1, hp2⟩ := rangeB_spec (R := List Int × Int) (body := fun k78 s88 => Option.bind (α := Lp _ _) (Option.bind (idx demand (k78 : Int)) fun x117 => Option.bind (idx s88.2 (k78 : Int)) fun x121 => if (decide ((w64 (x117 - x121)) ≤ 0)) = true then some (.fin (s88.1, s88.2)) else Option.bind (staff_longest forms (k78 : Int)) fun x128 => Option.bind (idx s88.1 x128) fun x132 => Option.bind (setI s88.1 x128 (w64 (x132 + (w64 (x117 - x121))))) fun x141 => Option.bind (idx x141 x128) fun x145 => if (decide ((60 : Int) < x145)) = true then some (.rt (([] : (List Int)), 4)) else Option.bind (idx forms x128) fun x151 => Option.bind (whileB (fun s167 => if (decide (s167.2 < (if w64 (x151.from_ + x151.slots) < (s167.1.length : Int) then w64 (x151.from_ + x151.slots) else (s167.1.length : Int)))) = true then Option.bind (idx s167.1 s167.2) fun x192 => Option.bind (setI s167.1 s167.2 (w64 (x192 + (w64 (x117 - x121))))) fun x201 => some (.nx (x201, w64 (s167.2 + 1))) else some (.bk (s167.1, s167.2))) (s88.2, x151.from_)) fun o156 => o156.andThen (fun y => some (.rt y)) fun s157 => some (.fin (x141, s157.1))) fun o105 => o105.andThen (fun y => some (.rt y)) fun s106 => some (.nx (s106.1, s106.2))) demand.length
      (fun k s => s.1 = itP forms demand k ∧ (∀ c ∈ s.1, c ≤ 60) ∧ s.2.length = demand.length ∧ ∀ j, j < demand.length → s.2[j]? = some (cov forms s.1 j))
      (fun o => (∃ u, o = .fin (itP forms demand demand.length, u) ∧ ∀ c ∈ itP forms demand demand.length, c ≤ 60) ∨ (o = .rt ([], 4) ∧ ∃ k, k ≤ demand.length ∧ ∃ c ∈ itP forms demand k, 60 < c)) (s := (List.replicate forms.length 0, List.replicate demand.length 0))
      ⟨rfl, fun c hc => by simp at hc; omega, by simp, fun j hj => by
        have hz : ∀ (fs : List staff_Form) (n : Nat), cov fs (List.replicate n 0) j = 0 := by
          intro fs
          induction fs with
          | nil => intro n; simp [cov]
          | cons f fs ih =>
            intro n
            cases n with
            | zero => simp [cov]
            | succ n =>
              have := ih n
              simp only [cov] at this
              simp only [cov, List.replicate_succ, List.zip_cons_cons, List.map_cons, List.sum_cons, this, share]
              split <;> rfl
        simp [hj, hz]⟩ (by
      rintro k ⟨p, th⟩ hk ⟨rfl, h6, hlen, hth⟩
      simp only at h6 hlen hth ⊢
      have hdk : demand[k]? = some demand[k] := List.getElem?_eq_getElem hk
      have hdb := hd _ (List.getElem_mem hk)
      rw [idx_lt _ _ hk]
      generalize hdd : demand[k] = d at hdk hdb
      have hpk := hpb k (by omega)
      have hit : itP forms demand (k + 1) = stepP forms k d (itP forms demand k) := by rw [itP, hdk]; rfl
      have hlen0 := it_len forms demand k
      generalize itP forms demand k = p at *
      have c0 := cov_bound forms p h60 (fun c hc => by have := hpk c hc; omega) k
      have hw : w64 (d - cov forms p k) = d - cov forms p k := w64_id (by omega) (by omega)
      simp only [Option.bind_some, idx_nat, hth k hk, hw]
      by_cases hm : d - cov forms p k ≤ 0
      · simp only [hm, decide_true, if_true, Option.bind_some, Lp.andThen_fin]
        have : stepP forms k d p = p := by rw [stepP, if_pos hm]
        rw [this] at hit
        exact ⟨_, rfl, hit.symm, h6, hlen, hth⟩
      · simp only [hm, decide_false, Bool.false_eq_true, if_false, longest_val forms k (by omega) hf, Option.bind_some]
        have hl0 := hlng k d hk hdk (by omega)
        obtain ⟨i, g, i1, i2, i3, i4⟩ : ∃ i f, i < forms.length ∧ lng forms k = (i : Int) ∧ forms[i]? = some f ∧ Hs f k := by
          rcases lng_props forms k forms.length (Nat.le_refl _) with ⟨h1, _⟩ | h
          · unfold lng at hl0; omega
          · exact h
        have hpi : p[i]? = some p[i] := List.getElem?_eq_getElem (by omega)
        have hci := hpk _ (List.getElem_mem (show i < p.length by omega))
        generalize p[i] = c at hpi hci
        have hst : stepP forms k d p = p.set i (c + (d - cov forms p k)) := by rw [stepP, if_neg hm, i2]; simp [hpi]
        rw [hst] at hit
        rw [i2]
        have hw2 : w64 (c + (d - cov forms p k)) = c + (d - cov forms p k) := w64_id (by omega) (by omega)
        simp only [idx_nat, hpi, Option.bind_some, hw2, setI_at _ (show i < p.length by omega), i3]
        have hset : (p.set i (c + (d - cov forms p k)))[i]? = some (c + (d - cov forms p k)) := by simp [show i < p.length by omega]
        rw [hset]
        simp only [Option.bind_some]
        by_cases hb : (60 : Int) < c + (d - cov forms p k)
        · simp only [hb, decide_true, if_true, Option.bind_some, Lp.andThen_rt]
          exact ⟨_, rfl, .inr ⟨rfl, k + 1, by omega, _, by rw [hit]; exact List.mem_of_getElem? hset, hb⟩⟩
        · simp only [hb, decide_false, Bool.false_eq_true, if_false]
          obtain ⟨o1, o2, o3, o4⟩ := hf g (List.mem_of_getElem? i3)
          obtain ⟨b, hwh⟩ := there_loop (R := List Int × Int) th g.from_ (w64 (g.from_ + g.slots)) (d - cov forms p k) (by omega) o1 (by omega)
          simp only [hwh, Option.bind_some, Lp.andThen_fin]
          refine ⟨_, rfl, hit.symm, fun c' hc' => ?_, by rw [grown_length]; exact hlen, fun j hj => ?_⟩
          · rcases List.mem_or_eq_of_mem_set hc' with h | h
            · exact h6 c' h
            · omega
          · simp only
            rw [grown_get, hth j hj, cov_set forms p i g c _ j i3 hpi]
            have cb := cov_bound forms p h60 (fun c hc => by have := hpk c hc; omega) j
            simp only [Option.map_some, Option.some.injEq, share, hlen, hj, and_true]
            rw [w64_id (n := g.from_ + g.slots) (by omega) (by omega)]
            split
            · rw [w64_id (by omega) (by omega)]
              omega
            · omega) (by
      rintro ⟨p, th⟩ ⟨rfl, h6, _⟩
      exact .inl ⟨th, rfl, h6⟩)
    rw [hp1]
    have hob : ob = true ↔ ∃ c ∈ itP forms demand demand.length, 60 < c := by
      constructor
      · intro h
        subst h
        false_or_by_contra
        rename_i hn
        have : staff_checkNumbers (itP forms demand demand.length) 60 = some 0 := by
          unfold staff_checkNumbers
          rw [rangeB_any _ (fun x => !staff_within x 0 60) (2 : Int)]
          have : ((itP forms demand demand.length).any fun x => !staff_within x 0 60) = false := by
            rw [List.any_eq_false]
            intro c hc
            have h0 := hpb _ (Nat.le_refl _) c hc
            have : c ≤ 60 := by false_or_by_contra; exact hn ⟨c, hc, by omega⟩
            simp [staff_within, h0.1, this]
          rw [this]
          rfl
        rw [this] at ho1
        simp at ho1
      · rintro ⟨c, hc, h6⟩
        cases ob with
        | true => rfl
        | false =>
          have := numbers_ok _ 60 ho1 c hc
          omega
    rcases hp2 with ⟨u, rfl, h6⟩ | ⟨rfl, k, hk, c, hc, h6⟩
    · have : ob = false := by
        cases ob with
        | false => rfl
        | true =>
          obtain ⟨c, hc, h⟩ := hob.1 rfl
          have := h6 c hc
          omega
      subst this
      exact ⟨_, rfl, rfl⟩
    · have : ob = true := hob.2 (by
        obtain ⟨i, hi, rfl⟩ := List.mem_iff_getElem.1 hc
        obtain ⟨y, hy, hle⟩ := it_mono forms demand k i _ (List.getElem?_eq_getElem hi) (demand.length - k)
        rw [show k + (demand.length - k) = demand.length by omega] at hy
        exact ⟨y, List.mem_of_getElem? hy, by omega⟩)
      subst this
      exact ⟨_, rfl, rfl⟩
  obtain ⟨q, q1, q2⟩ := main
  have hself : slices_Equal_Lint_int q.1 q.1 = some true := equal_self q.1
  unfold portlaw2_PlanMakes
  simp [q1, q2, hself]
end Go.Proofs.Ytlclnbcjebpfkaa.M
