/-
  Plan and Cover: a plan that is made covers its demand.
-/
import Derived.Test.YtcehkbhloaeflaaDoorTopStaffedTopKept
namespace Go.Proofs.YtcehkbhloaeflaaDoor.M
open Go Go.Pu
set_option linter.unusedSimpArgs false
set_option linter.unusedVariables false

theorem or_int (a b : Int) : cmp_Or_int [a, b] = some (if a ≠ 0 then a else b) := by
  by_cases ha : a = 0 <;> by_cases hb : b = 0 <;> simp [cmp_Or_int, rangeB, idx, ha, hb, Lp.andThen]
theorem or_err (a b : Int) : cmp_Or_api_Errno [a, b] = some (if a ≠ 0 then a else b) := by
  by_cases ha : a = 0 <;> by_cases hb : b = 0 <;> simp [cmp_Or_api_Errno, rangeB, idx, ha, hb, Lp.andThen]

def FormOk (f : staff_Form) : Prop := 0 ≤ f.from_ ∧ f.from_ ≤ 399 ∧ 1 ≤ f.slots ∧ f.slots ≤ 400 - f.from_


theorem forms_ok (l : List staff_Form) : ∃ r, staff_CheckForms l = some r ∧ (r = 0 → l.length ≤ 60 ∧ ∀ f ∈ l, FormOk f) := by
  unfold staff_CheckForms
  by_cases h6 : (60 : Int) < (l.length : Int)
  · simp only [h6, decide_true, if_true]
    exact ⟨_, rfl, fun h => absurd h (by decide)⟩
  simp only [h6, decide_false, Bool.false_eq_true, if_false]
  obtain ⟨x, hx, hq⟩ := rangeB_spec (R := Int) (body := fun k7 (_ : Unit) => Option.bind (idx l (k7 : Int)) fun x27 => if ((!(staff_within x27.from_ 0 399)) || (!(staff_within x27.slots 1 (w64 (400 - x27.from_))))) = true then some (.rt 2) else Option.bind (if (decide ((0 : Int) < (k7 : Int))) = true then (Option.bind (idx l (w64 ((k7 : Int) - 1))) fun x56 => Option.bind (cmp_Or_int ([(cmp_Compare_int x27.from_ x56.from_), (cmp_Compare_int x27.slots x56.slots)] : List Int)) fun x74 => some (decide (x74 ≤ 0))) else (some false)) fun s47 => if s47 = true then some (.rt 5) else some (.nx ()))
    l.length (fun k _ => ∀ j f, j < k → l[j]? = some f → FormOk f) (fun x => (∃ r, x = .rt r ∧ r ≠ 0) ∨ (∃ t, x = .fin t ∧ ∀ j f, j < l.length → l[j]? = some f → FormOk f)) (s := ()) (fun j f h => absurd h (Nat.not_lt_zero _))
    (by
      rintro k _ hk hI
      have hc : l[k]? = some l[k] := List.getElem?_eq_getElem hk
      have hw : w64 ((k : Int) - 1) = (k : Int) - 1 := w64_id (by omega) (by omega)
      rw [idx_lt _ _ hk]
      generalize l[k] = f at hc
      simp only [Option.bind_some, hw]
      by_cases h1 : 0 ≤ f.from_ ∧ f.from_ ≤ 399
      · have hw2 : w64 (400 - f.from_) = 400 - f.from_ := w64_id (by omega) (by omega)
        by_cases h2 : 1 ≤ f.slots ∧ f.slots ≤ 400 - f.from_
        · have e1 : (!(staff_within f.from_ 0 399) || !(staff_within f.slots 1 (w64 (400 - f.from_)))) = false := by rw [hw2]; simp [staff_within]; omega
          simp only [e1, Bool.false_eq_true, if_false]
          obtain ⟨b, s1⟩ : ∃ b : Bool, (if (decide ((0 : Int) < (k : Int))) = true then (Option.bind (idx l ((k : Int) - 1)) fun x57 => Option.bind (cmp_Or_int ([(cmp_Compare_int f.from_ x57.from_), (cmp_Compare_int f.slots x57.slots)] : List Int)) fun x73 => some (decide (x73 ≤ 0))) else (some false)) = some b := by
            by_cases h0 : (0 : Int) < (k : Int)
            · simp only [h0, decide_true, if_true]
              rw [show (k : Int) - 1 = ((k - 1 : Nat) : Int) by omega, idx_lt _ _ (by omega)]
              simp only [Option.bind_some, or_int]
              exact ⟨_, rfl⟩
            · simp only [h0, decide_false, Bool.false_eq_true, if_false]
              exact ⟨_, rfl⟩
          rw [s1]
          cases b with
          | true => exact ⟨.rt 5, rfl, .inl ⟨5, rfl, by decide⟩⟩
          | false =>
            refine ⟨.nx (), rfl, fun j f' hj hf => ?_⟩
            rcases Nat.lt_or_eq_of_le (Nat.le_of_lt_succ hj) with h | rfl
            · exact hI j f' h hf
            · rw [hc] at hf; cases hf; exact ⟨h1.1, h1.2, h2.1, h2.2⟩
        · have e1 : (!(staff_within f.from_ 0 399) || !(staff_within f.slots 1 (w64 (400 - f.from_)))) = true := by rw [hw2]; simp [staff_within]; omega
          simp only [e1, if_true]
          exact ⟨.rt 2, rfl, .inl ⟨2, rfl, by decide⟩⟩
      · have e1 : (!(staff_within f.from_ 0 399) || !(staff_within f.slots 1 (w64 (400 - f.from_)))) = true := by
          have : staff_within f.from_ 0 399 = false := by simp [staff_within]; omega
          rw [this]; rfl
        simp only [e1, if_true]
        exact ⟨.rt 2, rfl, .inl ⟨2, rfl, by decide⟩⟩)
    (fun s h => .inr ⟨s, rfl, h⟩)
  rw [hx]
  rcases hq with ⟨r, rfl, hr⟩ | ⟨t, rfl, h⟩
  · exact ⟨r, rfl, fun h => absurd h hr⟩
  · refine ⟨0, rfl, fun _ => ⟨by omega, fun f hf => ?_⟩⟩
    obtain ⟨j, hj, rfl⟩ := List.mem_iff_getElem.1 hf
    exact h j _ hj (List.getElem?_eq_getElem hj)

theorem numbers_val (l : List Int) (most : Int) : staff_checkNumbers l most = some (if (l.any fun x => !staff_within x 0 most) = true then 2 else 0) := by
  unfold staff_checkNumbers
  rw [rangeB_any l (fun x => !staff_within x 0 most) (2 : Int)]
  cases l.any fun x => !staff_within x 0 most <;> rfl
theorem numbers_in (l : List Int) (most : Int) (h : ∀ c ∈ l, 0 ≤ c ∧ c ≤ most) : staff_checkNumbers l most = some 0 := by
  rw [numbers_val]
  have : (l.any fun x => !staff_within x 0 most) = false := by
    rw [List.any_eq_false]
    intro c hc
    have := h c hc
    simp [staff_within]
    omega
  rw [this]
  rfl
theorem demand_in (l : List Int) (most : Int) (hl : l.length ≤ 400) (h : ∀ c ∈ l, 0 ≤ c ∧ c ≤ most) : staff_checkDemand l most = some 0 := by
  unfold staff_checkDemand
  have e : decide ((400 : Int) < (l.length : Int)) = false := decide_eq_false (by omega)
  simp only [e, Bool.false_eq_true, if_false, numbers_in l most h, Option.bind_some]

/-- the numbers at the places from lo on and before hi, of those before i, grown by c -/
def grown (s : List Int) (lo hi c : Int) (i : Nat) : List Int := s.mapIdx fun j v => if (lo ≤ (j : Int) ∧ (j : Int) < hi) ∧ j < i then w64 (v + c) else v

theorem grown_length (s : List Int) (lo hi c : Int) (i : Nat) : (grown s lo hi c i).length = s.length := by simp [grown]
theorem grown_get (s : List Int) (lo hi c : Int) (i j : Nat) : (grown s lo hi c i)[j]? = s[j]?.map fun v => if (lo ≤ (j : Int) ∧ (j : Int) < hi) ∧ j < i then w64 (v + c) else v := by
  simp [grown]
theorem grown_same (s : List Int) (lo hi c : Int) (i i' : Nat) (h : ∀ j : Nat, j < s.length → lo ≤ (j : Int) → (j : Int) < hi → (j < i ↔ j < i')) : grown s lo hi c i = grown s lo hi c i' := by
  apply List.ext_getElem?
  intro j
  rw [grown_get, grown_get]
  rcases Nat.lt_or_ge j s.length with hj | hj
  · rw [List.getElem?_eq_getElem hj]
    simp only [Option.map_some, Option.some.injEq]
    by_cases hp : lo ≤ (j : Int) ∧ (j : Int) < hi
    · have := h j hj hp.1 hp.2
      simp only [hp, true_and, and_self]
      by_cases h1 : j < i
      · simp [h1, this.1 h1]
      · simp [h1, mt this.2 h1]
    · simp [hp]
  · rw [List.getElem?_eq_none hj]
    rfl
theorem grown_zero (s : List Int) (lo hi c : Int) (i : Nat) (h : (i : Int) ≤ lo) : grown s lo hi c i = s := by
  apply List.ext_getElem?
  intro j
  rw [grown_get]
  cases s[j]? with
  | none => rfl
  | some v =>
    simp only [Option.map_some]
    rw [if_neg (by omega)]
theorem grown_step (s : List Int) (lo hi c : Int) (i : Nat) (hi' : i < s.length) (h1 : lo ≤ (i : Int)) (h2 : (i : Int) < hi) :
    ∃ v, idx (grown s lo hi c i) (i : Int) = some v ∧ setI (grown s lo hi c i) (i : Int) (w64 (v + c)) = some (grown s lo hi c (i + 1)) := by
  refine ⟨s[i], ?_, ?_⟩
  · rw [idx_nat, grown_get, List.getElem?_eq_getElem hi']
    simp
  · rw [setI, if_pos ⟨by omega, by rw [grown_length]; simpa using hi'⟩]
    congr 1
    apply List.ext_getElem?
    intro j
    rw [Int.toNat_natCast, List.getElem?_set, grown_get, grown_get, grown_length]
    by_cases hj : i = j
    · subst hj
      simp [hi', h1, h2]
    · simp only [hj, if_false]
      cases s[j]? with
      | none => rfl
      | some v =>
        simp only [Option.map_some]
        have : (j < i ↔ j < i + 1) := by omega
        simp only [this]

theorem while_one (s0 : List Int) (slots lo hi c : Int) (plan : List Int) (k : Nat) (hpl : plan[k]? = some c) (hs : (s0.length : Int) = slots) (hs4 : slots ≤ 400) (hlo : 0 ≤ lo) (hlo4 : lo ≤ 400) :
    ∃ b : Int, whileB (R := Empty) (fun s74 : List Int × Int => if (decide (s74.2 < (if hi < slots then hi else slots))) = true then Option.bind (idx s74.1 s74.2) fun x89 => Option.bind (idx plan (k : Int)) fun x94 => Option.bind (setI s74.1 s74.2 (w64 (x89 + x94))) fun x105 => some (.nx (x105, w64 (s74.2 + 1))) else some (.bk (s74.1, s74.2))) (s0, lo) = some (.fin (grown s0 lo hi c s0.length, b)) := by
  obtain ⟨r, h, b, rfl⟩ := whileB_spec (R := Empty) (body := fun s74 : List Int × Int => if (decide (s74.2 < (if hi < slots then hi else slots))) = true then Option.bind (idx s74.1 s74.2) fun x89 => Option.bind (idx plan (k : Int)) fun x94 => Option.bind (setI s74.1 s74.2 (w64 (x89 + x94))) fun x105 => some (.nx (x105, w64 (s74.2 + 1))) else some (.bk (s74.1, s74.2)))
    (fun s => ∃ i : Nat, s = (grown s0 lo hi c i, (i : Int)) ∧ lo ≤ (i : Int) ∧ i ≤ 400) (fun s => 400 - s.2.toNat)
    (fun r => ∃ b, r = .fin (grown s0 lo hi c s0.length, b)) (s := (s0, lo))
    ⟨lo.toNat, by rw [grown_zero _ _ _ _ _ (by omega), Int.toNat_of_nonneg hlo], by omega, by omega⟩ (by
      rintro _ ⟨i, rfl, h1, h2⟩
      simp only
      by_cases hc : (i : Int) < (if hi < slots then hi else slots)
      · have hc2 : (i : Int) < hi ∧ (i : Int) < slots := by split at hc <;> omega
        obtain ⟨v, e1, e2⟩ := grown_step s0 lo hi c i (by omega) h1 hc2.1
        simp only [hc, decide_true, if_true, e1, e2, idx_nat, hpl, Option.bind_some]
        rw [w64_id (by omega) (by omega)]
        refine ⟨_, rfl, ⟨i + 1, by congr 1, by omega, by omega⟩, by simp only; omega⟩
      · simp only [hc, decide_false, Bool.false_eq_true, if_false]
        refine ⟨_, rfl, (i : Int), ?_⟩
        rw [grown_same s0 lo hi c i s0.length]
        intro j hj h3 h4
        split at hc <;> omega)
  exact ⟨b, h⟩
/-- what the forms give at slot j -/
def share (j : Nat) (x : staff_Form × Int) : Int := if x.1.from_ ≤ (j : Int) ∧ (j : Int) < x.1.from_ + x.1.slots then x.2 else 0
def cov (forms : List staff_Form) (plan : List Int) (j : Nat) : Int := ((forms.zip plan).map (share j)).sum
def covTo (forms : List staff_Form) (plan : List Int) (k j : Nat) : Int := (((forms.zip plan).take k).map (share j)).sum

theorem covTo_succ (forms : List staff_Form) (plan : List Int) (k j : Nat) (f : staff_Form) (c : Int) (hf : forms[k]? = some f) (hc : plan[k]? = some c) : covTo forms plan (k + 1) j = covTo forms plan k j + share j (f, c) := by
  have : (forms.zip plan)[k]? = some (f, c) := by
    rw [List.getElem?_zip_eq_some]
    exact ⟨hf, hc⟩
  unfold covTo
  rw [List.take_add_one, this]
  simp
theorem covTo_bound (forms : List staff_Form) (plan : List Int) (hp : ∀ c ∈ plan, 0 ≤ c ∧ c ≤ 30000) (k j : Nat) : 0 ≤ covTo forms plan k j ∧ covTo forms plan k j ≤ 30000 * (k : Int) := by
  induction k with
  | zero => simp [covTo]
  | succ k ih =>
    cases hz : (forms.zip plan)[k]? with
    | none =>
      have : covTo forms plan (k + 1) j = covTo forms plan k j := by
        unfold covTo
        rw [List.take_add_one, hz]
        simp
      rw [this]
      omega
    | some x =>
      obtain ⟨f, c⟩ := x
      obtain ⟨h1, h2⟩ := List.getElem?_zip_eq_some.1 hz
      rw [covTo_succ forms plan k j f c h1 h2]
      have hc := hp c (List.mem_of_getElem? h2)
      have : 0 ≤ share j (f, c) ∧ share j (f, c) ≤ 30000 := by unfold share; split <;> omega
      omega
theorem cov_bound (forms : List staff_Form) (plan : List Int) (h60 : forms.length ≤ 60) (hp : ∀ c ∈ plan, 0 ≤ c ∧ c ≤ 30000) (j : Nat) : 0 ≤ cov forms plan j ∧ cov forms plan j ≤ 1800000 := by
  have h := covTo_bound forms plan hp forms.length j
  have e : covTo forms plan forms.length j = cov forms plan j := by
    unfold covTo cov
    rw [List.take_of_length_le (by simp; omega)]
  rw [e] at h
  omega


theorem cover_val (forms : List staff_Form) (slots : Int) (plan : List Int) (h0 : 0 ≤ slots) (h4 : slots ≤ 400) (h60 : forms.length ≤ 60) (hf : ∀ f ∈ forms, FormOk f) (hl : plan.length = forms.length) (hp : ∀ c ∈ plan, 0 ≤ c ∧ c ≤ 30000) :
    ∃ r, staff_cover forms slots plan = some r ∧ (r.length : Int) = slots ∧ ∀ j, j < r.length → r[j]? = some (cov forms plan j) := by
  unfold staff_cover
  have hmk : makeL 35184372088832 slots (0 : Int) = some (List.replicate slots.toNat 0) := by rw [makeL, if_pos (by omega)]
  rw [hmk]
  simp only [Option.bind_some]
  obtain ⟨t, e2, ht, hv⟩ := rangeB_inv (R := List Int) forms.length
    (b := fun k14 s22 => Option.bind (Option.bind (idx forms (k14 : Int)) fun x47 => Option.bind (whileB (R := Empty) (fun s72 => if (decide (s72.2 < (if w64 (x47.from_ + x47.slots) < slots then w64 (x47.from_ + x47.slots) else slots))) = true then Option.bind (idx s72.1 s72.2) fun x88 => Option.bind (idx plan (k14 : Int)) fun x93 => Option.bind (setI s72.1 s72.2 (w64 (x88 + x93))) fun x104 => some (.nx (x104, w64 (s72.2 + 1))) else some (.bk (s72.1, s72.2))) (s22, x47.from_)) fun o61 => o61.andThen (fun y => y.elim) fun s62 => some s62.1) fun s38 => some (.nx s38))
    (s := List.replicate slots.toNat (0 : Int)) (fun k s => (s.length : Int) = slots ∧ ∀ j, j < s.length → s[j]? = some (covTo forms plan k j)) ⟨by simp; omega, fun j hj => by simp at hj; simp [hj, covTo]⟩ (by
    rintro k s hk ⟨hs, hv⟩
    have hok := hf _ (List.getElem_mem hk)
    have hfk : forms[k]? = some forms[k] := List.getElem?_eq_getElem hk
    rw [idx_lt _ _ hk]
    generalize forms[k] = f at hok hfk
    obtain ⟨o1, o2, o3, o4⟩ := hok
    have hpk : plan[k]? = some plan[k] := List.getElem?_eq_getElem (by omega)
    have hc := hp _ (List.getElem_mem (show k < plan.length by omega))
    generalize plan[k] = c at hpk hc
    obtain ⟨b2, w2⟩ := while_one s slots f.from_ (w64 (f.from_ + f.slots)) c plan k hpk hs h4 o1 (by omega)
    simp only [Option.bind_some, w2, Lp.andThen_fin]
    refine ⟨_, rfl, by rw [grown_length]; exact hs, fun j hj => ?_⟩
    rw [grown_length] at hj
    rw [grown_get, hv j hj, covTo_succ forms plan k j f c hfk hpk]
    have hb := covTo_bound forms plan hp k j
    simp only [Option.map_some, Option.some.injEq, share, hj, and_true]
    rw [w64_id (n := f.from_ + f.slots) (by omega) (by omega)]
    split
    · rw [w64_id (by omega) (by omega)]
    · omega)
  rw [e2]
  refine ⟨_, rfl, ht, fun j hj => ?_⟩
  rw [hv j hj]
  unfold covTo cov
  rw [List.take_of_length_le (by simp [hl])]
theorem cov_set (forms : List staff_Form) : ∀ (plan : List Int) (k : Nat) (f : staff_Form) (c c' : Int) (j : Nat), forms[k]? = some f → plan[k]? = some c → cov forms (plan.set k c') j = cov forms plan j - share j (f, c) + share j (f, c') := by
  induction forms with
  | nil => intro plan k f c c' j h; simp at h
  | cons g forms ih =>
    intro plan k f c c' j hf hc
    cases plan with
    | nil => simp at hc
    | cons d plan =>
      cases k with
      | zero =>
        simp at hf hc
        subst hf
        subst hc
        simp [cov]
        omega
      | succ k =>
        have := ih plan k f c c' j (by simpa using hf) (by simpa using hc)
        simp only [cov] at this
        simp [cov, this]
        omega

theorem setI_at {l : List Int} {k : Nat} (x : Int) (h : k < l.length) : setI l (k : Int) x = some (l.set k x) := by
  rw [setI, if_pos ⟨by omega, by simpa using h⟩, Int.toNat_natCast]
theorem idx_set (l : List Int) (k : Nat) (x : Int) (h : k < l.length) : idx (l.set k x) (k : Int) = some x := by
  rw [idx_nat, List.getElem?_set]
  simp [h]

def Hs (f : staff_Form) (j : Nat) : Prop := f.from_ ≤ (j : Int) ∧ (j : Int) < f.from_ + f.slots

open Classical in
/-- the form with slot j that ends last, of the first k -/
noncomputable def lngTo (forms : List staff_Form) (j : Nat) : Nat → Int
  | 0 => -1
  | k + 1 => match forms[k]? with
    | none => lngTo forms j k
    | some f => if Hs f j ∧ (lngTo forms j k < 0 ∨ ∃ g, forms[(lngTo forms j k).toNat]? = some g ∧ g.from_ + g.slots < f.from_ + f.slots) then (k : Int) else lngTo forms j k

theorem lng_props (forms : List staff_Form) (j : Nat) : ∀ k, k ≤ forms.length → (lngTo forms j k = -1 ∧ ∀ i f, i < k → forms[i]? = some f → ¬ Hs f j) ∨ (∃ i f, i < k ∧ lngTo forms j k = (i : Int) ∧ forms[i]? = some f ∧ Hs f j)
  | 0, _ => .inl ⟨rfl, fun i f h => absurd h (Nat.not_lt_zero _)⟩
  | k + 1, hk => by
    have ih := lng_props forms j k (by omega)
    have hfk : forms[k]? = some forms[k] := List.getElem?_eq_getElem (by omega)
    generalize forms[k] = f at hfk
    rw [lngTo, hfk]
    simp only
    split
    · rename_i h
      exact .inr ⟨k, f, by omega, rfl, hfk, h.1⟩
    · rename_i h
      rcases ih with ⟨h1, h2⟩ | ⟨i, g, h1, h2, h3, h4⟩
      · refine .inl ⟨h1, fun i g hi hg hh => ?_⟩
        rcases Nat.lt_or_eq_of_le (Nat.le_of_lt_succ hi) with h3 | rfl
        · exact h2 i g h3 hg hh
        · rw [hfk] at hg; cases hg
          exact h ⟨hh, .inl (by omega)⟩
      · exact .inr ⟨i, g, by omega, h2, h3, h4⟩

noncomputable def lng (forms : List staff_Form) (j : Nat) : Int := lngTo forms j forms.length

theorem lng_loop {R : Type} (forms : List staff_Form) (j : Nat) (hj : j ≤ 400) (hf : ∀ f ∈ forms, FormOk f) :
    rangeB (R := R) (fun k6 s12 => Option.bind (Option.bind (idx forms (k6 : Int)) fun x33 => Option.bind (if ((decide (x33.from_ ≤ (j : Int))) && (decide ((j : Int) < (w64 (x33.from_ + x33.slots))))) = true then (Option.bind (if (decide (s12 < 0)) = true then (some true) else (Option.bind (idx forms s12) fun x57 => some (decide ((w64 (x57.from_ + x57.slots)) < (w64 (x33.from_ + x33.slots)))))) fun s54 => some s54) else (some false)) fun s52 => Option.bind (if s52 = true then some (k6 : Int) else some s12) fun s70 => some s70) fun s26 => some (.nx s26)) forms.length 0 (-1) = some (.fin (lng forms j)) := by
  obtain ⟨t, h, rfl⟩ := rangeB_inv (R := R) (b := fun k6 s12 => Option.bind (Option.bind (idx forms (k6 : Int)) fun x33 => Option.bind (if ((decide (x33.from_ ≤ (j : Int))) && (decide ((j : Int) < (w64 (x33.from_ + x33.slots))))) = true then (Option.bind (if (decide (s12 < 0)) = true then (some true) else (Option.bind (idx forms s12) fun x57 => some (decide ((w64 (x57.from_ + x57.slots)) < (w64 (x33.from_ + x33.slots)))))) fun s54 => some s54) else (some false)) fun s52 => Option.bind (if s52 = true then some (k6 : Int) else some s12) fun s70 => some s70) fun s26 => some (.nx s26)) forms.length (fun k s => s = lngTo forms j k) (s := -1) rfl (by
    rintro k _ hk rfl
    have hok := hf _ (List.getElem_mem hk)
    have hfk : forms[k]? = some forms[k] := List.getElem?_eq_getElem hk
    rw [idx_lt _ _ hk, lngTo, hfk]
    generalize forms[k] = f at hok hfk
    obtain ⟨o1, o2, o3, o4⟩ := hok
    have hw : w64 (f.from_ + f.slots) = f.from_ + f.slots := w64_id (by omega) (by omega)
    simp only [Option.bind_some, hw]
    by_cases hh : Hs f j
    · have h1 : (decide (f.from_ ≤ (j : Int)) && decide ((j : Int) < f.from_ + f.slots)) = true := by
        simp only [Bool.and_eq_true, decide_eq_true_eq]; exact hh
      simp only [h1, if_true]
      rcases lng_props forms j k (by omega) with ⟨h2, h3⟩ | ⟨i, g, h2, h3, h4, h5⟩
      · rw [h2]
        simp [hh]
      · have hok' := hf _ (List.mem_of_getElem? h4)
        obtain ⟨q1, q2, q3, q4⟩ := hok'
        have hw' : w64 (g.from_ + g.slots) = g.from_ + g.slots := w64_id (by omega) (by omega)
        have hn : ¬ ((i : Int) < 0) := by omega
        rw [h3]
        simp only [hn, decide_false, Bool.false_eq_true, if_false, idx_nat, h4, Option.bind_some, hw', Int.toNat_natCast, false_or, hh, true_and, Option.some.injEq, exists_eq_left']
        by_cases hlt : g.from_ + g.slots < f.from_ + f.slots
        · simp [hlt]
        · simp [hlt]
    · have h1 : (decide (f.from_ ≤ (j : Int)) && decide ((j : Int) < f.from_ + f.slots)) = false := by
        rw [← Bool.not_eq_true]
        simp only [Bool.and_eq_true, decide_eq_true_eq]; exact hh
      simp [h1, hh])
  exact h

theorem longest_val (forms : List staff_Form) (j : Nat) (hj : j ≤ 400) (hf : ∀ f ∈ forms, FormOk f) : staff_longest forms (j : Int) = some (lng forms j) := by
  unfold staff_longest
  rw [lng_loop forms j hj hf]
  rfl

/-- the loop that lets people be there -/
theorem there_loop {R : Type} (s0 : List Int) (lo hi c : Int) (hs4 : s0.length ≤ 400) (hlo : 0 ≤ lo) (hlo4 : lo ≤ 400) :
    ∃ b : Int, whileB (R := R) (fun s167 : List Int × Int => if (decide (s167.2 < (if hi < (s167.1.length : Int) then hi else (s167.1.length : Int)))) = true then Option.bind (idx s167.1 s167.2) fun x192 => Option.bind (setI s167.1 s167.2 (w64 (x192 + c))) fun x201 => some (.nx (x201, w64 (s167.2 + 1))) else some (.bk (s167.1, s167.2))) (s0, lo) = some (.fin (grown s0 lo hi c s0.length, b)) := by
  obtain ⟨r, h, b, rfl⟩ := whileB_spec (R := R) (body := fun s167 : List Int × Int => if (decide (s167.2 < (if hi < (s167.1.length : Int) then hi else (s167.1.length : Int)))) = true then Option.bind (idx s167.1 s167.2) fun x192 => Option.bind (setI s167.1 s167.2 (w64 (x192 + c))) fun x201 => some (.nx (x201, w64 (s167.2 + 1))) else some (.bk (s167.1, s167.2)))
    (fun s => ∃ i : Nat, s = (grown s0 lo hi c i, (i : Int)) ∧ lo ≤ (i : Int) ∧ i ≤ 400) (fun s => 400 - s.2.toNat)
    (fun r => ∃ b, r = .fin (grown s0 lo hi c s0.length, b)) (s := (s0, lo))
    ⟨lo.toNat, by rw [grown_zero _ _ _ _ _ (by omega), Int.toNat_of_nonneg hlo], by omega, by omega⟩ (by
      rintro _ ⟨i, rfl, h1, h2⟩
      simp only [grown_length]
      by_cases hc : (i : Int) < (if hi < (s0.length : Int) then hi else (s0.length : Int))
      · have hc2 : (i : Int) < hi ∧ i < s0.length := by split at hc <;> omega
        obtain ⟨v, e1, e2⟩ := grown_step s0 lo hi c i hc2.2 h1 hc2.1
        simp only [hc, decide_true, if_true, e1, e2, Option.bind_some]
        rw [w64_id (by omega) (by omega)]
        refine ⟨_, rfl, ⟨i + 1, by congr 1, by omega, by omega⟩, by simp only; omega⟩
      · simp only [hc, decide_false, Bool.false_eq_true, if_false]
        refine ⟨_, rfl, (i : Int), ?_⟩
        rw [grown_same s0 lo hi c i s0.length]
        intro j hj h3 h4
        split at hc <;> omega)
  exact ⟨b, h⟩


theorem plan_spec (forms : List staff_Form) (demand : List Int) (hl4 : demand.length ≤ 400) (hd : ∀ c ∈ demand, 0 ≤ c ∧ c ≤ 60) :
    ∃ x, staff_Plan forms demand = some x ∧ ((x.2 ≠ 0 ∧ x.1 = []) ∨ (x.2 = 0 ∧ staff_CheckForms forms = some 0 ∧ forms.length ≤ 60 ∧ (∀ f ∈ forms, FormOk f) ∧ x.1.length = forms.length ∧ (∀ c ∈ x.1, 0 ≤ c ∧ c ≤ 60) ∧ ∀ j d, demand[j]? = some d → d ≤ cov forms x.1 j)) := by
  unfold staff_Plan
  obtain ⟨r, hr, hok⟩ := forms_ok forms
  simp only [hr, demand_in demand 60 hl4 hd, Option.bind_some, or_err]
  by_cases h0 : r = 0
  rotate_left
  · refine ⟨([], r), ?_, .inl ⟨h0, rfl⟩⟩
    simp [h0]
  subst h0
  obtain ⟨h60, hf⟩ := hok rfl
  simp only [ne_eq, not_true, if_false, bne_self_eq_false, Bool.false_eq_true]
  obtain ⟨x, hx, hq⟩ := rangeB_spec (R := List Int × Int) (body := fun k20 (_ : Unit) => Option.bind (idx demand (k20 : Int)) fun x39 => Option.bind (if (decide ((0 : Int) < x39)) = true then (Option.bind (staff_longest forms (k20 : Int)) fun x52 => some (decide (x52 < 0))) else (some false)) fun s44 => if s44 = true then some (.rt (([] : (List Int)), 7)) else some (.nx ()))
    demand.length (fun k _ => ∀ j d, j < k → demand[j]? = some d → 0 < d → 0 ≤ lng forms j) (fun x => x = .rt ([], 7) ∨ (x = .fin () ∧ ∀ j d, j < demand.length → demand[j]? = some d → 0 < d → 0 ≤ lng forms j)) (s := ()) (fun j d h => absurd h (Nat.not_lt_zero _))
    (by
      rintro k _ hk hI
      have hdk : demand[k]? = some demand[k] := List.getElem?_eq_getElem hk
      rw [idx_lt _ _ hk]
      generalize demand[k] = d at hdk
      simp only [Option.bind_some, longest_val forms k (by omega) hf]
      by_cases h : 0 < d ∧ lng forms k < 0
      · exact ⟨.rt ([], 7), by simp [h.1, h.2], .inl rfl⟩
      · refine ⟨.nx (), ?_, fun j d' hj hd' h0 => ?_⟩
        · by_cases h0 : 0 < d
          · have : ¬ lng forms k < 0 := fun h' => h ⟨h0, h'⟩
            simp [h0, this]
          · simp [h0]
        · rcases Nat.lt_or_eq_of_le (Nat.le_of_lt_succ hj) with h3 | rfl
          · exact hI j d' h3 hd' h0
          · rw [hdk] at hd'; cases hd'
            omega)
    (fun s h => .inr ⟨rfl, h⟩)
  rw [hx]
  rcases hq with rfl | ⟨rfl, hlng⟩
  · exact ⟨([], 7), rfl, .inl ⟨by decide, rfl⟩⟩
  simp only [Option.bind_some, Lp.andThen_fin]
  have hmk : ∀ n : Nat, n ≤ 400 → makeL 35184372088832 (n : Int) (0 : Int) = some (List.replicate n 0) := fun n hn => by rw [makeL, if_pos (by omega), Int.toNat_natCast]
  rw [hmk _ hl4, hmk _ (by omega)]
  simp only [Option.bind_some]
  have cov0 : ∀ j, cov forms (List.replicate forms.length 0) j = 0 := fun j => by
    have : ∀ (fs : List staff_Form), cov fs (List.replicate fs.length 0) j = 0 := by
      intro fs
      induction fs with
      | nil => rfl
      | cons f fs ih =>
        have e : cov (f :: fs) (List.replicate (f :: fs).length 0) j = share j (f, 0) + cov fs (List.replicate fs.length 0) j := by
          rw [List.length_cons, List.replicate_succ]
          simp [cov]
        have e2 : share j (f, 0) = 0 := by unfold share; split <;> rfl
        rw [e, e2, ih]
        rfl
    exact this forms
  obtain ⟨x, hx, hq⟩ := rangeB_spec (R := List Int × Int) (body := fun k78 s88 => Option.bind (α := Lp _ _) (Option.bind (idx demand (k78 : Int)) fun x117 => Option.bind (idx s88.2 (k78 : Int)) fun x121 => if (decide ((w64 (x117 - x121)) ≤ 0)) = true then some (.fin (s88.1, s88.2)) else Option.bind (staff_longest forms (k78 : Int)) fun x128 => Option.bind (idx s88.1 x128) fun x132 => Option.bind (setI s88.1 x128 (w64 (x132 + (w64 (x117 - x121))))) fun x141 => Option.bind (idx x141 x128) fun x145 => if (decide ((60 : Int) < x145)) = true then some (.rt (([] : (List Int)), 4)) else Option.bind (idx forms x128) fun x151 => Option.bind (whileB (fun s167 => if (decide (s167.2 < (if w64 (x151.from_ + x151.slots) < (s167.1.length : Int) then w64 (x151.from_ + x151.slots) else (s167.1.length : Int)))) = true then Option.bind (idx s167.1 s167.2) fun x192 => Option.bind (setI s167.1 s167.2 (w64 (x192 + (w64 (x117 - x121))))) fun x201 => some (.nx (x201, w64 (s167.2 + 1))) else some (.bk (s167.1, s167.2))) (s88.2, x151.from_)) fun o156 => o156.andThen (fun y => some (.rt y)) fun s157 => some (.fin (x141, s157.1))) fun o105 => o105.andThen (fun y => some (.rt y)) fun s106 => some (.nx (s106.1, s106.2)))
    demand.length (fun k s => s.1.length = forms.length ∧ (∀ c ∈ s.1, 0 ≤ c ∧ c ≤ 60) ∧ s.2.length = demand.length ∧ (∀ j, j < demand.length → s.2[j]? = some (cov forms s.1 j)) ∧ ∀ j d, j < k → demand[j]? = some d → d ≤ cov forms s.1 j)
    (fun x => (∃ e, x = .rt ([], e) ∧ e ≠ 0) ∨ ∃ s, x = .fin s ∧ s.1.length = forms.length ∧ (∀ c ∈ s.1, 0 ≤ c ∧ c ≤ 60) ∧ ∀ j d, j < demand.length → demand[j]? = some d → d ≤ cov forms s.1 j) (s := (List.replicate forms.length (0 : Int), List.replicate demand.length (0 : Int)))
    ⟨by simp, fun c hc => by have := List.eq_of_mem_replicate hc; omega, by simp, fun j hj => by simp [hj, cov0], fun j d h => absurd h (Nat.not_lt_zero _)⟩
    (by
      rintro k ⟨plan, there⟩ hk ⟨i1, i2, i3, i4, i5⟩
      dsimp only at i1 i2 i3 i4 i5 ⊢
      have hdk : demand[k]? = some demand[k] := List.getElem?_eq_getElem hk
      have hdb := hd _ (List.getElem_mem hk)
      rw [idx_lt _ _ hk]
      generalize demand[k] = d at hdk hdb
      have cb : ∀ j, 0 ≤ cov forms plan j ∧ cov forms plan j ≤ 1800000 := cov_bound forms plan h60 fun c hc => by have := i2 c hc; omega
      have cbk := cb k
      have hw : w64 (d - cov forms plan k) = d - cov forms plan k := w64_id (by omega) (by omega)
      simp only [Option.bind_some, idx_nat, i4 k hk, hw]
      by_cases hm : d - cov forms plan k ≤ 0
      · simp only [decide_eq_true hm, if_true, Option.bind_some, Lp.andThen_fin]
        refine ⟨_, rfl, i1, i2, i3, i4, fun j d' hj hd' => ?_⟩
        rcases Nat.lt_or_eq_of_le (Nat.le_of_lt_succ hj) with h3 | rfl
        · exact i5 j d' h3 hd'
        · rw [hdk] at hd'; cases hd'
          show d ≤ cov forms plan j
          omega
      · simp only [decide_eq_false hm, Bool.false_eq_true, if_false, longest_val forms k (by omega) hf, Option.bind_some]
        have hl0 := hlng k d hk hdk (by omega)
        obtain ⟨i, f, h1, h2, h3, h4⟩ : ∃ i f, i < forms.length ∧ lng forms k = (i : Int) ∧ forms[i]? = some f ∧ Hs f k := by
          rcases lng_props forms k forms.length (Nat.le_refl _) with ⟨h1, _⟩ | h
          · unfold lng at hl0; omega
          · exact h
        have hpi : plan[i]? = some plan[i] := List.getElem?_eq_getElem (by omega)
        have hci := i2 _ (List.getElem_mem (show i < plan.length by omega))
        generalize plan[i] = c at hpi hci
        obtain ⟨o1, o2, o3, o4⟩ := hf _ (List.mem_of_getElem? h3)
        have hw2 : w64 (c + (d - cov forms plan k)) = c + (d - cov forms plan k) := w64_id (by omega) (by omega)
        have hw3 : w64 (f.from_ + f.slots) = f.from_ + f.slots := w64_id (by omega) (by omega)
        simp only [h2, idx_nat, hpi, hw2, Option.bind_some, setI_at _ (show i < plan.length by omega), List.getElem?_set_self (show i < plan.length by omega)]
        by_cases h60b : 60 < c + (d - cov forms plan k)
        · simp only [decide_eq_true h60b, if_true, Option.bind_some, Lp.andThen_rt]
          exact ⟨_, rfl, .inl ⟨4, rfl, by decide⟩⟩
        · simp only [decide_eq_false h60b, Bool.false_eq_true, if_false, h3, hw3, Option.bind_some]
          obtain ⟨b, hb⟩ := there_loop (R := List Int × Int) there f.from_ (f.from_ + f.slots) (d - cov forms plan k) (by omega) o1 (by omega)
          have cs : ∀ j, cov forms (plan.set i (c + (d - cov forms plan k))) j = cov forms plan j + (if f.from_ ≤ (j : Int) ∧ (j : Int) < f.from_ + f.slots then d - cov forms plan k else 0) := fun j => by
            rw [cov_set forms plan i f c _ j h3 hpi, share, share]
            dsimp only
            split <;> omega
          have hmem : ∀ c' ∈ plan.set i (c + (d - cov forms plan k)), 0 ≤ c' ∧ c' ≤ 60 := fun c' hc => by
            rcases List.mem_or_eq_of_mem_set hc with h | h
            · exact i2 c' h
            · omega
          rw [hb]
          simp only [Option.bind_some, Lp.andThen_fin]
          refine ⟨_, rfl, by simpa using i1, hmem, by show (grown _ _ _ _ _).length = _; rw [grown_length]; exact i3, fun j hj => ?_, fun j d' hj hd' => ?_⟩
          · show (grown there f.from_ (f.from_ + f.slots) (d - cov forms plan k) there.length)[j]? = some (cov forms (plan.set i (c + (d - cov forms plan k))) j)
            rw [grown_get, i4 j hj, cs j]
            simp only [Option.map_some, Option.some.injEq, i3, hj, and_true]
            have := cb j
            split
            · rw [w64_id (by omega) (by omega)]
            · omega
          · show d' ≤ cov forms (plan.set i (c + (d - cov forms plan k))) j
            rw [cs j]
            rcases Nat.lt_or_eq_of_le (Nat.le_of_lt_succ hj) with h5 | rfl
            · have := i5 j d' h5 hd'
              split <;> omega
            · rw [hdk] at hd'; cases hd'
              rw [if_pos (show f.from_ ≤ (j : Int) ∧ (j : Int) < f.from_ + f.slots from h4)]
              omega)
    (fun s h => .inr ⟨s, rfl, h.1, h.2.1, h.2.2.2.2⟩)
  rw [hx]
  rcases hq with ⟨e, rfl, he⟩ | ⟨s, rfl, q1, q2, q3⟩
  · exact ⟨([], e), rfl, .inl ⟨he, rfl⟩⟩
  · refine ⟨(s.1, 0), rfl, .inr ⟨rfl, trivial, h60, hf, q1, q2, fun j d hj => q3 j d ?_ hj⟩⟩
    exact (List.getElem?_eq_some_iff.1 hj).1
end Go.Proofs.YtcehkbhloaeflaaDoor.M
