/-
  Forms, demands, the cover: plain part, for Plan.
-/
import Derived.Test.YtlclnbcjebpfkaaPlanMakesM
import Derived.Test.YtlclnbcjebpfkaaPl
namespace Go.Proofs.Ytlclnbcjebpfkaa.M
open Go Go.Pu

theorem equal_self (l : List Int) : slices_Equal_Lint_int l l = some true := by
  unfold slices_Equal_Lint_int
  simp only [bne_self_eq_false, Bool.false_eq_true, if_false]
  obtain ⟨t, h, _⟩ := rangeB_inv (R := Bool) (b := fun k22 (_ : Unit) => Option.bind (idx l (k22 : Int)) fun x36 => Option.bind (idx l (k22 : Int)) fun x40 => if (x36 != x40) = true then some (.rt false) else some (.nx ())) l.length (fun _ _ => True) (s := ()) trivial
    (fun k s hk _ => by rw [idx_lt _ _ hk]; simp)
  rw [h]
  rfl

theorem compare_swap (a b : Int) : cmp_Compare_int b a = - cmp_Compare_int a b := by
  have h : ∀ x : Int, cmp_isNaN_int x = false := fun x => by simp [cmp_isNaN_int]
  unfold cmp_Compare_int
  simp only [h, Bool.false_eq_true, if_false]
  by_cases h1 : a < b
  · have h2 : ¬ b < a := by omega
    simp [h1, h2]
  · by_cases h2 : b < a <;> simp [h1, h2]
theorem or_int (a b : Int) : cmp_Or_int [a, b] = some (if a ≠ 0 then a else b) := by
  by_cases ha : a = 0 <;> by_cases hb : b = 0 <;> simp [cmp_Or_int, rangeB, idx, ha, hb, Lp.andThen]
theorem or_err (a b : Int) : cmp_Or_api_Errno [a, b] = some (if a ≠ 0 then a else b) := by
  by_cases ha : a = 0 <;> by_cases hb : b = 0 <;> simp [cmp_Or_api_Errno, rangeB, idx, ha, hb, Lp.andThen]

def FormOk (f : staff_Form) : Prop := 0 ≤ f.from_ ∧ f.from_ ≤ 399 ∧ 1 ≤ f.slots ∧ f.slots ≤ 400 - f.from_

theorem forms_eq (l : List staff_Form) : ∃ r, staff_CheckForms l = some r ∧ portref2_FormsFault l = some r ∧ (r = 0 → ∀ f ∈ l, FormOk f) := by
  unfold staff_CheckForms portref2_FormsFault
  by_cases h6 : (60 : Int) < (l.length : Int)
  · simp only [h6, decide_true, if_true]
    exact ⟨_, rfl, rfl, fun h => absurd h (by decide)⟩
  simp only [h6, decide_false, Bool.false_eq_true, if_false]
  have sim := rangeB_sim (R := Int) l.length
    (b := fun k16 (_ : Unit) => Option.bind (idx l (k16 : Int)) fun x30 => if ((!(staff_within x30.from_ 0 399)) || (!(staff_within x30.slots 1 (w64 (400 - x30.from_))))) = true then some (.rt 2) else Option.bind (if (decide ((0 : Int) < (k16 : Int))) = true then (Option.bind (idx l (w64 ((k16 : Int) - 1))) fun x57 => Option.bind (cmp_Or_int ([(cmp_Compare_int x30.from_ x57.from_), (cmp_Compare_int x30.slots x57.slots)] : List Int)) fun x73 => some (decide (x73 ≤ 0))) else (some false)) fun s50 => if s50 = true then some (.rt 5) else some (.nx ()))
    (b' := fun k16 (_ : Unit) => Option.bind (idx l (k16 : Int)) fun x30 => if ((((decide (x30.from_ < 0)) || (decide ((400 : Int) ≤ x30.from_))) || (decide (x30.slots < 1))) || (decide ((w64 (400 - x30.from_)) < x30.slots))) = true then some (.rt 2) else Option.bind (if (decide ((0 : Int) < (k16 : Int))) = true then (Option.bind (idx l (w64 ((k16 : Int) - 1))) fun x64 => Option.bind (cmp_Or_int ([(cmp_Compare_int x64.from_ x30.from_), (cmp_Compare_int x64.slots x30.slots)] : List Int)) fun x81 => some (decide ((0 : Int) ≤ x81))) else (some false)) fun s58 => if s58 = true then some (.rt 5) else some (.nx ()))
    (s := ()) (s' := ()) (fun r => r ≠ 0) (fun k _ _ => ∀ j f, j < k → l[j]? = some f → FormOk f) (fun j f h => absurd h (Nat.not_lt_zero _)) ?_
  · rcases sim with ⟨r, e1, e2, hr⟩ | ⟨t, t', e1, e2, hI⟩
    · rw [e1, e2]
      exact ⟨r, rfl, rfl, fun h => absurd h hr⟩
    · rw [e1, e2]
      refine ⟨0, rfl, rfl, fun _ f hf => ?_⟩
      obtain ⟨j, hj, rfl⟩ := List.mem_iff_getElem.1 hf
      exact hI j _ hj (List.getElem?_eq_getElem hj)
  · rintro k _ _ hk hI
    have hc : l[k]? = some l[k] := List.getElem?_eq_getElem hk
    have hw : w64 ((k : Int) - 1) = (k : Int) - 1 := w64_id (by omega) (by omega)
    rw [idx_lt _ _ hk]
    generalize l[k] = f at hc
    simp only [Option.bind_some, hw]
    by_cases h1 : 0 ≤ f.from_ ∧ f.from_ ≤ 399
    · have hw2 : w64 (400 - f.from_) = 400 - f.from_ := w64_id (by omega) (by omega)
      by_cases h2 : 1 ≤ f.slots ∧ f.slots ≤ 400 - f.from_
      · have e1 : (!(staff_within f.from_ 0 399) || !(staff_within f.slots 1 (w64 (400 - f.from_)))) = false := by rw [hw2]; simp [staff_within]; omega
        have e2 : ((((decide (f.from_ < 0)) || (decide ((400 : Int) ≤ f.from_))) || (decide (f.slots < 1))) || (decide ((w64 (400 - f.from_)) < f.slots))) = false := by rw [hw2]; simp; omega
        simp only [e1, e2, Bool.false_eq_true, if_false]
        have same : ∃ b : Bool, (if (decide ((0 : Int) < (k : Int))) = true then (Option.bind (idx l ((k : Int) - 1)) fun x57 => Option.bind (cmp_Or_int ([(cmp_Compare_int f.from_ x57.from_), (cmp_Compare_int f.slots x57.slots)] : List Int)) fun x73 => some (decide (x73 ≤ 0))) else (some false)) = some b ∧
            (if (decide ((0 : Int) < (k : Int))) = true then (Option.bind (idx l ((k : Int) - 1)) fun x64 => Option.bind (cmp_Or_int ([(cmp_Compare_int x64.from_ f.from_), (cmp_Compare_int x64.slots f.slots)] : List Int)) fun x81 => some (decide ((0 : Int) ≤ x81))) else (some false)) = some b := by
          by_cases h0 : (0 : Int) < (k : Int)
          · simp only [h0, decide_true, if_true]
            rw [show (k : Int) - 1 = ((k - 1 : Nat) : Int) by omega, idx_lt _ _ (by omega)]
            simp only [Option.bind_some, or_int]
            refine ⟨_, rfl, ?_⟩
            rw [compare_swap f.from_, compare_swap f.slots]
            congr 1
            rw [Bool.eq_iff_iff]
            simp only [decide_eq_true_eq]
            split <;> split <;> omega
          · simp only [h0, decide_false, Bool.false_eq_true, if_false]
            exact ⟨_, rfl, rfl⟩
        obtain ⟨b, s1, s2⟩ := same
        rw [s1, s2]
        cases b with
        | true => exact Or.inl ⟨5, rfl, rfl, by decide⟩
        | false =>
          refine Or.inr ⟨(), (), rfl, rfl, fun j f' hj hf => ?_⟩
          rcases Nat.lt_or_eq_of_le (Nat.le_of_lt_succ hj) with h | rfl
          · exact hI j f' h hf
          · rw [hc] at hf; cases hf; exact ⟨h1.1, h1.2, h2.1, h2.2⟩
      · have e1 : (!(staff_within f.from_ 0 399) || !(staff_within f.slots 1 (w64 (400 - f.from_)))) = true := by rw [hw2]; simp [staff_within]; omega
        have e2 : ((((decide (f.from_ < 0)) || (decide ((400 : Int) ≤ f.from_))) || (decide (f.slots < 1))) || (decide ((w64 (400 - f.from_)) < f.slots))) = true := by rw [hw2]; simp; omega
        simp only [e1, e2, if_true]
        exact Or.inl ⟨2, rfl, rfl, by decide⟩
    · have e1 : (!(staff_within f.from_ 0 399) || !(staff_within f.slots 1 (w64 (400 - f.from_)))) = true := by
        have : staff_within f.from_ 0 399 = false := by simp [staff_within]; omega
        rw [this]; rfl
      have e2 : ((((decide (f.from_ < 0)) || (decide ((400 : Int) ≤ f.from_))) || (decide (f.slots < 1))) || (decide ((w64 (400 - f.from_)) < f.slots))) = true := by
        have : ((decide (f.from_ < 0)) || (decide ((400 : Int) ≤ f.from_))) = true := by simp; omega
        rw [this]; rfl
      simp only [e1, e2, if_true]
      exact Or.inl ⟨2, rfl, rfl, by decide⟩

theorem contains_num (s : List Int) (q : Int → Bool) : slices_ContainsFunc_Lint_int s (fun x => some (q x)) = some (s.any q) := by
  unfold slices_ContainsFunc_Lint_int slices_IndexFunc_Lint_int
  rw [rangeB_index, ← findIdx_any]
  cases s.findIdx? q <;> rfl
theorem numbers_eq (l : List Int) (most : Int) : ∃ b : Bool, staff_checkNumbers l most = some (if b = true then 2 else 0) ∧ portref2_outside l most = some b := by
  refine ⟨l.any fun x => !staff_within x 0 most, ?_, ?_⟩
  · unfold staff_checkNumbers
    rw [rangeB_any l (fun x => !staff_within x 0 most) (2 : Int)]
    cases l.any fun x => !staff_within x 0 most <;> rfl
  · unfold portref2_outside
    have hp : ∀ x, portref2_outside_1 x most = some (!staff_within x 0 most) := fun x => by
      unfold portref2_outside_1 staff_within
      congr 1
      rw [Bool.eq_iff_iff]
      simp
    simp only [hp]
    rw [contains_num]
    rfl
theorem numbers_ok (l : List Int) (most : Int) (h : staff_checkNumbers l most = some 0) : ∀ c ∈ l, 0 ≤ c ∧ c ≤ most := by
  unfold staff_checkNumbers at h
  rw [rangeB_any l (fun x => !staff_within x 0 most) (2 : Int)] at h
  have hb : (l.any fun x => !staff_within x 0 most) = false := by
    cases hx : (l.any fun x => !staff_within x 0 most) with
    | false => rfl
    | true => rw [hx] at h; simp [Lp.andThen] at h
  intro c hc
  have := List.any_eq_false.1 hb c hc
  simpa [staff_within] using this
theorem demand_eq (l : List Int) (most : Int) : ∃ r, staff_checkDemand l most = some r ∧ portref2_demandFault l most = some r ∧ (r = 0 → l.length ≤ 400 ∧ ∀ c ∈ l, 0 ≤ c ∧ c ≤ most) := by
  unfold staff_checkDemand portref2_demandFault
  by_cases h : (400 : Int) < (l.length : Int)
  · simp only [h, decide_true, if_true]
    exact ⟨_, rfl, rfl, fun h => absurd h (by decide)⟩
  simp only [h, decide_false, Bool.false_eq_true, if_false]
  obtain ⟨b, h1, h2⟩ := numbers_eq l most
  have h3 := numbers_ok l most
  rw [h1, h2]
  rw [h1] at h3
  cases b
  · exact ⟨_, rfl, rfl, fun _ => ⟨by omega, h3 rfl⟩⟩
  · exact ⟨_, rfl, rfl, fun h => absurd h (by decide)⟩
/-- the numbers at the places from lo on and before hi, of those before i, grown by c -/
def grown (s : List Int) (lo hi c : Int) (i : Nat) : List Int := s.mapIdx fun j v => if (lo ≤ (j : Int) ∧ (j : Int) < hi) ∧ j < i then w64 (v + c) else v

theorem grown_length (s : List Int) (lo hi c : Int) (i : Nat) : (grown s lo hi c i).length = s.length := by simp [grown]
theorem grown_get (s : List Int) (lo hi c : Int) (i j : Nat) : (grown s lo hi c i)[j]? = s[j]?.map fun v => if (lo ≤ (j : Int) ∧ (j : Int) < hi) ∧ j < i then w64 (v + c) else v := by
  simp [grown]
theorem grown_same (s : List Int) (lo hi c : Int) (i i' : Nat) (h : ∀ j : Nat, j < s.length → lo ≤ (j : Int) → (j : Int) < hi → (j < i ↔ j < i')) : grown s lo hi c i = grown s lo hi c i' := by
  apply List.ext_getElem?
  intro j
  rw [grown_get, grown_get]
  rcases Nat.lt_or_ge j s.length with hj | hj
  · rw [List.getElem?_eq_getElem hj]
    simp only [Option.map_some, Option.some.injEq]
    by_cases hp : lo ≤ (j : Int) ∧ (j : Int) < hi
    · have := h j hj hp.1 hp.2
      simp only [hp, true_and, and_self]
      by_cases h1 : j < i
      · simp [h1, this.1 h1]
      · simp [h1, mt this.2 h1]
    · simp [hp]
  · rw [List.getElem?_eq_none hj]
    rfl
theorem grown_zero (s : List Int) (lo hi c : Int) (i : Nat) (h : (i : Int) ≤ lo) : grown s lo hi c i = s := by
  apply List.ext_getElem?
  intro j
  rw [grown_get]
  cases s[j]? with
  | none => rfl
  | some v =>
    simp only [Option.map_some]
    rw [if_neg (by omega)]
theorem grown_step (s : List Int) (lo hi c : Int) (i : Nat) (hi' : i < s.length) (h1 : lo ≤ (i : Int)) (h2 : (i : Int) < hi) :
    ∃ v, idx (grown s lo hi c i) (i : Int) = some v ∧ setI (grown s lo hi c i) (i : Int) (w64 (v + c)) = some (grown s lo hi c (i + 1)) := by
  refine ⟨s[i], ?_, ?_⟩
  · rw [idx_nat, grown_get, List.getElem?_eq_getElem hi']
    simp
  · rw [setI, if_pos ⟨by omega, by rw [grown_length]; simpa using hi'⟩]
    congr 1
    apply List.ext_getElem?
    intro j
    rw [Int.toNat_natCast, List.getElem?_set, grown_get, grown_get, grown_length]
    by_cases hj : i = j
    · subst hj
      simp [hi', h1, h2]
    · simp only [hj, if_false]
      cases s[j]? with
      | none => rfl
      | some v =>
        simp only [Option.map_some]
        have : (j < i ↔ j < i + 1) := by omega
        simp only [this]

theorem while_two (s0 : List Int) (slots lo hi c : Int) (plan : List Int) (k : Nat) (hpl : plan[k]? = some c) (hs : (s0.length : Int) = slots) (hs4 : slots ≤ 400) :
    ∃ b : Int, whileB (R := Empty) (fun s73 : List Int × Int => if (decide (s73.2 < slots)) = true then Option.bind (Option.bind (if ((decide (lo ≤ s73.2)) && (decide (s73.2 < hi))) = true then Option.bind (idx s73.1 s73.2) fun x111 => Option.bind (idx plan (k : Int)) fun x116 => Option.bind (setI s73.1 s73.2 (w64 (x111 + x116))) fun x127 => some x127 else some s73.1) fun s102 => some s102) fun s87 => some (.nx (s87, w64 (s73.2 + 1))) else some (.bk (s73.1, s73.2))) (s0, 0) = some (.fin (grown s0 lo hi c s0.length, b)) := by
  obtain ⟨r, h, b, rfl⟩ := whileB_spec (R := Empty) (body := fun s73 : List Int × Int => if (decide (s73.2 < slots)) = true then Option.bind (Option.bind (if ((decide (lo ≤ s73.2)) && (decide (s73.2 < hi))) = true then Option.bind (idx s73.1 s73.2) fun x111 => Option.bind (idx plan (k : Int)) fun x116 => Option.bind (setI s73.1 s73.2 (w64 (x111 + x116))) fun x127 => some x127 else some s73.1) fun s102 => some s102) fun s87 => some (.nx (s87, w64 (s73.2 + 1))) else some (.bk (s73.1, s73.2)))
    (fun s => ∃ i : Nat, s = (grown s0 lo hi c i, (i : Int)) ∧ i ≤ s0.length) (fun s => 400 - s.2.toNat)
    (fun r => ∃ b, r = .fin (grown s0 lo hi c s0.length, b)) (s := (s0, 0))
    ⟨0, by rw [show grown s0 lo hi c 0 = s0 from by apply List.ext_getElem?; intro j; rw [grown_get]; cases s0[j]? <;> simp]; rfl, by omega⟩ (by
      rintro _ ⟨i, rfl, h2⟩
      simp only
      by_cases hc : (i : Int) < slots
      · simp only [hc, decide_true, if_true]
        by_cases hp : lo ≤ (i : Int) ∧ (i : Int) < hi
        · obtain ⟨v, e1, e2⟩ := grown_step s0 lo hi c i (by omega) hp.1 hp.2
          simp only [hp.1, hp.2, decide_true, Bool.and_self, if_true, e1, e2, idx_nat, hpl, Option.bind_some]
          rw [w64_id (by omega) (by omega)]
          exact ⟨_, rfl, ⟨i + 1, by congr 1, by omega⟩, by simp only; omega⟩
        · have e : (decide (lo ≤ (i : Int)) && decide ((i : Int) < hi)) = false := by
            simp only [Bool.and_eq_false_iff, decide_eq_false_iff_not]; omega
          simp only [e, Bool.false_eq_true, if_false, Option.bind_some]
          rw [w64_id (by omega) (by omega)]
          refine ⟨_, rfl, ⟨i + 1, ?_, by omega⟩, by simp only; omega⟩
          rw [grown_same s0 lo hi c i (i + 1) (fun j _ h3 h4 => by constructor <;> intro h5 <;> first | omega | (rcases Nat.lt_or_eq_of_le (Nat.le_of_lt_succ h5) with h6 | h6; exact h6; subst h6; exact absurd ⟨h3, h4⟩ hp))]
          congr 1
      · simp only [hc, decide_false, Bool.false_eq_true, if_false]
        refine ⟨_, rfl, (i : Int), ?_⟩
        rw [show i = s0.length by omega])
  exact ⟨b, h⟩

/-- what the forms give at slot j -/
def share (j : Nat) (x : staff_Form × Int) : Int := if x.1.from_ ≤ (j : Int) ∧ (j : Int) < x.1.from_ + x.1.slots then x.2 else 0
def cov (forms : List staff_Form) (plan : List Int) (j : Nat) : Int := ((forms.zip plan).map (share j)).sum
def covTo (forms : List staff_Form) (plan : List Int) (k j : Nat) : Int := (((forms.zip plan).take k).map (share j)).sum

theorem covTo_succ (forms : List staff_Form) (plan : List Int) (k j : Nat) (f : staff_Form) (c : Int) (hf : forms[k]? = some f) (hc : plan[k]? = some c) : covTo forms plan (k + 1) j = covTo forms plan k j + share j (f, c) := by
  have : (forms.zip plan)[k]? = some (f, c) := by
    rw [List.getElem?_zip_eq_some]
    exact ⟨hf, hc⟩
  unfold covTo
  rw [List.take_add_one, this]
  simp
theorem covTo_bound (forms : List staff_Form) (plan : List Int) (hp : ∀ c ∈ plan, 0 ≤ c ∧ c ≤ 30000) (k j : Nat) : 0 ≤ covTo forms plan k j ∧ covTo forms plan k j ≤ 30000 * (k : Int) := by
  induction k with
  | zero => simp [covTo]
  | succ k ih =>
    cases hz : (forms.zip plan)[k]? with
    | none =>
      have : covTo forms plan (k + 1) j = covTo forms plan k j := by
        unfold covTo
        rw [List.take_add_one, hz]
        simp
      rw [this]
      omega
    | some x =>
      obtain ⟨f, c⟩ := x
      obtain ⟨h1, h2⟩ := List.getElem?_zip_eq_some.1 hz
      rw [covTo_succ forms plan k j f c h1 h2]
      have hc := hp c (List.mem_of_getElem? h2)
      have : 0 ≤ share j (f, c) ∧ share j (f, c) ≤ 30000 := by unfold share; split <;> omega
      omega
theorem cov_bound (forms : List staff_Form) (plan : List Int) (h60 : forms.length ≤ 60) (hp : ∀ c ∈ plan, 0 ≤ c ∧ c ≤ 30000) (j : Nat) : 0 ≤ cov forms plan j ∧ cov forms plan j ≤ 1800000 := by
  have h := covTo_bound forms plan hp forms.length j
  have e : covTo forms plan forms.length j = cov forms plan j := by
    unfold covTo cov
    rw [List.take_of_length_le (by simp; omega)]
  rw [e] at h
  omega

theorem cover_val (forms : List staff_Form) (slots : Int) (plan : List Int) (h0 : 0 ≤ slots) (h4 : slots ≤ 400) (h60 : forms.length ≤ 60) (hf : ∀ f ∈ forms, FormOk f) (hl : plan.length = forms.length) (hp : ∀ c ∈ plan, 0 ≤ c ∧ c ≤ 30000) :
    ∃ r, portref2_cover forms slots plan = some r ∧ (r.length : Int) = slots ∧ ∀ j, j < r.length → r[j]? = some (cov forms plan j) := by
  unfold portref2_cover
  have hmk : makeL 35184372088832 slots (0 : Int) = some (List.replicate slots.toNat 0) := by rw [makeL, if_pos (by omega)]
  rw [hmk]
  simp only [Option.bind_some]
  obtain ⟨t, e2, ht, hv⟩ := rangeB_inv (R := List Int) forms.length
    (b := fun k20 s27 => Option.bind (Option.bind (idx forms (k20 : Int)) fun x49 => Option.bind (whileB (R := Empty) (fun s73 => if (decide (s73.2 < slots)) = true then Option.bind (Option.bind (if ((decide (x49.from_ ≤ s73.2)) && (decide (s73.2 < (w64 (x49.from_ + x49.slots))))) = true then Option.bind (idx s73.1 s73.2) fun x111 => Option.bind (idx plan (k20 : Int)) fun x116 => Option.bind (setI s73.1 s73.2 (w64 (x111 + x116))) fun x127 => some x127 else some s73.1) fun s102 => some s102) fun s87 => some (.nx (s87, w64 (s73.2 + 1))) else some (.bk (s73.1, s73.2))) (s27, 0)) fun o62 => o62.andThen (fun y => y.elim) fun s63 => some s63.1) fun s41 => some (.nx s41))
    (s := List.replicate slots.toNat (0 : Int)) (fun k s => (s.length : Int) = slots ∧ ∀ j, j < s.length → s[j]? = some (covTo forms plan k j)) ⟨by simp; omega, fun j hj => by simp at hj; simp [hj, covTo]⟩ (by
    rintro k s hk ⟨hs, hv⟩
    have hok := hf _ (List.getElem_mem hk)
    have hfk : forms[k]? = some forms[k] := List.getElem?_eq_getElem hk
    rw [idx_lt _ _ hk]
    generalize forms[k] = f at hok hfk
    obtain ⟨o1, o2, o3, o4⟩ := hok
    have hpk : plan[k]? = some plan[k] := List.getElem?_eq_getElem (by omega)
    have hc := hp _ (List.getElem_mem (show k < plan.length by omega))
    generalize plan[k] = c at hpk hc
    obtain ⟨b2, w2⟩ := while_two s slots f.from_ (w64 (f.from_ + f.slots)) c plan k hpk hs h4
    simp only [Option.bind_some, w2, Lp.andThen_fin]
    refine ⟨_, rfl, by rw [grown_length]; exact hs, fun j hj => ?_⟩
    rw [grown_length] at hj
    rw [grown_get, hv j hj, covTo_succ forms plan k j f c hfk hpk]
    have hb := covTo_bound forms plan hp k j
    simp only [Option.map_some, Option.some.injEq, share, hj, and_true]
    rw [w64_id (n := f.from_ + f.slots) (by omega) (by omega)]
    split
    · rw [w64_id (by omega) (by omega)]
    · omega)
  rw [e2]
  refine ⟨_, rfl, ht, fun j hj => ?_⟩
  rw [hv j hj]
  unfold covTo cov
  rw [List.take_of_length_le (by simp [hl])]
theorem cov_set (forms : List staff_Form) : ∀ (plan : List Int) (k : Nat) (f : staff_Form) (c c' : Int) (j : Nat), forms[k]? = some f → plan[k]? = some c → cov forms (plan.set k c') j = cov forms plan j - share j (f, c) + share j (f, c') := by
  induction forms with
  | nil => intro plan k f c c' j h; simp at h
  | cons g forms ih =>
    intro plan k f c c' j hf hc
    cases plan with
    | nil => simp at hc
    | cons d plan =>
      cases k with
      | zero =>
        simp at hf hc
        subst hf
        subst hc
        simp [cov]
        omega
      | succ k =>
        have := ih plan k f c c' j (by simpa using hf) (by simpa using hc)
        simp only [cov] at this
        simp [cov, this]
        omega

theorem setI_at {l : List Int} {k : Nat} (x : Int) (h : k < l.length) : setI l (k : Int) x = some (l.set k x) := by
  rw [setI, if_pos ⟨by omega, by simpa using h⟩, Int.toNat_natCast]
theorem idx_set (l : List Int) (k : Nat) (x : Int) (h : k < l.length) : idx (l.set k x) (k : Int) = some x := by
  rw [idx_nat, List.getElem?_set]
  simp [h]

end Go.Proofs.Ytlclnbcjebpfkaa.M
