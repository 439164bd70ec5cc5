/-
  Spare and its reference agree: plain part.
-/
import Derived.Test.YtlclnbcjebpfkaaPlanSparesPlanBase
namespace Go.Proofs.Ytlclnbcjebpfkaa.M
open Go Go.Pu

/-- what the forms give at slot j -/
def share (j : Nat) (x : staff_Form × Int) : Int := if x.1.from_ ≤ (j : Int) ∧ (j : Int) < x.1.from_ + x.1.slots then x.2 else 0
def cov (forms : List staff_Form) (plan : List Int) (j : Nat) : Int := ((forms.zip plan).map (share j)).sum
def covTo (forms : List staff_Form) (plan : List Int) (k j : Nat) : Int := (((forms.zip plan).take k).map (share j)).sum

theorem covTo_succ (forms : List staff_Form) (plan : List Int) (k j : Nat) (f : staff_Form) (c : Int) (hf : forms[k]? = some f) (hc : plan[k]? = some c) : covTo forms plan (k + 1) j = covTo forms plan k j + share j (f, c) := by
  have : (forms.zip plan)[k]? = some (f, c) := by
    rw [List.getElem?_zip_eq_some]
    exact ⟨hf, hc⟩
  unfold covTo
  rw [List.take_add_one, this]
  simp
theorem covTo_bound (forms : List staff_Form) (plan : List Int) (hp : ∀ c ∈ plan, 0 ≤ c ∧ c ≤ 60) (k j : Nat) : 0 ≤ covTo forms plan k j ∧ covTo forms plan k j ≤ 60 * (k : Int) := by
  induction k with
  | zero => simp [covTo]
  | succ k ih =>
    cases hz : (forms.zip plan)[k]? with
    | none =>
      have : covTo forms plan (k + 1) j = covTo forms plan k j := by
        unfold covTo
        rw [List.take_add_one, hz]
        simp
      rw [this]
      omega
    | some x =>
      obtain ⟨f, c⟩ := x
      obtain ⟨h1, h2⟩ := List.getElem?_zip_eq_some.1 hz
      rw [covTo_succ forms plan k j f c h1 h2]
      have hc := hp c (List.mem_of_getElem? h2)
      have : 0 ≤ share j (f, c) ∧ share j (f, c) ≤ 60 := by unfold share; split <;> omega
      omega

theorem cover_val (forms : List staff_Form) (slots : Int) (plan : List Int) (h0 : 0 ≤ slots) (h4 : slots ≤ 400) (h60 : forms.length ≤ 60) (hf : ∀ f ∈ forms, FormOk f) (hl : plan.length = forms.length) (hp : ∀ c ∈ plan, 0 ≤ c ∧ c ≤ 60) :
    ∃ r, staff_cover forms slots plan = some r ∧ portref2_cover forms slots plan = some r ∧ (r.length : Int) = slots ∧ ∀ j, j < r.length → r[j]? = some (cov forms plan j) := by
  unfold staff_cover portref2_cover
  have hmk : makeL 35184372088832 slots (0 : Int) = some (List.replicate slots.toNat 0) := by rw [makeL, if_pos (by omega)]
  rw [hmk]
  simp only [Option.bind_some]
  have sim := rangeB_sim (R := List Int) forms.length
    (b := fun k20 s27 => Option.bind (Option.bind (idx forms (k20 : Int)) fun x49 => Option.bind (whileB (R := Empty) (fun s74 => if (decide (s74.2 < (if w64 (x49.from_ + x49.slots) < slots then w64 (x49.from_ + x49.slots) else slots))) = true then Option.bind (idx s74.1 s74.2) fun x89 => Option.bind (idx plan (k20 : Int)) fun x94 => Option.bind (setI s74.1 s74.2 (w64 (x89 + x94))) fun x105 => some (.nx (x105, w64 (s74.2 + 1))) else some (.bk (s74.1, s74.2))) (s27, x49.from_)) fun o63 => o63.andThen (fun y => y.elim) fun s64 => some s64.1) fun s41 => some (.nx s41))
    (b' := fun k20 s27 => Option.bind (Option.bind (idx forms (k20 : Int)) fun x49 => Option.bind (whileB (R := Empty) (fun s73 => if (decide (s73.2 < slots)) = true then Option.bind (Option.bind (if ((decide (x49.from_ ≤ s73.2)) && (decide (s73.2 < (w64 (x49.from_ + x49.slots))))) = true then Option.bind (idx s73.1 s73.2) fun x111 => Option.bind (idx plan (k20 : Int)) fun x116 => Option.bind (setI s73.1 s73.2 (w64 (x111 + x116))) fun x127 => some x127 else some s73.1) fun s102 => some s102) fun s87 => some (.nx (s87, w64 (s73.2 + 1))) else some (.bk (s73.1, s73.2))) (s27, 0)) fun o62 => o62.andThen (fun y => y.elim) fun s63 => some s63.1) fun s41 => some (.nx s41))
    (s := List.replicate slots.toNat (0 : Int)) (s' := List.replicate slots.toNat (0 : Int)) (fun _ => False) (fun k s s' => s = s' ∧ (s.length : Int) = slots ∧ ∀ j, j < s.length → s[j]? = some (covTo forms plan k j)) ⟨rfl, by simp; omega, fun j hj => by simp at hj; simp [hj, covTo]⟩ ?_
  · rcases sim with ⟨r, e1, e2, h⟩ | ⟨t, t', e1, e2, rfl, ht, hv⟩
    · exact h.elim
    · rw [e1, e2]
      refine ⟨_, rfl, rfl, ht, fun j hj => ?_⟩
      rw [hv j hj]
      unfold covTo cov
      rw [List.take_of_length_le (by simp [hl])]
  · rintro k s _ hk ⟨rfl, hs, hv⟩
    refine Or.inr ?_
    have hok := hf _ (List.getElem_mem hk)
    have hfk : forms[k]? = some forms[k] := List.getElem?_eq_getElem hk
    rw [idx_lt _ _ hk]
    generalize forms[k] = f at hok hfk
    obtain ⟨o1, o2, o3, o4⟩ := hok
    have hpk : plan[k]? = some plan[k] := List.getElem?_eq_getElem (by omega)
    have hc := hp _ (List.getElem_mem (show k < plan.length by omega))
    generalize plan[k] = c at hpk hc
    obtain ⟨b1, w1⟩ := while_one s slots f.from_ (w64 (f.from_ + f.slots)) c plan k hpk hs h4 o1 (by omega)
    obtain ⟨b2, w2⟩ := while_two s slots f.from_ (w64 (f.from_ + f.slots)) c plan k hpk hs h4
    simp only [Option.bind_some, w1, w2, Lp.andThen_fin]
    refine ⟨_, _, rfl, rfl, rfl, by rw [grown_length]; exact hs, fun j hj => ?_⟩
    rw [grown_length] at hj
    rw [grown_get, hv j hj, covTo_succ forms plan k j f c hfk hpk]
    have hb := covTo_bound forms plan hp k j
    simp only [Option.map_some, Option.some.injEq, share, hj, and_true]
    rw [w64_id (n := f.from_ + f.slots) (by omega) (by omega)]
    split
    · rw [w64_id (by omega) (by omega)]
    · omega
theorem cov_set (forms : List staff_Form) : ∀ (plan : List Int) (k : Nat) (f : staff_Form) (c c' : Int) (j : Nat), forms[k]? = some f → plan[k]? = some c → cov forms (plan.set k c') j = cov forms plan j - share j (f, c) + share j (f, c') := by
  induction forms with
  | nil => intro plan k f c c' j h; simp at h
  | cons g forms ih =>
    intro plan k f c c' j hf hc
    cases plan with
    | nil => simp at hc
    | cons d plan =>
      cases k with
      | zero =>
        simp at hf hc
        subst hf
        subst hc
        simp [cov]
        omega
      | succ k =>
        have := ih plan k f c c' j (by simpa using hf) (by simpa using hc)
        simp only [cov] at this
        simp [cov, this]
        omega

def Covers (forms : List staff_Form) (demand plan : List Int) : Prop := ∀ (j : Nat) (d : Int), demand[j]? = some d → d ≤ cov forms plan j

theorem covered_val (forms : List staff_Form) (demand plan : List Int) (h4 : demand.length ≤ 400) (h60 : forms.length ≤ 60) (hf : ∀ f ∈ forms, FormOk f) (hl : plan.length = forms.length) (hp : ∀ c ∈ plan, 0 ≤ c ∧ c ≤ 60) :
    ∃ b : Bool, portref2_covered forms demand plan = some b ∧ (b = true ↔ Covers forms demand plan) := by
  obtain ⟨r, _, e, hlen, hv⟩ := cover_val forms (demand.length : Int) plan (by omega) (by omega) h60 hf hl hp
  unfold portref2_covered
  rw [e]
  simp only [Option.bind_some]
  have hlen' : r.length = demand.length := by omega
  obtain ⟨o, ho, hq⟩ := rangeB_spec (R := Bool) (body := fun k21 (_ : Unit) => Option.bind (idx r (k21 : Int)) fun x35 => Option.bind (idx demand (k21 : Int)) fun x40 => if (decide (x35 < x40)) = true then some (.rt false) else some (.nx ())) r.length (fun k _ => ∀ (j : Nat) (d : Int), j < k → demand[j]? = some d → d ≤ cov forms plan j)
    (fun o => (∃ u, o = .fin u ∧ Covers forms demand plan) ∨ (o = .rt false ∧ ¬ Covers forms demand plan)) (s := ()) (fun j d h => absurd h (Nat.not_lt_zero _)) (by
      intro k s hk hI
      have hd : demand[k]? = some demand[k] := List.getElem?_eq_getElem (by omega)
      rw [idx_nat, hv k hk, idx_nat, hd]
      simp only [Option.bind_some]
      by_cases hlt : cov forms plan k < demand[k]
      · simp only [hlt, decide_true, if_true]
        exact ⟨_, rfl, .inr ⟨rfl, fun h => by have := h k _ hd; omega⟩⟩
      · simp only [hlt, decide_false, Bool.false_eq_true, if_false]
        refine ⟨_, rfl, fun j d hj hjd => ?_⟩
        rcases Nat.lt_or_eq_of_le (Nat.le_of_lt_succ hj) with h | rfl
        · exact hI j d h hjd
        · rw [hd] at hjd; cases hjd; omega)
    (fun s hI => .inl ⟨s, rfl, fun j d hjd => hI j d (by rw [hlen']; exact (List.getElem?_eq_some_iff.1 hjd).1) hjd⟩)
  rw [ho]
  rcases hq with ⟨u, rfl, h⟩ | ⟨rfl, h⟩
  · exact ⟨true, rfl, by simp [h]⟩
  · exact ⟨false, rfl, by simp [h]⟩
theorem setI_at {l : List Int} {k : Nat} (x : Int) (h : k < l.length) : setI l (k : Int) x = some (l.set k x) := by
  rw [setI, if_pos ⟨by omega, by simpa using h⟩, Int.toNat_natCast]
theorem idx_set (l : List Int) (k : Nat) (x : Int) (h : k < l.length) : idx (l.set k x) (k : Int) = some x := by
  rw [idx_nat, List.getElem?_set]
  simp [h]

theorem spare_one (forms : List staff_Form) (demand plan r s0 : List Int) (k : Nat) (f : staff_Form) (c : Int) (h4 : demand.length ≤ 400) (hok : FormOk f) (hk : k < s0.length) (hlen : r.length = demand.length)
    (hv : ∀ j, j < r.length → r[j]? = some (cov forms plan j)) (hC : ∀ j, 0 ≤ cov forms plan j ∧ cov forms plan j ≤ 3600) (hd : ∀ d ∈ demand, 0 ≤ d ∧ d ≤ 60) :
    ∃ m b : Int, whileB (R := Empty) (fun s154 : List Int × Int => if (decide (s154.2 < (if w64 (f.from_ + f.slots) < (demand.length : Int) then w64 (f.from_ + f.slots) else (demand.length : Int)))) = true then Option.bind (idx s154.1 (k : Int)) fun x174 => Option.bind (idx r s154.2) fun x179 => Option.bind (idx demand s154.2) fun x184 => Option.bind (setI s154.1 (k : Int) (if w64 (x179 - x184) < x174 then w64 (x179 - x184) else x174)) fun x195 => some (.nx (x195, w64 (s154.2 + 1))) else some (.bk (s154.1, s154.2))) (s0.set k c, f.from_) = some (.fin (s0.set k m, b)) ∧ m ≤ c ∧
      (∀ (j : Nat) (d : Int), demand[j]? = some d → f.from_ ≤ (j : Int) → (j : Int) < f.from_ + f.slots → m ≤ cov forms plan j - d) ∧
      (m = c ∨ ∃ (j : Nat) (d : Int), demand[j]? = some d ∧ f.from_ ≤ (j : Int) ∧ (j : Int) < f.from_ + f.slots ∧ m = cov forms plan j - d) := by
  obtain ⟨o1, o2, o3, o4⟩ := hok
  have hw : w64 (f.from_ + f.slots) = f.from_ + f.slots := w64_id (by omega) (by omega)
  simp only [hw]
  obtain ⟨o, h, m, b, rfl, hq⟩ := whileB_spec (R := Empty) (body := fun s154 : List Int × Int => if (decide (s154.2 < (if f.from_ + f.slots < (demand.length : Int) then f.from_ + f.slots else (demand.length : Int)))) = true then Option.bind (idx s154.1 (k : Int)) fun x174 => Option.bind (idx r s154.2) fun x179 => Option.bind (idx demand s154.2) fun x184 => Option.bind (setI s154.1 (k : Int) (if w64 (x179 - x184) < x174 then w64 (x179 - x184) else x174)) fun x195 => some (.nx (x195, w64 (s154.2 + 1))) else some (.bk (s154.1, s154.2)))
    (fun s => ∃ (m : Int) (i : Nat), s = (s0.set k m, (i : Int)) ∧ f.from_ ≤ (i : Int) ∧ i ≤ 400 ∧ m ≤ c ∧
      (∀ (j : Nat) (d : Int), demand[j]? = some d → f.from_ ≤ (j : Int) → j < i → m ≤ cov forms plan j - d) ∧
      (m = c ∨ ∃ (j : Nat) (d : Int), demand[j]? = some d ∧ f.from_ ≤ (j : Int) ∧ (j : Int) < f.from_ + f.slots ∧ m = cov forms plan j - d)) (fun s => 400 - s.2.toNat)
    (fun o => ∃ m b, o = .fin (s0.set k m, b) ∧ m ≤ c ∧
      (∀ (j : Nat) (d : Int), demand[j]? = some d → f.from_ ≤ (j : Int) → (j : Int) < f.from_ + f.slots → m ≤ cov forms plan j - d) ∧
      (m = c ∨ ∃ (j : Nat) (d : Int), demand[j]? = some d ∧ f.from_ ≤ (j : Int) ∧ (j : Int) < f.from_ + f.slots ∧ m = cov forms plan j - d)) (s := (s0.set k c, f.from_))
    ⟨c, f.from_.toNat, by rw [Int.toNat_of_nonneg o1], by omega, by omega, Int.le_refl _, fun j d _ h1 h2 => by omega, .inl rfl⟩ (by
      rintro _ ⟨m, i, rfl, i1, i2, i3, i4, i5⟩
      simp only
      by_cases hc : (i : Int) < (if f.from_ + f.slots < (demand.length : Int) then f.from_ + f.slots else (demand.length : Int))
      · have hc2 : (i : Int) < f.from_ + f.slots ∧ i < demand.length := by split at hc <;> omega
        have hdi : demand[i]? = some demand[i] := List.getElem?_eq_getElem hc2.2
        have hdb := hd _ (List.getElem_mem hc2.2)
        generalize demand[i] = d at hdi hdb
        have hCb := hC i
        simp only [hc, decide_true, if_true, idx_set _ _ _ hk, idx_nat, hv i (by omega), hdi, Option.bind_some]
        have hw2 : w64 (cov forms plan i - d) = cov forms plan i - d := w64_id (by omega) (by omega)
        rw [hw2, setI_at _ (by simpa using hk), Option.bind_some, List.set_set, w64_id (by omega) (by omega)]
        refine ⟨_, rfl, ⟨_, i + 1, by congr 1, by omega, by omega, ?_, ?_, ?_⟩, by simp only; omega⟩
        · split <;> omega
        · intro j d' hj h1 h2
          rcases Nat.lt_or_eq_of_le (Nat.le_of_lt_succ h2) with h | rfl
          · have := i4 j d' hj h1 h
            split <;> omega
          · rw [hdi] at hj; cases hj
            split <;> omega
        · split
          · exact .inr ⟨i, d, hdi, i1, hc2.1, rfl⟩
          · exact i5
      · simp only [hc, decide_false, Bool.false_eq_true, if_false]
        refine ⟨_, rfl, m, (i : Int), rfl, i3, fun j d hj h1 h2 => i4 j d hj h1 ?_, i5⟩
        have := (List.getElem?_eq_some_iff.1 hj).1
        split at hc <;> omega)
  exact ⟨m, b, h, hq⟩
theorem set_self {l : List Int} {k : Nat} {x : Int} (h : l[k]? = some x) : l.set k x = l := by
  apply List.ext_getElem?
  intro j
  rw [List.getElem?_set]
  split
  · rename_i hj
    subst hj
    rw [h]
    have := (List.getElem?_eq_some_iff.1 h).1
    simp [this]
  · rfl

theorem spare_none (forms : List staff_Form) (demand plan s0 : List Int) (k : Nat) (h : portref2_covered forms demand plan = some false) :
    whileB (R := Empty) (fun s92 : List Int × List Int => Option.bind (portref2_covered forms demand s92.2) fun x107 => Option.bind (if x107 = true then (Option.bind (idx s92.2 (k : Int)) fun x114 => some (decide ((0 : Int) < x114))) else (some false)) fun s112 => if s112 = true then Option.bind (Option.bind (idx s92.2 (k : Int)) fun x132 => Option.bind (setI s92.2 (k : Int) (w64 (x132 - 1))) fun x141 => Option.bind (portref2_covered forms demand x141) fun x145 => Option.bind (if x145 = true then Option.bind (idx s92.1 (k : Int)) fun x160 => Option.bind (setI s92.1 (k : Int) (w64 (x160 + 1))) fun x169 => some x169 else some s92.1) fun s150 => some (s150, x141)) fun s121 => some (.nx (s121.1, s121.2)) else some (.bk (s92.1, s92.2))) (s0, plan) = some (.fin (s0, plan)) := by
  obtain ⟨o, ho, rfl⟩ := whileB_spec (R := Empty) (body := fun s92 : List Int × List Int => Option.bind (portref2_covered forms demand s92.2) fun x107 => Option.bind (if x107 = true then (Option.bind (idx s92.2 (k : Int)) fun x114 => some (decide ((0 : Int) < x114))) else (some false)) fun s112 => if s112 = true then Option.bind (Option.bind (idx s92.2 (k : Int)) fun x132 => Option.bind (setI s92.2 (k : Int) (w64 (x132 - 1))) fun x141 => Option.bind (portref2_covered forms demand x141) fun x145 => Option.bind (if x145 = true then Option.bind (idx s92.1 (k : Int)) fun x160 => Option.bind (setI s92.1 (k : Int) (w64 (x160 + 1))) fun x169 => some x169 else some s92.1) fun s150 => some (s150, x141)) fun s121 => some (.nx (s121.1, s121.2)) else some (.bk (s92.1, s92.2))) (fun s => s = (s0, plan)) (fun _ => 0) (fun o => o = .fin (s0, plan)) (s := (s0, plan)) rfl (by
    rintro _ rfl
    simp only [h, Option.bind_some, Bool.false_eq_true, if_false]
    exact ⟨_, rfl, rfl⟩)
  exact ho

theorem spare_two (forms : List staff_Form) (demand plan s0 : List Int) (k : Nat) (c : Int) (h4 : demand.length ≤ 400) (h60 : forms.length ≤ 60) (hf : ∀ f ∈ forms, FormOk f) (hl : plan.length = forms.length) (hp : ∀ c ∈ plan, 0 ≤ c ∧ c ≤ 60)
    (hk : k < s0.length) (hkp : plan[k]? = some c) (hs : s0[k]? = some 0) (hcov : Covers forms demand plan) :
    ∃ (m : Int) (q : List Int), whileB (R := Empty) (fun s92 : List Int × List Int => Option.bind (portref2_covered forms demand s92.2) fun x107 => Option.bind (if x107 = true then (Option.bind (idx s92.2 (k : Int)) fun x114 => some (decide ((0 : Int) < x114))) else (some false)) fun s112 => if s112 = true then Option.bind (Option.bind (idx s92.2 (k : Int)) fun x132 => Option.bind (setI s92.2 (k : Int) (w64 (x132 - 1))) fun x141 => Option.bind (portref2_covered forms demand x141) fun x145 => Option.bind (if x145 = true then Option.bind (idx s92.1 (k : Int)) fun x160 => Option.bind (setI s92.1 (k : Int) (w64 (x160 + 1))) fun x169 => some x169 else some s92.1) fun s150 => some (s150, x141)) fun s121 => some (.nx (s121.1, s121.2)) else some (.bk (s92.1, s92.2))) (s0, plan) = some (.fin (s0.set k m, q)) ∧ 0 ≤ m ∧ m ≤ c ∧ Covers forms demand (plan.set k (c - m)) ∧ (m = c ∨ ¬ Covers forms demand (plan.set k (c - (m + 1)))) := by
  have hkl : k < plan.length := (List.getElem?_eq_some_iff.1 hkp).1
  have hc := hp c (List.mem_of_getElem? hkp)
  have cv : ∀ x : Int, 0 ≤ x → x ≤ 60 → ∃ b : Bool, portref2_covered forms demand (plan.set k x) = some b ∧ (b = true ↔ Covers forms demand (plan.set k x)) := fun x h0 h1 =>
    covered_val forms demand (plan.set k x) h4 h60 hf (by simpa using hl) (fun y hy => (List.mem_or_eq_of_mem_set hy).elim (hp y) (fun e => by omega))
  obtain ⟨o, ho, m, q, rfl, hq⟩ := whileB_spec (R := Empty) (body := fun s92 : List Int × List Int => Option.bind (portref2_covered forms demand s92.2) fun x107 => Option.bind (if x107 = true then (Option.bind (idx s92.2 (k : Int)) fun x114 => some (decide ((0 : Int) < x114))) else (some false)) fun s112 => if s112 = true then Option.bind (Option.bind (idx s92.2 (k : Int)) fun x132 => Option.bind (setI s92.2 (k : Int) (w64 (x132 - 1))) fun x141 => Option.bind (portref2_covered forms demand x141) fun x145 => Option.bind (if x145 = true then Option.bind (idx s92.1 (k : Int)) fun x160 => Option.bind (setI s92.1 (k : Int) (w64 (x160 + 1))) fun x169 => some x169 else some s92.1) fun s150 => some (s150, x141)) fun s121 => some (.nx (s121.1, s121.2)) else some (.bk (s92.1, s92.2)))
    (fun s => ∃ (i : Nat) (m : Int), s = (s0.set k m, plan.set k (c - i)) ∧ (i : Int) ≤ c ∧ ((m = i ∧ Covers forms demand (plan.set k (c - i))) ∨ (m + 1 = i ∧ 0 ≤ m ∧ ¬ Covers forms demand (plan.set k (c - i)) ∧ Covers forms demand (plan.set k (c - m)))))
    (fun s => (s.2[k]?.getD 0).toNat)
    (fun o => ∃ (m : Int) (q : List Int), o = .fin (s0.set k m, q) ∧ 0 ≤ m ∧ m ≤ c ∧ Covers forms demand (plan.set k (c - m)) ∧ (m = c ∨ ¬ Covers forms demand (plan.set k (c - (m + 1))))) (s := (s0, plan))
    ⟨0, 0, by simp [set_self hs, set_self hkp], by omega, .inl ⟨rfl, by simpa [set_self hkp] using hcov⟩⟩ (by
      rintro _ ⟨i, m, rfl, hi, hm⟩
      obtain ⟨b, hb, hbi⟩ := cv (c - i) (by omega) (by omega)
      simp only [hb, Option.bind_some]
      cases b with
      | false =>
        have hn : ¬ Covers forms demand (plan.set k (c - i)) := fun h => by simpa using hbi.2 h
        simp only [Bool.false_eq_true, if_false, Option.bind_some]
        rcases hm with ⟨_, h⟩ | ⟨h1, h2, h3, h5⟩
        · exact absurd h hn
        · exact ⟨_, rfl, m, _, rfl, h2, by omega, h5, .inr (by rw [h1]; exact h3)⟩
      | true =>
        have hy := hbi.1 rfl
        obtain ⟨rfl, _⟩ : m = i ∧ True := by
          rcases hm with ⟨h1, _⟩ | ⟨_, _, h3, _⟩
          · exact ⟨h1, trivial⟩
          · exact absurd hy h3
        simp only [if_true, idx_set _ _ _ hkl, Option.bind_some]
        by_cases h0 : (0 : Int) < c - i
        · obtain ⟨b', hb', hbi'⟩ := cv (c - ((i + 1 : Nat) : Int)) (by omega) (by omega)
          have hw : w64 (c - i - 1) = c - ((i + 1 : Nat) : Int) := by rw [w64_id (by omega) (by omega)]; omega
          simp only [h0, decide_true, if_true, hw]
          rw [setI_at _ (by simpa using hkl), Option.bind_some, List.set_set, hb', Option.bind_some]
          have hμ : ((plan.set k (c - ((i + 1 : Nat) : Int)))[k]?.getD 0).toNat < ((plan.set k (c - (i : Int)))[k]?.getD 0).toNat := by
            rw [List.getElem?_set, List.getElem?_set]
            simp [hkl]
            omega
          cases b' with
          | true =>
            have hw2 : w64 ((i : Int) + 1) = ((i + 1 : Nat) : Int) := by rw [w64_id (by omega) (by omega)]; omega
            simp only [if_true, idx_set _ _ _ hk, Option.bind_some, hw2]
            rw [setI_at _ (by simpa using hk), Option.bind_some, Option.bind_some, Option.bind_some, List.set_set]
            exact ⟨_, rfl, ⟨i + 1, _, rfl, by omega, .inl ⟨rfl, hbi'.1 rfl⟩⟩, hμ⟩
          | false =>
            simp only [Bool.false_eq_true, if_false, Option.bind_some]
            exact ⟨_, rfl, ⟨i + 1, _, rfl, by omega, .inr ⟨by omega, by omega, fun h => by simpa using hbi'.2 h, hy⟩⟩, hμ⟩
        · simp only [h0, decide_false, Bool.false_eq_true, if_false]
          exact ⟨_, rfl, (i : Int), _, rfl, by omega, hi, hy, .inl (by omega)⟩)
  exact ⟨m, q, ho, hq⟩
theorem or_err3 (a b c : Int) : cmp_Or_api_Errno [a, b, c] = some (if a ≠ 0 then a else if b ≠ 0 then b else c) := by
  by_cases ha : a = 0 <;> by_cases hb : b = 0 <;> by_cases hc : c = 0 <;> simp [cmp_Or_api_Errno, rangeB, idx, ha, hb, hc, Lp.andThen]
theorem numbers_ok {l : List Int} {most : Int} (h : staff_checkNumbers l most = some 0) : ∀ x ∈ l, 0 ≤ x ∧ x ≤ most := by
  unfold staff_checkNumbers at h
  rw [rangeB_any l (fun x => !staff_within x 0 most) (2 : Int)] at h
  cases ha : l.any fun x => !staff_within x 0 most with
  | true => rw [ha] at h; simp [Lp.andThen] at h
  | false =>
    intro x hx
    have := List.any_eq_false.1 ha x hx
    simp [staff_within] at this
    omega
theorem plan_ok {forms : List staff_Form} {plan : List Int} (h : staff_checkPlan forms plan = some 0) : ∀ c ∈ plan, 0 ≤ c ∧ c ≤ 60 := by
  unfold staff_checkPlan at h
  split at h
  · simp at h
  · obtain ⟨x, hx, h2⟩ := Option.bind_eq_some_iff.1 h
    rw [Option.some.inj h2] at hx
    exact numbers_ok hx
theorem demand_ok {l : List Int} (h : staff_checkDemand l 60 = some 0) : ∀ c ∈ l, 0 ≤ c ∧ c ≤ 60 := by
  unfold staff_checkDemand at h
  split at h
  · simp at h
  · obtain ⟨x, hx, h2⟩ := Option.bind_eq_some_iff.1 h
    rw [Option.some.inj h2] at hx
    exact numbers_ok hx
theorem forms_len {l : List staff_Form} (h : staff_CheckForms l = some 0) : l.length ≤ 60 := by
  unfold staff_CheckForms at h
  split at h
  · simp at h
  · rename_i h1
    simp at h1
    omega
theorem cov_bound (forms : List staff_Form) (plan : List Int) (h60 : forms.length ≤ 60) (hp : ∀ c ∈ plan, 0 ≤ c ∧ c ≤ 60) (j : Nat) : 0 ≤ cov forms plan j ∧ cov forms plan j ≤ 3600 := by
  have h := covTo_bound forms plan hp forms.length j
  have e : covTo forms plan forms.length j = cov forms plan j := by
    unfold covTo cov
    rw [List.take_of_length_le (by simp; omega)]
  rw [e] at h
  omega
theorem covers_set {forms : List staff_Form} {demand plan : List Int} {k : Nat} {f : staff_Form} {c i : Int} (hf : forms[k]? = some f) (hc : plan[k]? = some c) (hcov : Covers forms demand plan) :
    Covers forms demand (plan.set k (c - i)) ↔ ∀ (j : Nat) (d : Int), demand[j]? = some d → f.from_ ≤ (j : Int) → (j : Int) < f.from_ + f.slots → i ≤ cov forms plan j - d := by
  constructor
  · intro h j d hj h1 h2
    have := h j d hj
    rw [cov_set forms plan k f c (c - i) j hf hc, share, share, if_pos ⟨h1, h2⟩, if_pos ⟨h1, h2⟩] at this
    simp only at this
    omega
  · intro h j d hj
    have h0 := hcov j d hj
    rw [cov_set forms plan k f c (c - i) j hf hc, share, share]
    simp only
    by_cases hr : f.from_ ≤ (j : Int) ∧ (j : Int) < f.from_ + f.slots
    · have := h j d hj hr.1 hr.2
      rw [if_pos hr, if_pos hr]
      omega
    · rw [if_neg hr, if_neg hr]
      omega

theorem clone_self (plan : List Int) (h : plan.length ≤ 60) : slices_Clone_Lint_int plan = some plan := by
  unfold slices_Clone_Lint_int appendL
  rw [if_pos (by simp; omega)]
  rfl

theorem spares_true (forms : List staff_Form) (demand plan : List Int) : portlaw2_PlanSpares forms demand plan = some true := by
  have main : ∃ q, staff_Spare forms demand plan = some q ∧ portref2_SpareOf forms demand plan = some q := by
    obtain ⟨a, a1, a2, a3⟩ := forms_eq forms
    obtain ⟨b, b1, b2, b3⟩ := plan_eq forms plan
    obtain ⟨e, e1, e2, e3⟩ := demand_eq demand 60
    unfold staff_Spare portref2_SpareOf
    simp only [a1, a2, b1, b2, e1, e2, or_err3, Option.bind_some]
    by_cases ha : a = 0
    rotate_left
    · simp [ha]
    by_cases hb : b = 0
    rotate_left
    · simp [ha, hb]
    by_cases he : e = 0
    rotate_left
    · simp [ha, hb, he]
    subst ha hb he
    have hf := a3 rfl
    have hl := b3 rfl
    have h4 := e3 rfl
    have h60 := forms_len a1
    have hp := plan_ok b1
    have hd := demand_ok e1
    simp only [ne_eq, not_true, if_false, bne_self_eq_false, Bool.false_eq_true]
    obtain ⟨r, r1, _, hlen, hv⟩ := cover_val forms (demand.length : Int) plan (by omega) (by omega) h60 hf hl hp
    have hlen' : r.length = demand.length := by omega
    have hmk : makeL 35184372088832 (forms.length : Int) (0 : Int) = some (List.replicate forms.length 0) := by rw [makeL, if_pos (by omega), Int.toNat_natCast]
    rw [r1, hmk]
    simp only [Option.bind_some]
    generalize hz : List.replicate forms.length (0 : Int) = z
    obtain ⟨o, ho, hq⟩ := rangeB_spec (R := List Int × Int) (body := fun k51 (_ : Unit) => Option.bind (idx demand (k51 : Int)) fun x65 => Option.bind (idx r (k51 : Int)) fun x69 => if (decide (x69 < x65)) = true then some (.rt (z, 0)) else some (.nx ())) demand.length (fun k _ => ∀ (j : Nat) (d : Int), j < k → demand[j]? = some d → d ≤ cov forms plan j)
      (fun o => (∃ u, o = .fin u ∧ Covers forms demand plan) ∨ (o = .rt (z, 0) ∧ ¬ Covers forms demand plan)) (s := ()) (fun j d h => absurd h (Nat.not_lt_zero _)) (by
        intro k s hk hI
        have hdk : demand[k]? = some demand[k] := List.getElem?_eq_getElem hk
        rw [idx_nat, idx_nat, hv k (by omega), hdk]
        simp only [Option.bind_some]
        by_cases hlt : cov forms plan k < demand[k]
        · simp only [hlt, decide_true, if_true]
          exact ⟨_, rfl, .inr ⟨rfl, fun h => by have := h k _ hdk; omega⟩⟩
        · simp only [hlt, decide_false, Bool.false_eq_true, if_false]
          refine ⟨_, rfl, fun j d hj hjd => ?_⟩
          rcases Nat.lt_or_eq_of_le (Nat.le_of_lt_succ hj) with h | rfl
          · exact hI j d h hjd
          · rw [hdk] at hjd; cases hjd; omega)
      (fun s hI => .inl ⟨s, rfl, fun j d hjd => hI j d (List.getElem?_eq_some_iff.1 hjd).1 hjd⟩)
    rw [ho]
    obtain ⟨cb, hcb, hcbi⟩ := covered_val forms demand plan h4 h60 hf hl hp
    rcases hq with ⟨u, rfl, hcov⟩ | ⟨rfl, hcov⟩
    · simp only [Option.bind_some, Lp.andThen_fin]
      have sim := rangeB_sim (R := List Int × Int) forms.length
        (b := fun k84 s91 => Option.bind (Option.bind (idx forms (k84 : Int)) fun x115 => Option.bind (idx plan (k84 : Int)) fun x128 => Option.bind (idx s91 (k84 : Int)) fun x132 => Option.bind (setI s91 (k84 : Int) x128) fun x137 => Option.bind (whileB (R := Empty) (fun s154 => if (decide (s154.2 < (if w64 (x115.from_ + x115.slots) < (demand.length : Int) then w64 (x115.from_ + x115.slots) else (demand.length : Int)))) = true then Option.bind (idx s154.1 (k84 : Int)) fun x174 => Option.bind (idx r s154.2) fun x179 => Option.bind (idx demand s154.2) fun x184 => Option.bind (setI s154.1 (k84 : Int) (if w64 (x179 - x184) < x174 then w64 (x179 - x184) else x174)) fun x195 => some (.nx (x195, w64 (s154.2 + 1))) else some (.bk (s154.1, s154.2))) (x137, x115.from_)) fun o142 => o142.andThen (fun y => y.elim) fun s143 => some s143.1) fun s106 => some (.nx s106))
        (b' := fun k42 s49 => Option.bind (Option.bind (slices_Clone_Lint_int plan) fun x71 => Option.bind (whileB (R := Empty) (fun s92 => Option.bind (portref2_covered forms demand s92.2) fun x107 => Option.bind (if x107 = true then (Option.bind (idx s92.2 (k42 : Int)) fun x114 => some (decide ((0 : Int) < x114))) else (some false)) fun s112 => if s112 = true then Option.bind (Option.bind (idx s92.2 (k42 : Int)) fun x132 => Option.bind (setI s92.2 (k42 : Int) (w64 (x132 - 1))) fun x141 => Option.bind (portref2_covered forms demand x141) fun x145 => Option.bind (if x145 = true then Option.bind (idx s92.1 (k42 : Int)) fun x160 => Option.bind (setI s92.1 (k42 : Int) (w64 (x160 + 1))) fun x169 => some x169 else some s92.1) fun s150 => some (s150, x141)) fun s121 => some (.nx (s121.1, s121.2)) else some (.bk (s92.1, s92.2))) (s49, x71)) fun o78 => o78.andThen (fun y => y.elim) fun s79 => some s79.1) fun s63 => some (.nx s63))
        (s := z) (s' := z) (fun _ => False) (fun k s s' => s = s' ∧ s.length = forms.length ∧ ∀ j, k ≤ j → j < forms.length → s[j]? = some 0) ⟨rfl, by rw [← hz]; simp, fun j _ hj => by rw [← hz]; simp [hj]⟩ ?_
      · rcases sim with ⟨_, _, _, h⟩ | ⟨t, t', q1, q2, rfl, _⟩
        · exact h.elim
        · rw [q1, q2]; exact ⟨_, rfl, rfl⟩
      · rintro k s _ hk ⟨rfl, hsl, hs0⟩
        refine Or.inr ?_
        have hok := hf _ (List.getElem_mem hk)
        have hfk : forms[k]? = some forms[k] := List.getElem?_eq_getElem hk
        generalize forms[k] = f at hok hfk
        have hpk : plan[k]? = some plan[k] := List.getElem?_eq_getElem (by omega)
        generalize plan[k] = c at hpk
        have hsk := hs0 k (Nat.le_refl _) hk
        obtain ⟨m1, b1', w1, m1c, m1r, m1e⟩ := spare_one forms demand plan r s k f c h4 hok (by omega) hlen' hv (cov_bound forms plan h60 hp) hd
        obtain ⟨m2, q2, w2, m20, m2c, m2r, m2e⟩ := spare_two forms demand plan s k c h4 h60 hf hl hp (by omega) hpk hsk hcov
        have m2r' := (covers_set (i := m2) hfk hpk hcov).1 m2r
        have e : m1 = m2 := by
          apply Int.le_antisymm
          · rcases m2e with h | h
            · omega
            · rw [covers_set (i := m2 + 1) hfk hpk hcov] at h
              false_or_by_contra
              rename_i hlt
              exact h fun j d hj h1 h2 => by have := m1r j d hj h1 h2; omega
          · rcases m1e with h | ⟨j, d, hj, h1, h2, h3⟩
            · omega
            · have := m2r' j d hj h1 h2; omega
        subst e
        simp only [idx_nat, hfk, hpk, hsk, Option.bind_some, setI_at _ (show k < s.length by omega), clone_self plan (by omega)]
        simp only [idx_nat] at w1 w2
        rw [w1, w2]
        refine ⟨_, _, rfl, rfl, rfl, by simpa using hsl, fun j hj hjn => ?_⟩
        rw [List.getElem?_set, if_neg (by omega)]
        exact hs0 j (by omega) hjn
    · simp only [Option.bind_some, Lp.andThen_rt]
      have hcf : portref2_covered forms demand plan = some false := by
        cases cb with
        | true => exact absurd (hcbi.1 rfl) hcov
        | false => exact hcb
      obtain ⟨t, ht, rfl⟩ := rangeB_inv (R := List Int × Int) (b := fun k42 s49 => Option.bind (Option.bind (slices_Clone_Lint_int plan) fun x71 => Option.bind (whileB (R := Empty) (fun s92 => Option.bind (portref2_covered forms demand s92.2) fun x107 => Option.bind (if x107 = true then (Option.bind (idx s92.2 (k42 : Int)) fun x114 => some (decide ((0 : Int) < x114))) else (some false)) fun s112 => if s112 = true then Option.bind (Option.bind (idx s92.2 (k42 : Int)) fun x132 => Option.bind (setI s92.2 (k42 : Int) (w64 (x132 - 1))) fun x141 => Option.bind (portref2_covered forms demand x141) fun x145 => Option.bind (if x145 = true then Option.bind (idx s92.1 (k42 : Int)) fun x160 => Option.bind (setI s92.1 (k42 : Int) (w64 (x160 + 1))) fun x169 => some x169 else some s92.1) fun s150 => some (s150, x141)) fun s121 => some (.nx (s121.1, s121.2)) else some (.bk (s92.1, s92.2))) (s49, x71)) fun o78 => o78.andThen (fun y => y.elim) fun s79 => some s79.1) fun s63 => some (.nx s63)) forms.length (fun _ s => s = z) (s := z) rfl (by
        rintro k _ hk rfl
        rw [clone_self plan (by omega)]
        simp only [Option.bind_some]
        rw [spare_none forms demand plan _ k hcf]
        exact ⟨_, rfl, rfl⟩)
      rw [ht]
      exact ⟨_, rfl, rfl⟩
  obtain ⟨q, q1, q2⟩ := main
  have hself : slices_Equal_Lint_int q.1 q.1 = some true := equal_self q.1
  unfold portlaw2_PlanSpares
  simp [q1, q2, hself]
end Go.Proofs.Ytlclnbcjebpfkaa.M
