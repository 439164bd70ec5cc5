/-
  Simulate and its reference agree: plain part.
-/
import Derived.Test.YtklcifchnpnpnaaStaffSimulatesM
import Derived.Test.YtklcifchnpnpnaaPl
namespace Go.Proofs.Ytklcifchnpnpnaa.M
open Go Go.Pu
set_option linter.unusedSimpArgs false
set_option linter.unusedVariables false

theorem equal_self (l : List Int) : slices_Equal_Lint_int l l = some true := by
  unfold slices_Equal_Lint_int
  simp only [bne_self_eq_false, Bool.false_eq_true, if_false]
  obtain ⟨t, h, _⟩ := rangeB_inv (R := Bool) (b := fun k9 (_ : Unit) => Option.bind (idx l (k9 : Int)) fun x29 => Option.bind (idx l (k9 : Int)) fun x33 => if (x29 != x33) = true then some (.rt false) else some (.nx ())) l.length (fun _ _ => True) (s := ()) trivial
    (fun k s hk _ => by rw [idx_lt _ _ hk]; simp)
  rw [h]
  rfl

theorem min_spec (l : List Int) (h0 : 0 < l.length) (h1 : l.length ≤ 1000) : ∃ m, slices_Min_Lint_int l = some m ∧ m ∈ l ∧ ∀ x ∈ l, m ≤ x := by
  unfold slices_Min_Lint_int
  have e1 : decide ((l.length : Int) < 1) = false := by simp; omega
  simp only [e1, Bool.false_eq_true, if_false]
  have e2 : idx l 0 = some l[0] := idx_lt l 0 h0
  rw [e2]
  simp only [Option.bind_some]
  obtain ⟨r, hr, t, rfl, hm, hle⟩ := whileB_spec (R := Int) (body := fun (s15 : Int × Int) => if (decide (s15.2 < (l.length : Int))) = true then Option.bind (idx l s15.2) fun x26 => some (.nx ((if x26 < s15.1 then x26 else s15.1), w64 (s15.2 + 1))) else some (.bk (s15.1, s15.2)))
    (fun s => s.1 ∈ l ∧ ∃ j : Nat, s.2 = j ∧ 1 ≤ j ∧ j ≤ l.length ∧ ∀ i x, i < j → l[i]? = some x → s.1 ≤ x) (fun s => l.length - s.2.toNat)
    (fun r => ∃ t, r = .fin t ∧ t.1 ∈ l ∧ ∀ x ∈ l, t.1 ≤ x) (s := (l[0], 1))
    ⟨List.getElem_mem h0, 1, rfl, Nat.le_refl _, h0, fun i x hi hx => by
      obtain rfl : i = 0 := by omega
      rw [List.getElem?_eq_getElem h0] at hx
      cases hx
      exact Int.le_refl _⟩
    (by
      rintro ⟨m, j⟩ ⟨hm, j, rfl, hj1, hj2, hle⟩
      by_cases hj : j < l.length
      · have e3 : decide ((j : Int) < (l.length : Int)) = true := by simp; omega
        have hw : w64 ((j : Int) + 1) = ((j + 1 : Nat) : Int) := by rw [w64_id (by omega) (by omega)]; omega
        refine ⟨_, by simp only [e3, if_true]; rw [idx_lt _ _ hj]; rfl, ?_⟩
        simp only [hw]
        refine ⟨⟨?_, j + 1, rfl, by omega, hj, fun i x hi hx => ?_⟩, by simp only [Int.toNat_natCast]; omega⟩
        · split
          · exact List.getElem_mem hj
          · exact hm
        · rcases Nat.lt_or_eq_of_le (Nat.le_of_lt_succ hi) with h | rfl
          · have := hle i x h hx
            simp only at this ⊢
            split <;> omega
          · rw [List.getElem?_eq_getElem hj] at hx
            cases hx
            split <;> omega
      · have e3 : decide ((j : Int) < (l.length : Int)) = false := by simp; omega
        refine ⟨_, by simp only [e3, Bool.false_eq_true, if_false]; rfl, ?_⟩
        refine ⟨_, rfl, hm, fun x hx => ?_⟩
        obtain ⟨i, hi, rfl⟩ := List.mem_iff_getElem.1 hx
        exact hle i _ (by omega) (List.getElem?_eq_getElem hi))
  refine ⟨t.1, ?_, hm, hle⟩
  rw [hr]
  rfl

theorem index_spec (l : List Int) (v : Int) (hv : v ∈ l) : ∃ i : Nat, slices_Index_Lint_int l v = some (i : Int) ∧ l[i]? = some v := by
  unfold slices_Index_Lint_int
  obtain ⟨r, hr, i, rfl, hi⟩ := rangeB_spec (R := Int) (body := fun k6 (_ : Unit) => Option.bind (idx l (k6 : Int)) fun x21 => if (v == x21) = true then some (.rt (k6 : Int)) else some (.nx ())) l.length
    (fun k _ => ∀ j, j < k → l[j]? ≠ some v) (fun r => ∃ i : Nat, r = .rt (i : Int) ∧ l[i]? = some v) (s := ()) (fun j h => absurd h (Nat.not_lt_zero _))
    (by
      intro k s hk hI
      rw [idx_lt _ _ hk]
      simp only [Option.bind_some]
      by_cases h : v = l[k]
      · refine ⟨.rt (k : Int), by simp [h], k, rfl, ?_⟩
        rw [List.getElem?_eq_getElem hk, h]
      · refine ⟨.nx (), by simp [h], fun j hj => ?_⟩
        rcases Nat.lt_or_eq_of_le (Nat.le_of_lt_succ hj) with h2 | rfl
        · exact hI j h2
        · rw [List.getElem?_eq_getElem hk]
          exact fun h3 => h (by cases h3; rfl))
    (fun s hI => by
      obtain ⟨i, hi, rfl⟩ := List.mem_iff_getElem.1 hv
      exact absurd (List.getElem?_eq_getElem hi) (hI i hi))
  refine ⟨i, ?_, hi⟩
  rw [hr]
  rfl

theorem setI_nat (l : List Int) (i : Nat) (x : Int) (h : i < l.length) : setI l (i : Int) x = some (l.set i x) := by
  unfold setI
  rw [if_pos (by omega), Int.toNat_natCast]

theorem set_perm_erase : ∀ (l : List Int) (i : Nat) (x : Int), i < l.length → (l.set i x).Perm (x :: l.eraseIdx i)
  | a :: l, 0, x, _ => by simp
  | a :: l, i + 1, x, h => by
    simp only [List.set_cons_succ, List.eraseIdx_cons_succ]
    exact ((set_perm_erase l i x (by simpa using h)).cons a).trans (.swap _ _ _)
theorem get_perm_erase : ∀ (l : List Int) (i : Nat) (h : i < l.length), (l[i] :: l.eraseIdx i).Perm l
  | a :: l, 0, _ => by simp
  | a :: l, i + 1, h => by
    simp only [List.getElem_cons_succ, List.eraseIdx_cons_succ]
    exact (List.Perm.swap _ _ _).trans ((get_perm_erase l i (by simpa using h)).cons a)

def CallOk (c : staff_Call) : Prop := 0 ≤ c.at_ ∧ c.at_ ≤ 3000000 ∧ 1 ≤ c.length ∧ c.length ≤ 1440

theorem simulate_eq (calls : List staff_Call) (n : Int) : ∃ r, staff_Simulate calls n = some r ∧ portref2_SimulateOf calls n = some r := by
  unfold staff_Simulate portref2_SimulateOf
  by_cases h6 : (10000 : Int) < (calls.length : Int)
  · simp only [h6, decide_true, if_true]
    exact ⟨_, rfl, rfl⟩
  simp only [h6, decide_false, Bool.false_eq_true, if_false]
  have sim := rangeB_sim (R := List Int × Int) calls.length
    (b := fun k7 s14 => Option.bind (idx calls (k7 : Int)) fun x27 => if ((!(staff_within x27.at_ 0 3000000)) || (!(staff_within x27.length 1 1440))) = true then some (.rt (([] : (List Int)), 2)) else if (decide (x27.at_ < s14)) = true then some (.rt (([] : (List Int)), 5)) else some (.nx x27.at_))
    (b' := fun k7 (_ : Unit) => Option.bind (idx calls (k7 : Int)) fun x27 => if (((!(portref2_IsMoment x27.at_)) || (decide (x27.length < 1))) || (decide ((1440 : Int) < x27.length))) = true then some (.rt (([] : (List Int)), 2)) else Option.bind (if (decide ((0 : Int) < (k7 : Int))) = true then (Option.bind (idx calls (w64 ((k7 : Int) - 1))) fun x51 => some (decide (x27.at_ < x51.at_))) else (some false)) fun s49 => if s49 = true then some (.rt (([] : (List Int)), 5)) else some (.nx ()))
    (s := 0) (s' := ()) (fun _ => True) (fun k b _ => (∀ j f, j < k → calls[j]? = some f → CallOk f) ∧ (k = 0 → b = 0) ∧ ∀ f, 0 < k → calls[k - 1]? = some f → b = f.at_) ⟨fun j f h => absurd h (Nat.not_lt_zero _), fun _ => rfl, fun f h => absurd h (Nat.lt_irrefl _)⟩ ?_
  · rcases sim with ⟨r, e1, e2, _⟩ | ⟨t, t', e1, e2, hI, _⟩
    · rw [e1, e2]
      exact ⟨r, rfl, rfl⟩
    rw [e1, e2]
    simp only [Option.bind_some, Lp.andThen_fin]
    by_cases hn : 1 ≤ n ∧ n ≤ 60
    · have c1 : (!(staff_within n 1 60)) = false := by simp [staff_within]; omega
      have c2 : ((decide (n < 1)) || (decide ((60 : Int) < n))) = false := by simp; omega
      simp only [c1, c2, Bool.false_eq_true, if_false]
      have hmk : makeL 35184372088832 n (0 : Int) = some (List.replicate n.toNat 0) := by
        unfold makeL
        rw [if_pos (by omega)]
      rw [hmk]
      simp only [Option.bind_some]
      have sim2 := rangeB_sim (R := List Int × Int) calls.length
        (b := fun k61 (s71 : List Int × List Int) => Option.bind (idx calls (k61 : Int)) fun x88 => Option.bind (slices_Min_Lint_int s71.1) fun x101 => Option.bind (slices_Index_Lint_int s71.1 x101) fun x105 => Option.bind (idx s71.1 x105) fun x107 => Option.bind (appendL 17592186044416 s71.2 ([w64 ((if x88.at_ < x107 then x107 else x88.at_) - x88.at_)] : List Int)) fun x121 => Option.bind (setI s71.1 x105 (w64 ((if x88.at_ < x107 then x107 else x88.at_) + x88.length))) fun x132 => some (.nx (x132, x121)))
        (b' := fun k75 (s85 : List Int × List Int) => Option.bind (idx calls (k75 : Int)) fun x102 => Option.bind (sortIntsL s85.1) fun x115 => Option.bind (idx x115 0) fun x120 => Option.bind (setI x115 0 (w64 ((if x102.at_ < x120 then x120 else x102.at_) + x102.length))) fun x133 => Option.bind (appendL 17592186044416 s85.2 ([w64 ((if x102.at_ < x120 then x120 else x102.at_) - x102.at_)] : List Int)) fun x143 => some (.nx (x133, x143)))
        (s := (List.replicate n.toNat 0, [])) (s' := (List.replicate n.toNat 0, [])) (fun _ => True)
        (fun k s s' => s.2 = s'.2 ∧ s.2.length = k ∧ s.1.Perm s'.1 ∧ s.1.length = n.toNat ∧ ∀ x ∈ s.1, 0 ≤ x ∧ x ≤ 3000000 + 1440 * (k : Int))
        ⟨rfl, rfl, .refl _, by simp, fun x hx => by
          have := List.eq_of_mem_replicate hx
          omega⟩ ?_
      · rcases sim2 with ⟨r, e3, e4, _⟩ | ⟨t, t', e3, e4, hI2, _⟩
        · rw [e3, e4]
          exact ⟨r, rfl, rfl⟩
        · rw [e3, e4]
          exact ⟨_, rfl, by rw [hI2]; rfl⟩
      · rintro k ⟨free, out⟩ ⟨busy, out'⟩ hk ⟨h1, h2, h3, h4, h5⟩
        dsimp only at h1 h2 h3 h4 h5
        subst h1
        have hc : calls[k]? = some calls[k] := List.getElem?_eq_getElem hk
        have hok := hI k _ hk hc
        rw [idx_lt _ _ hk]
        generalize calls[k] = c at hc hok
        obtain ⟨o1, o2, o3, o4⟩ := hok
        obtain ⟨m, hm, hmem, hmin⟩ := min_spec free (by omega) (by omega)
        obtain ⟨i, hi, hget⟩ := index_spec free m hmem
        obtain ⟨hi1, hi2⟩ := List.getElem?_eq_some_iff.1 hget
        have hb := h5 m hmem
        have hsort : sortIntsL busy = some (busy.mergeSort fun x y => decide (x ≤ y)) := by
          unfold sortIntsL
          rw [if_pos (by rw [← h3.length_eq]; omega)]
        have hp := List.mergeSort_perm busy (fun x y => decide (x ≤ y))
        have hpw := List.pairwise_mergeSort (le := fun (x y : Int) => decide (x ≤ y)) (fun a b c h h' => by simp at h h' ⊢; omega) (fun a b => by simp; omega) busy
        simp only [Option.bind_some, hm, hi, idx_nat, hget, hsort]
        generalize busy.mergeSort (fun x y => decide (x ≤ y)) = sb at hp hpw
        cases sb with
        | nil =>
          have := hp.length_eq
          rw [← h3.length_eq] at this
          simp at this
          omega
        | cons d rest =>
          have hdm : d = m := by
            have hm2 : m ∈ d :: rest := hp.mem_iff.2 (h3.mem_iff.1 hmem)
            have hd2 : d ∈ free := h3.mem_iff.2 (hp.mem_iff.1 (List.mem_cons_self ..))
            have g1 := hmin d hd2
            rcases List.mem_cons.1 hm2 with h | h
            · exact h.symm
            · have := (List.pairwise_cons.1 hpw).1 m h
              simp at this
              omega
          subst hdm
          have happ : appendL 17592186044416 out [w64 ((if c.at_ < d then d else c.at_) - c.at_)] = some (out ++ [w64 ((if c.at_ < d then d else c.at_) - c.at_)]) := by
            unfold appendL
            rw [if_pos (by simp; omega)]
          have hw : w64 ((if c.at_ < d then d else c.at_) + c.length) = (if c.at_ < d then d else c.at_) + c.length := w64_id (by split <;> omega) (by split <;> omega)
          have hidx0 : idx (d :: rest) 0 = some d := rfl
          have hset0 : ∀ x, setI (d :: rest) 0 x = some (x :: rest) := fun x => by
            have := setI_nat (d :: rest) 0 x (by simp)
            simpa using this
          rw [hidx0]
          simp only [Option.bind_some, hset0, happ, setI_nat free i _ hi1]
          refine .inr ⟨_, _, rfl, rfl, rfl, by simp [h2], ?_, by simp [h4], fun x hx => ?_⟩
          · have p1 : (free.set i (w64 ((if c.at_ < d then d else c.at_) + c.length))).Perm (w64 ((if c.at_ < d then d else c.at_) + c.length) :: free.eraseIdx i) := set_perm_erase free i _ hi1
            have p2 : (free[i] :: free.eraseIdx i).Perm free := get_perm_erase free i hi1
            rw [hi2] at p2
            have p3 : (d :: free.eraseIdx i).Perm (d :: rest) := p2.trans (h3.trans hp.symm)
            exact p1.trans ((List.Perm.cons_inv p3).cons _)
          · rcases List.mem_or_eq_of_mem_set hx with h | h
            · have := h5 x h
              omega
            · rw [hw] at h
              subst h
              split <;> omega
    · have c1 : (!(staff_within n 1 60)) = true := by simp [staff_within]; omega
      have c2 : ((decide (n < 1)) || (decide ((60 : Int) < n))) = true := by simp; omega
      simp only [c1, c2, if_true]
      exact ⟨_, rfl, rfl⟩
  · rintro k b _ hk ⟨hI, hz, hb⟩
    have hc : calls[k]? = some calls[k] := List.getElem?_eq_getElem hk
    rw [idx_lt _ _ hk]
    generalize calls[k] = c at hc
    simp only [Option.bind_some]
    by_cases h1 : CallOk c
    · obtain ⟨o1, o2, o3, o4⟩ := h1
      have c1 : ((!(staff_within c.at_ 0 3000000)) || (!(staff_within c.length 1 1440))) = false := by simp [staff_within]; omega
      have c2 : (((!(portref2_IsMoment c.at_)) || (decide (c.length < 1))) || (decide ((1440 : Int) < c.length))) = false := by simp [portref2_IsMoment]; omega
      simp only [c1, c2, Bool.false_eq_true, if_false]
      have same : (if (decide ((0 : Int) < (k : Int))) = true then (Option.bind (idx calls (w64 ((k : Int) - 1))) fun x51 => some (decide (c.at_ < x51.at_))) else (some false)) = some (decide (c.at_ < b)) := by
        by_cases h0 : 0 < k
        · have hp : calls[k - 1]? = some calls[k - 1] := List.getElem?_eq_getElem (by omega)
          have hw : w64 ((k : Int) - 1) = ((k - 1 : Nat) : Int) := by rw [w64_id (by omega) (by omega)]; omega
          rw [if_pos (by simp; omega), hw, idx_nat, hp, hb _ h0 hp]
          rfl
        · obtain rfl : k = 0 := by omega
          rw [hz rfl]
          have : decide (c.at_ < 0) = false := by simp; omega
          simp [this]
      rw [same]
      simp only [Option.bind_some]
      by_cases h3 : c.at_ < b
      · simp only [h3, decide_true, if_true]
        exact .inl ⟨_, rfl, rfl, trivial⟩
      · rw [if_neg (by simpa using h3), if_neg (by simpa using h3)]
        refine .inr ⟨_, _, rfl, rfl, fun j f hj hf => ?_, fun h => absurd h (Nat.succ_ne_zero _), fun f _ hf => ?_⟩
        · rcases Nat.lt_or_eq_of_le (Nat.le_of_lt_succ hj) with h | rfl
          · exact hI j f h hf
          · rw [hc] at hf; cases hf; exact ⟨o1, o2, o3, o4⟩
        · rw [Nat.add_sub_cancel, hc] at hf; cases hf; rfl
    · have c1 : ((!(staff_within c.at_ 0 3000000)) || (!(staff_within c.length 1 1440))) = true := by
        unfold CallOk at h1
        simp [staff_within]; omega
      have c2 : (((!(portref2_IsMoment c.at_)) || (decide (c.length < 1))) || (decide ((1440 : Int) < c.length))) = true := by
        unfold CallOk at h1
        simp [portref2_IsMoment]; omega
      simp only [c1, c2, if_true]
      exact .inl ⟨_, rfl, rfl, trivial⟩

theorem simulates_true (calls : List staff_Call) (n : Int) : portlaw2_StaffSimulates calls n = some true := by
  obtain ⟨r, h1, h2⟩ := simulate_eq calls n
  unfold portlaw2_StaffSimulates
  rw [h1, h2]
  simp [equal_self]
end Go.Proofs.Ytklcifchnpnpnaa.M
