/-
  Shares and Percentile and their references agree: plain part.
-/
import Derived.Test.YtnjlojicebcikaaGreatClockSharesSharesIns
import Derived.Test.YtnjlojicebcikaaGreatClockSharesClkMeter
namespace Go.Proofs.YtnjlojicebcikaaGreat.M
open Go Go.Pu
set_option linter.unusedSimpArgs false
set_option linter.unusedVariables false

theorem bid {α : Type} (o : Option α) : (o.bind fun x => some x) = o := by cases o <;> rfl
theorem shares_loop {l : List level_Clock} {cals : List cal_Calendar} (hok : AllOk l cals) (m : Int) (h0 : 0 ≤ m) (h1 : m ≤ 3000000) :
    ∃ A B, rangeB (R := (List level_Share) × Int) (fun k20 s28 => Option.bind (Option.bind (idx l (k20 : Int)) fun x53 => if (decide (m < x53.start)) = true then some s28 else Option.bind (slices_BinarySearchFunc_Llevel_Share_level_Share_level_Clock s28 x53 (fun y77 y78 => level_Shares_1 y77 y78)) fun x79 => Option.bind (if (!x79.2) = true then Option.bind (slices_Insert_Llevel_Share_level_Share s28 x79.1 ([(⟨x53.level, x53.kind, 0, 0, 0, 0⟩ : level_Share)] : List level_Share)) fun x115 => some x115 else some s28) fun s96 => Option.bind (level_stateAt x53 cals m) fun x126 => Option.bind (Option.bind (if (x126 == 4) = true then Option.bind (idx s96 x79.1) fun x151 => Option.bind (setI s96 x79.1 ({ (x151 : level_Share) with kept := w64 (x151.kept + 1) })) fun x162 => some x162 else Option.bind (if (x126 == 5) = true then Option.bind (idx s96 x79.1) fun x178 => Option.bind (setI s96 x79.1 ({ (x178 : level_Share) with broken := w64 (x178.broken + 1) })) fun x189 => some x189 else Option.bind (if (x126 == 6) = true then Option.bind (idx s96 x79.1) fun x205 => Option.bind (setI s96 x79.1 ({ (x205 : level_Share) with gone := w64 (x205.gone + 1) })) fun x216 => some x216 else Option.bind (idx s96 x79.1) fun x221 => Option.bind (setI s96 x79.1 ({ (x221 : level_Share) with running := w64 (x221.running + 1) })) fun x232 => some x232) fun s195 => some s195) fun s168 => some s168) fun s141 => some s141) fun s131 => some s131) fun s44 => some (.nx s44)) l.length 0 ([] : (List level_Share)) = some (.fin A) ∧ rangeB (R := (List level_Share) × Int) (fun k22 s30 => Option.bind (Option.bind (idx l (k22 : Int)) fun x55 => if (decide (m < x55.start)) = true then some s30 else Option.bind (slices_IndexFunc_Llevel_Share_level_Share s30 (fun y76 => portref2_SharesOf_1 y76 x55)) fun x77 => Option.bind (if (decide (x77 < 0)) = true then Option.bind (appendL 2932031007402 s30 ([(⟨x55.level, x55.kind, 0, 0, 0, 0⟩ : level_Share)] : List level_Share)) fun x107 => some (x107, (s30.length : Int)) else some (s30, x77)) fun s90 => Option.bind (portref2_meter_state ⟨cals⟩ x55 m) fun x118 => Option.bind (Option.bind (if (x118 == 4) = true then Option.bind (idx s90.1 s90.2) fun x144 => Option.bind (setI s90.1 s90.2 ({ (x144 : level_Share) with kept := w64 (x144.kept + 1) })) fun x155 => some x155 else Option.bind (if (x118 == 5) = true then Option.bind (idx s90.1 s90.2) fun x171 => Option.bind (setI s90.1 s90.2 ({ (x171 : level_Share) with broken := w64 (x171.broken + 1) })) fun x182 => some x182 else Option.bind (if (x118 == 6) = true then Option.bind (idx s90.1 s90.2) fun x198 => Option.bind (setI s90.1 s90.2 ({ (x198 : level_Share) with gone := w64 (x198.gone + 1) })) fun x209 => some x209 else Option.bind (idx s90.1 s90.2) fun x214 => Option.bind (setI s90.1 s90.2 ({ (x214 : level_Share) with running := w64 (x214.running + 1) })) fun x225 => some x225) fun s188 => some s188) fun s161 => some s161) fun s134 => some s134) fun s124 => some s124) fun s46 => some (.nx s46)) l.length 0 ([] : (List level_Share)) = some (.fin B) ∧ A.Pairwise kl ∧ A.Perm B ∧ A.length ≤ 8000 := by
  rcases rangeB_sim (R := (List level_Share) × Int) (b := fun k20 s28 => Option.bind (Option.bind (idx l (k20 : Int)) fun x53 => if (decide (m < x53.start)) = true then some s28 else Option.bind (slices_BinarySearchFunc_Llevel_Share_level_Share_level_Clock s28 x53 (fun y77 y78 => level_Shares_1 y77 y78)) fun x79 => Option.bind (if (!x79.2) = true then Option.bind (slices_Insert_Llevel_Share_level_Share s28 x79.1 ([(⟨x53.level, x53.kind, 0, 0, 0, 0⟩ : level_Share)] : List level_Share)) fun x115 => some x115 else some s28) fun s96 => Option.bind (level_stateAt x53 cals m) fun x126 => Option.bind (Option.bind (if (x126 == 4) = true then Option.bind (idx s96 x79.1) fun x151 => Option.bind (setI s96 x79.1 ({ (x151 : level_Share) with kept := w64 (x151.kept + 1) })) fun x162 => some x162 else Option.bind (if (x126 == 5) = true then Option.bind (idx s96 x79.1) fun x178 => Option.bind (setI s96 x79.1 ({ (x178 : level_Share) with broken := w64 (x178.broken + 1) })) fun x189 => some x189 else Option.bind (if (x126 == 6) = true then Option.bind (idx s96 x79.1) fun x205 => Option.bind (setI s96 x79.1 ({ (x205 : level_Share) with gone := w64 (x205.gone + 1) })) fun x216 => some x216 else Option.bind (idx s96 x79.1) fun x221 => Option.bind (setI s96 x79.1 ({ (x221 : level_Share) with running := w64 (x221.running + 1) })) fun x232 => some x232) fun s195 => some s195) fun s168 => some s168) fun s141 => some s141) fun s131 => some s131) fun s44 => some (.nx s44)) (b' := fun k22 s30 => Option.bind (Option.bind (idx l (k22 : Int)) fun x55 => if (decide (m < x55.start)) = true then some s30 else Option.bind (slices_IndexFunc_Llevel_Share_level_Share s30 (fun y76 => portref2_SharesOf_1 y76 x55)) fun x77 => Option.bind (if (decide (x77 < 0)) = true then Option.bind (appendL 2932031007402 s30 ([(⟨x55.level, x55.kind, 0, 0, 0, 0⟩ : level_Share)] : List level_Share)) fun x107 => some (x107, (s30.length : Int)) else some (s30, x77)) fun s90 => Option.bind (portref2_meter_state ⟨cals⟩ x55 m) fun x118 => Option.bind (Option.bind (if (x118 == 4) = true then Option.bind (idx s90.1 s90.2) fun x144 => Option.bind (setI s90.1 s90.2 ({ (x144 : level_Share) with kept := w64 (x144.kept + 1) })) fun x155 => some x155 else Option.bind (if (x118 == 5) = true then Option.bind (idx s90.1 s90.2) fun x171 => Option.bind (setI s90.1 s90.2 ({ (x171 : level_Share) with broken := w64 (x171.broken + 1) })) fun x182 => some x182 else Option.bind (if (x118 == 6) = true then Option.bind (idx s90.1 s90.2) fun x198 => Option.bind (setI s90.1 s90.2 ({ (x198 : level_Share) with gone := w64 (x198.gone + 1) })) fun x209 => some x209 else Option.bind (idx s90.1 s90.2) fun x214 => Option.bind (setI s90.1 s90.2 ({ (x214 : level_Share) with running := w64 (x214.running + 1) })) fun x225 => some x225) fun s188 => some s188) fun s161 => some s161) fun s134 => some s134) fun s124 => some s124) fun s46 => some (.nx s46)) l.length (fun _ => False) (fun k A B => A.Pairwise kl ∧ A.Perm B ∧ A.length ≤ k) (s := []) (s' := []) ⟨List.Pairwise.nil, .refl _, Nat.le_refl _⟩ (by
    rintro k A B hk ⟨hs, hp, hle⟩
    have hc := hok.clocks l[k] (List.getElem_mem hk)
    have hso := hok.sorted (c := l[k]) (List.getElem_mem hk)
    have hlen := hok.len
    rw [idx_lt l k hk, Option.bind_some, Option.bind_some]
    by_cases hm : m < l[k].start
    · rw [if_pos (by simpa using hm), if_pos (by simpa using hm)]
      exact Or.inr ⟨A, B, rfl, rfl, hs, hp, by omega⟩
    · rw [if_neg (by simpa using hm), if_neg (by simpa using hm)]
      obtain ⟨q, s1, s2⟩ := state_val hc hso m h0 h1
      obtain ⟨A', B', e1, e2, e3, e4, e5⟩ := step_sh hs hp (by omega) l[k] q
      refine Or.inr ⟨A', B', ?_, ?_, e3, e4, by omega⟩
      · simp only [s1, Option.bind_some, bump_val, Option.bind_assoc] at e1 ⊢
        simp only [← Option.bind_assoc] at e1 ⊢
        rw [e1]
        rfl
      · simp only [s2, Option.bind_some, bump_val] at e2 ⊢
        simp only [bid] at e2 ⊢
        rw [e2]
        rfl) with ⟨_, _, _, h⟩ | ⟨A, B, a1, a2, a3, a4, a5⟩
  · exact h.elim
  · exact ⟨A, B, a1, a2, a3, a4, Nat.le_trans a5 hok.len⟩
theorem took_loop {l : List level_Clock} {cals : List cal_Calendar} (hok : AllOk l cals) :
    ∃ t, rangeB (R := Int × Int) (fun k14 s22 => Option.bind (Option.bind (idx l (k14 : Int)) fun x47 => Option.bind (if (x47.end_ == 1) = true then Option.bind (level_elapsed x47 cals x47.stop) fun x81 => Option.bind (appendL 17592186044416 s22 ([x81] : List Int)) fun x90 => some x90 else some s22) fun s67 => some s67) fun s38 => some (.nx s38)) l.length 0 ([] : (List Int)) = some (.fin t) ∧ rangeB (R := Int × Int) (fun k24 s32 => Option.bind (Option.bind (idx l (k24 : Int)) fun x57 => Option.bind (if (x57.end_ == 1) = true then Option.bind (portref2_meter_elapsed ⟨cals⟩ x57 x57.stop) fun x91 => Option.bind (appendL 17592186044416 s32 ([x91] : List Int)) fun x101 => some x101 else some s32) fun s77 => some s77) fun s48 => some (.nx s48)) l.length 0 ([] : (List Int)) = some (.fin t) ∧ t.length ≤ 8000 := by
  rcases rangeB_sim (R := Int × Int) (b := fun k14 s22 => Option.bind (Option.bind (idx l (k14 : Int)) fun x47 => Option.bind (if (x47.end_ == 1) = true then Option.bind (level_elapsed x47 cals x47.stop) fun x81 => Option.bind (appendL 17592186044416 s22 ([x81] : List Int)) fun x90 => some x90 else some s22) fun s67 => some s67) fun s38 => some (.nx s38)) (b' := fun k24 s32 => Option.bind (Option.bind (idx l (k24 : Int)) fun x57 => Option.bind (if (x57.end_ == 1) = true then Option.bind (portref2_meter_elapsed ⟨cals⟩ x57 x57.stop) fun x91 => Option.bind (appendL 17592186044416 s32 ([x91] : List Int)) fun x101 => some x101 else some s32) fun s77 => some s77) fun s48 => some (.nx s48)) l.length (fun _ => False) (fun k A B => A = B ∧ A.length ≤ k) (s := []) (s' := []) ⟨rfl, Nat.le_refl _⟩ (by
    rintro k A _ hk ⟨rfl, hle⟩
    have hc := hok.clocks l[k] (List.getElem_mem hk)
    have hso := hok.sorted (c := l[k]) (List.getElem_mem hk)
    have hlen := hok.len
    rw [idx_lt l k hk, Option.bind_some, Option.bind_some]
    by_cases he : l[k].end_ = 1
    · have h1 := hc.stop
      have h2 := hc.both
      have hst := hc.start
      rw [if_pos (by simpa using he), if_pos (by simpa using he), elapsed_val _ hst.1 hst.2 hso _ (by omega) (by omega), relapsed_val _ hst.1 hst.2 hso _ (by omega) (by omega)]
      simp only [Option.bind_some, appendL]
      rw [if_pos (by simp; omega)]
      exact Or.inr ⟨_, _, rfl, rfl, rfl, by simp; omega⟩
    · rw [if_neg (by simpa using he), if_neg (by simpa using he)]
      exact Or.inr ⟨A, A, rfl, rfl, rfl, by omega⟩) with ⟨_, _, _, h⟩ | ⟨A, _, a1, a2, rfl, a4⟩
  · exact h.elim
  · exact ⟨A, a1, a2, Nat.le_trans a4 hok.len⟩

theorem per_idx (t : List Int) (ht : 0 < t.length) (hl : t.length ≤ 8000) (p : Int) (h0 : 0 ≤ p) (h1 : p ≤ 100) : ∃ x, idx t (w64 ((if 1 < w64 (Int.tdiv (w64 ((w64 (p * (t.length : Int))) + 99)) 100) then w64 (Int.tdiv (w64 ((w64 (p * (t.length : Int))) + 99)) 100) else 1) - 1)) = some x := by
  have hz0 : 0 ≤ p * (t.length : Int) := Int.mul_nonneg h0 (by omega)
  have hz1 : p * (t.length : Int) ≤ 100 * (t.length : Int) := Int.mul_le_mul_of_nonneg_right h1 (by omega)
  generalize p * (t.length : Int) = z at hz0 hz1
  rw [w64_id (n := z) (by omega) (by omega), w64_id (n := z + 99) (by omega) (by omega), Int.tdiv_eq_ediv_of_nonneg (by omega), w64_id (n := (z + 99) / 100) (by omega) (by omega)]
  have h2 : (z + 99) / 100 ≤ (t.length : Int) := by omega
  have h3 : 0 ≤ (z + 99) / 100 := by omega
  generalize (z + 99) / 100 = y at h2 h3
  have h4 : 1 ≤ (if 1 < y then y else 1) ∧ (if 1 < y then y else 1) ≤ (t.length : Int) := by split <;> omega
  generalize (if 1 < y then y else 1) = u at h4
  rw [w64_id (by omega) (by omega)]
  obtain ⟨x, hx, _⟩ := idx_of (l := t) (i := u - 1) (by omega) (by omega)
  exact ⟨x, hx⟩

theorem shares_eq (l : List level_Clock) (cals : List cal_Calendar) (m : Int) : ∃ r, level_Shares l cals m = some r ∧ portref2_SharesOf l cals m = some r := by
  obtain ⟨r, a1, b1, c1⟩ := check_eq l cals
  unfold level_Shares portref2_SharesOf
  simp only [a1, b1, Option.bind_some, or_two]
  by_cases hr : r = 0
  rotate_left
  · have : (r != 0) = true := by simpa using hr
    simp [hr]
  have hok := c1 hr
  have hn := hok.ncal
  subst hr
  simp only [ne_eq, not_true, if_false, bne_self_eq_false, Bool.false_eq_true]
  by_cases hm : 0 ≤ m ∧ m ≤ 3000000
  rotate_left
  · have e1 : level_moment m 0 = 2 := by
      have : level_within m 0 3000000 = false := by simp [level_within]; omega
      simp [level_moment, this]
    have e2 : portref2_IsMoment m = false := by simp [portref2_IsMoment]; omega
    simp [e1, e2]
  have e1 : level_moment m 0 = 0 := by
    have : level_within m 0 3000000 = true := by simp [level_within]; omega
    simp [level_moment, this]
  have e2 : portref2_IsMoment m = true := by simp [portref2_IsMoment]; omega
  obtain ⟨A, B, f1, f2, f3, f4, f5⟩ := shares_loop hok m hm.1 hm.2
  simp only [e1, e2, bne_self_eq_false, Bool.false_eq_true, if_false, Bool.not_true, meter_val cals (by omega), Option.bind_some]
  rw [f1, f2]
  simp only [Option.bind_some, Lp.andThen_fin, sort_sh f3 f4 f5]
  exact ⟨_, rfl, rfl⟩

theorem per_eq (l : List level_Clock) (cals : List cal_Calendar) (p : Int) : ∃ r, level_Percentile l cals p = some r ∧ portref2_PercentileOf l cals p = some r := by
  obtain ⟨r, a1, b1, c1⟩ := check_eq l cals
  unfold level_Percentile portref2_PercentileOf
  simp only [a1, b1, Option.bind_some]
  by_cases hr : r = 0
  rotate_left
  · have : (r != 0) = true := by simpa using hr
    simp [hr]
  have hok := c1 hr
  have hn := hok.ncal
  subst hr
  simp only [ne_eq, not_true, if_false, bne_self_eq_false, Bool.false_eq_true]
  by_cases hm : 0 ≤ p ∧ p ≤ 100
  rotate_left
  · have e1 : level_within p 0 100 = false := by simp [level_within]; omega
    have e2 : ((decide (p < 0)) || (decide ((100 : Int) < p))) = true := by simp; omega
    simp [e1, e2]
  have e1 : level_within p 0 100 = true := by simp [level_within]; omega
  have e2 : ((decide (p < 0)) || (decide ((100 : Int) < p))) = false := by simp; omega
  obtain ⟨t, f1, f2, f3⟩ := took_loop hok
  simp only [e1, e2, Bool.false_eq_true, if_false, Bool.not_true, meter_val cals (by omega), Option.bind_some]
  rw [f1, f2]
  simp only [Option.bind_some, Lp.andThen_fin]
  by_cases ht : t.length = 0
  · have : ((t.length : Int) == 0) = true := by simp [ht]
    simp only [this, if_true]
    exact ⟨_, rfl, rfl⟩
  have hne : ((t.length : Int) == 0) = false := by rw [beq_eq_false_iff_ne]; omega
  have hsort : sortIntsL t = some (t.mergeSort fun x y => decide (x ≤ y)) := by
    unfold sortIntsL
    rw [if_pos (by omega)]
  have hlen : (t.mergeSort fun x y => decide (x ≤ y)).length = t.length := List.length_mergeSort _
  simp only [hne, Bool.false_eq_true, if_false, hsort, Option.bind_some]
  generalize (t.mergeSort fun x y => decide (x ≤ y)) = u at hlen
  obtain ⟨x, hx⟩ := per_idx u (by omega) (by omega) p hm.1 hm.2
  simp only [hx, Option.bind_some]
  exact ⟨_, rfl, rfl⟩

theorem equal_shares (l : List level_Share) : slices_Equal_Llevel_Share_level_Share l l = some true := by
  unfold slices_Equal_Llevel_Share_level_Share
  simp only [bne_self_eq_false, Bool.false_eq_true, if_false]
  obtain ⟨t, h, _⟩ := rangeB_inv (R := Bool) (b := fun k9 (_ : Unit) => Option.bind (idx l (k9 : Int)) fun x29 => Option.bind (idx l (k9 : Int)) fun x34 => if (!(x29.level == x34.level && (x29.kind == x34.kind && (x29.running == x34.running && (x29.kept == x34.kept && (x29.broken == x34.broken && (x29.gone == x34.gone))))))) = true then some (.rt false) else some (.nx ())) l.length (fun _ _ => True) (s := ()) trivial
    (fun k s hk _ => by rw [idx_lt _ _ hk]; simp)
  rw [h]
  rfl

theorem shares_true (l : List level_Clock) (cals : List cal_Calendar) (m p : Int) : portlaw2_ClockShares l cals m p = some true := by
  obtain ⟨x, x1, x2⟩ := shares_eq l cals m
  obtain ⟨y, y1, y2⟩ := per_eq l cals p
  unfold portlaw2_ClockShares
  simp only [x1, x2, y1, y2, Option.bind_some, beq_self_eq_true, if_true, equal_shares]
end Go.Proofs.YtnjlojicebcikaaGreat.M
