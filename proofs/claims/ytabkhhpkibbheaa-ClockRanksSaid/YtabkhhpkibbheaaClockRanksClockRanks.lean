import Derived.Test.YtabkhhpkibbheaaClockRanksClkFault
import Derived.Test.YtabkhhpkibbheaaClockRanksClkRuns
import Derived.Test.YtabkhhpkibbheaaClockRanksClkRDue
import Derived.Test.YtabkhhpkibbheaaClockRanksClkElapsed
import Derived.Test.YtabkhhpkibbheaaClockRanksClkMeter
import Derived.Test.YtabkhhpkibbheaaClockRanksCmpBaseB
import Derived.Test.YtabkhhpkibbheaaClockRanksRngBase
import Derived.Test.YtabkhhpkibbheaaClockRanksStbX
namespace Go.Proofs.Ytabkhhpkibbheaa.M
open Go Go.Pu
set_option linter.unusedSimpArgs false
set_option linter.unusedVariables false
theorem next_loop {l : List level_Clock} {cals : List cal_Calendar} (hok : AllOk l cals) (m : Int) :
  ∃ t, rangeB (R := Int × Int × Int) (fun k20 s26 => Option.bind (Option.bind (idx l (k20 : Int)) fun x47 => Option.bind (level_runs x47) fun x68 => if (!x68) = true then some (s26.1, s26.2) else Option.bind (level_due x47 cals) fun x77 => Option.bind (if (((decide (m < (w64 (x77 + 1)))) && (decide ((w64 (x77 + 1)) ≤ 3000000))) && ((decide (s26.1 < 0)) || (decide ((w64 (x77 + 1)) < s26.1)))) = true then some (w64 (x77 + 1), (k20 : Int)) else some (s26.1, s26.2)) fun s88 => some (s88.1, s88.2)) fun s40 => some (.nx (s40.1, s40.2))) l.length 0 ((-1), (-1)) = some (.fin t) ∧
   rangeB (R := Int × Int × Int) (fun k22 s28 => Option.bind (Option.bind (idx l (k22 : Int)) fun x49 => Option.bind (portref2_goesOn x49) fun x70 => if (!x70) = true then some (s28.1, s28.2) else Option.bind (portref2_meter_due ⟨cals⟩ x49) fun x79 => Option.bind (if (((decide (m < (w64 (x79 + 1)))) && (decide ((w64 (x79 + 1)) ≤ 3000000))) && ((decide (s28.1 < 0)) || (decide ((w64 (x79 + 1)) < s28.1)))) = true then some (w64 (x79 + 1), (k22 : Int)) else some (s28.1, s28.2)) fun s91 => some (s91.1, s91.2)) fun s42 => some (.nx (s42.1, s42.2))) l.length 0 ((-1), (-1)) = some (.fin t) := by
 rcases rangeB_sim (R := Int × Int × Int) (b := fun k20 s26 => Option.bind (Option.bind (idx l (k20 : Int)) fun x47 => Option.bind (level_runs x47) fun x68 => if (!x68) = true then some (s26.1, s26.2) else Option.bind (level_due x47 cals) fun x77 => Option.bind (if (((decide (m < (w64 (x77 + 1)))) && (decide ((w64 (x77 + 1)) ≤ 3000000))) && ((decide (s26.1 < 0)) || (decide ((w64 (x77 + 1)) < s26.1)))) = true then some (w64 (x77 + 1), (k20 : Int)) else some (s26.1, s26.2)) fun s88 => some (s88.1, s88.2)) fun s40 => some (.nx (s40.1, s40.2))) (b' := fun k22 s28 => Option.bind (Option.bind (idx l (k22 : Int)) fun x49 => Option.bind (portref2_goesOn x49) fun x70 => if (!x70) = true then some (s28.1, s28.2) else Option.bind (portref2_meter_due ⟨cals⟩ x49) fun x79 => Option.bind (if (((decide (m < (w64 (x79 + 1)))) && (decide ((w64 (x79 + 1)) ≤ 3000000))) && ((decide (s28.1 < 0)) || (decide ((w64 (x79 + 1)) < s28.1)))) = true then some (w64 (x79 + 1), (k22 : Int)) else some (s28.1, s28.2)) fun s91 => some (s91.1, s91.2)) fun s42 => some (.nx (s42.1, s42.2))) l.length (fun _ => False) (fun _ A B => A = B) (s := ((-1), (-1))) (s' := ((-1), (-1))) rfl (by
  rintro k A _ hk rfl
  have hc := hok.clocks l[k] (List.getElem_mem hk)
  have hs := hok.sorted (c := l[k]) (List.getElem_mem hk)
  obtain ⟨b, r1, r2⟩ := runs_val hc
  simp only [idx_lt l k hk, r1, r2, Option.bind_some]
  cases b with
  | false => exact Or.inr ⟨_, _, rfl, rfl, rfl⟩
  | true =>
   have hmi := hc.minutes
   obtain ⟨d, hd, hsp⟩ := due_val l[k] hc.start.1 hs hmi.1 (by omega)
   have hd2 := rdue_val l[k] hc.len hc.start.1 hc.start.2 hs hmi.1 (by omega) hsp
   simp only [Bool.not_true, Bool.false_eq_true, if_false, hd, hd2, Option.bind_some]
   generalize (((decide (m < (w64 (d + 1)))) && (decide ((w64 (d + 1)) ≤ 3000000))) && ((decide (A.1 < 0)) || (decide ((w64 (d + 1)) < A.1)))) = cc
   cases cc <;> exact Or.inr ⟨_, _, rfl, rfl, rfl⟩) with ⟨_, _, _, h⟩ | ⟨A, _, a1, a2, rfl⟩
 ·exact h.elim
 ·exact ⟨A, a1, a2⟩
theorem next_eq (l : List level_Clock) (cals : List cal_Calendar) (m : Int) : ∃ r, level_Next l cals m = some r ∧ portref2_NextOf l cals m = some r := by
 obtain ⟨r, a1, b1, c1⟩ := check_eq l cals
 unfold level_Next portref2_NextOf
 simp only [a1, b1, Option.bind_some, or_two]
 by_cases hr : r = 0
 rotate_left
 ·have : (r != 0) = true := by simpa using hr
  simp [hr]
 have hok := c1 hr
 have hn := hok.ncal
 subst hr
 simp only [ne_eq, not_true, if_false, bne_self_eq_false, Bool.false_eq_true]
 by_cases hm : 0 ≤ m ∧ m ≤ 3000000
 rotate_left
 ·have e1 : level_moment m 0 = 2 := by
   have : level_within m 0 3000000 = false := by simp [level_within]; omega
   simp [level_moment, this]
  have e2 : portref2_IsMoment m = false := by simp [portref2_IsMoment]; omega
  simp [e1, e2]
 have e1 : level_moment m 0 = 0 := by
  have : level_within m 0 3000000 = true := by simp [level_within]; omega
  simp [level_moment, this]
 have e2 : portref2_IsMoment m = true := by simp [portref2_IsMoment]; omega
 obtain ⟨t, f1, f2⟩ := next_loop hok m
 simp only [e1, e2, bne_self_eq_false, Bool.false_eq_true, if_false, Bool.not_true, meter_val cals (by omega), Option.bind_some]
 rw [f1, f2]
 exact ⟨_, rfl, rfl⟩
noncomputable def kl (l : List level_Clock) (cals : List cal_Calendar) (m x : Int) : Int := (l[x.toNat]?.map fun c => w64 (c.minutes - cnt (OC cals c.pieces) c.start m)).getD 0
def ks (l : List level_Clock) (x : Int) : Int := (l[x.toNat]?.map fun c => c.start).getD 0
noncomputable def rc (l : List level_Clock) (cals : List cal_Calendar) (m x y : Int) : Int := firstNZ [cmpI (kl l cals m x) (kl l cals m y), cmpI (ks l x) (ks l y)]
def rlt (l : List level_Clock) (cals : List cal_Calendar) (m x y : Int) : Prop := kl l cals m x < kl l cals m y ∨ (kl l cals m x = kl l cals m y ∧ ks l x < ks l y)
theorem rc_lt (l : List level_Clock) (cals : List cal_Calendar) (m x y : Int) : rc l cals m x y < 0 ↔ rlt l cals m x y := by
 unfold rc rlt firstNZ firstNZ firstNZ cmpI
 split <;> split <;> (try split) <;> (try split) <;> omega
theorem rank_loop {l : List level_Clock} {cals : List cal_Calendar} (hok : AllOk l cals) (m : Int) (h0 : 0 ≤ m) (h1 : m ≤ 3000000) :
  ∃ A F, rangeB (R := (List Int) × Int) (fun k55 s65 => Option.bind (Option.bind (idx l (k55 : Int)) fun x94 => Option.bind (if (x94.end_ == 0) = true then Option.bind (appendL 17592186044416 s65.1 ([(k55 : Int)] : List Int)) fun x132 => Option.bind (level_elapsed x94 cals m) fun x142 => Option.bind (idx s65.2 (k55 : Int)) fun x143 => Option.bind (setI s65.2 (k55 : Int) (w64 (x94.minutes - x142))) fun x151 => some (x132, x151) else some (s65.1, s65.2)) fun s114 => some (s114.1, s114.2)) fun s83 => some (.nx (s83.1, s83.2))) l.length 0 (([] : (List Int)), List.replicate l.length (0 : Int)) = some (.fin (A, F)) ∧
   rangeB (R := (List Int) × Int) (fun k51 s59 => Option.bind (Option.bind (idx l (k51 : Int)) fun x84 => Option.bind (if (decide (x84.stop < 0)) = true then Option.bind (appendL 17592186044416 s59 ([(k51 : Int)] : List Int)) fun x120 => some x120 else some s59) fun s104 => some s104) fun s75 => some (.nx s75)) l.length 0 ([] : (List Int)) = some (.fin A) ∧
   A.Pairwise (· < ·) ∧ A.length ≤ l.length ∧ ∀ x ∈ A, ∃ j : Nat, j < l.length ∧ x = (j : Int) ∧ F[j]? = some (kl l cals m x) := by
 rcases rangeB_sim (R := (List Int) × Int) (b := fun k55 (s65 : List Int × List Int) => Option.bind (Option.bind (idx l (k55 : Int)) fun x94 => Option.bind (if (x94.end_ == 0) = true then Option.bind (appendL 17592186044416 s65.1 ([(k55 : Int)] : List Int)) fun x132 => Option.bind (level_elapsed x94 cals m) fun x142 => Option.bind (idx s65.2 (k55 : Int)) fun x143 => Option.bind (setI s65.2 (k55 : Int) (w64 (x94.minutes - x142))) fun x151 => some (x132, x151) else some (s65.1, s65.2)) fun s114 => some (s114.1, s114.2)) fun s83 => some (.nx (s83.1, s83.2))) (b' := fun k51 s59 => Option.bind (Option.bind (idx l (k51 : Int)) fun x84 => Option.bind (if (decide (x84.stop < 0)) = true then Option.bind (appendL 17592186044416 s59 ([(k51 : Int)] : List Int)) fun x120 => some x120 else some s59) fun s104 => some s104) fun s75 => some (.nx s75)) l.length (fun _ => False) (fun k S B => S.1 = B ∧ S.2.length = l.length ∧ B.Pairwise (· < ·) ∧ B.length ≤ k ∧ ∀ x ∈ B, ∃ j : Nat, j < k ∧ x = (j : Int) ∧ S.2[j]? = some (kl l cals m x)) (s := ([], List.replicate l.length (0 : Int))) (s' := []) ⟨rfl, by simp, List.Pairwise.nil, Nat.le_refl _, by simp⟩ (by
  rintro k ⟨A, F⟩ B hk ⟨rfl, hF, hp, hle, hin⟩
  have hc := hok.clocks l[k] (List.getElem_mem hk)
  have hs := hok.sorted (c := l[k]) (List.getElem_mem hk)
  have hlen := hok.len
  have hst := hc.start
  have hb := hc.both
  have hstop := hc.stop
  simp only at hF hp hle hin
  have hkl : kl l cals m (k : Int) = w64 (l[k].minutes - cnt (OC cals l[k].pieces) l[k].start m) := by
   unfold kl
   rw [Int.toNat_natCast, List.getElem?_eq_getElem hk]
   rfl
  simp only [idx_lt l k hk, Option.bind_some]
  by_cases he : l[k].end_ = 0
  ·rw [if_pos (by simpa using he), if_pos (by simp; omega)]
   have hset : setI F (k : Int) (kl l cals m (k : Int)) = some (F.set k (kl l cals m (k : Int))) := by
    unfold setI
    rw [if_pos (by simp; omega)]
    rfl
   simp only [appendL, elapsed_val _ hst.1 hst.2 hs m h0 h1]
   rw [if_pos (by simp; omega)]
   simp only [Option.bind_some, idx_lt F k (by omega), ← hkl, hset]
   refine Or.inr ⟨_, _, rfl, rfl, rfl, by simpa using hF, ?_, by simp; omega, fun x hx => ?_⟩
   ·refine List.pairwise_append.2 ⟨hp, List.pairwise_singleton _ _, fun x hx y hy => ?_⟩
    obtain ⟨j, j1, j2, _⟩ := hin x hx
    simp at hy
    omega
   ·rcases List.mem_append.1 hx with hx | hx
    ·obtain ⟨j, j1, j2, j3⟩ := hin x hx
     exact ⟨j, by omega, j2, by rw [List.getElem?_set_ne (by omega)]; exact j3⟩
    ·simp at hx
     exact ⟨k, by omega, hx, by rw [List.getElem?_set_self (by omega), hx]⟩
  ·rw [if_neg (by simpa using he), if_neg (by simp; omega)]
   exact Or.inr ⟨_, _, rfl, rfl, rfl, hF, hp, by omega, fun x hx => by
    obtain ⟨j, j1, j2, j3⟩ := hin x hx
    exact ⟨j, by omega, j2, j3⟩⟩) with ⟨_, _, _, h⟩ | ⟨⟨A, F⟩, B, a1, a2, rfl, a4, a5, a6, a7⟩
 ·exact h.elim
 ·exact ⟨A, F, a1, a2, a5, a6, a7⟩
theorem rank_eq (l : List level_Clock) (cals : List cal_Calendar) (m : Int) : ∃ r, level_Rank l cals m = some r ∧ portref2_RankOf l cals m = some r := by
 obtain ⟨r, a1, b1, c1⟩ := check_eq l cals
 unfold level_Rank portref2_RankOf
 simp only [a1, b1, Option.bind_some, or_two]
 by_cases hr : r = 0
 rotate_left
 ·have : (r != 0) = true := by simpa using hr
  simp [hr]
 have hok := c1 hr
 have hn := hok.ncal
 have hlen := hok.len
 subst hr
 simp only [ne_eq, not_true, if_false, bne_self_eq_false, Bool.false_eq_true]
 by_cases hm : 0 ≤ m ∧ m ≤ 3000000
 rotate_left
 ·have e1 : level_moment m 0 = 2 := by
   have : level_within m 0 3000000 = false := by simp [level_within]; omega
   simp [level_moment, this]
  have e2 : portref2_IsMoment m = false := by simp [portref2_IsMoment]; omega
  simp [e1, e2]
 have e1 : level_moment m 0 = 0 := by
  have : level_within m 0 3000000 = true := by simp [level_within]; omega
  simp [level_moment, this]
 have e2 : portref2_IsMoment m = true := by simp [portref2_IsMoment]; omega
 obtain ⟨A, F, f1, f2, f3, f4, f5⟩ := rank_loop hok m hm.1 hm.2
 have hmk : makeL 35184372088832 (l.length : Int) (0 : Int) = some (List.replicate l.length (0 : Int)) := by
  unfold makeL
  rw [if_pos (by omega)]
  simp
 simp only [e1, e2, bne_self_eq_false, Bool.false_eq_true, if_false, Bool.not_true, meter_val cals (by omega), Option.bind_some, hmk]
 rw [f1, f2]
 simp only [Option.bind_some, Lp.andThen_fin]
 have hat : ∀ j : Nat, j < l.length → idx l (j : Int) = some (l[j]?.getD ⟨0, 0, 0, 0, 0, 0, []⟩) := fun j hj => by rw [idx_nat, List.getElem?_eq_getElem hj]; rfl
 have hks : ∀ j : Nat, (hj : j < l.length) → ks l (j : Int) = l[j].start := fun j hj => by
  unfold ks
  rw [Int.toNat_natCast, List.getElem?_eq_getElem hj]
  rfl
 have v1 : ∀ x ∈ A, ∀ y ∈ A, level_Rank_1 x y F l = some (firstNZ [cmpI (kl l cals m x) (kl l cals m y), cmpI (ks l x) (ks l y), cmpI x y]) := by
  intro x hx y hy
  obtain ⟨i, i1, rfl, i3⟩ := f5 x hx
  obtain ⟨j, j1, rfl, j3⟩ := f5 y hy
  unfold level_Rank_1
  rw [idx_nat, i3, Option.bind_some, idx_nat, j3, Option.bind_some, idx_lt l i i1, Option.bind_some, idx_lt l j j1, Option.bind_some, or_val]
  simp only [compare_cmpI, hks i i1, hks j j1]
  rfl
 have v2 : ∀ x ∈ A, ∀ y ∈ A, portref2_RankOf_2 x y (fun y142 => portref2_RankOf_1 y142 l ⟨cals⟩ m) l = some (rc l cals m x y) := by
  have w : ∀ i : Nat, (hi : i < l.length) → portref2_RankOf_1 (i : Int) l ⟨cals⟩ m = some (kl l cals m (i : Int)) := by
   intro i hi
   have hc := hok.clocks l[i] (List.getElem_mem hi)
   have hs := hok.sorted (c := l[i]) (List.getElem_mem hi)
   unfold portref2_RankOf_1
   rw [idx_lt l i hi, Option.bind_some, relapsed_val _ hc.start.1 hc.start.2 hs m hm.1 hm.2, Option.bind_some]
   unfold kl
   rw [Int.toNat_natCast, List.getElem?_eq_getElem hi]
   rfl
  intro x hx y hy
  obtain ⟨i, i1, rfl, i3⟩ := f5 x hx
  obtain ⟨j, j1, rfl, j3⟩ := f5 y hy
  unfold portref2_RankOf_2
  simp only [w i i1, w j j1, Option.bind_some, idx_lt l i i1, idx_lt l j j1, or_val, compare_cmpI, rc, hks i i1, hks j j1]
 have hwk : Wk (fun x => x ∈ A) (rc l cals m) (fun y140 => portref2_RankOf_2 y140.1 y140.2 (fun y142 => portref2_RankOf_1 y142 l ⟨cals⟩ m) l) := by
  refine ⟨fun x y hx hy => v2 x hx y hy, fun x _ => ?_, fun x y z _ _ _ => ?_, fun x y z _ _ _ => ?_⟩
  ·rw [rc_lt]; unfold rlt; omega
  ·rw [rc_lt, rc_lt, rc_lt]; unfold rlt; omega
  ·rw [rc_lt, rc_lt, rc_lt]; unfold rlt; omega
 obtain ⟨Z, z1, z2, z3⟩ := stable_val hwk A (fun x hx => hx) f3 (by omega)
 rw [z1, Option.bind_some]
 let C : Int → Int → Int := fun x y => firstNZ [cmpI (kl l cals m x) (kl l cals m y), cmpI (ks l x) (ks l y), cmpI x y]
 have hC : ∀ x y, C x y < 0 ↔ (rlt l cals m x y ∨ (kl l cals m x = kl l cals m y ∧ ks l x = ks l y ∧ x < y)) := by
  intro x y
  show firstNZ [cmpI (kl l cals m x) (kl l cals m y), cmpI (ks l x) (ks l y), cmpI x y] < 0 ↔ _
  unfold rlt firstNZ firstNZ firstNZ firstNZ cmpI
  split <;> split <;> (try split) <;> (try split) <;> (try split) <;> (try split) <;> omega
 have hlt : ∀ x ∈ A, ∀ y ∈ A, cmpLt (fun y177 y178 => level_Rank_1 y177 y178 F l) x y = decide (C x y < 0) := by
  intro x hx y hy
  unfold cmpLt
  simp only [v1 x hx y hy]
  rfl
 have hso : SortOk (fun y177 y178 => level_Rank_1 y177 y178 F l) A := by
  refine ⟨by omega, fun x hx y hy => ⟨_, v1 x hx y hy⟩, fun x hx => ?_, fun x hx y hy z hz => ?_, fun x hx y hy z hz => ?_, fun x hx y hy => ?_⟩
  ·rw [hlt x hx x hx, decide_eq_false_iff_not, hC]; unfold rlt; omega
  ·rw [hlt x hx y hy, hlt y hy z hz, hlt x hx z hz]
   simp only [decide_eq_true_eq, hC]
   unfold rlt; omega
  ·rw [hlt x hx y hy, hlt y hy z hz, hlt x hx z hz]
   simp only [decide_eq_false_iff_not, hC]
   unfold rlt; omega
  ·rw [hlt x hx y hy, hlt y hy x hx]
   simp only [decide_eq_false_iff_not, hC]
   unfold rlt; omega
 have hms : (A.mergeSort fun x y => !(cmpLt (fun y177 y178 => level_Rank_1 y177 y178 F l) y x)) = A.mergeSort fun x y => !(decide (C y x < 0)) := by
  have := List.map_mergeSort (r := fun x y => !(cmpLt (fun y177 y178 => level_Rank_1 y177 y178 F l) y x)) (s := fun x y => !(decide (C y x < 0))) (f := id) (l := A) (fun a ha b hb => by rw [hlt b hb a ha]; rfl)
  simpa using this
 have hsf : sortFuncL (fun y177 y178 => level_Rank_1 y177 y178 F l) A = some (A.mergeSort fun x y => !(decide (C y x < 0))) := by
  unfold sortFuncL
  rw [if_pos hso, hms]
 rw [hsf, Option.bind_some]
 have hpm := List.mergeSort_perm A fun x y => !(decide (C y x < 0))
 have hpw := List.pairwise_mergeSort (le := fun x y => !(decide (C y x < 0))) (fun a b c h1 h2 => by
  simp only [Bool.not_eq_true', decide_eq_false_iff_not, hC] at h1 h2 ⊢
  unfold rlt at h1 h2 ⊢; omega) (fun a b => by
  simp only [Bool.or_eq_true, Bool.not_eq_true', decide_eq_false_iff_not, hC]
  unfold rlt; omega) A
 generalize (A.mergeSort fun x y => !(decide (C y x < 0))) = Y at hpm hpw
 have : Y = Z := by
  refine uniq_sorted (fun x y => ¬ (C y x < 0)) (fun x y h1 h2 => ?_) Y Z (hpm.trans z2.symm) (hpw.imp fun h => by simpa using h) (z3.imp fun {x y} h => ?_)
  ·rw [hC] at h1 h2
   unfold rlt at h1 h2; omega
  ·unfold S2 at h
   rw [rc_lt, rc_lt] at h
   rw [hC]
   unfold rlt at h ⊢; omega
 subst this
 exact ⟨_, rfl, rfl⟩
theorem equal_ranks (l : List Int) : slices_Equal_Lint_int l l = some true := by
 unfold slices_Equal_Lint_int
 rw [if_neg (by simp)]
 obtain ⟨t, h, _⟩ := rangeB_inv (R := Bool) (b := fun k9 _ => Option.bind (idx l (k9 : Int)) fun x29 => Option.bind (idx l (k9 : Int)) fun x33 => if (x29 != x33) = true then some (.rt false) else some (.nx ())) l.length (fun _ _ => True) (s := ()) trivial fun k t hk _ => by
  rw [idx_lt l k hk]
  simp
 rw [h]
 rfl
theorem ranks_true (l : List level_Clock) (cals : List cal_Calendar) (m : Int) : portlaw2_ClockRanks l cals m = some true := by
 obtain ⟨x, x1, x2⟩ := next_eq l cals m
 obtain ⟨y, y1, y2⟩ := rank_eq l cals m
 unfold portlaw2_ClockRanks
 simp only [x1, x2, y1, y2, Option.bind_some, beq_self_eq_true, if_true, equal_ranks]
end Go.Proofs.Ytabkhhpkibbheaa.M
