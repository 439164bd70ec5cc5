/-
  Judge is its reference: plain part.
-/
import Derived.Test.YtcfhifbmjjhhdaaRosterJudgesRosJudge
namespace Go.Proofs.Ytcfhifbmjjhhdaa.M
open Go Go.Pu
set_option linter.unusedSimpArgs false
set_option linter.unusedVariables false

section
variable {forms : List staff_Form} {r : staff_Rules} {l : List staff_Duty}
theorem j1_val (x : staff_Duty) : portref2_JudgeOf_1 x forms = some (!(okF forms x)) := by
  unfold portref2_JudgeOf_1
  congr 1
  rw [Bool.eq_iff_iff]
  simp only [Bool.or_eq_true, decide_eq_true_eq, Bool.not_eq_true', ← Bool.not_eq_true, okF_iff]
  omega
theorem j2_val (x : staff_Duty) : portref2_JudgeOf_2 x r = some (!(okP r x)) := by
  unfold portref2_JudgeOf_2
  congr 1
  rw [Bool.eq_iff_iff]
  simp only [Bool.or_eq_true, decide_eq_true_eq, Bool.not_eq_true', ← Bool.not_eq_true, okP_iff]
  omega
theorem ref_inner (hn : l.length ≤ 2000) (k : Nat) (hk : k < l.length) (hok : okD forms r (du l k) = true) (out : List staff_Breach) (hout : out.length ≤ 5000000) :
    whileB (R := Empty) (fun s185 : List staff_Breach × Int => if (decide (s185.2 < (l.length : Int))) = true then Option.bind (Option.bind (idx l s185.2) fun x209 => Option.bind (portref2_JudgeOf_1 x209 forms) fun x223 => Option.bind (if ((!x223) && (x209.person == (du l k).person)) = true then (Option.bind (idx forms (du l k).form) fun x234 => Option.bind (idx forms x209.form) fun x243 => Option.bind (portref2_apart x234 x243 r.rest_) fun x249 => some (!x249)) else (some false)) fun s229 => Option.bind (if s229 = true then Option.bind (appendL 5864062014805 s185.1 ([(⟨3, (k : Int), s185.2⟩ : staff_Breach)] : List staff_Breach)) fun x270 => some x270 else some s185.1) fun s254 => some s254) fun s200 => some (.nx (s200, w64 (s185.2 + 1))) else some (.bk (s185.1, s185.2))) (out, w64 ((k : Int) + 1))
    = some (.fin (out ++ rng (fun t => if k < t then prs forms r l k t else []) l.length, (l.length : Int))) := by
  have hokF : okF forms (du l k) = true := by unfold okD at hok; rw [Bool.and_eq_true] at hok; exact hok.1
  have hokP : okP r (du l k) = true := by unfold okD at hok; rw [Bool.and_eq_true] at hok; exact hok.2
  obtain ⟨o, ho, rfl⟩ := whileB_spec (R := Empty) (body := fun s185 : List staff_Breach × Int => if (decide (s185.2 < (l.length : Int))) = true then Option.bind (Option.bind (idx l s185.2) fun x209 => Option.bind (portref2_JudgeOf_1 x209 forms) fun x223 => Option.bind (if ((!x223) && (x209.person == (du l k).person)) = true then (Option.bind (idx forms (du l k).form) fun x234 => Option.bind (idx forms x209.form) fun x243 => Option.bind (portref2_apart x234 x243 r.rest_) fun x249 => some (!x249)) else (some false)) fun s229 => Option.bind (if s229 = true then Option.bind (appendL 5864062014805 s185.1 ([(⟨3, (k : Int), s185.2⟩ : staff_Breach)] : List staff_Breach)) fun x270 => some x270 else some s185.1) fun s254 => some s254) fun s200 => some (.nx (s200, w64 (s185.2 + 1))) else some (.bk (s185.1, s185.2)))
    (fun s => ∃ j : Nat, s = (out ++ rng (fun t => if k < t then prs forms r l k t else []) j, (j : Int)) ∧ j ≤ l.length ∧ k < j) (fun s => l.length - s.2.toNat)
    (fun o => o = .fin (out ++ rng (fun t => if k < t then prs forms r l k t else []) l.length, (l.length : Int))) (s := (out, w64 ((k : Int) + 1)))
    ⟨k + 1, by rw [rng_nil (k + 1) (fun i hi => if_neg (by omega)), List.append_nil, w64_id (by omega) (by omega)]; rfl, by omega, by omega⟩ (by
      rintro _ ⟨j, rfl, hj, hkj⟩
      simp only
      by_cases hjl : j < l.length
      rotate_left
      · obtain rfl : j = l.length := by omega
        simp only [Int.lt_irrefl, decide_false, Bool.false_eq_true, if_false]
        exact ⟨_, rfl, rfl⟩
      have hrl := rng_len (f := fun t => if k < t then prs forms r l k t else []) 1 j (fun i _ => by split; exact prs_len k i; simp)
      simp only [show ((j : Int) < (l.length : Int)) by omega, decide_true, if_true, idx_nat, du_at hjl, Option.bind_some, j1_val, Bool.not_not]
      have hc : (if (okF forms (du l j) && ((du l j).person == (du l k).person)) = true then (Option.bind (idx forms (du l k).form) fun x234 => Option.bind (idx forms (du l j).form) fun x243 => Option.bind (portref2_apart x234 x243 r.rest_) fun x249 => some (!x249)) else (some false)) = some (okD forms r (du l k) && okD forms r (du l j) && ((du l k).person == (du l j).person) && near forms r l k j) := by
        by_cases h1 : okF forms (du l j) = true
        · by_cases h2 : (du l j).person = (du l k).person
          · have h3 : okP r (du l j) = true := by rw [okP_iff, h2]; exact okP_iff.1 hokP
            have h4 : okD forms r (du l j) = true := by unfold okD; rw [h1, h3]; rfl
            have hap : portref2_apart (fo forms (du l k)) (fo forms (du l j)) r.rest_ = some (apB (fo forms (du l k)) (fo forms (du l j)) r.rest_) := rfl
            rw [if_pos (by rw [h1, h2]; simp), fo_at hokF, fo_at h1]
            simp only [Option.bind_some, hap, hok, h4, h2, near, beq_self_eq_true, Bool.true_and]
          · rw [if_neg (by simp [h2])]
            have : ((du l k).person == (du l j).person) = false := by rw [beq_eq_false_iff_ne]; exact fun e => h2 e.symm
            rw [this]; simp
        · rw [if_neg (by simp [h1])]
          have : okD forms r (du l j) = false := by unfold okD; simp [h1]
          rw [this]; simp
      rw [hc, Option.bind_some, appIf _ _ _ _ _ (by rw [List.length_append]; omega), Option.bind_some, w64_id (by omega) (by omega)]
      refine ⟨_, rfl, ⟨j + 1, ?_, by omega, by omega⟩, by simp only; omega⟩
      rw [rng, if_pos hkj, List.append_assoc]
      rfl)
  exact ho
theorem ref_loop (hf : ∀ f ∈ forms, FormOk f) (hn : l.length ≤ 2000) (hmost0 : 0 ≤ r.most) (hmost : r.most ≤ 400) :
    ∃ q, rangeB (R := List staff_Breach × Int) (fun k43 (s51 : List staff_Breach × List (Int × Int)) => Option.bind (Option.bind (idx l (k43 : Int)) fun x76 => Option.bind (portref2_JudgeOf_1 x76 forms) fun x90 => Option.bind (if x90 = true then Option.bind (appendL 5864062014805 s51.1 ([(⟨1, (k43 : Int), (-1)⟩ : staff_Breach)] : List staff_Breach)) fun x112 => some x112 else some s51.1) fun s95 => Option.bind (portref2_JudgeOf_2 x76 r) fun x121 => Option.bind (if x121 = true then Option.bind (appendL 5864062014805 s95 ([(⟨2, (k43 : Int), (-1)⟩ : staff_Breach)] : List staff_Breach)) fun x143 => some x143 else some s95) fun s126 => Option.bind (Option.bind (portref2_JudgeOf_1 x76 forms) fun x160 => if x160 = true then (some true) else (Option.bind (portref2_JudgeOf_2 x76 r) fun x167 => some x167)) fun s152 => if s152 = true then some (s126, s51.2) else Option.bind (whileB (R := Empty) (fun s185 => if (decide (s185.2 < (l.length : Int))) = true then Option.bind (Option.bind (idx l s185.2) fun x209 => Option.bind (portref2_JudgeOf_1 x209 forms) fun x223 => Option.bind (if ((!x223) && (x209.person == x76.person)) = true then (Option.bind (idx forms x76.form) fun x234 => Option.bind (idx forms x209.form) fun x243 => Option.bind (portref2_apart x234 x243 r.rest_) fun x249 => some (!x249)) else (some false)) fun s229 => Option.bind (if s229 = true then Option.bind (appendL 5864062014805 s185.1 ([(⟨3, (k43 : Int), s185.2⟩ : staff_Breach)] : List staff_Breach)) fun x270 => some x270 else some s185.1) fun s254 => some s254) fun s200 => some (.nx (s200, w64 (s185.2 + 1))) else some (.bk (s185.1, s185.2))) (s126, w64 ((k43 : Int) + 1))) fun o174 => o174.andThen (fun y => y.elim) fun s175 => Option.bind (idx forms x76.form) fun x288 => Option.bind (if ((decide (((mapGet s51.2 x76.person).getD 0) ≤ r.most)) && (decide (r.most < ((mapGet (mapPut s51.2 x76.person (w64 (((mapGet s51.2 x76.person).getD 0) + x288.slots))) x76.person).getD 0)))) = true then Option.bind (appendL 5864062014805 s175.1 ([(⟨4, (k43 : Int), (-1)⟩ : staff_Breach)] : List staff_Breach)) fun x322 => some x322 else some s175.1) fun s305 => some (s305, (mapPut s51.2 x76.person (w64 (((mapGet s51.2 x76.person).getD 0) + x288.slots))))) fun s67 => some (.nx (s67.1, s67.2))) l.length 0 (([] : (List staff_Breach)), ([] : List (Int × Int))) = some (.fin (rng (outR forms r l l.length) l.length, q)) := by
  obtain ⟨⟨o, q⟩, h, rfl, _⟩ := rangeB_inv (R := List staff_Breach × Int) (b := fun k43 (s51 : List staff_Breach × List (Int × Int)) => Option.bind (Option.bind (idx l (k43 : Int)) fun x76 => Option.bind (portref2_JudgeOf_1 x76 forms) fun x90 => Option.bind (if x90 = true then Option.bind (appendL 5864062014805 s51.1 ([(⟨1, (k43 : Int), (-1)⟩ : staff_Breach)] : List staff_Breach)) fun x112 => some x112 else some s51.1) fun s95 => Option.bind (portref2_JudgeOf_2 x76 r) fun x121 => Option.bind (if x121 = true then Option.bind (appendL 5864062014805 s95 ([(⟨2, (k43 : Int), (-1)⟩ : staff_Breach)] : List staff_Breach)) fun x143 => some x143 else some s95) fun s126 => Option.bind (Option.bind (portref2_JudgeOf_1 x76 forms) fun x160 => if x160 = true then (some true) else (Option.bind (portref2_JudgeOf_2 x76 r) fun x167 => some x167)) fun s152 => if s152 = true then some (s126, s51.2) else Option.bind (whileB (R := Empty) (fun s185 => if (decide (s185.2 < (l.length : Int))) = true then Option.bind (Option.bind (idx l s185.2) fun x209 => Option.bind (portref2_JudgeOf_1 x209 forms) fun x223 => Option.bind (if ((!x223) && (x209.person == x76.person)) = true then (Option.bind (idx forms x76.form) fun x234 => Option.bind (idx forms x209.form) fun x243 => Option.bind (portref2_apart x234 x243 r.rest_) fun x249 => some (!x249)) else (some false)) fun s229 => Option.bind (if s229 = true then Option.bind (appendL 5864062014805 s185.1 ([(⟨3, (k43 : Int), s185.2⟩ : staff_Breach)] : List staff_Breach)) fun x270 => some x270 else some s185.1) fun s254 => some s254) fun s200 => some (.nx (s200, w64 (s185.2 + 1))) else some (.bk (s185.1, s185.2))) (s126, w64 ((k43 : Int) + 1))) fun o174 => o174.andThen (fun y => y.elim) fun s175 => Option.bind (idx forms x76.form) fun x288 => Option.bind (if ((decide (((mapGet s51.2 x76.person).getD 0) ≤ r.most)) && (decide (r.most < ((mapGet (mapPut s51.2 x76.person (w64 (((mapGet s51.2 x76.person).getD 0) + x288.slots))) x76.person).getD 0)))) = true then Option.bind (appendL 5864062014805 s175.1 ([(⟨4, (k43 : Int), (-1)⟩ : staff_Breach)] : List staff_Breach)) fun x322 => some x322 else some s175.1) fun s305 => some (s305, (mapPut s51.2 x76.person (w64 (((mapGet s51.2 x76.person).getD 0) + x288.slots))))) fun s67 => some (.nx (s67.1, s67.2)))
    l.length (fun k s => s.1 = rng (outR forms r l l.length) k ∧ ∀ p, (mapGet s.2 p).getD 0 = sm forms r l p k) (s := ([], [])) ⟨rfl, fun p => rfl⟩ (by
      rintro k ⟨_, q⟩ hk ⟨rfl, hq⟩
      dsimp only at hq ⊢
      have hlen : (rng (outR forms r l l.length) k).length ≤ 2000 * 2003 := Nat.le_trans (rng_len 2003 k fun i hi => outR_len _ i hn) (Nat.mul_le_mul_right _ (by omega))
      have hhd := hd_len (forms := forms) (r := r) (l := l) k
      simp only [idx_nat, du_at hk, Option.bind_some, j1_val, j2_val]
      rw [appIf _ _ _ _ _ (by omega), appIf _ _ _ _ _ (by rw [List.length_append]; split <;> simp <;> omega), List.append_assoc]
      have hhde : ((if (!(okF forms (du l k))) = true then [(⟨1, (k : Int), -1⟩ : staff_Breach)] else []) ++ (if (!(okP r (du l k))) = true then [(⟨2, (k : Int), -1⟩ : staff_Breach)] else [])) = hd forms r l k := rfl
      rw [hhde]
      have hout : rng (outR forms r l l.length) (k + 1) = rng (outR forms r l l.length) k ++ hd forms r l k ++ rng (fun t => if k < t then prs forms r l k t else []) l.length ++ tm forms r l k := by
        rw [rng, outR, List.append_assoc, List.append_assoc, List.append_assoc]
      by_cases hok : okD forms r (du l k) = true
      rotate_left
      · have h1 : (if (!(okF forms (du l k))) = true then (some true) else some (!(okP r (du l k)))) = some true := by
          unfold okD at hok
          cases h1 : okF forms (du l k) with
          | false => rfl
          | true => rw [h1] at hok; simp at hok; simp [hok]
        rw [h1, Option.bind_some, if_pos rfl, Option.bind_some]
        have a1 : rng (fun t => if k < t then prs forms r l k t else []) l.length = [] := rng_nil _ fun i _ => by split; unfold prs; simp [hok]; rfl
        have a2 : tm forms r l k = [] := by unfold tm; simp [hok]
        refine ⟨_, rfl, by rw [hout, a1, a2, List.append_nil, List.append_nil], fun p => ?_⟩
        rw [hq p, sm, if_neg (by unfold mnC; simp [hok])]
        omega
      · have hokF : okF forms (du l k) = true := by unfold okD at hok; rw [Bool.and_eq_true] at hok; exact hok.1
        have hokP : okP r (du l k) = true := by unfold okD at hok; rw [Bool.and_eq_true] at hok; exact hok.2
        have h1 : (if (!(okF forms (du l k))) = true then (some true) else some (!(okP r (du l k)))) = some false := by rw [hokF, hokP]; rfl
        rw [h1, Option.bind_some, if_neg (by decide)]
        have hin := ref_inner (forms := forms) (r := r) hn k hk hok (rng (outR forms r l l.length) k ++ hd forms r l k) (by rw [List.length_append]; omega)
        simp only [j1_val] at hin
        simp only [Option.bind_some] at hin ⊢
        rw [hin, Option.bind_some, Lp.andThen_fin, fo_at hokF, Option.bind_some]
        have hmc : mnC forms r l (du l k).person k = true := by unfold mnC; rw [hok]; simp
        have hsk : sm forms r l (du l k).person (k + 1) = sm forms r l (du l k).person k + (fo forms (du l k)).slots := by rw [sm, if_pos hmc]
        have hb1 := sm_bound (forms := forms) (r := r) (l := l) hf (du l k).person k
        have hb2 := sm_bound (forms := forms) (r := r) (l := l) hf (du l k).person (k + 1)
        have hsw : w64 (sm forms r l (du l k).person k + (fo forms (du l k)).slots) = sm forms r l (du l k).person (k + 1) := by rw [hsk]; exact w64_id (by omega) (by omega)
        have hrl := rng_len (f := fun t => if k < t then prs forms r l k t else []) 1 l.length (fun i _ => by split; exact prs_len k i; simp)
        simp only [hq, mapGet_put_, if_true, Option.getD_some, hsw]
        rw [appIf _ _ _ _ _ (by rw [List.length_append, List.length_append]; omega), Option.bind_some]
        refine ⟨_, rfl, ?_, fun p => ?_⟩
        · dsimp only
          rw [hout]
          congr 1
          unfold tm
          rw [hok, Bool.true_and]
        · dsimp only
          rw [mapGet_put_]
          by_cases hp : (du l k).person = p
          · rw [if_pos hp, Option.getD_some, hp]
          · rw [if_neg hp, hq p, sm, if_neg (by unfold mnC; simp [hp])]
            omega)
  exact ⟨q, h⟩
end
theorem breach_lt (a b : staff_Breach) : cmpLt (fun x y => staff_Judge_1 x y) a b = true ↔ a.first < b.first ∨ a.first = b.first ∧ (a.kind < b.kind ∨ a.kind = b.kind ∧ a.second < b.second) := by
  unfold cmpLt staff_Judge_1
  simp only [or_val, Option.bind_some, compare_val, firstNZ, cmpI, decide_eq_true_eq]
  repeat' split
  all_goals omega
theorem breach_ok (l : List staff_Breach) (h : l.length < 4611686018427387904) : SortOk (fun x y => staff_Judge_1 x y) l := by
  refine ⟨h, ?_, ?_, ?_, ?_, ?_⟩
  · intro x _ y _
    unfold staff_Judge_1
    rw [or_val]
    exact ⟨_, rfl⟩
  · intro x _
    rw [← Bool.not_eq_true, breach_lt]; omega
  · intro x _ y _ z _
    rw [breach_lt, breach_lt, breach_lt]; omega
  · intro x _ y _ z _
    rw [← Bool.not_eq_true, ← Bool.not_eq_true, ← Bool.not_eq_true, breach_lt, breach_lt, breach_lt]; omega
  · intro x _ y _
    rw [← Bool.not_eq_true, ← Bool.not_eq_true, breach_lt, breach_lt]
    intro h1 h2
    have e1 : x.first = y.first := by omega
    have e2 : x.kind = y.kind := by omega
    have e3 : x.second = y.second := by omega
    cases x; cases y; simp_all
theorem breach_sort (l m : List staff_Breach) (hp : l.Perm m) (h : l.length < 4611686018427387904) : ∃ o, sortFuncL (fun x y => staff_Judge_1 x y) l = some o ∧ sortFuncL (fun x y => staff_Judge_1 x y) m = some o := by
  have hm : m.length < 4611686018427387904 := by rw [← hp.length_eq]; exact h
  refine ⟨_, by rw [sortFuncL, if_pos (breach_ok l h)], ?_⟩
  rw [sortFuncL, if_pos (breach_ok m hm)]
  congr 1
  have tr : ∀ a b c : staff_Breach, (!(cmpLt (fun x y => staff_Judge_1 x y) b a)) = true → (!(cmpLt (fun x y => staff_Judge_1 x y) c b)) = true → (!(cmpLt (fun x y => staff_Judge_1 x y) c a)) = true := by
    intro a b c
    simp only [Bool.not_eq_true', ← Bool.not_eq_true, breach_lt]; omega
  have tot : ∀ a b : staff_Breach, ((!(cmpLt (fun x y => staff_Judge_1 x y) b a)) || (!(cmpLt (fun x y => staff_Judge_1 x y) a b))) = true := by
    intro a b
    simp only [Bool.or_eq_true, Bool.not_eq_true', ← Bool.not_eq_true, breach_lt]; omega
  refine uniq_sorted (fun a b => (!(cmpLt (fun x y => staff_Judge_1 x y) b a)) = true) ?_ _ _ ((List.mergeSort_perm _ _).trans (hp.symm.trans (List.mergeSort_perm _ _).symm)) (List.pairwise_mergeSort tr tot _) (List.pairwise_mergeSort tr tot _)
  intro x y h1 h2
  exact (breach_ok [x, y] (by simp)).total x (by simp) y (by simp) (by simpa using h2) (by simpa using h1)
theorem judge_eq (forms : List staff_Form) (r : staff_Rules) (l : List staff_Duty) : ∃ x, staff_Judge forms r l = some x ∧ portref2_JudgeOf forms r l = some x := by
  unfold staff_Judge portref2_JudgeOf
  obtain ⟨a, a1, a2, a3⟩ := forms_eq forms
  obtain ⟨b, b1, b2, b3⟩ := rules_eq r
  rw [a1, a2, b1, b2]
  simp only [Option.bind_some, or_err]
  by_cases ha : a = 0
  rotate_left
  · have e : (if a ≠ 0 then a else b) = a := if_pos ha
    rw [e, if_pos (show (a != 0) = true by simpa using ha), if_pos (show (a != 0) = true by simpa using ha)]
    exact ⟨_, rfl, rfl⟩
  subst ha
  have e : (if (0 : Int) ≠ 0 then 0 else b) = b := rfl
  rw [e, if_neg (show ¬ (((0 : Int) != 0) = true) by decide)]
  by_cases hb : b = 0
  rotate_left
  · rw [if_pos (show (b != 0) = true by simpa using hb), if_pos (show (b != 0) = true by simpa using hb)]
    exact ⟨_, rfl, rfl⟩
  subst hb
  rw [if_neg (show ¬ (((0 : Int) != 0) = true) by decide), if_neg (show ¬ (((0 : Int) != 0) = true) by decide)]
  by_cases hn : (2000 : Int) < (l.length : Int)
  · rw [if_pos (by simpa using hn), if_pos (by simpa using hn)]
    exact ⟨_, rfl, rfl⟩
  rw [if_neg (by simpa using hn), if_neg (by simpa using hn)]
  have hf := a3 rfl
  obtain ⟨g1, g2, g3, g4⟩ := b3 rfl
  have hfl := forms_len a1
  have hw : w64 (r.people + 1) = r.people + 1 := w64_id (by omega) (by omega)
  obtain ⟨m, hm⟩ : ∃ m : Nat, (m : Int) = r.people + 1 := ⟨(r.people + 1).toNat, by omega⟩
  rw [hw, ← hm, makeL, if_pos ⟨by omega, by omega⟩, makeL, if_pos ⟨by omega, by omega⟩, makeL, if_pos ⟨by omega, by omega⟩, Int.toNat_natCast, tab_const, tab_const, tab_const]
  simp only [Option.bind_some]
  have h1 := judge_loop (forms := forms) (r := r) (l := l) hf hfl (by omega) m hm g2 g3 g4
  obtain ⟨q, h2⟩ := ref_loop (forms := forms) (r := r) (l := l) hf (by omega) g3 g4
  rw [h1, h2]
  simp only [Option.bind_some, Lp.andThen_fin]
  have hlen : (rng (outJ forms r l) l.length).length ≤ 2000 * 2003 := Nat.le_trans (rng_len 2003 _ fun i hi => outJ_len i (by omega)) (Nat.mul_le_mul_right _ (by omega))
  have hperm : (rng (outJ forms r l) l.length).Perm (rng (outR forms r l l.length) l.length) := by
    unfold outJ outR
    refine (rng_append _ _ _).trans (List.Perm.trans ?_ (rng_append _ _ _).symm)
    refine List.Perm.append_right _ ?_
    refine (rng_append _ _ _).trans (List.Perm.trans ?_ (rng_append _ _ _).symm)
    exact List.Perm.append_left _ (rng_swap (fun k i => prs forms r l k i) l.length)
  obtain ⟨o, o1, o2⟩ := breach_sort _ _ hperm (by omega)
  have e : (fun x y => portref2_JudgeOf_3 x y) = fun x y => staff_Judge_1 x y := rfl
  rw [o1, e, o2]
  exact ⟨_, rfl, rfl⟩
theorem equal_breach (l : List staff_Breach) : slices_Equal_Lstaff_Breach_staff_Breach l l = some true := by
  unfold slices_Equal_Lstaff_Breach_staff_Breach
  simp only [bne_self_eq_false, Bool.false_eq_true, if_false]
  obtain ⟨t, h, _⟩ := rangeB_inv (R := Bool) (b := fun k9 (_ : Unit) => Option.bind (idx l (k9 : Int)) fun x29 => Option.bind (idx l (k9 : Int)) fun x34 => if (!(x29.kind == x34.kind && (x29.first == x34.first && (x29.second == x34.second)))) = true then some (.rt false) else some (.nx ())) l.length (fun _ _ => True) (s := ()) trivial
    (fun k s hk _ => by rw [idx_lt _ _ hk]; simp)
  rw [h]
  rfl
theorem judges_true (forms : List staff_Form) (r : staff_Rules) (l : List staff_Duty) : portlaw2_RosterJudges forms r l = some true := by
  unfold portlaw2_RosterJudges
  obtain ⟨x, h1, h2⟩ := judge_eq forms r l
  rw [h1, h2]
  simp only [Option.bind_some, beq_self_eq_true, if_true, equal_breach]
end Go.Proofs.Ytcfhifbmjjhhdaa.M
