/-
  Ratios: what the code and the document say of a ratio that is given, and what it stands for.
-/
import Derived.Test.YtnnbhehaplphiaaGreatDoorRatioSumsRatA
import Derived.Test.YtnnbhehaplphiaaGreatDoorRatioSumsBigGcd
import Derived.Test.YtnnbhehaplphiaaGreatDoorRatioSumsBigC
namespace Go.Proofs.YtnnbhehaplphiaaGreatDoor.M
open Go Go.Pu Go.Lib
set_option linter.unusedSimpArgs false
set_option linter.unusedVariables false

theorem rat_or2 (a b : Int) : cmp_Or_api_Errno [a, b] = some (if a ≠ 0 then a else b) := by
  by_cases ha : a = 0
  · by_cases hb : b = 0
    · simp [cmp_Or_api_Errno, rangeB, idx, Lp.andThen, ha, hb]
    · simp [cmp_Or_api_Errno, rangeB, idx, Lp.andThen, ha, hb]
  · simp [cmp_Or_api_Errno, rangeB, idx, Lp.andThen, ha]

theorem dec_inj {a b : Nat} (h : decDigits a = decDigits b) : a = b := by
  have h1 := (dec_digits a).2.1
  have h2 := (dec_digits b).2.1
  rw [h] at h1
  omega

/-- what a right ratio stands for -/
structure RV (x : staff_ratio) (y : portref2_ratio) : Prop where
  xn : Dig x.num
  xd : Dig x.den
  tn : Trm x.num
  td : Trm x.den
  ln : x.num.length ≤ 2300
  ld : x.den.length ≤ 2300
  yn : TrmW y.num
  yd : TrmW y.den
  kn : y.num.length ≤ 2300
  kd : y.den.length ≤ 2300
  en : nv x.num = wv y.num
  ed : nv x.den = wv y.den
  dp : 0 < nv x.den
  cop : Cop (nv x.num) (nv x.den)

theorem digB_parts {k : Nat} {l : List UInt8} (h : digB k l = true) : l ≠ [] ∧ l.length ≤ k ∧ l.all dig = true ∧ (l.length = 1 ∨ l.head? ≠ some 48) := by
  unfold digB at h
  simp only [Bool.and_eq_true, Bool.or_eq_true, Bool.not_eq_true', decide_eq_true_eq, decide_eq_false_iff_not] at h
  exact ⟨h.1, h.2.1, h.2.2.1, h.2.2.2⟩

theorem sgn_one {x : Int} (h : 0 < x) : (sgn x 1 != 0) = decide (x ≠ 1) := by
  unfold sgn
  by_cases h1 : x = 1
  · subst h1
    decide
  · rw [if_neg (by omega), if_neg h1, decide_eq_true h1]
    rfl

theorem read_cases (r : staff_Ratio) : (∃ x e, e ≠ 0 ∧ staff_read r = some (x, e) ∧ portref2_RatioFault r = some e) ∨
    (∃ x y, staff_read r = some (x, 0) ∧ portref2_RatioFault r = some 0 ∧ portref2_ratOf r = some y ∧ RV x y) := by
  obtain ⟨num, den⟩ := r
  obtain ⟨n, rfl⟩ : ∃ n, num = tb n := ⟨num.data.toList, (tb_of num).symm⟩
  obtain ⟨d, rfl⟩ : ∃ d, den = tb d := ⟨den.data.toList, (tb_of den).symm⟩
  unfold staff_read portref2_RatioFault
  dsimp only
  rw [tb_size, tb_size]
  by_cases hl : n.length ≤ 20000 ∧ d.length ≤ 20000
  rotate_left
  · left
    have e : ((decide ((20000 : Int) < (n.length : Int))) || (decide ((20000 : Int) < (d.length : Int)))) = true := by
      rw [Bool.or_eq_true, decide_eq_true_eq, decide_eq_true_eq]
      omega
    exact ⟨_, 4, by decide, by rw [if_pos e], by rw [if_pos e]⟩
  have e : ¬ (((decide ((20000 : Int) < (n.length : Int))) || (decide ((20000 : Int) < (d.length : Int)))) = true) := by
    rw [Bool.or_eq_true, decide_eq_true_eq, decide_eq_true_eq]
    omega
  rw [if_neg e, if_neg e, checkDigits_val n hl.1, checkDigits_val d hl.2]
  have g1 : portref2_digitString (tb n) = some (digB 20000 n) := by
    unfold portref2_digitString
    rw [show (20000 : Int) = ((20000 : Nat) : Int) from rfl, digits_val n (by omega) 20000]
    rfl
  have g2 : portref2_digitString (tb d) = some (digB 20000 d) := by
    unfold portref2_digitString
    rw [show (20000 : Int) = ((20000 : Nat) : Int) from rfl, digits_val d (by omega) 20000]
    rfl
  simp only [g1, g2, Option.bind_some, rat_or2]
  by_cases hn : digB 20000 n = true
  rotate_left
  · left
    have hn' : digB 20000 n = false := by simpa using hn
    rw [hn']
    exact ⟨_, 8, by decide, rfl, rfl⟩
  by_cases hd : digB 20000 d = true
  rotate_left
  · left
    have hd' : digB 20000 d = false := by simpa using hd
    rw [hn, hd']
    exact ⟨_, 8, by decide, rfl, rfl⟩
  rw [hn, hd]
  have hz : strEq (tb d) (⟨#[48]⟩ : ByteArray) = decide (d = [48]) := tb_eq d [48]
  rw [hz]
  simp only [Bool.not_true, Bool.false_eq_true, if_false, Option.bind_some, if_true, ne_eq, not_true_eq_false, bne_self_eq_false]
  by_cases hd0 : d = [48]
  · left
    rw [decide_eq_true hd0]
    exact ⟨_, 2, by decide, rfl, rfl⟩
  rw [decide_eq_false hd0]
  simp only [Bool.false_eq_true, if_false]
  obtain ⟨n1, n2, n3, n4⟩ := digB_parts hn
  obtain ⟨d1, d2, d3, d4⟩ := digB_parts hd
  obtain ⟨a, ha, a1, a2, a3, a4⟩ := readNat_spec n (by omega) n3
  obtain ⟨b, hb, b1, b2, b3, b4⟩ := readNat_spec d (by omega) d3
  obtain ⟨u, hu, u1, u2, u3⟩ := wholeText_spec n (by omega) n3
  obtain ⟨v, hv, v1, v2, v3⟩ := wholeText_spec d (by omega) d3
  have hnt := text_is n3 n1 n4 rfl
  have hdt := text_is d3 d1 d4 rfl
  have hdp : 0 < dval 0 d := by
    by_cases h : dval 0 d = 0
    · exfalso
      rw [h, decDigits_one (by omega)] at hdt
      exact hd0 hdt
    · omega
  obtain ⟨g, hg, dg, tg, lg, gp, ⟨gd1, gd2⟩, gd3⟩ := divisor_spec a b 2300 a2 b2 a3 b3 (by omega) (by omega) (by decide) (.inr (by omega))
  have d11 : Dig ([1] : List Int) := by intro x hx; simp at hx; omega
  have hcmp := compare_spec g [1] dg d11 tg (by simp [Trm]) (by omega) (by simp)
  have hn1 : nv ([1] : List Int) = 1 := by simp [nv]
  rw [hn1] at hcmp
  obtain ⟨y, hy, fy⟩ := lowest_spec u v 2300 u2 v2 (by omega) (by omega) (by decide) (by omega)
  have hrat : portref2_ratOf (⟨tb n, tb d⟩ : staff_Ratio) = some y := by
    unfold portref2_ratOf
    simp only [hu, hv, hy, Option.bind_some]
  have t1 := whole_text y.num fy.tn (by have := fy.ln; omega)
  have t2 := whole_text y.den fy.td (by have := fy.ld; omega)
  have hrof : portref2_ratioOf y = some (⟨tb (decDigits (wv y.num).toNat), tb (decDigits (wv y.den).toNat)⟩ : staff_Ratio) := by
    unfold portref2_ratioOf
    rw [t1, t2]
    rfl
  simp only [ha, hb, hg, hcmp, hrat, hrof, Option.bind_some, sgn_one gp, tb_eq]
  have yn0 := wv_nonneg y.num
  have ydp := fy.dpos
  have hval := fy.val
  by_cases hg1 : nv g = 1
  · right
    have hcop : Cop (nv a) (nv b) := by
      intro x e1 e2
      have := gd3 x e1 e2
      rwa [hg1] at this
    obtain ⟨p1, p2⟩ := low_unique (p := nv a) (q := nv b) (p' := wv y.num) (q' := wv y.den) (nv_nonneg a2) yn0 (by omega) ydp (by rw [a1, b1, ← u1, ← v1]; exact hval.symm) hcop fy.cop
    have e1 : decDigits (wv y.num).toNat = n := by rw [← p1, a1, Int.toNat_natCast]; exact hnt.symm
    have e2 : decDigits (wv y.den).toNat = d := by rw [← p2, b1, Int.toNat_natCast]; exact hdt.symm
    rw [decide_eq_false (by rw [hg1]; simp), e1, e2]
    simp only [decide_true, Bool.and_self, Bool.not_true, Bool.false_eq_true, if_false]
    refine ⟨_, y, rfl, trivial, rfl, a2, b2, a3, b3, by show a.length ≤ _; omega, by show b.length ≤ _; omega, fy.tn, fy.td, fy.ln, fy.ld, p1, p2, by show 0 < nv b; omega, hcop⟩
  · left
    rw [decide_eq_true hg1]
    refine ⟨_, 1, by decide, by rw [if_pos rfl], ?_⟩
    have hne : ((decide (decDigits (wv y.num).toNat = n)) && (decide (decDigits (wv y.den).toNat = d))) = false := by
      rw [← Bool.not_eq_true, Bool.and_eq_true, decide_eq_true_eq, decide_eq_true_eq]
      rintro ⟨e1, e2⟩
      rw [hnt] at e1
      rw [hdt] at e2
      have f1 := dec_inj e1
      have f2 := dec_inj e2
      have c1 : wv y.num = nv a := by omega
      have c2 : wv y.den = nv b := by omega
      obtain ⟨k, hk⟩ := fy.cop (nv g) (by rw [c1]; exact gd1) (by rw [c2]; exact gd2)
      have hk0 : 0 < k := by
        by_cases h : 0 < k
        · exact h
        · have := Int.mul_le_mul_of_nonneg_left (show k ≤ 0 by omega) (Int.le_of_lt gp)
          omega
      have := Int.mul_le_mul_of_nonneg_left (show 1 ≤ k by omega) (Int.le_of_lt gp)
      omega
    rw [hne]
    rfl
end Go.Proofs.YtnnbhehaplphiaaGreatDoor.M
