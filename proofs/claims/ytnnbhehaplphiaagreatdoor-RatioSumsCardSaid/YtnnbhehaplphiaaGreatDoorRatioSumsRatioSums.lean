/-
  RatioSums: the program's answers are the reference's, for all arguments.
-/
import Derived.Test.YtnnbhehaplphiaaGreatDoorRatioSumsRatCheck
import Derived.Test.YtnnbhehaplphiaaGreatDoorRatioSumsBigA
namespace Go.Proofs.YtnnbhehaplphiaaGreatDoor.M
open Go Go.Pu Go.Lib
set_option linter.unusedSimpArgs false
set_option linter.unusedVariables false

/-- a number in lowest terms, written on both sides -/
theorem text_both {r : staff_ratio} {y : portref2_ratio} (xn : Dig r.num) (xd : Dig r.den) (tn : Trm r.num) (td : Trm r.den) (ln : r.num.length ≤ 20000) (ld : r.den.length ≤ 20000) (yn : TrmW y.num) (yd : TrmW y.den) (kn : y.num.length ≤ 20000) (kd : y.den.length ≤ 20000)
    (en : nv r.num = wv y.num) (ed : nv r.den = wv y.den) : ∃ t, staff_ratio_written r = some t ∧ portref2_ratioOf y = some t := by
  have t1 := nat_text r.num xn tn (by omega)
  have t2 := nat_text r.den xd td (by omega)
  have t3 := whole_text y.num yn (by omega)
  have t4 := whole_text y.den yd (by omega)
  rw [← en] at t3
  rw [← ed] at t4
  refine ⟨(⟨⟨(decDigits (nv r.num).toNat).toArray⟩, ⟨(decDigits (nv r.den).toNat).toArray⟩⟩ : staff_Ratio), ?_, ?_⟩
  · unfold staff_ratio_written
    rw [t1, t2]
    rfl
  · unfold portref2_ratioOf
    rw [t3, t4]
    rfl
theorem limited_both {r : staff_ratio} {y : portref2_ratio} (xn : Dig r.num) (xd : Dig r.den) (tn : Trm r.num) (td : Trm r.den) (ln : r.num.length ≤ 20000) (ld : r.den.length ≤ 20000) (yn : TrmW y.num) (yd : TrmW y.den) (kn : y.num.length ≤ 20000) (kd : y.den.length ≤ 20000)
    (en : nv r.num = wv y.num) (ed : nv r.den = wv y.den) : ∃ v, staff_limited r = some v ∧ (Option.bind (portref2_ratioOf y) fun x451 =>
    if ((decide ((20000 : Int) < (x451.num.size : Int))) || (decide ((20000 : Int) < (x451.den.size : Int)))) = true then
      some ((⟨ByteArray.empty, ByteArray.empty⟩ : staff_Ratio), (4 : Int))
    else
      some (x451, 0)) = some v := by
  obtain ⟨t, h1, h2⟩ := text_both xn xd tn td ln ld yn yd kn kd en ed
  unfold staff_limited
  rw [h1, h2]
  simp only [Option.bind_some]
  by_cases h : ((decide ((20000 : Int) < (t.num.size : Int))) || (decide ((20000 : Int) < (t.den.size : Int)))) = true
  · exact ⟨_, by rw [if_pos h], by rw [if_pos h]⟩
  · exact ⟨_, by rw [if_neg h], by rw [if_neg h]⟩

/-- both ratios, or the error -/
theorem two_cases (a b : staff_Ratio) : (∃ x y e, e ≠ 0 ∧ staff_two a b = some (x, y, e) ∧ portref2_twoRatios a b = some e) ∨
    (∃ x y u v, staff_two a b = some (x, y, 0) ∧ portref2_twoRatios a b = some 0 ∧ portref2_ratOf a = some u ∧ portref2_ratOf b = some v ∧ RV x u ∧ RV y v) := by
  unfold staff_two portref2_twoRatios
  have c0 : ((0 : Int) != 0) = false := by decide
  rcases read_cases a with ⟨x, e, he, h1, h2⟩ | ⟨x, u, h1, h2, h3, hv⟩
  · left
    have ce : (e != 0) = true := by simpa using he
    rw [h1, h2]
    exact ⟨x, x, e, he, by simp only [Option.bind_some, ce, if_true], by simp only [Option.bind_some, ce, if_true]⟩
  · rw [h1, h2]
    simp only [Option.bind_some, c0, Bool.false_eq_true, if_false]
    rcases read_cases b with ⟨y, e, he, g1, g2⟩ | ⟨y, v, g1, g2, g3, gv⟩
    · left
      rw [g1, g2]
      exact ⟨x, y, e, he, rfl, rfl⟩
    · right
      rw [g1, g2]
      exact ⟨x, y, u, v, rfl, rfl, h3, g3, hv, gv⟩

theorem compare_eq (a b : staff_Ratio) : ∃ v, staff_Compare a b = some v ∧ portref2_CompareRatios a b = some v := by
  unfold staff_Compare portref2_CompareRatios
  have c0 : ((0 : Int) != 0) = false := by decide
  rcases two_cases a b with ⟨x, y, e, he, h1, h2⟩ | ⟨x, y, u, v, h1, h2, h3, h4, hx, hy⟩
  · have ce : (e != 0) = true := by simpa using he
    rw [h1, h2]
    exact ⟨(0, e), by simp only [Option.bind_some, ce, if_true], by simp only [Option.bind_some, ce, if_true]⟩
  · have l1 := hx.ln
    have l2 := hx.ld
    have l3 := hy.ln
    have l4 := hy.ld
    have k1 := hx.kn
    have k2 := hx.kd
    have k3 := hy.kn
    have k4 := hy.kd
    obtain ⟨p, hp, p1, p2, p3, p4⟩ := times_spec x.num y.den hx.xn hy.xd (by omega) (by omega)
    obtain ⟨q, hq, q1, q2, q3, q4⟩ := times_spec y.num x.den hy.xn hx.xd (by omega) (by omega)
    have hc := compare_spec p q p2 q2 p3 q3 (by omega) (by omega)
    obtain ⟨p', hp', p1', p2', p3'⟩ := wtimes_spec u.num v.den (by omega) (by omega)
    obtain ⟨q', hq', q1', q2', q3'⟩ := wtimes_spec v.num u.den (by omega) (by omega)
    have hc' := cmp_spec p' q' p2' q2' (by omega) (by omega)
    have e1 : nv p = wv p' := by rw [p1, p1', hx.en, hy.ed]
    have e2 : nv q = wv q' := by rw [q1, q1', hy.en, hx.ed]
    rw [← e1, ← e2] at hc'
    rw [h1, h2]
    refine ⟨(sgn (nv p) (nv q), 0), ?_, ?_⟩
    · simp only [Option.bind_some, c0, Bool.false_eq_true, if_false]
      unfold staff_ratio_compare
      simp only [hp, hq, hc, Option.bind_some]
    · simp only [Option.bind_some, c0, Bool.false_eq_true, if_false, h3, h4]
      unfold portref2_ratio_cmp
      simp only [hp', hq', hc', Option.bind_some]

theorem cop_nat {x y : Nat} (hc : Cop (x : Int) (y : Int)) : Nat.Coprime x y := by
  have h1 := hc ((Nat.gcd x y : Nat) : Int) (Int.natCast_dvd_natCast.2 (Nat.gcd_dvd_left x y)) (Int.natCast_dvd_natCast.2 (Nat.gcd_dvd_right x y))
  have h2 : Nat.gcd x y ∣ 1 := Int.natCast_dvd_natCast.1 h1
  exact Nat.dvd_one.1 h2
theorem cop_int {x y : Nat} (hc : Nat.Coprime x y) : Cop (x : Int) (y : Int) := by
  intro d h1 h2
  have h3 : d.natAbs ∣ Nat.gcd x y := Nat.dvd_gcd (by have := Int.natAbs_dvd_natAbs.2 h1; simpa using this) (by have := Int.natAbs_dvd_natAbs.2 h2; simpa using this)
  rw [Nat.Coprime.gcd_eq_one hc] at h3
  have := (Int.natAbs_dvd_natAbs (a := d) (b := 1)).1 (by simpa using h3)
  exact this

/-- the sum by the divisor of the denominators -/
theorem plus_cop {a b c d g p q N h n r : Nat} (hab : Nat.Coprime a b) (hcd : Nat.Coprime c d) (hb : b = p * g) (hd : d = q * g) (hg : 0 < g) (hpq : Nat.Coprime p q) (hN : N = a * q + c * p) (hn : N = n * h) (hr : g = r * h) (hh : 0 < h) (hnr : Nat.Coprime n r) :
    Nat.Coprime n (p * (q * r)) ∧ n * (b * d) = (a * d + c * b) * (p * (q * r)) := by
  constructor
  · have hnN : n ∣ N := ⟨h, hn⟩
    have c1 : Nat.Coprime n p := by
      refine Nat.Coprime.coprime_dvd_left hnN ?_
      have e1 : Nat.Coprime a p := Nat.Coprime.coprime_dvd_right ⟨g, hb⟩ hab
      have e2 : Nat.Coprime (a * q) p := Nat.Coprime.mul_left e1 hpq.symm
      unfold Nat.Coprime at e2 ⊢
      rw [hN, Nat.gcd_add_mul_right_left]
      exact e2
    have c2 : Nat.Coprime n q := by
      refine Nat.Coprime.coprime_dvd_left hnN ?_
      have e1 : Nat.Coprime c q := Nat.Coprime.coprime_dvd_right ⟨g, hd⟩ hcd
      have e2 : Nat.Coprime (c * p) q := Nat.Coprime.mul_left e1 hpq
      unfold Nat.Coprime at e2 ⊢
      rw [hN, Nat.add_comm, Nat.gcd_add_mul_right_left]
      exact e2
    exact Nat.Coprime.mul_right c1 (Nat.Coprime.mul_right c2 hnr)
  · have e1 : a * d + c * b = g * N := by rw [hN, hb, hd, Nat.mul_add]; ac_rfl
    rw [e1, hn, hb, hd]
    have e2 : n * (p * g * (q * g)) = n * (p * q * g * g) := by ac_rfl
    have e3 : g * (n * h) * (p * (q * r)) = n * (p * q * g * (r * h)) := by ac_rfl
    rw [e2, e3, ← hr]

theorem times_cop {a b c d u1 u2 v1 v2 : Nat} (hab : Nat.Coprime a b) (hcd : Nat.Coprime c d) (hu : Nat.Coprime u1 u2) (hv : Nat.Coprime v1 v2) (hu2 : 0 < u2) (hv2 : 0 < v2) (h1 : u1 * d = a * u2) (h2 : v1 * b = c * v2) :
    Nat.Coprime (u1 * v1) (u2 * v2) ∧ (u1 * v1) * (b * d) = (a * c) * (u2 * v2) := by
  have d1 : u1 ∣ a := hu.dvd_of_dvd_mul_right ⟨d, h1.symm⟩
  have d2 : u2 ∣ d := hu.symm.dvd_of_dvd_mul_left ⟨a, by rw [h1, Nat.mul_comm]⟩
  have d3 : v1 ∣ c := hv.dvd_of_dvd_mul_right ⟨b, h2.symm⟩
  have d4 : v2 ∣ b := hv.symm.dvd_of_dvd_mul_left ⟨c, by rw [h2, Nat.mul_comm]⟩
  constructor
  · have c1 : Nat.Coprime u1 v2 := Nat.Coprime.coprime_dvd_left d1 (Nat.Coprime.coprime_dvd_right d4 hab)
    have c2 : Nat.Coprime v1 u2 := Nat.Coprime.coprime_dvd_left d3 (Nat.Coprime.coprime_dvd_right d2 hcd)
    exact Nat.Coprime.mul_left (Nat.Coprime.mul_right hu c1) (Nat.Coprime.mul_right c2 hv)
  · have e1 : (u1 * v1) * (b * d) = (u1 * d) * (v1 * b) := by ac_rfl
    rw [e1, h1, h2]
    ac_rfl

theorem nat_of {x : Int} (h : 0 ≤ x) : ∃ n : Nat, x = (n : Int) := Int.eq_ofNat_of_zero_le h

theorem plus_eq (a b : staff_Ratio) : ∃ v, staff_Plus a b = some v ∧ portref2_OpOf a b false = some v := by
  unfold staff_Plus portref2_OpOf
  have c0 : ((0 : Int) != 0) = false := by decide
  rcases two_cases a b with ⟨x, y, e, he, h1, h2⟩ | ⟨x, y, u, v, h1, h2, h3, h4, hx, hy⟩
  · have ce : (e != 0) = true := by simpa using he
    rw [h1, h2]
    exact ⟨((⟨ByteArray.empty, ByteArray.empty⟩ : staff_Ratio), e), by simp only [Option.bind_some, ce, if_true], by simp only [Option.bind_some, ce, if_true]⟩
  have l1 := hx.ln
  have l2 := hx.ld
  have l3 := hy.ln
  have l4 := hy.ld
  have k1 := hx.kn
  have k2 := hx.kd
  have k3 := hy.kn
  have k4 := hy.kd
  have dx := hx.dp
  have dy := hy.dp
  -- the code
  obtain ⟨g, hg, g1, g2, g3, g4, ⟨g5, g6⟩, g7⟩ := divisor_spec x.den y.den 2300 hx.xd hy.xd hx.td hy.td l2 l4 (by decide) (.inl dx)
  obtain ⟨p, r1, hp, p1, p2, p3, p4⟩ := by_exact x.den g hx.xd g1 hx.td g2 (by omega) (by omega) g4 g5
  obtain ⟨q, r2, hq, q1, q2, q3, q4⟩ := by_exact y.den g hy.xd g1 hy.td g2 (by omega) (by omega) g4 g6
  obtain ⟨s, hs, s1, s2, s3, s4⟩ := times_spec x.num q hx.xn q2 (by omega) (by omega)
  obtain ⟨t, ht, t1, t2, t3, t4⟩ := times_spec y.num p hy.xn p2 (by omega) (by omega)
  obtain ⟨N, hN, n1, n2, n3, n4⟩ := plus_spec' s t s2 t2 (by omega) (by omega)
  have n5 := n4 s3 t3
  obtain ⟨h, hh, m1, m2, m3, m4, ⟨m5, m6⟩, m7⟩ := divisor_spec N g 5000 n2 g1 n5 g2 (by omega) (by omega) (by decide) (.inr g4)
  have m8 : nv h ∣ nv y.den := Int.dvd_trans m6 g6
  obtain ⟨w, r3, hw, w1, w2, w3, w4⟩ := by_exact N h n2 m1 n5 m2 (by omega) (by omega) m4 m5
  obtain ⟨z, r4, hz, z1, z2, z3, z4⟩ := by_exact y.den h hy.xd m1 hy.td m2 (by omega) (by omega) m4 m8
  obtain ⟨D, hD, e1, e2, e3, e4⟩ := times_spec p z p2 z2 (by omega) (by omega)
  -- the reference
  obtain ⟨s', hs', s1', s2', s3'⟩ := wtimes_spec u.num v.den (by omega) (by omega)
  obtain ⟨t', ht', t1', t2', t3'⟩ := wtimes_spec v.num u.den (by omega) (by omega)
  obtain ⟨N', hN', n1', n2', n3'⟩ := wplus_spec s' t' (by omega) (by omega)
  obtain ⟨D', hD', e1', e2', e3'⟩ := wtimes_spec u.den v.den (by omega) (by omega)
  have hdp' : 0 < wv D' := by rw [e1', ← hx.ed, ← hy.ed]; exact Int.mul_pos dx dy
  obtain ⟨f, hf, ff⟩ := lowest_spec N' D' 10000 n2' e2' (by omega) (by omega) (by decide) hdp'
  have hrp : portref2_ratio_plus u v = some f := by
    unfold portref2_ratio_plus
    simp only [hs', ht', hN', hD', hf, Option.bind_some]
  -- the numbers
  obtain ⟨A, hA⟩ := nat_of (nv_nonneg hx.xn)
  obtain ⟨B, hB⟩ := nat_of (nv_nonneg hx.xd)
  obtain ⟨C, hC⟩ := nat_of (nv_nonneg hy.xn)
  obtain ⟨Dn, hDn⟩ := nat_of (nv_nonneg hy.xd)
  obtain ⟨G, hG⟩ := nat_of (nv_nonneg g1)
  obtain ⟨P, hP⟩ := nat_of (nv_nonneg p2)
  obtain ⟨Q, hQ⟩ := nat_of (nv_nonneg q2)
  obtain ⟨NN, hNN⟩ := nat_of (nv_nonneg n2)
  obtain ⟨H, hH⟩ := nat_of (nv_nonneg m1)
  obtain ⟨W, hW⟩ := nat_of (nv_nonneg w2)
  obtain ⟨Z, hZ⟩ := nat_of (nv_nonneg z2)
  obtain ⟨R, hR⟩ : ∃ R : Nat, G = R * H := by
    obtain ⟨k, hk⟩ : H ∣ G := by
      have := m6
      rw [hH, hG] at this
      exact Int.natCast_dvd_natCast.1 this
    exact ⟨k, by rw [hk, Nat.mul_comm]⟩
  have hHp : 0 < H := by omega
  have hGp : 0 < G := by omega
  have b1 : B = P * G := by rw [hB, hP, hG] at p1; exact_mod_cast p1
  have b2 : Dn = Q * G := by rw [hDn, hQ, hG] at q1; exact_mod_cast q1
  have b3 : NN = A * Q + C * P := by rw [hNN, s1, t1, hA, hQ, hC, hP] at n1; exact_mod_cast n1
  have b4 : NN = W * H := by rw [hNN, hW, hH] at w1; exact_mod_cast w1
  have b5 : Dn = Z * H := by rw [hDn, hZ, hH] at z1; exact_mod_cast z1
  have b6 : Z = Q * R := by
    have : Z * H = Q * R * H := by rw [← b5, b2, hR]; ac_rfl
    exact Nat.eq_of_mul_eq_mul_right hHp this
  have cpq : Nat.Coprime P Q := by
    have := cop_parts (p := nv p) (q := nv q) g4 p1 q1 g7
    rw [hP, hQ] at this
    exact cop_nat this
  have cwr : Nat.Coprime W R := by
    have hGR : nv g = (R : Int) * nv h := by rw [hG, hH, hR]; push_cast; rfl
    have := cop_parts (p := nv w) (q := (R : Int)) m4 w1 hGR m7
    rw [hW] at this
    exact cop_nat this
  have cab : Nat.Coprime A B := by have := hx.cop; rw [hA, hB] at this; exact cop_nat this
  have ccd : Nat.Coprime C Dn := by have := hy.cop; rw [hC, hDn] at this; exact cop_nat this
  obtain ⟨f1, f2⟩ := plus_cop cab ccd b1 b2 hGp cpq b3 b4 hR hHp cwr
  have eD : nv D = ((P * (Q * R) : Nat) : Int) := by rw [e1, hP, hZ, b6]; push_cast; rfl
  have eN' : wv N' = ((A * Dn + C * B : Nat) : Int) := by rw [n1', s1', t1', ← hx.en, ← hy.ed, ← hy.en, ← hx.ed, hA, hDn, hC, hB]; push_cast; rfl
  have eD' : wv D' = ((B * Dn : Nat) : Int) := by rw [e1', ← hx.ed, ← hy.ed, hB, hDn]; push_cast; rfl
  have hval := ff.val
  have hDpos : 0 < nv D := by
    rw [eD]
    have hBp : 0 < B := by omega
    have hDp : 0 < Dn := by omega
    have : 0 < P * (Q * R) := by
      refine Nat.mul_pos ?_ ?_
      · exact Nat.pos_of_ne_zero (by rintro rfl; simp at b1; omega)
      · rw [← b6]
        exact Nat.pos_of_ne_zero (by rintro rfl; simp at b5; omega)
    omega
  have hfrac : nv w * wv f.den = wv f.num * nv D := by
    have key : wv D' * (nv w * wv f.den) = wv D' * (wv f.num * nv D) := by
      have k1 : wv D' * (wv f.num * nv D) = (wv f.num * wv D') * nv D := by ac_rfl
      have k2 : nv w * wv D' = wv N' * nv D := by
        rw [hW, eD', eN', eD]
        exact_mod_cast f2
      have k3 : wv D' * (nv w * wv f.den) = (nv w * wv D') * wv f.den := by ac_rfl
      rw [k1, k3, hval, k2]
      ac_rfl
    exact Int.eq_of_mul_eq_mul_left (by omega) key
  have hcop : Cop (nv w) (nv D) := by
    rw [hW, eD]
    exact cop_int f1
  obtain ⟨o1, o2⟩ := low_unique (nv_nonneg w2) (wv_nonneg f.num) hDpos ff.dpos hfrac hcop ff.cop
  obtain ⟨v', hv1, hv2⟩ := limited_both (r := ⟨w, D⟩) (y := f) w2 e2 w3 e3 (by show w.length ≤ _; omega) (by show D.length ≤ _; omega) ff.tn ff.td (by have := ff.ln; omega) (by have := ff.ld; omega) o1 o2
  rw [h1, h2]
  refine ⟨v', ?_, ?_⟩
  · simp only [Option.bind_some, c0, Bool.false_eq_true, if_false, hg, hp, hq, hs, ht, hN, hh, hw, hz, hD, hv1]
  · simp only [Option.bind_some, c0, Bool.false_eq_true, if_false, h3, h4, hrp]
    exact hv2

theorem times_eq (a b : staff_Ratio) : ∃ v, staff_Times a b = some v ∧ portref2_OpOf a b true = some v := by
  unfold staff_Times portref2_OpOf
  have c0 : ((0 : Int) != 0) = false := by decide
  rcases two_cases a b with ⟨x, y, e, he, h1, h2⟩ | ⟨x, y, u, v, h1, h2, h3, h4, hx, hy⟩
  · have ce : (e != 0) = true := by simpa using he
    rw [h1, h2]
    exact ⟨((⟨ByteArray.empty, ByteArray.empty⟩ : staff_Ratio), e), by simp only [Option.bind_some, ce, if_true], by simp only [Option.bind_some, ce, if_true]⟩
  have l1 := hx.ln
  have l2 := hx.ld
  have l3 := hy.ln
  have l4 := hy.ld
  have k1 := hx.kn
  have k2 := hx.kd
  have k3 := hy.kn
  have k4 := hy.kd
  have dx := hx.dp
  have dy := hy.dp
  -- the code
  obtain ⟨p, hp, p1, p2, p3, p4, p5, p6, p7, p8, p9⟩ := low10_spec x.num y.den 2300 hx.xn hy.xd hx.tn hy.td l1 l4 (by decide) dy
  obtain ⟨q, hq, q1, q2, q3, q4, q5, q6, q7, q8, q9⟩ := low10_spec y.num x.den 2300 hy.xn hx.xd hy.tn hx.td l3 l2 (by decide) dx
  obtain ⟨s, hs, s1, s2, s3, s4⟩ := times_spec p.num q.num p1 q1 (by omega) (by omega)
  obtain ⟨t, ht, t1, t2, t3, t4⟩ := times_spec p.den q.den p2 q2 (by omega) (by omega)
  -- the reference: the sum is made too
  obtain ⟨s', hs', s1', s2', s3'⟩ := wtimes_spec u.num v.den (by omega) (by omega)
  obtain ⟨t', ht', t1', t2', t3'⟩ := wtimes_spec v.num u.den (by omega) (by omega)
  obtain ⟨N', hN', n1', n2', n3'⟩ := wplus_spec s' t' (by omega) (by omega)
  obtain ⟨D', hD', e1', e2', e3'⟩ := wtimes_spec u.den v.den (by omega) (by omega)
  have hdp' : 0 < wv D' := by rw [e1', ← hx.ed, ← hy.ed]; exact Int.mul_pos dx dy
  obtain ⟨f0, hf0, ff0⟩ := lowest_spec N' D' 10000 n2' e2' (by omega) (by omega) (by decide) hdp'
  have hrp : portref2_ratio_plus u v = some f0 := by
    unfold portref2_ratio_plus
    simp only [hs', ht', hN', hD', hf0, Option.bind_some]
  obtain ⟨M', hM', m1', m2', m3'⟩ := wtimes_spec u.num v.num (by omega) (by omega)
  obtain ⟨f, hf, ff⟩ := lowest_spec M' D' 10000 m2' e2' (by omega) (by omega) (by decide) hdp'
  have hrt : portref2_ratio_times u v = some f := by
    unfold portref2_ratio_times
    simp only [hM', hD', hf, Option.bind_some]
  -- the numbers
  obtain ⟨A, hA⟩ := nat_of (nv_nonneg hx.xn)
  obtain ⟨B, hB⟩ := nat_of (nv_nonneg hx.xd)
  obtain ⟨C, hC⟩ := nat_of (nv_nonneg hy.xn)
  obtain ⟨Dn, hDn⟩ := nat_of (nv_nonneg hy.xd)
  obtain ⟨U1, hU1⟩ := nat_of (nv_nonneg p1)
  obtain ⟨U2, hU2⟩ := nat_of (nv_nonneg p2)
  obtain ⟨V1, hV1⟩ := nat_of (nv_nonneg q1)
  obtain ⟨V2, hV2⟩ := nat_of (nv_nonneg q2)
  have cab : Nat.Coprime A B := by have := hx.cop; rw [hA, hB] at this; exact cop_nat this
  have ccd : Nat.Coprime C Dn := by have := hy.cop; rw [hC, hDn] at this; exact cop_nat this
  have cu : Nat.Coprime U1 U2 := by have := p9; rw [hU1, hU2] at this; exact cop_nat this
  have cv : Nat.Coprime V1 V2 := by have := q9; rw [hV1, hV2] at this; exact cop_nat this
  have e1 : U1 * Dn = A * U2 := by have := p8; rw [hU1, hDn, hA, hU2] at this; exact_mod_cast this
  have e2 : V1 * B = C * V2 := by have := q8; rw [hV1, hB, hC, hV2] at this; exact_mod_cast this
  obtain ⟨f1, f2⟩ := times_cop cab ccd cu cv (by omega) (by omega) e1 e2
  have eS : nv s = ((U1 * V1 : Nat) : Int) := by rw [s1, hU1, hV1]; push_cast; rfl
  have eT : nv t = ((U2 * V2 : Nat) : Int) := by rw [t1, hU2, hV2]; push_cast; rfl
  have eM' : wv M' = ((A * C : Nat) : Int) := by rw [m1', ← hx.en, ← hy.en, hA, hC]; push_cast; rfl
  have eD' : wv D' = ((B * Dn : Nat) : Int) := by rw [e1', ← hx.ed, ← hy.ed, hB, hDn]; push_cast; rfl
  have hval := ff.val
  have hTpos : 0 < nv t := by rw [t1]; exact Int.mul_pos p7 q7
  have hfrac : nv s * wv f.den = wv f.num * nv t := by
    have key : wv D' * (nv s * wv f.den) = wv D' * (wv f.num * nv t) := by
      have k1 : wv D' * (wv f.num * nv t) = (wv f.num * wv D') * nv t := by ac_rfl
      have k2 : nv s * wv D' = wv M' * nv t := by
        rw [eS, eD', eM', eT]
        exact_mod_cast f2
      have k3 : wv D' * (nv s * wv f.den) = (nv s * wv D') * wv f.den := by ac_rfl
      rw [k1, k3, hval, k2]
      ac_rfl
    exact Int.eq_of_mul_eq_mul_left (by omega) key
  have hcop : Cop (nv s) (nv t) := by
    rw [eS, eT]
    exact cop_int f1
  obtain ⟨o1, o2⟩ := low_unique (nv_nonneg s2) (wv_nonneg f.num) hTpos ff.dpos hfrac hcop ff.cop
  obtain ⟨v', hv1, hv2⟩ := limited_both (r := ⟨s, t⟩) (y := f) s2 t2 s3 t3 (by show s.length ≤ _; omega) (by show t.length ≤ _; omega) ff.tn ff.td (by have := ff.ln; omega) (by have := ff.ld; omega) o1 o2
  rw [h1, h2]
  refine ⟨v', ?_, ?_⟩
  · simp only [Option.bind_some, c0, Bool.false_eq_true, if_false, hp, hq, hs, ht, hv1]
  · simp only [Option.bind_some, c0, Bool.false_eq_true, if_false, if_true, h3, h4, hrp, hrt]
    exact hv2

theorem check_eq (a : staff_Ratio) : ∃ e, staff_CheckRatio a = some e ∧ portref2_RatioFault a = some e := by
  unfold staff_CheckRatio
  rcases read_cases a with ⟨x, e, he, h1, h2⟩ | ⟨x, u, h1, h2, h3, hv⟩
  · exact ⟨e, by rw [h1]; rfl, h2⟩
  · exact ⟨0, by rw [h1]; rfl, h2⟩

theorem sums_true (a b : staff_Ratio) : portlaw2_RatioSums a b = some true := by
  unfold portlaw2_RatioSums
  obtain ⟨c, c1, c2⟩ := compare_eq a b
  obtain ⟨p, p1, p2⟩ := plus_eq a b
  obtain ⟨t, t1, t2⟩ := times_eq a b
  obtain ⟨k, k1, k2⟩ := check_eq a
  have se : ∀ s : ByteArray, strEq s s = true := fun s => by simp [strEq]
  simp only [c1, c2, p1, p2, t1, t2, k1, k2, Option.bind_some, se, Bool.and_self, beq_self_eq_true, if_true]
end Go.Proofs.YtnnbhehaplphiaaGreatDoor.M
