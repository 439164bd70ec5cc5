/-
  Numbers in digits of base 10^9 (staff.nat): the greatest divisor, and lowest terms.
-/
import Derived.Test.YtnnbhehaplphiaaGreatDoorRatioSumsBigDivs
import Derived.Test.YtnnbhehaplphiaaGreatDoorRatioSumsBigLow
namespace Go.Proofs.YtnnbhehaplphiaaGreatDoor.M
open Go Go.Pu
set_option linter.unusedSimpArgs false
set_option linter.unusedVariables false

theorem Trm.pos {l : List Int} (hd : Dig l) (h : Trm l) (h0 : 0 < l.length) : 0 < nv l := by
  have h1 := nv_ge hd h h0
  have h2 := bp_pos (l.length - 1)
  omega
theorem len_le {r b : List Int} (dr : Dig r) (tr : Trm r) (db : Dig b) (h : nv r < nv b) : r.length ≤ b.length := by
  by_cases h0 : r.length ≤ b.length
  · exact h0
  · have h1 := nv_ge dr tr (by omega)
    have h2 := nv_lt db
    have h3 := bp_mono (show b.length ≤ r.length - 1 by omega)
    omega

theorem divisor_spec (a b : List Int) (L : Nat) (da : Dig a) (db : Dig b) (ta : Trm a) (tb : Trm b) (la : a.length ≤ L) (lb : b.length ≤ L) (hL : L ≤ 50000) (hp : 0 < nv a ∨ 0 < nv b) :
    ∃ g, staff_divisor a b = some g ∧ Dig g ∧ Trm g ∧ g.length ≤ L ∧ 0 < nv g ∧ (nv g ∣ nv a ∧ nv g ∣ nv b) ∧ ∀ d, d ∣ nv a → d ∣ nv b → d ∣ nv g := by
  unfold staff_divisor
  refine whileB_el (s0 := (a, b)) (fun o => ∃ g, o = some g ∧ Dig g ∧ Trm g ∧ g.length ≤ L ∧ 0 < nv g ∧ (nv g ∣ nv a ∧ nv g ∣ nv b) ∧ ∀ d, d ∣ nv a → d ∣ nv b → d ∣ nv g)
    (fun s => Dig s.1 ∧ Dig s.2 ∧ Trm s.1 ∧ Trm s.2 ∧ s.1.length ≤ L ∧ s.2.length ≤ L ∧ (0 < nv s.1 ∨ 0 < nv s.2) ∧ (∀ d, d ∣ nv s.1 → d ∣ nv s.2 → d ∣ nv a ∧ d ∣ nv b) ∧ ∀ d, d ∣ nv a → d ∣ nv b → d ∣ nv s.1 ∧ d ∣ nv s.2)
    (fun s => Dig s.1 ∧ Trm s.1 ∧ s.1.length ≤ L ∧ 0 < nv s.1 ∧ (nv s.1 ∣ nv a ∧ nv s.1 ∣ nv b) ∧ ∀ d, d ∣ nv a → d ∣ nv b → d ∣ nv s.1) (fun s => (nv s.2).toNat)
    ⟨da, db, ta, tb, la, lb, hp, fun d e1 e2 => ⟨e1, e2⟩, fun d e1 e2 => ⟨e1, e2⟩⟩ ?_ ?_
  · rintro ⟨x, y⟩ ⟨dx, dy, tx, ty, lx, ly, hxy, h1, h2⟩
    dsimp only at dx dy tx ty lx ly hxy h1 h2 ⊢
    by_cases h0 : 0 < y.length
    · left
      have e : decide ((0 : Int) < (y.length : Int)) = true := by rw [decide_eq_true_eq]; omega
      obtain ⟨q, r, hq, e1, e2, dq, dr, tq, tr, lq, lr⟩ := by10_spec x y dx dy tx ty h0 (by omega) (by omega)
      simp only [e, if_true, hq, Option.bind_some]
      have hyp := ty.pos dy h0
      have hrp := nv_nonneg dr
      have hlen := len_le dr tr dy e2
      refine ⟨_, rfl, ⟨dy, dr, ty, tr, ly, by show r.length ≤ L; omega, .inl hyp, fun d d1 d2 => h1 d ?_ d1, fun d d1 d2 => ⟨(h2 d d1 d2).2, ?_⟩⟩, ?_⟩
      · rw [e1]
        exact Int.dvd_add (Int.dvd_mul_of_dvd_right d1) d2
      · show d ∣ nv r
        obtain ⟨k1, k2⟩ := h2 d d1 d2
        have : nv r = nv x - nv q * nv y := by omega
        rw [this]
        exact Int.dvd_sub k1 (Int.dvd_mul_of_dvd_right k2)
      · show (nv r).toNat < (nv y).toNat
        omega
    · right
      have e : decide ((0 : Int) < (y.length : Int)) = false := by rw [decide_eq_false_iff_not]; omega
      simp only [e, Bool.false_eq_true, if_false]
      obtain rfl : y = [] := List.eq_nil_of_length_eq_zero (by omega)
      have hz : nv ([] : List Int) = 0 := rfl
      rw [hz] at hxy
      obtain ⟨d1, d2⟩ := h1 (nv x) (Int.dvd_refl _) (by rw [hz]; exact Int.dvd_zero _)
      exact ⟨_, rfl, dx, tx, lx, hxy.resolve_right (Int.lt_irrefl 0), ⟨d1, d2⟩, fun d e1 e2 => (h2 d e1 e2).1⟩
  · rintro ⟨x, y⟩ h
    exact ⟨x, rfl, h⟩

/-- a number divided by one that divides it -/
theorem by_exact (x g : List Int) (dx : Dig x) (dg : Dig g) (tx : Trm x) (tg : Trm g) (lx : x.length ≤ 50000) (lg : g.length ≤ 50000) (hg : 0 < nv g) (hd : nv g ∣ nv x) :
    ∃ q r, staff_nat_by x g = some (q, r) ∧ nv x = nv q * nv g ∧ Dig q ∧ Trm q ∧ q.length ≤ x.length := by
  obtain ⟨q, r, hq, e1, e2, dq, dr, tq, tr, lq, lr⟩ := by10_spec x g dx dg tx tg (nv_pos_len hg) lx lg
  refine ⟨q, r, hq, ?_, dq, tq, lq⟩
  have e4 : nv g ∣ nv r := by
    have : nv r = nv x - nv q * nv g := by omega
    rw [this]
    exact Int.dvd_sub hd (Int.dvd_mul_left _ _)
  have e5 := nv_nonneg dr
  by_cases h : nv r = 0
  · omega
  · have := Int.le_of_dvd (by omega) e4
    omega

theorem cop_parts {p q g a b : Int} (hg : 0 < g) (ha : a = p * g) (hb : b = q * g) (h : ∀ d, d ∣ a → d ∣ b → d ∣ g) : Cop p q := by
  intro d e1 e2
  obtain ⟨k, hk⟩ := h (d * g) (by rw [ha]; exact Int.mul_dvd_mul e1 (Int.dvd_refl _)) (by rw [hb]; exact Int.mul_dvd_mul e2 (Int.dvd_refl _))
  refine ⟨k, ?_⟩
  have : g * 1 = g * (d * k) := by
    rw [Int.mul_one]
    conv => lhs; rw [hk]
    ac_rfl
  exact Int.eq_of_mul_eq_mul_left (by omega) this

/-- lowest terms -/
theorem low10_spec (num den : List Int) (L : Nat) (dn : Dig num) (dd : Dig den) (tn : Trm num) (td : Trm den) (ln : num.length ≤ L) (ld : den.length ≤ L) (hL : L ≤ 50000) (hd : 0 < nv den) :
    ∃ r, staff_lowest num den = some r ∧ Dig r.num ∧ Dig r.den ∧ Trm r.num ∧ Trm r.den ∧ r.num.length ≤ L ∧ r.den.length ≤ L ∧ 0 < nv r.den ∧ nv r.num * nv den = nv num * nv r.den ∧ Cop (nv r.num) (nv r.den) := by
  unfold staff_lowest
  obtain ⟨g, hg, dg, tg, lg, gp, ⟨g1, g2⟩, g3⟩ := divisor_spec num den L dn dd tn td ln ld hL (.inr hd)
  obtain ⟨p, r1, hp, p1, p2, p3, p4⟩ := by_exact num g dn dg tn tg (by omega) (by omega) gp g1
  obtain ⟨q, r2, hq, q1, q2, q3, q4⟩ := by_exact den g dd dg td tg (by omega) (by omega) gp g2
  simp only [hg, hp, hq, Option.bind_some]
  have hqp : 0 < nv q := by
    have := nv_nonneg q2
    by_cases h : nv q = 0
    · rw [h, Int.zero_mul] at q1
      omega
    · omega
  refine ⟨_, rfl, p2, q2, p3, q3, by show p.length ≤ L; omega, by show q.length ≤ L; omega, hqp, ?_, cop_parts gp p1 q1 g3⟩
  show nv p * nv den = nv num * nv q
  rw [p1, q1]
  ac_rfl

/-- equal fractions in lowest terms are one -/
theorem low_unique {p q p' q' : Int} (hp : 0 ≤ p) (hp' : 0 ≤ p') (hq : 0 < q) (hq' : 0 < q') (h : p * q' = p' * q) (c : Cop p q) (c' : Cop p' q') : p = p' ∧ q = q' := by
  obtain ⟨a, rfl⟩ := Int.eq_ofNat_of_zero_le hp
  obtain ⟨b, rfl⟩ := Int.eq_ofNat_of_zero_le (Int.le_of_lt hq)
  obtain ⟨a', rfl⟩ := Int.eq_ofNat_of_zero_le hp'
  obtain ⟨b', rfl⟩ := Int.eq_ofNat_of_zero_le (Int.le_of_lt hq')
  have hn : a * b' = a' * b := by exact_mod_cast h
  have cop : ∀ {x y : Nat}, Cop (x : Int) (y : Int) → Nat.Coprime x y := by
    intro x y hc
    have h1 := hc ((Nat.gcd x y : Nat) : Int) (Int.natCast_dvd_natCast.2 (Nat.gcd_dvd_left x y)) (Int.natCast_dvd_natCast.2 (Nat.gcd_dvd_right x y))
    have h2 : Nat.gcd x y ∣ 1 := Int.natCast_dvd_natCast.1 h1
    exact Nat.dvd_one.1 h2
  have d1 : b ∣ b' := (cop c).symm.dvd_of_dvd_mul_left (by rw [hn]; exact Nat.dvd_mul_left _ _)
  have d2 : b' ∣ b := (cop c').symm.dvd_of_dvd_mul_left (by rw [← hn]; exact Nat.dvd_mul_left _ _)
  have hb : b = b' := Nat.dvd_antisymm d1 d2
  subst hb
  have : a = a' := Nat.eq_of_mul_eq_mul_right (by omega) hn
  subst this
  exact ⟨rfl, rfl⟩
end Go.Proofs.YtnnbhehaplphiaaGreatDoor.M
