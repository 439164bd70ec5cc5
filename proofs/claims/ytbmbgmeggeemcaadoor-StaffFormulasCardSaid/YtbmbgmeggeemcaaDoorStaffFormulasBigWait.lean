/-
  The load's formulas: the program's exact pairs and the reference's fractions have the same values.
-/
import Derived.Test.YtbmbgmeggeemcaaDoorStaffFormulasBigD
namespace Go.Proofs.YtbmbgmeggeemcaaDoor.M
open Go Go.Pu
set_option linter.unusedSimpArgs false
set_option linter.unusedVariables false

def aP (A : Int) : Nat → Int
  | 0 => 1
  | i + 1 => aP A i * A
def bD (A S : Int) : Nat → Int
  | 0 => 1
  | i + 1 => ((i : Int) + 1) * S * bD A S i + aP A (i + 1)
theorem aP_nonneg {A : Int} (h : 0 ≤ A) : ∀ i, 0 ≤ aP A i
  | 0 => by show (0 : Int) ≤ 1; decide
  | i + 1 => Int.mul_nonneg (aP_nonneg h i) h
theorem aP_pos {A : Int} (h : 0 < A) : ∀ i, 0 < aP A i
  | 0 => by show (0 : Int) < 1; decide
  | i + 1 => Int.mul_pos (aP_pos h i) h
theorem bD_pos {A S : Int} (h : 0 ≤ A) (hs : 0 < S) : ∀ i, 0 < bD A S i
  | 0 => by show (0 : Int) < 1; decide
  | i + 1 => by
    have h1 := bD_pos h hs i
    have h2 := aP_nonneg h (i + 1)
    have h3 := Int.mul_pos (Int.mul_pos (show 0 < (i : Int) + 1 by omega) hs) h1
    show 0 < ((i : Int) + 1) * S * bD A S i + aP A (i + 1)
    omega
theorem aP_le_bD {A S : Int} (h : 0 ≤ A) (hs : 0 < S) : ∀ i, aP A i ≤ bD A S i
  | 0 => Int.le_refl 1
  | i + 1 => by
    have h1 := bD_pos h hs i
    have h3 := Int.mul_pos (Int.mul_pos (show 0 < (i : Int) + 1 by omega) hs) h1
    show aP A (i + 1) ≤ ((i : Int) + 1) * S * bD A S i + aP A (i + 1)
    omega

structure LoadOK (l : staff_Load) : Prop where
  c0 : 0 ≤ l.calls
  c1 : l.calls ≤ 100000
  l0 : 1 ≤ l.length
  l1 : l.length ≤ 1440
  s0 : 1 ≤ l.span
  s1 : l.span ≤ 10080
theorem LoadOK.off {l : staff_Load} (h : LoadOK l) : 0 ≤ l.calls * l.length ∧ l.calls * l.length ≤ 144000000 := by
  obtain ⟨h1, h2, h3, h4, _, _⟩ := h
  exact ⟨Int.mul_nonneg h1 (by omega), Int.mul_le_mul h2 h4 (by omega) (by decide)⟩
theorem LoadOK.ns {l : staff_Load} (h : LoadOK l) {n : Nat} (hn : n ≤ 60) : 0 ≤ (n : Int) * l.span ∧ (n : Int) * l.span ≤ 604800 := by
  obtain ⟨_, _, _, _, h5, h6⟩ := h
  exact ⟨Int.mul_nonneg (by omega) (by omega), Int.mul_le_mul (show (n : Int) ≤ 60 by omega) h6 (by omega) (by decide)⟩

/-- an exact pair of the program -/
structure NR (r : staff_ratio) (L : Nat) (p q : Int) : Prop where
  dn : Dig r.num
  dd : Dig r.den
  ln : r.num.length ≤ L
  ld : r.den.length ≤ L
  vn : nv r.num = p
  vd : nv r.den = q
  tn : Trm r.num
  td : Trm r.den

theorem offered_val {l : staff_Load} (h : LoadOK l) : staff_Load_offered l = some (l.calls * l.length, l.span) := by
  unfold staff_Load_offered
  have := h.off
  rw [w64_id (by omega) (by omega)]
theorem offered_ref {l : staff_Load} (h : LoadOK l) : ∃ r, portref2_offered l = some r ∧ FR r 2 (l.calls * l.length) l.span := by
  unfold portref2_offered
  have h1 := h.off
  have h2 := h.s0
  have h3 := h.s1
  obtain ⟨r, hr, hf⟩ := rat_spec (l.calls * l.length) l.span (by omega) (by omega)
  rw [w64_id (by omega) (by omega), hr]
  exact ⟨r, rfl, hf⟩

theorem blocked_val {l : staff_Load} (h : LoadOK l) (n : Nat) (hn : n ≤ 60) : ∃ r, staff_Load_blocked l n = some r ∧ NR r 130 (aP (l.calls * l.length) n) (bD (l.calls * l.length) l.span n) := by
  unfold staff_Load_blocked
  rw [offered_val h]
  simp only [Option.bind_some]
  have hA := h.off
  have hs0 := h.s0
  have hs1 := h.s1
  generalize l.calls * l.length = A at *
  generalize l.span = S at *
  obtain ⟨x, hx, r, rfl, hr⟩ := whileB_spec (R := staff_ratio) (body := fun (s61 : Int × staff_ratio) => if (decide (s61.1 < (n : Int))) = true then Option.bind (staff_nat_small s61.2.num A) fun x77 => Option.bind (staff_nat_small s61.2.den (w64 ((w64 (s61.1 + 1)) * S))) fun x83 => Option.bind (staff_nat_plus x83 x77) fun x89 => some (.nx (w64 (s61.1 + 1), (⟨x77, x89⟩ : staff_ratio))) else some (.bk (s61.1, s61.2)))
    (fun s => ∃ k : Nat, s.1 = (k : Int) ∧ k ≤ n ∧ NR s.2 (1 + 2 * k) (aP A k) (bD A S k)) (fun s => n - s.1.toNat)
    (fun x => ∃ r : staff_ratio, x = .fin ((n : Int), r) ∧ NR r 130 (aP A n) (bD A S n)) (s := (0, (⟨([1] : List Int), ([1] : List Int)⟩ : staff_ratio)))
    ⟨0, rfl, Nat.zero_le _, by intro x hx; simp at hx; omega, by intro x hx; simp at hx; omega, by simp, by simp, by simp [nv, aP], by simp [nv, bD], by simp [Trm], by simp [Trm]⟩
    (by
      rintro ⟨i, r⟩ ⟨k, hi, hk, hr⟩
      dsimp only at hi hr ⊢
      subst hi
      by_cases hkn : k < n
      · have e : decide ((k : Int) < (n : Int)) = true := by rw [decide_eq_true_eq]; omega
        have w1 : w64 ((k : Int) + 1) = ((k + 1 : Nat) : Int) := by rw [w64_id (by omega) (by omega)]; omega
        have hm : 0 ≤ ((k + 1 : Nat) : Int) * S ∧ ((k + 1 : Nat) : Int) * S ≤ 604800 := ⟨Int.mul_nonneg (by omega) (by omega), Int.mul_le_mul (show ((k + 1 : Nat) : Int) ≤ 60 by omega) hs1 (by omega) (by decide)⟩
        have w2 : w64 (((k + 1 : Nat) : Int) * S) = ((k + 1 : Nat) : Int) * S := w64_id (by omega) (by omega)
        have l1 := hr.ln
        have l2 := hr.ld
        obtain ⟨a, ha, a1, a2, a3, a4⟩ := small_spec r.num A hr.dn (by omega) (by omega)
        obtain ⟨b, hb, b1, b2, b3, b4⟩ := small_spec r.den (((k + 1 : Nat) : Int) * S) hr.dd (by omega) (by omega)
        obtain ⟨c, hc, c1, c2, c3, c4⟩ := plus_spec' b a b2 a2 (by omega) (by omega)
        simp only [e, if_true, w1, w2, ha, hb, hc, Option.bind_some]
        refine ⟨_, rfl, ⟨k + 1, rfl, by omega, a2, c2, by show a.length ≤ _; omega, by show c.length ≤ _; omega, ?_, ?_, a3, c4 b3 a3⟩, ?_⟩
        · show nv a = aP A k * A
          rw [a1, hr.vn, Int.mul_comm]
        · show nv c = ((k : Int) + 1) * S * bD A S k + aP A k * A
          rw [c1, b1, a1, hr.vn, hr.vd, Int.mul_comm A]
          rfl
        · show n - ((k + 1 : Nat) : Int).toNat < n - (k : Int).toNat
          simp only [Int.toNat_natCast]
          omega
      · have e : decide ((k : Int) < (n : Int)) = false := by rw [decide_eq_false_iff_not]; omega
        simp only [e, Bool.false_eq_true, if_false]
        obtain rfl : k = n := by omega
        exact ⟨_, rfl, r, rfl, hr.dn, hr.dd, by have := hr.ln; omega, by have := hr.ld; omega, hr.vn, hr.vd, hr.tn, hr.td⟩)
  rw [hx]
  exact ⟨r, rfl, hr⟩

theorem blocked_ref {l : staff_Load} (h : LoadOK l) (n : Nat) (hn : n ≤ 60) : ∃ r, portref2_blocked l n = some r ∧ FR r 400 (aP (l.calls * l.length) n) (bD (l.calls * l.length) l.span n) := by
  unfold portref2_blocked
  obtain ⟨o, ho, hf⟩ := offered_ref h
  obtain ⟨u, hu, u1, u2, u3⟩ := wholeOf_spec 1 (by decide) (by decide)
  rw [ho, hu]
  simp only [Option.bind_some]
  have hA := h.off
  have hs0 := h.s0
  generalize l.calls * l.length = A at *
  generalize l.span = S at *
  have ol1 := hf.ln
  have ol2 := hf.ld
  have hdp := hf.dpos
  obtain ⟨x, hx, t, rfl, t1, t2, t3, t4, t5, t6⟩ := whileB_spec (R := portref2_ratio) (body := fun (s61 : List UInt32 × List UInt32 × Int) => if (decide (s61.2.2 ≤ (n : Int))) = true then Option.bind (portref2_whole_times s61.1 o.num) fun x81 => Option.bind (portref2_whole_times s61.2.1 o.den) fun x91 => Option.bind (portref2_wholeOf s61.2.2) fun x97 => Option.bind (portref2_whole_times x91 x97) fun x103 => Option.bind (portref2_whole_plus x103 x81) fun x109 => some (.nx (x81, x109, w64 (s61.2.2 + 1))) else some (.bk (s61.1, s61.2.1, s61.2.2)))
    (fun s => ∃ k : Nat, s.2.2 = (k : Int) + 1 ∧ k ≤ n ∧ TrmW s.1 ∧ TrmW s.2.1 ∧ s.1.length ≤ 2 + 2 * k ∧ s.2.1.length ≤ 2 + 5 * k ∧ wv s.1 * aP S k = aP A k * aP (wv o.den) k ∧ wv s.2.1 * aP S k = bD A S k * aP (wv o.den) k) (fun s => n + 1 - s.2.2.toNat)
    (fun x => ∃ t : List UInt32 × List UInt32 × Int, x = .fin t ∧ TrmW t.1 ∧ TrmW t.2.1 ∧ t.1.length ≤ 2 + 2 * n ∧ t.2.1.length ≤ 2 + 5 * n ∧ wv t.1 * aP S n = aP A n * aP (wv o.den) n ∧ wv t.2.1 * aP S n = bD A S n * aP (wv o.den) n) (s := (u, u, 1))
    ⟨0, rfl, Nat.zero_le _, u2, u2, by omega, by omega, by simp [u1, aP], by simp [u1, aP, bD]⟩
    (by
      rintro ⟨a, b, i⟩ ⟨k, hi, hk, a1, b1, a2, b2, a3, b3⟩
      dsimp only at hi a1 b1 a2 b2 a3 b3 ⊢
      subst hi
      by_cases hkn : k < n
      · have e : decide ((k : Int) + 1 ≤ (n : Int)) = true := by rw [decide_eq_true_eq]; omega
        have w1 : w64 ((k : Int) + 1 + 1) = ((k + 1 : Nat) : Int) + 1 := by rw [w64_id (by omega) (by omega)]; omega
        obtain ⟨c, hc, c1, c2, c3⟩ := wtimes_spec a o.num (by omega) (by omega)
        obtain ⟨d, hd, d1, d2, d3⟩ := wtimes_spec b o.den (by omega) (by omega)
        obtain ⟨f, hf1, f1, f2, f3⟩ := wholeOf_spec ((k : Int) + 1) (by omega) (by omega)
        obtain ⟨g, hg, g1, g2, g3⟩ := wtimes_spec d f (by omega) (by omega)
        obtain ⟨m, hm, m1, m2, m3⟩ := wplus_spec g c (by omega) (by omega)
        simp only [e, if_true, hc, hd, hf1, hg, hm, w1, Option.bind_some]
        have key : wv c * aP S (k + 1) = aP A (k + 1) * aP (wv o.den) (k + 1) := by
          rw [c1]
          show wv a * wv o.num * (aP S k * S) = aP A k * A * (aP (wv o.den) k * wv o.den)
          have e1 : wv a * wv o.num * (aP S k * S) = (wv a * aP S k) * (wv o.num * S) := by ac_rfl
          rw [e1, a3, hf.val]
          ac_rfl
        refine ⟨_, rfl, ⟨k + 1, rfl, by omega, c2, m2, by show c.length ≤ _; omega, by show m.length ≤ _; omega, key, ?_⟩, ?_⟩
        · show wv m * aP S (k + 1) = (((k : Int) + 1) * S * bD A S k + aP A (k + 1)) * aP (wv o.den) (k + 1)
          rw [m1, Int.add_mul, Int.add_mul, key, g1, d1, f1]
          have e1 : wv b * wv o.den * ((k : Int) + 1) * aP S (k + 1) = ((k : Int) + 1) * S * bD A S k * aP (wv o.den) (k + 1) := by
            show wv b * wv o.den * ((k : Int) + 1) * (aP S k * S) = ((k : Int) + 1) * S * bD A S k * (aP (wv o.den) k * wv o.den)
            have e2 : wv b * wv o.den * ((k : Int) + 1) * (aP S k * S) = (wv b * aP S k) * (wv o.den * (((k : Int) + 1) * S)) := by ac_rfl
            rw [e2, b3]
            ac_rfl
          rw [e1]
        · show n + 1 - (((k + 1 : Nat) : Int) + 1).toNat < n + 1 - ((k : Int) + 1).toNat
          omega
      · have e : decide ((k : Int) + 1 ≤ (n : Int)) = false := by rw [decide_eq_false_iff_not]; omega
        simp only [e, Bool.false_eq_true, if_false]
        obtain rfl : k = n := by omega
        exact ⟨_, rfl, _, rfl, a1, b1, a2, b2, a3, b3⟩)
  rw [hx]
  simp only [Option.bind_some, Lp.andThen_fin]
  have hP := aP_pos (A := S) (by omega) n
  have hR := aP_pos hdp n
  have hB := bD_pos hA.1 (S := S) (by omega) n
  have hden : 0 < wv t.2.1 := by
    have h1 := Int.mul_pos hB hR
    rw [← t6] at h1
    by_cases hz : wv t.2.1 = 0
    · rw [hz, Int.zero_mul] at h1
      omega
    · have := wv_nonneg t.2.1
      omega
  obtain ⟨r, hr, hfr⟩ := lowest_spec t.1 t.2.1 400 t1 t2 (by omega) (by omega) (by decide) hden
  rw [hr]
  refine ⟨r, rfl, hfr.conv hB ?_⟩
  have h1 : wv t.1 * bD A S n * (aP S n * aP (wv o.den) n) = aP A n * wv t.2.1 * (aP S n * aP (wv o.den) n) := by
    have e1 : wv t.1 * bD A S n * (aP S n * aP (wv o.den) n) = (wv t.1 * aP S n) * (bD A S n * aP (wv o.den) n) := by ac_rfl
    have e2 : aP A n * wv t.2.1 * (aP S n * aP (wv o.den) n) = (wv t.2.1 * aP S n) * (aP A n * aP (wv o.den) n) := by ac_rfl
    rw [e1, e2, t5, t6]
    ac_rfl
  exact Int.eq_of_mul_eq_mul_right (by have := Int.mul_pos hP hR; omega) h1
end Go.Proofs.YtbmbgmeggeemcaaDoor.M
