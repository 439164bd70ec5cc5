/-
  Fractions in lowest terms (portref2.ratio): what the operations mean.
-/
import Derived.Test.YtnnbhehaplphiaaGreatDoorRatioSumsBigMain
namespace Go.Proofs.YtnnbhehaplphiaaGreatDoor.M
open Go Go.Pu
set_option linter.unusedSimpArgs false
set_option linter.unusedVariables false

theorem TrmW.pos {l : List UInt32} (h : TrmW l) (h0 : 0 < l.length) : 0 < wv l := by
  have h1 := wv_ge h h0
  have h2 := cp_pos (l.length - 1)
  omega
theorem wv_pos_len {l : List UInt32} (h : 0 < wv l) : 0 < l.length := by
  cases l with
  | nil => simp [wv] at h
  | cons => simp

/-- no common divisor but 1 -/
def Cop (p q : Int) : Prop := ∀ d, d ∣ p → d ∣ q → d ∣ 1

/-- r stands for p / q -/
structure FR (r : portref2_ratio) (L : Nat) (p q : Int) : Prop where
  tn : TrmW r.num
  td : TrmW r.den
  ln : r.num.length ≤ L
  ld : r.den.length ≤ L
  dpos : 0 < wv r.den
  qpos : 0 < q
  val : wv r.num * q = p * wv r.den
  cop : Cop (wv r.num) (wv r.den)

theorem lowest_spec (num den : List UInt32) (L : Nat) (tn : TrmW num) (td : TrmW den) (ln : num.length ≤ L) (ld : den.length ≤ L) (hL : L ≤ 100000) (hd : 0 < wv den) :
    ∃ r, portref2_lowest num den = some r ∧ FR r L (wv num) (wv den) := by
  unfold portref2_lowest
  obtain ⟨x, hx, t, rfl, h1, h2, h3, h4, h5⟩ := whileB_spec (R := portref2_ratio) (body := fun (s23 : List UInt32 × List UInt32) => if (decide ((0 : Int) < (s23.2.length : Int))) = true then Option.bind (portref2_whole_by s23.1 s23.2) fun x39 => some (.nx (s23.2, x39.2)) else some (.bk (s23.1, s23.2)))
    (fun s => TrmW s.1 ∧ TrmW s.2 ∧ s.1.length ≤ L ∧ s.2.length ≤ L ∧ (0 < wv s.1 ∨ 0 < wv s.2) ∧ (∀ d, d ∣ wv s.1 → d ∣ wv s.2 → d ∣ wv num ∧ d ∣ wv den) ∧ ∀ d, d ∣ wv num → d ∣ wv den → d ∣ wv s.1 ∧ d ∣ wv s.2) (fun s => (wv s.2).toNat)
    (fun x => ∃ t, x = .fin t ∧ TrmW t.1 ∧ t.1.length ≤ L ∧ 0 < wv t.1 ∧ (wv t.1 ∣ wv num ∧ wv t.1 ∣ wv den) ∧ ∀ d, d ∣ wv num → d ∣ wv den → d ∣ wv t.1) (s := (num, den))
    ⟨tn, td, ln, ld, .inr hd, fun d a b => ⟨a, b⟩, fun d a b => ⟨a, b⟩⟩
    (by
      rintro ⟨a, b⟩ ⟨ta, tb, la, lb, hp, hdv, hdw⟩
      dsimp only at ta tb la lb hp hdv hdw ⊢
      by_cases h0 : 0 < b.length
      · have e : decide ((0 : Int) < (b.length : Int)) = true := by rw [decide_eq_true_eq]; omega
        obtain ⟨q, r, hq, e1, e2, tq, tr, lq, lr⟩ := by_spec a b ta tb h0 (by omega) (by omega)
        rw [e]
        simp only [if_true, hq, Option.bind_some]
        have hbp := tb.pos h0
        have hrp := wv_nonneg r
        refine ⟨_, rfl, ⟨tb, tr, lb, by show r.length ≤ L; omega, .inl hbp, fun d d1 d2 => hdv d ?_ d1, fun d d1 d2 => ⟨(hdw d d1 d2).2, ?_⟩⟩, ?_⟩
        · rw [e1]
          exact Int.dvd_add (Int.dvd_mul_of_dvd_right d1) d2
        · show d ∣ wv r
          obtain ⟨k1, k2⟩ := hdw d d1 d2
          have : wv r = wv a - wv q * wv b := by omega
          rw [this]
          exact Int.dvd_sub k1 (Int.dvd_mul_of_dvd_right k2)
        · show (wv r).toNat < (wv b).toNat
          omega
      · have e : decide ((0 : Int) < (b.length : Int)) = false := by rw [decide_eq_false_iff_not]; omega
        rw [e]
        simp only [Bool.false_eq_true, if_false]
        have hb : b = [] := List.eq_nil_of_length_eq_zero (by omega)
        subst hb
        have hz : wv ([] : List UInt32) = 0 := rfl
        rw [hz] at hp
        obtain ⟨d1, d2⟩ := hdv (wv a) (Int.dvd_refl _) (by rw [hz]; exact Int.dvd_zero _)
        exact ⟨_, rfl, (a, []), rfl, ta, la, hp.resolve_right (Int.lt_irrefl 0), ⟨d1, d2⟩, fun d e1 e2 => (hdw d e1 e2).1⟩)
  rw [hx]
  simp only [Option.bind_some, Lp.andThen_fin]
  have hg := wv_pos_len h3
  obtain ⟨q1, r1, hq1, a1, a2, a3, a4, a5, a6⟩ := by_spec num t.1 tn h1 hg (by omega) (by omega)
  obtain ⟨q2, r2, hq2, b1, b2, b3, b4, b5, b6⟩ := by_spec den t.1 td h1 hg (by omega) (by omega)
  simp only [hq1, hq2, Option.bind_some]
  have rz : ∀ (x q r : List UInt32), wv x = wv q * wv t.1 + wv r → wv r < wv t.1 → wv t.1 ∣ wv x → wv x = wv q * wv t.1 := by
    intro x q r e1 e2 e3
    have e4 : wv t.1 ∣ wv r := by
      have : wv r = wv x - wv q * wv t.1 := by omega
      rw [this]
      exact Int.dvd_sub e3 (Int.dvd_mul_left _ _)
    have e5 := wv_nonneg r
    by_cases h : wv r = 0
    · omega
    · have := Int.le_of_dvd (by omega) e4
      omega
  have c1 := rz num q1 r1 a1 a2 h4.1
  have c2 := rz den q2 r2 b1 b2 h4.2
  have hq2p : 0 < wv q2 := by
    by_cases h : wv q2 = 0
    · rw [h, Int.zero_mul] at c2
      omega
    · have := wv_nonneg q2
      omega
  refine ⟨_, rfl, a3, b3, by show q1.length ≤ L; omega, by show q2.length ≤ L; omega, hq2p, hd, ?_, ?_⟩
  · show wv q1 * wv den = wv num * wv q2
    rw [c1, c2]
    ac_rfl
  · intro d e1 e2
    have e1 : d ∣ wv q1 := e1
    have e2 : d ∣ wv q2 := e2
    obtain ⟨k, hk⟩ := h5 (d * wv t.1) (by rw [c1]; exact Int.mul_dvd_mul e1 (Int.dvd_refl _)) (by rw [c2]; exact Int.mul_dvd_mul e2 (Int.dvd_refl _))
    refine ⟨k, ?_⟩
    have : wv t.1 * 1 = wv t.1 * (d * k) := by
      rw [Int.mul_one]
      conv => lhs; rw [hk]
      ac_rfl
    exact Int.eq_of_mul_eq_mul_left (by omega) this

end Go.Proofs.YtnnbhehaplphiaaGreatDoor.M
