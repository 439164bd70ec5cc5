/-
  Division of numbers in parts of 32 bits: the main loop and the whole.
-/
import Derived.Test.YtnnbhehaplphiaaGreatDoorRatioSumsBigRound
namespace Go.Proofs.YtnnbhehaplphiaaGreatDoor.M
open Go Go.Pu
set_option linter.unusedSimpArgs false
set_option linter.unusedVariables false

theorem main_spec (v u0 : List UInt32) (p K : Nat) (V1 : UInt32) (hvl : v.length = p + 3) (hv0 : wv v < cp (p + 2)) (hv1 : v[p + 1]? = some V1) (hV1 : 2147483648 ≤ (V1.toNat : Int))
    (hul : K + p + 1 < u0.length) (hlen : u0.length ≤ 1000000) (hu : wv u0 < cp K * wv v) :
    ∃ t, whileB (byBody v ((p + 2 : Nat) : Int)) (u0, List.replicate K 0, (K : Int) - 1) = some (.fin t) ∧ t.1.length = u0.length ∧ t.2.1.length = K ∧ wv t.1 + wv v * wv t.2.1 = wv u0 ∧ wv t.1 < wv v := by
  obtain ⟨r, hr, t, rfl, h1, h2, h3, h4⟩ := whileB_spec (R := List UInt32 × List UInt32) (body := byBody v ((p + 2 : Nat) : Int))
    (fun s => ∃ k : Nat, s.2.2 = (k : Int) - 1 ∧ k ≤ K ∧ s.1.length = u0.length ∧ s.2.1.length = K ∧ (∀ i, i < k → s.2.1[i]? = some 0) ∧ wv s.1 + wv v * wv s.2.1 = wv u0 ∧ wv s.1 < cp k * wv v) (fun s => (s.2.2 + 1).toNat)
    (fun r => ∃ t, r = .fin t ∧ t.1.length = u0.length ∧ t.2.1.length = K ∧ wv t.1 + wv v * wv t.2.1 = wv u0 ∧ wv t.1 < wv v) (s := (u0, List.replicate K 0, (K : Int) - 1))
    ⟨K, rfl, Nat.le_refl _, rfl, by simp, fun i hi => by simp [hi], by simp [wv_zeros], hu⟩
    (by
      rintro ⟨u, q, i⟩ ⟨k, hi, hk, h1, h2, h3, h4, h5⟩
      dsimp only at hi h1 h2 h3 h4 h5 ⊢
      subst hi
      cases k with
      | zero =>
        refine ⟨.bk (u, q, ((0 : Nat) : Int) - 1), rfl, _, rfl, h1, h2, h4, ?_⟩
        simpa [cp] using h5
      | succ k =>
        have e2 : ((k + 1 : Nat) : Int) - 1 = (k : Int) := by omega
        rw [e2]
        obtain ⟨u', q', a1, a2, a3, a4, a5, a6⟩ := round_spec v u q p k V1 hvl hv0 hv1 hV1 (by omega) (by omega) (by omega) h5 (h3 k (by omega))
        refine ⟨_, a1, ⟨k, rfl, by omega, by show u'.length = _; omega, by show q'.length = _; omega, fun i hi => ?_, ?_, a6⟩, ?_⟩
        · show q'[i]? = some 0
          rw [a4 i hi]
          exact h3 i (by omega)
        · show wv u' + wv v * wv q' = wv u0
          omega
        · show ((k : Int) - 1 + 1).toNat < ((k : Int) + 1).toNat
          omega)
  exact ⟨t, hr, h1, h2, h3, h4⟩

theorem pow_cast (n : Nat) : (((2 ^ n : Nat)) : Int) = 2 ^ n := by rw [Int.natCast_pow]; rfl

/-- the divisor shifted up -/
theorem shift_top {b v : List UInt32} {p s t : Nat} {x : UInt32} (hb : b.length = p + 2) (hx : b[p + 1]? = some x) (hst : s + t = 32) (ht : 1 ≤ t) (h1 : 2 ^ (t - 1) ≤ x.toNat) (h2 : x.toNat < 2 ^ t)
    (hv : wv v = 2 ^ s * wv b) (hl : v.length = p + 3) : wv v < cp (p + 2) ∧ ∃ V1, v[p + 1]? = some V1 ∧ 2147483648 ≤ (V1.toNat : Int) := by
  have hw := wv_take_succ hx
  rw [List.take_of_length_le (by omega)] at hw
  have hl1 := wv_lt (b.take (p + 1))
  rw [List.length_take, Nat.min_eq_left (by omega)] at hl1
  have hl0 := wv_nonneg (b.take (p + 1))
  have hc := cp_pos (p + 1)
  have hs0 : (0 : Int) < 2 ^ s := Int.pow_pos (by decide)
  have hp32 : (2 : Int) ^ s * 2 ^ t = 4294967296 := by rw [← Int.pow_add, hst]; rfl
  have hp31 : (2 : Int) ^ s * 2 ^ (t - 1) = 2147483648 := by rw [← Int.pow_add, show s + (t - 1) = 31 by omega]; rfl
  have h1' : (2 : Int) ^ (t - 1) ≤ (x.toNat : Int) := by rw [← pow_cast]; omega
  have h2' : (x.toNat : Int) + 1 ≤ 2 ^ t := by rw [← pow_cast]; omega
  have hlt : wv v < cp (p + 2) := by
    have a1 : wv b < cp (p + 1) * ((x.toNat : Int) + 1) := by rw [Int.mul_add, Int.mul_one]; omega
    have a2 := Int.mul_le_mul_of_nonneg_left h2' (Int.le_of_lt hc)
    have a3 := Int.mul_lt_mul_of_pos_left (show wv b < cp (p + 1) * 2 ^ t by omega) hs0
    rw [Int.mul_left_comm, hp32, Int.mul_comm (cp (p + 1))] at a3
    rw [hv, cp]
    exact a3
  have hge : cp (p + 1) * 2147483648 ≤ wv v := by
    have a2 := Int.mul_le_mul_of_nonneg_left h1' (Int.le_of_lt hc)
    have a3 := Int.mul_le_mul_of_nonneg_left (show cp (p + 1) * 2 ^ (t - 1) ≤ wv b by omega) (Int.le_of_lt hs0)
    rw [Int.mul_left_comm, hp31] at a3
    rw [hv]
    exact a3
  have hv1 : v[p + 1]? = some v[p + 1] := List.getElem?_eq_getElem (by omega)
  generalize v[p + 1] = V1 at hv1
  refine ⟨hlt, V1, hv1, ?_⟩
  by_cases h : 2147483648 ≤ (V1.toNat : Int)
  · exact h
  · exfalso
    have e1 := wv_split hv1
    have hd := wv_nonneg (v.drop (p + 1 + 1))
    have ht0 := wv_nonneg (v.take (p + 1))
    have ht1 := wv_lt (v.take (p + 1))
    rw [List.length_take, Nat.min_eq_left (by omega)] at ht1
    have hd0 : wv (v.drop (p + 1 + 1)) = 0 := by
      by_cases hz : wv (v.drop (p + 1 + 1)) = 0
      · exact hz
      · have h4 := Int.mul_le_mul_of_nonneg_left (show (4294967296 : Int) ≤ (V1.toNat : Int) + 4294967296 * wv (v.drop (p + 1 + 1)) by omega) (Int.le_of_lt hc)
        have c2 : cp (p + 2) = 4294967296 * cp (p + 1) := rfl
        omega
    rw [hd0] at e1
    have h4 := Int.mul_le_mul_of_nonneg_left (show (V1.toNat : Int) + 4294967296 * 0 ≤ 2147483647 by omega) (Int.le_of_lt hc)
    omega

theorem by_spec (a b : List UInt32) (ta : TrmW a) (tb : TrmW b) (hb : 0 < b.length) (la : a.length ≤ 100000) (lb : b.length ≤ 100000) :
    ∃ q r, portref2_whole_by a b = some (q, r) ∧ wv a = wv q * wv b + wv r ∧ wv r < wv b ∧ TrmW q ∧ TrmW r ∧ q.length ≤ a.length ∧ r.length ≤ a.length := by
  unfold portref2_whole_by
  rw [cmp_spec a b ta tb (by omega) (by omega)]
  simp only [Option.bind_some]
  by_cases hlt : wv a < wv b
  · have e : decide (sgn (wv a) (wv b) < 0) = true := by
      unfold sgn
      rw [if_pos hlt]
      decide
    have hap : appendL 35184372088832 ([] : List UInt32) a = some a := by
      unfold appendL
      rw [if_pos (by simp; omega)]
      rfl
    rw [if_pos e, hap]
    refine ⟨[], a, rfl, by simp [wv], hlt, by simp [TrmW], ta, by simp, Nat.le_refl _⟩
  have e : ¬ (decide (sgn (wv a) (wv b) < 0) = true) := by
    unfold sgn
    rw [if_neg hlt]
    split <;> decide
  rw [if_neg e]
  have hbg := wv_ge tb hb
  have hal := wv_lt a
  by_cases h1 : b.length = 1
  · obtain ⟨d, rfl⟩ : ∃ d, b = [d] := by
      match b, h1 with
      | [d], _ => exact ⟨d, rfl⟩
    have hd0 : d ≠ 0 := fun h => tb (by simp [h])
    have hw1 : w64 ((a.length : Int) - 1) = (a.length : Int) - 1 := w64_id (by omega) (by omega)
    have hmk : makeL 70368744177664 (a.length : Int) (0 : UInt32) = some (List.replicate a.length 0) := by
      unfold makeL
      rw [if_pos (by omega), Int.toNat_natCast]
    rw [if_pos (show (([d].length : Int) == 1) = true by rfl), hmk, hw1]
    simp only [Option.bind_some]
    obtain ⟨t, ht, t1, t2, t3⟩ := div_one a d hd0 la
    rw [ht]
    obtain ⟨q, hq, q1, q2, q3⟩ := trim_spec t.1 (by omega)
    obtain ⟨r, hr, r1, r2, r3⟩ := trim_spec [toU32 t.2.1] (by simp)
    simp only [Option.bind_some, Lp.andThen_fin, hq, hr]
    have hdr := u32_rng d
    have e2 : wv [toU32 t.2.1] = t.2.1 := by
      simp only [wv, toU32_mod]
      omega
    have e3 : wv [d] = (d.toNat : Int) := by simp [wv]
    have ha1 : 1 ≤ a.length := by
      cases a with
      | nil =>
        simp only [wv, e3] at hlt
        have : (d.toNat : Int) ≠ 0 := fun h => hd0 (u32_ext (by simpa using h))
        omega
      | cons => simp
    refine ⟨q, r, rfl, ?_, ?_, q2, r2, by omega, by simp at r3; omega⟩
    · rw [q1, r1, e2, e3, t3]
    · rw [r1, e2, e3]
      exact t2.2
  · rw [if_neg (by simpa using (show ¬ (b.length : Int) = 1 by omega))]
    obtain ⟨p, hp⟩ : ∃ p, b.length = p + 2 := ⟨b.length - 2, by omega⟩
    have hm : b.length ≤ a.length := by
      by_cases h : b.length ≤ a.length
      · exact h
      · have := cp_mono (show a.length ≤ b.length - 1 by omega)
        omega
    obtain ⟨K, hK⟩ : ∃ K, a.length + 1 = K + b.length := ⟨a.length + 1 - b.length, by omega⟩
    have hx : b[p + 1]? = some b[p + 1] := List.getElem?_eq_getElem (by omega)
    have hx0 : b[p + 1] ≠ 0 := fun h => tb (by rw [List.getLast?_eq_getElem?, hp, show p + 2 - 1 = p + 1 by omega, hx, h])
    generalize b[p + 1] = x at hx hx0
    have hxr := u32_rng x
    have hxn : (x.toNat : Int) ≠ 0 := fun h => hx0 (u32_ext (by simpa using h))
    obtain ⟨t, ht, t1, t2, t3, t4⟩ := len32_spec (x.toNat : Int) (by omega) hxr.2
    rw [Int.toNat_natCast] at t3 t4
    obtain ⟨s, hs⟩ : ∃ s, s + t = 32 := ⟨32 - t, by omega⟩
    have hlz : math_bits_LeadingZeros32 (x.toNat : Int) = some (s : Int) := by
      unfold math_bits_LeadingZeros32
      rw [ht]
      simp only [Option.bind_some]
      rw [w64_id (by omega) (by omega)]
      congr 1
      omega
    have w1 : w64 ((b.length : Int) - 1) = ((p + 1 : Nat) : Int) := by rw [w64_id (by omega) (by omega)]; omega
    have w2 : IntKind.u64.wrap (s : Int) = (s : Int) := wrapU64_id (by omega) (by omega)
    have w3 : w64 ((K : Int) - 1 + 1) = (K : Int) := by rw [w64_id (by omega) (by omega)]; omega
    have w4 : w64 ((a.length : Int) - (b.length : Int)) = (K : Int) - 1 := by rw [w64_id (by omega) (by omega)]; omega
    obtain ⟨u, hu, u1, u2⟩ := up_spec a s (by omega) la
    obtain ⟨v, hv, v1, v2⟩ := up_spec b s (by omega) lb
    have hmk : makeL 70368744177664 (K : Int) (0 : UInt32) = some (List.replicate K 0) := by
      unfold makeL
      rw [if_pos (by omega), Int.toNat_natCast]
    have hmk2 : makeL 70368744177664 (b.length : Int) (0 : UInt32) = some (List.replicate b.length 0) := by
      unfold makeL
      rw [if_pos (by omega), Int.toNat_natCast]
    obtain ⟨sv0, V1, sv1, sv2⟩ := shift_top hp hx hs t1 t3 t4 v1 (by omega)
    have hs0 : (0 : Int) < 2 ^ s := Int.pow_pos (by decide)
    have hs31 : (2 : Int) ^ s ≤ 2147483648 := by
      have : (2 : Int) ^ s * 2 ^ (t - 1) = 2147483648 := by rw [← Int.pow_add, show s + (t - 1) = 31 by omega]; rfl
      have h5 : (0 : Int) < 2 ^ (t - 1) := Int.pow_pos (by decide)
      have := Int.mul_le_mul_of_nonneg_left (show (1 : Int) ≤ 2 ^ (t - 1) by omega) (Int.le_of_lt hs0)
      omega
    have huK : wv u < cp K * wv v := by
      have e1 := wv_split sv1
      have e2 := wv_nonneg (v.take (p + 1))
      have e3 := wv_nonneg (v.drop (p + 1 + 1))
      have e4 := Int.mul_le_mul_of_nonneg_left (show (2147483648 : Int) ≤ (V1.toNat : Int) + 4294967296 * wv (v.drop (p + 1 + 1)) by omega) (Int.le_of_lt (cp_pos (p + 1)))
      have e5 := Int.mul_le_mul_of_nonneg_left (show cp (p + 1) * 2147483648 ≤ wv v by omega) (Int.le_of_lt (cp_pos K))
      rw [← Int.mul_assoc, ← cp_add, show K + (p + 1) = a.length by omega] at e5
      have e6 := Int.mul_lt_mul_of_pos_left hal hs0
      have e7 := Int.mul_le_mul_of_nonneg_right hs31 (Int.le_of_lt (cp_pos a.length))
      rw [Int.mul_comm 2147483648] at e7
      omega
    obtain ⟨m, hmn, m1, m2, m3, m4⟩ := main_spec v u p K V1 (by omega) sv0 sv1 sv2 (by omega) (by omega) huK
    have hn : ((p + 2 : Nat) : Int) = (b.length : Int) := by omega
    rw [hn] at hmn
    unfold byBody at hmn
    have hmz : m.1[b.length]? = some 0 := wv_high (k := b.length) (by rw [hp]; omega) b.length (Nat.le_refl _) (by omega)
    have hm0 : m.1[0]? = some m.1[0] := List.getElem?_eq_getElem (by omega)
    obtain ⟨z, hz, z1, c, z2, z3⟩ := down_spec m.1 b.length s (by omega) (by omega) (by omega) _ hm0
    obtain rfl : c = 0 := by rw [hmz] at z2; exact (Option.some.inj z2).symm
    have htk := wv_take_succ hmz
    have hbm : wv (m.1.take b.length) = wv m.1 := by
      have e1 := wv_split hmz
      have e2 := wv_nonneg (m.1.take b.length)
      have e3 := wv_nonneg (m.1.drop (b.length + 1))
      have e0 : ((0 : UInt32).toNat : Int) = 0 := rfl
      rw [e0] at e1
      by_cases hz : wv (m.1.drop (b.length + 1)) = 0
      · rw [hz] at e1
        omega
      · have h4 := Int.mul_le_mul_of_nonneg_left (show (1 : Int) ≤ 0 + 4294967296 * wv (m.1.drop (b.length + 1)) by omega) (Int.le_of_lt (cp_pos b.length))
        rw [← hp] at sv0
        omega
    have e0 : ((0 : UInt32).toNat : Int) % 2 ^ s = 0 := by simp
    rw [hbm, e0, Int.mul_zero, Int.add_zero] at z3
    rw [u1, v1] at m3
    rw [v1] at m4
    have hlow : ((m.1[0] : UInt32).toNat : Int) % 2 ^ s = 0 := by
      have e1 := wv_split hm0
      have e2 : (4294967296 : Int) = 2 ^ s * 2 ^ t := by rw [← Int.pow_add, hs]; rfl
      have e3 : ((m.1[0] : UInt32).toNat : Int) = 2 ^ s * (wv a - wv b * wv m.2.1 - 2 ^ t * wv (m.1.drop (0 + 1))) := by
        rw [Int.mul_sub, Int.mul_sub, ← Int.mul_assoc, ← Int.mul_assoc (2 ^ s) (2 ^ t), ← e2]
        simp only [List.take_zero, wv, cp] at e1
        omega
      rw [e3]
      exact Int.mul_emod_right _ _
    rw [hlow, Int.add_zero] at z3
    obtain ⟨q, hq, q1, q2, q3⟩ := trim_spec m.2.1 (by omega)
    obtain ⟨r, hr, r1, r2, r3⟩ := trim_spec z.1 (by omega)
    simp only [w1, w2, idx_nat] at hmn hz
    simp only [w1, w2, w4, idx_nat, hx, hlz, hu, hv, hmk2, Option.bind_some]
    simp only [w3, hmk, Option.bind_some]
    rw [hmn]
    simp only [Option.bind_some, Lp.andThen_fin]
    rw [hz]
    simp only [Option.bind_some, Lp.andThen_fin, hq, hr]
    refine ⟨q, r, rfl, ?_, ?_, q2, r2, by omega, by omega⟩
    · rw [q1, r1]
      have e1 : (2 : Int) ^ s * (wv z.1 + wv b * wv m.2.1) = 2 ^ s * wv a := by
        rw [Int.mul_add, z3, ← Int.mul_assoc]
        exact m3
      have := Int.eq_of_mul_eq_mul_left (by omega) e1
      rw [Int.mul_comm (wv m.2.1)]
      omega
    · rw [r1]
      rw [← z3] at m4
      exact Int.lt_of_mul_lt_mul_left m4 (Int.le_of_lt hs0)
end Go.Proofs.YtnnbhehaplphiaaGreatDoor.M
