/-
  Numbers in digits of base 10^9 (staff.nat): division.
-/
import Derived.Test.YtnnbhehaplphiaaGreatDoorRatioSumsBigQuot
namespace Go.Proofs.YtnnbhehaplphiaaGreatDoor.M
open Go Go.Pu
set_option linter.unusedSimpArgs false
set_option linter.unusedVariables false

/-- the digit that scales a divisor up -/
theorem scale_top {t s : Int} (ht : 1 ≤ t ∧ t < 1000000000) (h1 : s * (t + 1) ≤ 1000000000) (h2 : 1000000000 < (s + 1) * (t + 1)) : 1 ≤ s ∧ s < 1000000000 ∧ 500000000 ≤ s * t := by
  have hs : 1 ≤ s := by
    by_cases h : 1 ≤ s
    · exact h
    · have := Int.mul_le_mul_of_nonneg_right (show s + 1 ≤ 1 by omega) (show 0 ≤ t + 1 by omega)
      omega
  have hs2 : s < 1000000000 := by
    have := Int.mul_le_mul_of_nonneg_left (show 2 ≤ t + 1 by omega) (show 0 ≤ s by omega)
    omega
  refine ⟨hs, hs2, ?_⟩
  by_cases hb : 500000000 ≤ t
  · have := Int.mul_le_mul_of_nonneg_right hs (show 0 ≤ t by omega)
    omega
  · by_cases hS : 500000000 ≤ s * t
    · exact hS
    · exfalso
      -- S (t + 1) = s (t + 1) t >= (B - t) t
      have e1 : (s + 1) * (t + 1) = s * (t + 1) + (t + 1) := by rw [Int.add_mul, Int.one_mul]
      have e2 := Int.mul_le_mul_of_nonneg_right (show 1000000000 - t ≤ s * (t + 1) by omega) (show 0 ≤ t by omega)
      have e3 : s * (t + 1) * t = s * t * (t + 1) := by ac_rfl
      have e4 := Int.mul_le_mul_of_nonneg_right (show s * t ≤ 499999999 by omega) (show 0 ≤ t + 1 by omega)
      rw [e3, Int.sub_mul] at e2
      have e5 := Int.mul_nonneg (show 0 ≤ t - 1 by omega) (show 0 ≤ 500000000 - t by omega)
      rw [Int.sub_mul, Int.mul_sub, Int.one_mul] at e5
      omega

theorem nv_pos_len {l : List Int} (h : 0 < nv l) : 0 < l.length := by
  cases l with
  | nil => simp [nv] at h
  | cons => simp

/-- the top digits of a row whose number is below a power -/
theorem nv_hi0 {l : List Int} (hd : Dig l) {k : Nat} (hk : k ≤ l.length) (h : nv l < bp k) : nv (l.drop k) = 0 ∧ nv (l.take k) = nv l := by
  have e := nv_parts l (Nat.zero_le k) hk
  simp only [List.take_zero, List.drop_zero, nv, bp, Int.one_mul, Int.zero_add] at e
  have e1 := nv_nonneg (hd.drop k)
  have e2 := nv_nonneg (hd.take k)
  have : nv (l.drop k) = 0 := by
    by_cases h0 : nv (l.drop k) = 0
    · exact h0
    · have := Int.mul_le_mul_of_nonneg_left (show 1 ≤ nv (l.drop k) by omega) (Int.le_of_lt (bp_pos k))
      omega
  rw [this] at e
  exact ⟨this, by omega⟩

theorem nv_two {l : List Int} {p : Nat} {x y : Int} (hl : l.length = p + 2) (hx : l[p]? = some x) (hy : l[p + 1]? = some y) : nv l = (y * 1000000000 + x) * bp p + nv (l.take p) := by
  have e := nv_top (n := p + 1) hl hy
  rw [nv_take_at hx, bp_succ] at e
  rw [e, Int.add_mul, Int.mul_comm (bp p) x, Int.mul_comm y 1000000000, Int.mul_comm (bp p)]
  omega



set_option maxHeartbeats 4000000 in
/-- by divides by a number above 0 -/
theorem by10_spec (a b : List Int) (da : Dig a) (db : Dig b) (ta : Trm a) (tb : Trm b) (hb : 0 < b.length) (la : a.length ≤ 50000) (lb : b.length ≤ 50000) :
    ∃ q r, staff_nat_by a b = some (q, r) ∧ nv a = nv q * nv b + nv r ∧ nv r < nv b ∧ Dig q ∧ Dig r ∧ Trm q ∧ Trm r ∧ q.length ≤ a.length ∧ r.length ≤ a.length + 1 := by
  unfold staff_nat_by
  rw [compare_spec a b da db ta tb (by omega) (by omega)]
  simp only [Option.bind_some]
  by_cases hlt : nv a < nv b
  · have e : decide (sgn (nv a) (nv b) < 0) = true := by
      unfold sgn
      rw [if_pos hlt]
      decide
    rw [if_pos e]
    exact ⟨[], a, rfl, by simp [nv], hlt, fun x hx => by simp at hx, da, by simp [Trm], ta, by simp, Nat.le_succ _⟩
  have e : ¬ (decide (sgn (nv a) (nv b) < 0) = true) := by
    unfold sgn
    rw [if_neg hlt]
    split <;> decide
  rw [if_neg e]
  have hbg := nv_ge db tb hb
  have hal := nv_lt da
  have hbl := nv_lt db
  by_cases h1 : b.length = 1
  · obtain ⟨x, rfl⟩ : ∃ x, b = [x] := by
      match b, h1 with
      | [x], _ => exact ⟨x, rfl⟩
    have hx := db x (by simp)
    have hx0 : x ≠ 0 := fun h => tb (by simp [h])
    obtain ⟨q, r, hq, q1, q2, q3, q4, q5⟩ := part_spec a x da ⟨by omega, hx.2⟩ (by omega)
    obtain ⟨m, hm, m1, m2, m3, m4⟩ := natOf_spec r ⟨q2.1, by omega⟩
    rw [if_pos (show (([x].length : Int) == 1) = true by rfl)]
    have hi0 : idx [x] 0 = some x := rfl
    simp only [hi0, Option.bind_some, hq, hm]
    have e3 : nv [x] = x := by simp [nv]
    refine ⟨q, m, rfl, ?_, ?_, q3, m2, q4, m3, q5, by omega⟩
    · rw [e3, m1, q1]
    · rw [e3, m1]
      exact q2.2
  rw [if_neg (by simpa using (show ¬ (b.length : Int) = 1 by omega))]
  obtain ⟨p, hp⟩ : ∃ p, b.length = p + 2 := ⟨b.length - 2, by omega⟩
  have hm : b.length ≤ a.length := by
    by_cases h : b.length ≤ a.length
    · exact h
    · have := bp_mono (show a.length ≤ b.length - 1 by omega)
      omega
  obtain ⟨K, hK⟩ : ∃ K, a.length + 1 = K + b.length := ⟨a.length + 1 - b.length, by omega⟩
  have hx : b[p + 1]? = some b[p + 1] := List.getElem?_eq_getElem (by omega)
  have hxr := db.at hx
  have hx0 : b[p + 1] ≠ 0 := fun h => tb (by rw [List.getLast?_eq_getElem?, hp, show p + 2 - 1 = p + 1 by omega, hx, h])
  generalize b[p + 1] = t at hx hx0 hxr
  have w1 : w64 ((b.length : Int) - 1) = ((p + 1 : Nat) : Int) := by rw [w64_id (by omega) (by omega)]; omega
  have w2 : w64 (t + 1) = t + 1 := w64_id (by omega) (by omega)
  obtain ⟨s, hs⟩ : ∃ s, s = Int.tdiv 1000000000 (t + 1) := ⟨_, rfl⟩
  obtain ⟨c1, c2, _⟩ := tdiv_spec 1000000000 (t + 1) (by omega)
  obtain ⟨c3, c4, c5, c6, c7⟩ := c2 (by decide)
  rw [← hs] at c1 c3
  obtain ⟨s1, s2, s3⟩ := scale_top (t := t) (s := s) ⟨by omega, by omega⟩ (by rw [Int.mul_comm]; omega) (by rw [Int.add_mul, Int.one_mul, Int.mul_comm s]; omega)
  have hquo : quo 1000000000 (t + 1) = some s := by
    unfold quo
    rw [if_neg (by omega), ← hs]
    congr 1
    exact w64_id (by omega) (by omega)
  obtain ⟨d, hd, d1, d2, d3, d4⟩ := small_spec b s db ⟨by omega, s2⟩ (by omega)
  obtain ⟨r0, hr0, r1, r2, r3, r4⟩ := small_spec a s da ⟨by omega, s2⟩ (by omega)
  -- the divisor that is scaled up
  have hbe := nv_split hx
  have hbt : nv (b.drop (p + 1 + 1)) = 0 := by rw [List.drop_of_length_le (by omega)]; rfl
  rw [hbt, Int.mul_zero, Int.add_zero] at hbe
  have hbt1 := nv_lt (db.take (p + 1))
  rw [List.length_take, Nat.min_eq_left (by omega)] at hbt1
  have hbt0 := nv_nonneg (db.take (p + 1))
  have hcp := bp_pos (p + 1)
  have hdlt : nv d < bp (p + 2) := by
    rw [d1]
    have e1 : nv b < bp (p + 1) * (t + 1) := by rw [Int.mul_add, Int.mul_one]; omega
    have e2 := Int.mul_lt_mul_of_pos_left e1 (show 0 < s by omega)
    have e3 : s * (bp (p + 1) * (t + 1)) = bp (p + 1) * (s * (t + 1)) := by rw [Int.mul_left_comm]
    have e4 := Int.mul_le_mul_of_nonneg_left (show s * (t + 1) ≤ 1000000000 by rw [Int.mul_comm]; omega) (Int.le_of_lt hcp)
    have e5 : bp (p + 2) = bp (p + 1) * 1000000000 := by rw [bp, Int.mul_comm]
    omega
  have hdge : bp (p + 1) * 500000000 ≤ nv d := by
    rw [d1]
    have e1 := Int.mul_le_mul_of_nonneg_left (show bp (p + 1) * t ≤ nv b by omega) (show 0 ≤ s by omega)
    rw [Int.mul_left_comm] at e1
    have e2 := Int.mul_le_mul_of_nonneg_left s3 (Int.le_of_lt hcp)
    omega
  have hdl : d.length = p + 2 := by
    have e1 := nv_lt d2
    by_cases hlo : d.length ≤ p + 1
    · have := bp_mono hlo
      omega
    · by_cases hhi : p + 3 ≤ d.length
      · have e2 := nv_ge d2 d3 (by omega)
        have := bp_mono (show p + 2 ≤ d.length - 1 by omega)
        omega
      · omega
  have hdx : d[p + 1]? = some d[p + 1] := List.getElem?_eq_getElem (by omega)
  have hdy : d[p]? = some d[p] := List.getElem?_eq_getElem (by omega)
  have hdxr := d2.at hdx
  have hdyr := d2.at hdy
  generalize d[p + 1] = D1 at hdx hdxr
  generalize d[p] = D2 at hdy hdyr
  have hde := nv_two hdl hdy hdx
  have hdw1 := nv_lt (d2.take p)
  rw [List.length_take, Nat.min_eq_left (by omega)] at hdw1
  have hdw0 := nv_nonneg (d2.take p)
  have hbpp := bp_pos p
  have hD1 : 500000000 ≤ D1 := by
    by_cases h : 500000000 ≤ D1
    · exact h
    · exfalso
      have e1 := Int.mul_le_mul_of_nonneg_right (show D1 * 1000000000 + D2 + 1 ≤ 1000000000 * 500000000 by omega) (Int.le_of_lt hbpp)
      have e2 : bp (p + 1) * 500000000 = 1000000000 * 500000000 * bp p := by rw [bp]; omega
      rw [Int.add_mul, Int.one_mul] at e1
      omega
  have hdpos : 0 < nv d := by omega
  -- the rows
  have hmk : makeL 35184372088832 (w64 ((a.length : Int) + 1)) (0 : Int) = some (List.replicate (a.length + 1) 0) := by
    rw [w64_id (by omega) (by omega)]
    unfold makeL
    rw [if_pos (by omega)]
    rfl
  have hmk2 : makeL 35184372088832 (w64 (w64 ((a.length : Int) - (d.length : Int)) + 1)) (0 : Int) = some (List.replicate K 0) := by
    have : w64 (w64 ((a.length : Int) - (d.length : Int)) + 1) = (K : Int) := by
      rw [w64_id (n := (a.length : Int) - (d.length : Int)) (by omega) (by omega), w64_id (by omega) (by omega)]
      omega
    rw [this]
    unfold makeL
    rw [if_pos (by omega), Int.toNat_natCast]
  simp only [w1, idx_nat, hx, Option.bind_some, w2, hquo, hd, hmk, hr0, hmk2]
  -- the dividend, scaled up, in a row with one digit more
  obtain ⟨u, hu⟩ : ∃ u, u = copyL (List.replicate (a.length + 1) (0 : Int)) r0 := ⟨_, rfl⟩
  have hue : u = r0 ++ List.replicate (a.length + 1 - r0.length) 0 := by
    rw [hu]
    unfold copyL
    rw [List.take_of_length_le (by simp; omega), List.drop_replicate]
  have hul : u.length = K + (p + 2) := by rw [hue, List.length_append, List.length_replicate]; omega
  have hud : Dig u := by rw [hue]; exact r2.append (Dig.zeros _)
  have huv : nv u = s * nv a := by rw [hue, nv_append, nv_zeros, Int.mul_zero, Int.add_zero, r1]
  have huK : nv u < bp K * nv d := by
    rw [huv]
    have e1 := Int.mul_le_mul_of_nonneg_left hdge (Int.le_of_lt (bp_pos K))
    rw [← Int.mul_assoc, ← bp_add, show K + (p + 1) = a.length by omega] at e1
    have e2 := Int.mul_lt_mul_of_pos_left hal (show 0 < s by omega)
    have e3 : s ≤ 500000000 := by
      have := Int.mul_le_mul_of_nonneg_left (show 2 ≤ t + 1 by omega) (show 0 ≤ s by omega)
      have := Int.mul_comm s (t + 1)
      omega
    have e4 := Int.mul_le_mul_of_nonneg_right e3 (Int.le_of_lt (bp_pos a.length))
    rw [Int.mul_comm 500000000] at e4
    omega
  rw [← hu]
  clear hu hue hmk hmk2 hquo hd w1 w2 hx hx0 hxr c1 c2 c3 c4 c5 c6 c7 hs s3 hbe hbt hbt1 hbt0 hcp hbg hbl hal hdge hr0 r1 r2 r3 r4 d3 d4 db ta tb da hlt
  refine whileB_el (s0 := (u, List.replicate K 0, 0)) (fun o => ∃ q r, o = some (q, r) ∧ nv a = nv q * nv b + nv r ∧ nv r < nv b ∧ Dig q ∧ Dig r ∧ Trm q ∧ Trm r ∧ q.length ≤ a.length ∧ r.length ≤ a.length + 1)
    (fun x => ∃ k : Nat, x.2.2 = (K : Int) - (k : Int) ∧ k ≤ K ∧ x.1.length = K + (p + 2) ∧ x.2.1.length = K ∧ Dig x.1 ∧ Dig x.2.1 ∧ (∀ j, j < k → x.2.1[j]? = some 0) ∧ nv x.1 + nv d * nv x.2.1 = s * nv a ∧ nv x.1 < bp k * nv d)
    (fun x => x.1.length = K + (p + 2) ∧ x.2.1.length = K ∧ Dig x.1 ∧ Dig x.2.1 ∧ nv x.1 + nv d * nv x.2.1 = s * nv a ∧ nv x.1 < nv d) (fun x => ((K : Int) - x.2.2).toNat)
    ⟨K, by show (0 : Int) = _; omega, Nat.le_refl _, hul, by simp, hud, Dig.zeros _, fun j hj => by simp [hj], by simp [nv_zeros, huv], huK⟩ ?_ ?_
  · rintro ⟨r, q, i⟩ ⟨k, hi, hk, i1, i2, i3, i4, i5, i6, i7⟩
    dsimp only at hi i1 i2 i3 i4 i5 i6 i7 ⊢
    subst hi
    cases k with
    | zero =>
      right
      have e : decide ((K : Int) - ((0 : Nat) : Int) < ((List.replicate K (0 : Int)).length : Int)) = false := by rw [decide_eq_false_iff_not]; simp
      rw [if_neg (by rw [e]; decide)]
      exact ⟨_, rfl, i1, i2, i3, i4, i6, by simpa [bp] using i7⟩
    | succ k =>
      have e : decide ((K : Int) - ((k + 1 : Nat) : Int) < ((List.replicate K (0 : Int)).length : Int)) = true := by rw [decide_eq_true_eq]; simp; omega
      rw [if_pos e]
      -- the digits at the top
      have v1 : w64 (w64 ((q.length : Int) - 1) - ((K : Int) - ((k + 1 : Nat) : Int))) = (k : Int) := by rw [w64_id (n := (q.length : Int) - 1) (by omega) (by omega), w64_id (by omega) (by omega)]; omega
      have v2 : w64 ((k : Int) + (d.length : Int)) = ((k + (p + 2) : Nat) : Int) := by rw [w64_id (by omega) (by omega)]; omega
      have v3 : w64 (((k + (p + 2) : Nat) : Int) - 1) = ((k + (p + 1) : Nat) : Int) := by rw [w64_id (by omega) (by omega)]; omega
      have v4 : w64 (((k + (p + 2) : Nat) : Int) - 2) = ((k + p : Nat) : Int) := by rw [w64_id (by omega) (by omega)]; omega
      have v5 : w64 (((k + (p + 2) : Nat) : Int) + 1) = ((k + (p + 3) : Nat) : Int) := by rw [w64_id (by omega) (by omega)]; omega
      have v6 : w64 ((d.length : Int) - 1) = ((p + 1 : Nat) : Int) := by rw [w64_id (by omega) (by omega)]; omega
      have v7 : w64 ((d.length : Int) - 2) = (p : Int) := by rw [w64_id (by omega) (by omega)]; omega
      have v8 : w64 ((K : Int) - ((k + 1 : Nat) : Int) + 1) = (K : Int) - (k : Int) := by rw [w64_id (by omega) (by omega)]; omega
      have g0 : r[k + p]? = some r[k + p] := List.getElem?_eq_getElem (by omega)
      have g1 : r[k + (p + 1)]? = some r[k + (p + 1)] := List.getElem?_eq_getElem (by omega)
      have g2 : r[k + (p + 2)]? = some r[k + (p + 2)] := List.getElem?_eq_getElem (by omega)
      have gr0 := i3.at g0
      have gr1 := i3.at g1
      have gr2 := i3.at g2
      generalize r[k + p] = U0 at g0 gr0
      generalize r[k + (p + 1)] = U1 at g1 gr1
      generalize r[k + (p + 2)] = U2 at g2 gr2
      -- the part of the row
      have hwin := winL_at (l := r) (k := k) (h := k + (p + 3)) (by omega) (by omega)
      obtain ⟨m, hm⟩ : ∃ m, m = (r.take (k + (p + 3))).drop k := ⟨_, rfl⟩
      rw [← hm] at hwin
      have hml : m.length = p + 3 := by rw [hm, List.length_drop, List.length_take]; omega
      have hmd : Dig m := by rw [hm]; exact (i3.take _).drop _
      have hmat : ∀ j, j < p + 3 → m[j]? = r[k + j]? := by
        intro j hj
        rw [hm, List.getElem?_drop, List.getElem?_take, if_pos (by omega)]
      have hparts := nv_parts r (show k ≤ k + (p + 3) by omega) (by omega)
      rw [← hm] at hparts
      have hbk := bp_pos k
      have hrhi : nv r < bp (k + (p + 3)) := by
        have e1 := Int.mul_lt_mul_of_pos_left hdlt (bp_pos (k + 1))
        rw [← bp_add, show k + 1 + (p + 2) = k + (p + 3) by omega] at e1
        omega
      obtain ⟨z1, z2⟩ := nv_hi0 i3 (by omega) hrhi
      rw [z1, Int.mul_zero, Int.add_zero] at hparts
      have hlow0 := nv_nonneg (i3.take k)
      have hlow1 := nv_lt (i3.take k)
      rw [List.length_take, Nat.min_eq_left (by omega)] at hlow1
      have hm1 : nv m < 1000000000 * nv d := by
        have e1 : bp k * nv m < bp k * (1000000000 * nv d) := by rw [← bp_succ]; omega
        exact Int.lt_of_mul_lt_mul_left e1 (Int.le_of_lt hbk)
      -- the three top digits
      have m0 : m[p]? = some U0 := by rw [hmat _ (by omega)]; exact g0
      have m1 : m[p + 1]? = some U1 := by rw [hmat _ (by omega)]; exact g1
      have m2 : m[p + 2]? = some U2 := by rw [hmat _ (by omega)]; exact g2
      have hme : nv m = ((U2 * 1000000000 + U1) * 1000000000 + U0) * bp p + nv (m.take p) := by
        have e1 := nv_top hml m2
        have e2 := nv_take_at m1
        have e3 := nv_take_at m0
        have e4 : m.take (p + 2) = m.take (p + 1 + 1) := rfl
        rw [e1, e4, e2, e3]
        have e5 : bp (p + 1) = 1000000000 * bp p := rfl
        have e6 : bp (p + 2) = 1000000000 * (1000000000 * bp p) := rfl
        rw [e5, e6]
        have e7 : 1000000000 * (1000000000 * bp p) * U2 = U2 * 1000000000 * 1000000000 * bp p := by ac_rfl
        have e8 : 1000000000 * bp p * U1 = U1 * 1000000000 * bp p := by ac_rfl
        have e9 : bp p * U0 = U0 * bp p := by ac_rfl
        rw [e7, e8, e9, Int.add_mul, Int.add_mul, Int.add_mul]
        omega
      have hmw0 := nv_nonneg (hmd.take p)
      have hmw1 := nv_lt (hmd.take p)
      rw [List.length_take, Nat.min_eq_left (by omega)] at hmw1
      obtain ⟨top, htop⟩ : ∃ top, top = U2 * 1000000000 + U1 := ⟨_, rfl⟩
      rw [← htop] at hme
      have htopb : 0 ≤ top ∧ top < D1 * 1000000000 + 1000000000 := by
        refine ⟨by omega, ?_⟩
        by_cases h : top < D1 * 1000000000 + 1000000000
        · exact h
        · exfalso
          have e1 := Int.mul_le_mul_of_nonneg_right (show 1000000000 * (D1 * 1000000000 + D2 + 1) ≤ top * 1000000000 + U0 by omega) (Int.le_of_lt hbpp)
          rw [Int.mul_assoc, Int.add_mul (D1 * 1000000000 + D2), Int.one_mul] at e1
          omega
      have x1 : w64 (U2 * 1000000000) = U2 * 1000000000 := w64_id (by omega) (by omega)
      have x2 : w64 (U2 * 1000000000 + U1) = top := by rw [htop]; exact w64_id (by omega) (by omega)
      obtain ⟨y1, y2, _⟩ := tdiv_spec top D1 (by omega)
      obtain ⟨y3, y4, y5, y6, y7⟩ := y2 htopb.1
      have hq1 : quo top D1 = some (Int.tdiv top D1) := by
        unfold quo
        rw [if_neg (by omega)]
        congr 1
        have : Int.tdiv top D1 ≤ top := by
          have := Int.mul_le_mul_of_nonneg_right (show (1 : Int) ≤ D1 by omega) y3
          omega
        exact w64_id (by omega) (by omega)
      have hr1 : rem top D1 = some (Int.tmod top D1) := by
        unfold rem
        rw [if_neg (by omega)]
      simp only [v1, v2, v3, v4, v5, v6, v7, v8, idx_nat, g1, g2, hdx, Option.bind_some, x1, x2, hq1, hr1]
      left
      refine whileB_el (s0 := (Int.tdiv top D1, Int.tmod top D1)) (fun o => ∃ t : List Int × List Int × Int, o = some (Ctl.nx (R := List Int × List Int) t) ∧ (∃ k' : Nat, t.2.2 = (K : Int) - (k' : Int) ∧ k' ≤ K ∧ t.1.length = K + (p + 2) ∧ t.2.1.length = K ∧ Dig t.1 ∧ Dig t.2.1 ∧ (∀ j, j < k' → t.2.1[j]? = some 0) ∧ nv t.1 + nv d * nv t.2.1 = s * nv a ∧ nv t.1 < bp k' * nv d) ∧ ((K : Int) - t.2.2).toNat < ((K : Int) - ((K : Int) - ((k + 1 : Nat) : Int))).toNat)
        (GI D1 D2 U0 top) (GJ D1 D2 U0 top) (fun x => x.1.toNat) (GI.start ⟨hD1, hdxr.2⟩ hdyr gr0 htopb y3 ⟨y4, y5⟩ (by rw [Int.mul_comm]; exact y1)) ?_ ?_
      · rintro ⟨g, x⟩ hg
        dsimp only
        have hgi := hg
        obtain ⟨a1, a2, a3, a4⟩ := hgi
        dsimp only at a1 a2 a3 a4
        by_cases hbig : 1000000000 ≤ g
        · obtain ⟨b1, b2⟩ := hg.big ⟨hD1, hdxr.2⟩ hdyr gr0 htopb hbig
          have e1 : decide ((1000000000 : Int) ≤ g) = true := by rw [decide_eq_true_eq]; exact hbig
          have e2 : w64 (g - 1) = g - 1 := w64_id (by omega) (by omega)
          have e3 : w64 (x + D1) = x + D1 := w64_id (by omega) (by omega)
          simp only [e1, if_true, Option.bind_some, e2, e3]
          exact .inl ⟨_, rfl, hg.next ⟨hD1, hdxr.2⟩ hdyr gr0 htopb b1 (by omega) (.inl hbig), by show (g - 1).toNat < g.toNat; omega⟩
        · have e1 : decide ((1000000000 : Int) ≤ g) = false := by rw [decide_eq_false_iff_not]; exact hbig
          by_cases hx : x < 1000000000
          · have e2 : decide (x < 1000000000) = true := by rw [decide_eq_true_eq]; exact hx
            have hgd : 0 ≤ g * D2 ∧ g * D2 ≤ 999999999 * 999999999 := ⟨Int.mul_nonneg a1 hdyr.1, Int.mul_le_mul (by omega) (by omega) hdyr.1 (by decide)⟩
            have e3 : w64 (x * 1000000000) = x * 1000000000 := w64_id (by omega) (by omega)
            have e4 : w64 (x * 1000000000 + U0) = x * 1000000000 + U0 := w64_id (by omega) (by omega)
            have e5 : w64 (g * D2) = g * D2 := w64_id (by omega) (by omega)
            simp only [e1, e2, Bool.false_eq_true, if_false, if_true, hdy, g0, Option.bind_some, e3, e4, e5]
            by_cases hlt2 : x * 1000000000 + U0 < g * D2
            · have e6 : decide (x * 1000000000 + U0 < g * D2) = true := by rw [decide_eq_true_eq]; exact hlt2
              have hg1 : 1 ≤ g := by
                by_cases h : 1 ≤ g
                · exact h
                · obtain rfl : g = 0 := by omega
                  omega
              have e7 : w64 (g - 1) = g - 1 := w64_id (by omega) (by omega)
              have e8 : w64 (x + D1) = x + D1 := w64_id (by omega) (by omega)
              simp only [e6, if_true, e7, e8]
              exact .inl ⟨_, rfl, hg.next ⟨hD1, hdxr.2⟩ hdyr gr0 htopb hx hg1 (.inr hlt2), by show (g - 1).toNat < g.toNat; omega⟩
            · have e6 : decide (x * 1000000000 + U0 < g * D2) = false := by rw [decide_eq_false_iff_not]; exact hlt2
              simp only [e6, Bool.false_eq_true, if_false]
              exact .inr ⟨_, rfl, hg.stop ⟨hD1, hdxr.2⟩ hdyr gr0 htopb (by omega) (.inr (by omega))⟩
          · have e2 : decide (x < 1000000000) = false := by rw [decide_eq_false_iff_not]; exact hx
            simp only [e1, e2, Bool.false_eq_true, if_false, Option.bind_some]
            exact .inr ⟨_, rfl, hg.stop ⟨hD1, hdxr.2⟩ hdyr gr0 htopb (by omega) (.inl (by omega))⟩
      · rintro ⟨g, x⟩ ⟨a1, a2, a3⟩
        dsimp only at a1 a2 a3 ⊢
        obtain ⟨k1, k2⟩ := knuth10 (D1 * 1000000000 + D2) (top * 1000000000 + U0) (bp p) (nv (d.take p)) (nv (m.take p)) g hbpp ⟨hdw0, hdw1⟩ ⟨hmw0, hmw1⟩ (by omega) a1 a2 a3
        rw [← hde, ← hme] at k1 k2
        obtain ⟨b', r', hta, ra, rb⟩ := win_round m d g hmd d2 (by omega) (by omega) a1 hm1 hdpos k1 k2
        simp only [hwin, hta, Option.bind_some]
        have hqk := i5 k (by omega)
        -- what is left behind the round
        have fin : ∀ (m' : List Int) (g' : Int), m'.length = m.length → Dig m' → 0 ≤ g' → g' < 1000000000 → nv m' = nv m - g' * nv d → nv m' < nv d →
            ∃ t : List Int × List Int × Int, (Option.bind (setI q (k : Int) g') fun x205 => some (Ctl.nx (R := List Int × List Int) (winS r (k : Int) ((k + (p + 3) : Nat) : Int) m', x205, (K : Int) - (k : Int)))) = some (Ctl.nx t) ∧
              (∃ k' : Nat, t.2.2 = (K : Int) - (k' : Int) ∧ k' ≤ K ∧ t.1.length = K + (p + 2) ∧ t.2.1.length = K ∧ Dig t.1 ∧ Dig t.2.1 ∧ (∀ j, j < k' → t.2.1[j]? = some 0) ∧ nv t.1 + nv d * nv t.2.1 = s * nv a ∧ nv t.1 < bp k' * nv d) ∧ ((K : Int) - t.2.2).toNat < ((K : Int) - ((K : Int) - ((k + 1 : Nat) : Int))).toNat := by
          intro m' g' hl' hd' hg0 hg1 hv hv2
          rw [setI_at' _ (by omega)]
          have hlen : (winS r (k : Int) ((k + (p + 3) : Nat) : Int) m').length = r.length := winS_len (by omega) (by omega) (by omega)
          have hval : nv (winS r (k : Int) ((k + (p + 3) : Nat) : Int) m') = nv (r.take k) + bp k * nv m' := by
            rw [nv_winS (by omega) (by omega) (by omega), z1, Int.mul_zero, Int.add_zero]
          refine ⟨_, rfl, ⟨k, rfl, by omega, hlen.trans i1, by simpa using i2, i3.win hd', i4.set k ⟨hg0, hg1⟩, fun j hj => ?_, ?_, ?_⟩, ?_⟩
          · show (q.set k g')[j]? = some 0
            rw [List.getElem?_set_ne (by omega)]
            exact i5 j (by omega)
          · show nv (winS r (k : Int) ((k + (p + 3) : Nat) : Int) m') + nv d * nv (q.set k g') = s * nv a
            rw [hval, nv_set q k g' 0 hqk, Int.sub_zero, hv, Int.mul_sub, Int.mul_add, ← i6, hparts]
            have : bp k * (g' * nv d) = nv d * (bp k * g') := by ac_rfl
            omega
          · show nv (winS r (k : Int) ((k + (p + 3) : Nat) : Int) m') < bp k * nv d
            rw [hval]
            have := Int.mul_le_mul_of_nonneg_left (show nv m' ≤ nv d - 1 by omega) (Int.le_of_lt hbk)
            rw [Int.mul_sub, Int.mul_one] at this
            omega
          · show ((K : Int) - ((K : Int) - (k : Int))).toNat < _
            omega
        rcases rb with ⟨rfl, r5, r6, r7⟩ | ⟨rfl, r5, r2', hpb, r6, r7, r8, r9⟩
        · simp only [Bool.false_eq_true, if_false, Option.bind_some, hqk]
          exact fin r' g ra r5 a1.1 a1.2 r6 r7
        · have hw2 := winL_winS (l := r) (m := r') (k := k) (h := k + (p + 3)) (by omega) (by omega) (by omega)
          have hw3 := winS_winS (l := r) (m := r') (m2 := r2') (k := k) (h := k + (p + 3)) (by omega) (by omega) (by omega)
          have e7 : w64 (g - 1) = g - 1 := w64_id (by omega) (by omega)
          simp only [if_true, hw2, Option.bind_some, hpb, hw3, e7, hqk]
          exact fin r2' (g - 1) r6 r7 (by omega) (by omega) r8 r9
  · rintro ⟨r, q, i⟩ ⟨i1, i2, i3, i4, i5, i6⟩
    dsimp only at i1 i2 i3 i4 i5 i6 ⊢
    obtain ⟨r', hr', e1, e2, e3, e4⟩ := trimmed_spec r i3 (by omega)
    obtain ⟨q', hq', f1, f2, f3, f4⟩ := trimmed_spec q i4 (by omega)
    obtain ⟨h, rm, hh, g1, g2, g3, g4, g5⟩ := part_spec r' s e2 ⟨by omega, s2⟩ (by omega)
    simp only [hr', hq', hh, Option.bind_some]
    rw [d1] at i5 i6
    have hval : s * (nv a - nv b * nv q) = nv h * s + rm := by
      rw [g1, e1, Int.mul_sub, ← Int.mul_assoc]
      omega
    have hrm : rm = 0 := by
      have e5 : s ∣ rm := by
        have : rm = s * (nv a - nv b * nv q) - nv h * s := by omega
        rw [this]
        exact Int.dvd_sub (Int.dvd_mul_right _ _) (Int.dvd_mul_left _ _)
      by_cases h0 : rm = 0
      · exact h0
      · have := Int.le_of_dvd (by omega) e5
        omega
    have hhv : nv h = nv a - nv b * nv q := by
      rw [hrm, Int.add_zero, Int.mul_comm (nv h)] at hval
      exact (Int.eq_of_mul_eq_mul_left (by omega) hval).symm
    refine ⟨q', h, rfl, ?_, ?_, f2, g3, f3, g4, by omega, by omega⟩
    · rw [f1, hhv, Int.mul_comm (nv q)]
      omega
    · have e6 : s * nv h < s * nv b := by
        rw [hhv, Int.mul_sub, ← Int.mul_assoc]
        omega
      exact Int.lt_of_mul_lt_mul_left e6 (by omega)
end Go.Proofs.YtnnbhehaplphiaaGreatDoor.M
