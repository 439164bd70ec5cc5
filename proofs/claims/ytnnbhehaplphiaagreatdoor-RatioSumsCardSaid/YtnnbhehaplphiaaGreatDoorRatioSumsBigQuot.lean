/-
  Numbers in digits of base 10^9 (staff.nat): the guess of a digit of the quotient, and one round of the division.
-/
import Derived.Test.YtnnbhehaplphiaaGreatDoorRatioSumsBigA
namespace Go.Proofs.YtnnbhehaplphiaaGreatDoor.M
open Go Go.Pu
set_option linter.unusedSimpArgs false
set_option linter.unusedVariables false
set_option linter.unusedSectionVars false

/-- D: the two top digits of the divisor, w the rest of it; N: the three top digits of the dividend, u the rest of it; C: the power of what lies below -/
theorem knuth10 (D N C w u g : Int) (hC : 0 < C) (hw : 0 ≤ w ∧ w < C) (hu : 0 ≤ u ∧ u < C) (hD : 1000000000 ≤ D) (hg : 0 ≤ g ∧ g < 1000000000) (hgD : g * D ≤ N)
    (hmax : ∀ q, 0 ≤ q → q < 1000000000 → q * D ≤ N → q ≤ g) :
    (∀ q, 0 ≤ q → q < 1000000000 → q * (D * C + w) ≤ N * C + u → q ≤ g) ∧ (g - 1) * (D * C + w) ≤ N * C + u := by
  constructor
  · intro q hq0 hq1 hq
    refine hmax q hq0 hq1 ?_
    by_cases h : q * D ≤ N
    · exact h
    · have h1 := Int.mul_le_mul_of_nonneg_right (show N + 1 ≤ q * D by omega) (Int.le_of_lt hC)
      have h2 := Int.mul_nonneg hq0 hw.1
      rw [Int.mul_add, ← Int.mul_assoc] at hq
      rw [Int.add_mul, Int.one_mul] at h1
      omega
  · have h1 := Int.mul_le_mul_of_nonneg_right hgD (Int.le_of_lt hC)
    have h2 : g * w ≤ 1000000000 * C := Int.mul_le_mul (by omega) (Int.le_of_lt hw.2) hw.1 (by decide)
    have h3 := Int.mul_le_mul_of_nonneg_right hD (Int.le_of_lt hC)
    rw [Int.sub_mul, Int.one_mul, Int.mul_add, ← Int.mul_assoc]
    omega

def GI (d1 d2 u0 top : Int) (s : Int × Int) : Prop := 0 ≤ s.1 ∧ (0 ≤ s.2 ∧ s.2 < 2000000000) ∧ s.1 * d1 + s.2 = top ∧ ∀ q, 0 ≤ q → q < 1000000000 → q * (d1 * 1000000000 + d2) ≤ top * 1000000000 + u0 → q ≤ s.1
def GJ (d1 d2 u0 top : Int) (s : Int × Int) : Prop := (0 ≤ s.1 ∧ s.1 < 1000000000) ∧ s.1 * (d1 * 1000000000 + d2) ≤ top * 1000000000 + u0 ∧ ∀ q, 0 ≤ q → q < 1000000000 → q * (d1 * 1000000000 + d2) ≤ top * 1000000000 + u0 → q ≤ s.1

section
variable {d1 d2 u0 top : Int} (h1 : 500000000 ≤ d1 ∧ d1 < 1000000000) (h2 : 0 ≤ d2 ∧ d2 < 1000000000) (h0 : 0 ≤ u0 ∧ u0 < 1000000000) (ht : 0 ≤ top ∧ top < d1 * 1000000000 + 1000000000)
include h1 h2 h0 ht
theorem GI.start {g r : Int} (hg : 0 ≤ g) (hr : 0 ≤ r ∧ r < d1) (he : g * d1 + r = top) : GI d1 d2 u0 top (g, r) := by
  refine ⟨hg, ⟨hr.1, by show r < 2000000000; omega⟩, he, fun q q0 q1 hq => ?_⟩
  show q ≤ g
  by_cases h : q ≤ g
  · exact h
  · have h3 := Int.mul_le_mul_of_nonneg_right (show g + 1 ≤ q by omega) (show 0 ≤ d1 * 1000000000 + d2 by omega)
    rw [Int.add_mul, Int.mul_add, ← Int.mul_assoc, Int.one_mul] at h3
    have h5 := Int.mul_nonneg hg h2.1
    rw [← he, Int.add_mul] at hq
    omega
theorem GI.big {g r : Int} (h : GI d1 d2 u0 top (g, r)) (hg : 1000000000 ≤ g) : r < 1000000000 ∧ g ≤ 1000000001 := by
  obtain ⟨a1, a2, a3, a4⟩ := h
  dsimp only at a1 a2 a3
  constructor
  · have := Int.mul_le_mul_of_nonneg_right hg (show 0 ≤ d1 by omega)
    omega
  · by_cases h : g ≤ 1000000001
    · exact h
    · have := Int.mul_le_mul_of_nonneg_right (show 1000000002 ≤ g by omega) (show 0 ≤ d1 by omega)
      omega
theorem GI.next {g r : Int} (h : GI d1 d2 u0 top (g, r)) (hr : r < 1000000000) (hg : 1 ≤ g) (hn : 1000000000 ≤ g ∨ r * 1000000000 + u0 < g * d2) : GI d1 d2 u0 top (g - 1, r + d1) := by
  obtain ⟨a1, a2, a3, a4⟩ := h
  dsimp only at a1 a2 a3 a4
  refine ⟨by show 0 ≤ g - 1; omega, ⟨by show 0 ≤ r + d1; omega, by show r + d1 < 2000000000; omega⟩, by show (g - 1) * d1 + (r + d1) = top; rw [Int.sub_mul, Int.one_mul]; omega, fun q q0 q1 hq => ?_⟩
  show q ≤ g - 1
  rcases hn with hn | hn
  · omega
  · by_cases h : q ≤ g - 1
    · exact h
    · have h3 := Int.mul_le_mul_of_nonneg_right (show g ≤ q by omega) (show 0 ≤ d1 * 1000000000 + d2 by omega)
      rw [Int.mul_add, ← Int.mul_assoc] at h3
      rw [← a3, Int.add_mul] at hq
      omega
theorem GI.stop {g r : Int} (h : GI d1 d2 u0 top (g, r)) (hg : g < 1000000000) (hn : 1000000000 ≤ r ∨ g * d2 ≤ r * 1000000000 + u0) : GJ d1 d2 u0 top (g, r) := by
  obtain ⟨a1, a2, a3, a4⟩ := h
  dsimp only at a1 a2 a3 a4
  refine ⟨⟨a1, hg⟩, ?_, a4⟩
  show g * (d1 * 1000000000 + d2) ≤ top * 1000000000 + u0
  rw [Int.mul_add, ← Int.mul_assoc, ← a3, Int.add_mul]
  rcases hn with hn | hn
  · have := Int.mul_le_mul (show g ≤ 999999999 by omega) (show d2 ≤ 999999999 by omega) h2.1 (by decide)
    omega
  · omega
end

/-- one round on a part of the row -/
theorem win_round (m d : List Int) (g : Int) (hm : Dig m) (hd : Dig d) (hl : m.length = d.length + 1) (hn : d.length ≤ 1000000) (hg : 0 ≤ g ∧ g < 1000000000) (hlt : nv m < 1000000000 * nv d) (hdp : 0 < nv d)
    (hup : ∀ q, 0 ≤ q → q < 1000000000 → q * nv d ≤ nv m → q ≤ g) (hlo : (g - 1) * nv d ≤ nv m) :
    ∃ b r, staff_takeAway m d g = some (b, r) ∧ r.length = m.length ∧ ((b = false ∧ Dig r ∧ nv r = nv m - g * nv d ∧ nv r < nv d) ∨
      (b = true ∧ 1 ≤ g ∧ ∃ r2, staff_putBack r d = some r2 ∧ r2.length = m.length ∧ Dig r2 ∧ nv r2 = nv m - (g - 1) * nv d ∧ nv r2 < nv d)) := by
  have hdlt := nv_lt hd
  have hbn := bp_pos d.length
  have good : ∀ (r : List Int) (x : Int), r.length = d.length + 1 → Dig (r.take d.length) → r[d.length]? = some x → 0 ≤ nv r → nv r < nv d → Dig r := by
    intro r x hr hdr hx h0 h1
    have e := nv_top hr hx
    have e1 := nv_nonneg hdr
    have e2 := nv_lt hdr
    rw [List.length_take, Nat.min_eq_left (by omega)] at e2
    have hx0 : x = 0 := by
      by_cases hp : 1 ≤ x
      · have := Int.mul_le_mul_of_nonneg_left hp (Int.le_of_lt hbn)
        omega
      · by_cases hq : x ≤ -1
        · have := Int.mul_le_mul_of_nonneg_left hq (Int.le_of_lt hbn)
          omega
        · omega
    have : r = r.take d.length ++ [x] := by
      have := List.take_add_one (l := r) (i := d.length)
      rw [hx, List.take_of_length_le (by omega)] at this
      exact this
    rw [this]
    refine hdr.append fun y hy => ?_
    simp at hy
    omega
  obtain ⟨r, x, hr, r1, r2, r3, r4, r5, r6⟩ := takeAway_spec m d g hm hd hl hg hn
  have etop := nv_top (by omega) r3
  have e1 := nv_nonneg r2
  have e2 := nv_lt r2
  rw [List.length_take, Nat.min_eq_left (by omega)] at e2
  refine ⟨_, r, hr, r1, ?_⟩
  by_cases hx : x < 0
  · right
    have hneg : nv r < 0 := by
      have := Int.mul_le_mul_of_nonneg_left (show x ≤ -1 by omega) (Int.le_of_lt hbn)
      omega
    have hg1 : 1 ≤ g := by
      by_cases h : 1 ≤ g
      · exact h
      · obtain rfl : g = 0 := by omega
        have := nv_nonneg hm
        omega
    obtain ⟨r2', y, p1, p2, p3, p4, p5⟩ := putBack_spec r d x r2 hd (by omega) r3 ⟨r5, r6⟩ hn
    have e5 : nv r2' = nv m - (g - 1) * nv d := by rw [p5, r4, Int.sub_mul, Int.one_mul]; omega
    have e6 : nv r2' < nv d := by rw [p5]; omega
    exact ⟨by rw [decide_eq_true_eq]; exact hx, hg1, r2', p1, by omega, good r2' y (by omega) p3 p4 (by omega) e6, e5, e6⟩
  · left
    have hpos : 0 ≤ nv r := by
      have := Int.mul_nonneg (Int.le_of_lt hbn) (show 0 ≤ x by omega)
      omega
    have hlt2 : nv r < nv d := by
      by_cases h : nv r < nv d
      · exact h
      · exfalso
        have h1 : (g + 1) * nv d ≤ nv m := by rw [Int.add_mul, Int.one_mul]; omega
        by_cases h2 : g + 1 < 1000000000
        · have := hup (g + 1) (by omega) h2 h1
          omega
        · have : g + 1 = 1000000000 := by omega
          rw [this] at h1
          omega
    exact ⟨by rw [decide_eq_false_iff_not]; exact hx, good r x (by omega) r2 r3 hpos hlt2, r4, hlt2⟩

theorem winL_at {l : List Int} {k h : Nat} (hk : k < h) (hh : h ≤ l.length) : winL l (k : Int) (h : Int) = some ((l.take h).drop k) := by
  unfold winL
  rw [if_pos (by omega), Int.toNat_natCast, Int.toNat_natCast]
theorem winS_len {l m : List Int} {k h : Nat} (hk : k ≤ h) (hh : h ≤ l.length) (hm : m.length = h - k) : (winS l (k : Int) (h : Int) m).length = l.length := by
  unfold winS
  rw [Int.toNat_natCast, Int.toNat_natCast, List.length_append, List.length_append, List.length_take, List.length_drop]
  omega
theorem winS_take {l m : List Int} {k h : Nat} (hk : k ≤ h) (hh : h ≤ l.length) (hm : m.length = h - k) : (winS l (k : Int) (h : Int) m).take h = l.take k ++ m := by
  unfold winS
  rw [Int.toNat_natCast, Int.toNat_natCast, List.take_append_of_le_length (by rw [List.length_append, List.length_take]; omega), List.take_of_length_le (by rw [List.length_append, List.length_take]; omega)]
theorem winL_winS {l m : List Int} {k h : Nat} (hk : k < h) (hh : h ≤ l.length) (hm : m.length = h - k) : winL (winS l (k : Int) (h : Int) m) (k : Int) (h : Int) = some m := by
  rw [winL_at hk (by rw [winS_len (Nat.le_of_lt hk) hh hm]; exact hh), winS_take (Nat.le_of_lt hk) hh hm]
  congr 1
  have : (l.take k).length = k := by rw [List.length_take]; omega
  rw [List.drop_append_of_le_length (by omega), List.drop_of_length_le (by omega)]
  rfl
theorem winS_winS {l m m2 : List Int} {k h : Nat} (hk : k < h) (hh : h ≤ l.length) (hm : m.length = h - k) : winS (winS l (k : Int) (h : Int) m) (k : Int) (h : Int) m2 = winS l (k : Int) (h : Int) m2 := by
  have e : (l.take k).length = k := by rw [List.length_take]; omega
  unfold winS
  simp only [Int.toNat_natCast]
  have e1 : (l.take k ++ m ++ l.drop h).take k = l.take k := by
    rw [List.append_assoc, List.take_append_of_le_length (by omega), List.take_of_length_le (by omega)]
  have e2 : (l.take k ++ m ++ l.drop h).drop h = l.drop h := by
    have : (l.take k ++ m).length = h := by rw [List.length_append]; omega
    rw [List.drop_append, List.drop_of_length_le (by omega), this, Nat.sub_self]
    rfl
  rw [e1, e2]
theorem nv_winS {l m : List Int} {k h : Nat} (hk : k ≤ h) (hh : h ≤ l.length) (hm : m.length = h - k) : nv (winS l (k : Int) (h : Int) m) = nv (l.take k) + bp k * nv m + bp h * nv (l.drop h) := by
  unfold winS
  simp only [Int.toNat_natCast]
  have e : (l.take k).length = k := by rw [List.length_take]; omega
  rw [nv_append, nv_append, List.length_append, e, hm, show k + (h - k) = h by omega]
theorem nv_parts (l : List Int) {k h : Nat} (hk : k ≤ h) (hh : h ≤ l.length) : nv l = nv (l.take k) + bp k * nv ((l.take h).drop k) + bp h * nv (l.drop h) := by
  have e1 : l = l.take k ++ (l.take h).drop k ++ l.drop h := by
    have a := List.take_append_drop h l
    have b := List.take_append_drop k (l.take h)
    rw [List.take_take, Nat.min_eq_left hk] at b
    rw [b, a]
  have e : (l.take k).length = k := by rw [List.length_take]; omega
  have e2 : ((l.take h).drop k).length = h - k := by rw [List.length_drop, List.length_take]; omega
  conv => lhs; rw [e1]
  rw [nv_append, nv_append, List.length_append, e, e2, show k + (h - k) = h by omega]
theorem Dig.win {l m : List Int} {k h : Int} (hl : Dig l) (hm : Dig m) : Dig (winS l k h m) := ((hl.take _).append hm).append (hl.drop _)
end Go.Proofs.YtnnbhehaplphiaaGreatDoor.M
