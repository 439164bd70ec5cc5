/-
  Numbers in parts of 32 bits (portref2.whole): times a power of 2.
-/
import Derived.Test.YtjjdbhfigpmciaaStaffDemandsBigBy
namespace Go.Proofs.Ytjjdbhfigpmciaa.M
open Go Go.Pu
set_option linter.unusedSimpArgs false
set_option linter.unusedVariables false

theorem ofInt32_toNat {x : Int} (h0 : 0 ≤ x) (h1 : x < 4294967296) : (BitVec.ofInt 32 x).toNat = x.toNat := by
  rw [BitVec.toNat_ofInt]
  have : x % ((2 ^ 32 : Nat) : Int) = x := Int.emod_eq_of_lt h0 (by simpa using h1)
  rw [this]
/-- bits below n beside bits from n on -/
theorem or32 {c l : Int} {n : Nat} (hc : 0 ≤ c ∧ c < 2 ^ n) (hl : 0 ≤ l ∧ l * 2 ^ n < 4294967296) (hc2 : c < 4294967296) : bitsI .or .u32 c (l * 2 ^ n) = c + l * 2 ^ n := by
  have hp : (0 : Int) < 2 ^ n := Int.pow_pos (by decide)
  have hl0 : 0 ≤ l * 2 ^ n := Int.mul_nonneg hl.1 (Int.le_of_lt hp)
  have e : bitsI .or .u32 c (l * 2 ^ n) = IntKind.u32.wrap ((BitVec.ofInt 32 c ||| BitVec.ofInt 32 (l * 2 ^ n)).toNat : Int) := rfl
  rw [e, BitVec.toNat_or, ofInt32_toNat hc.1 hc2, ofInt32_toNat hl0 hl.2]
  obtain ⟨a, rfl⟩ := Int.eq_ofNat_of_zero_le hc.1
  obtain ⟨b, rfl⟩ := Int.eq_ofNat_of_zero_le hl.1
  have h1 : ((b : Int) * 2 ^ n) = ((b <<< n : Nat) : Int) := by
    rw [Nat.shiftLeft_eq, Int.natCast_mul, Int.natCast_pow]
    rfl
  have h2 : a < 2 ^ n := by
    have : ((a : Int)) < ((2 ^ n : Nat) : Int) := by rw [Int.natCast_pow]; exact hc.2
    omega
  rw [h1] at hl hl0 ⊢
  rw [Int.toNat_natCast, Int.toNat_natCast, Nat.or_comm, ← Nat.shiftLeft_add_eq_or_of_lt h2]
  have h3 : ((b <<< n + a : Nat) : Int) = (a : Int) + ((b <<< n : Nat) : Int) := by rw [Int.natCast_add]; omega
  rw [h3]
  refine wrapU32_id (by omega) ?_
  -- the sum stays below 2^32: both are parts of one word
  have h4 : b <<< n ||| a < 2 ^ 32 := Nat.or_lt_two_pow (by omega) (by omega)
  rw [← Nat.shiftLeft_add_eq_or_of_lt h2] at h4
  omega

theorem up_spec (a : List UInt32) (n : Nat) (hn : n < 32) (la : a.length ≤ 100000) : ∃ r, portref2_whole_up a (n : Int) = some r ∧ wv r = 2 ^ n * wv a ∧ r.length = a.length + 1 := by
  unfold portref2_whole_up
  have hw : w64 ((a.length : Int) + 1) = ((a.length + 1 : Nat) : Int) := by rw [w64_id (by omega) (by omega)]; omega
  have hmk : makeL 70368744177664 (w64 ((a.length : Int) + 1)) (0 : UInt32) = some (List.replicate (a.length + 1) 0) := by
    rw [hw]
    unfold makeL
    rw [if_pos (by omega), Int.toNat_natCast]
  rw [hmk]
  simp only [Option.bind_some]
  have hp : (1 : Int) ≤ 2 ^ n := by have : (0 : Int) < 2 ^ n := Int.pow_pos (by decide); omega
  have hpq : (2 : Int) ^ n * 2 ^ (32 - n) = 4294967296 := by
    rw [← Int.pow_add, show n + (32 - n) = 32 by omega]
    rfl
  have hq : (1 : Int) ≤ 2 ^ (32 - n) := by have : (0 : Int) < 2 ^ (32 - n) := Int.pow_pos (by decide); omega
  have hp31 : (2 : Int) ^ n ≤ 2147483648 := by
    have h2 : (2 : Int) ≤ 2 ^ (32 - n) := by
      have : (2 : Int) ^ (32 - n) = 2 * 2 ^ (31 - n) := by rw [show 32 - n = (31 - n) + 1 by omega, Int.pow_succ, Int.mul_comm]
      have h3 : (0 : Int) < 2 ^ (31 - n) := Int.pow_pos (by decide)
      omega
    have := Int.mul_le_mul_of_nonneg_left h2 (show (0 : Int) ≤ 2 ^ n by omega)
    omega
  generalize hP : (2 : Int) ^ n = p at hp hpq hp31
  generalize (2 : Int) ^ (32 - n) = q at hpq hq
  obtain ⟨t, ht, h1, h2, c, h3, h4⟩ := rangeB_inv (R := List UInt32) (b := fun k12 s20 => Option.bind (idx a (k12 : Int)) fun x35 => Option.bind (shl .u64 (IntKind.wrap .u64 (x35.toNat : Int)) (n : Int)) fun x39 => Option.bind (idx s20 (k12 : Int)) fun x40 => Option.bind (setI s20 (k12 : Int) (toU32 (bitsI .or .u32 (x40.toNat : Int) ((toU32 x39).toNat : Int)))) fun x49 => Option.bind (shr .u64 x39 32) fun x53 => Option.bind (idx x49 (w64 ((k12 : Int) + 1))) fun x54 => Option.bind (setI x49 (w64 ((k12 : Int) + 1)) (toU32 x53)) fun x59 => some (.nx x59))
    a.length (fun k s => s.length = a.length + 1 ∧ wv s = p * wv (a.take k) ∧ ∃ c : UInt32, s[k]? = some c ∧ (c.toNat : Int) < p ∧ ∀ j, k < j → j < a.length + 1 → s[j]? = some 0) (s := List.replicate (a.length + 1) 0)
    ⟨by simp, by simp [wv_zeros, wv], 0, by simp, by show (0 : Int) < p; omega, fun j _ hj => by simp [hj]⟩
    (by
      rintro k s hk ⟨h1, h2, c, h3, h4, h5⟩
      have hak : a[k]? = some a[k] := List.getElem?_eq_getElem hk
      have hta := wv_take_succ hak
      have hw1 : w64 ((k : Int) + 1) = ((k + 1 : Nat) : Int) := by rw [w64_id (by omega) (by omega)]; omega
      generalize a[k] = x at hak hta
      have hx := u32_rng x
      have hc := u32_rng c
      have hm : 0 ≤ (x.toNat : Int) * p ∧ (x.toNat : Int) * p < 4294967296 * p := by
        refine ⟨Int.mul_nonneg hx.1 (by omega), ?_⟩
        exact Int.mul_lt_mul_of_pos_right hx.2 (by omega)
      have hshl : shl .u64 (x.toNat : Int) (n : Int) = some ((x.toNat : Int) * p) := by
        unfold shl
        rw [if_neg (by omega), Int.toNat_natCast]
        have e : min n (IntKind.bits .u64) = n := Nat.min_eq_left (by show n ≤ 64; omega)
        rw [e, hP]
        congr 1
        exact wrapU64_id hm.1 (by omega)
      generalize hM : (x.toNat : Int) * p = m at hm hshl
      -- the low part is a multiple of p
      have hlow : ∃ l, 0 ≤ l ∧ m % 4294967296 = l * p := by
        refine ⟨(x.toNat : Int) % q, Int.emod_nonneg _ (by omega), ?_⟩
        rw [← hM, ← hpq, Int.mul_comm (x.toNat : Int) p, Int.mul_emod_mul_of_pos _ _ (by omega), Int.mul_comm]
      obtain ⟨l, hl0, hl⟩ := hlow
      have hlr : 0 ≤ m % 4294967296 ∧ m % 4294967296 < 4294967296 := by omega
      have hor : bitsI .or .u32 (c.toNat : Int) ((toU32 m).toNat : Int) = (c.toNat : Int) + m % 4294967296 := by
        rw [toU32_mod, hl, ← hP]
        exact or32 (by rw [hP]; exact ⟨hc.1, h4⟩) ⟨hl0, by rw [hP, ← hl]; exact hlr.2⟩ hc.2
      have hsum : (c.toNat : Int) + m % 4294967296 < 4294967296 := by
        rw [hl, ← hpq]
        rw [hl, ← hpq] at hlr
        have h6 : l < q := by
          by_cases h : l < q
          · exact h
          · have := Int.mul_le_mul_of_nonneg_right (show q ≤ l by omega) (show (0 : Int) ≤ p by omega)
            rw [Int.mul_comm q p] at this
            omega
        have h7 := Int.mul_le_mul_of_nonneg_right (show l + 1 ≤ q by omega) (show (0 : Int) ≤ p by omega)
        rw [Int.add_mul, Int.mul_comm q p] at h7
        omega
      have hs1 := h5 (k + 1) (by omega) (by omega)
      have hs2 : ∀ y, (s.set k y)[k + 1]? = some 0 := fun y => by rw [List.getElem?_set_ne (by omega)]; exact hs1
      simp only [idx_nat, hak, Option.bind_some, w64u, hshl, h3, hor, setW_at _ (show k < s.length by omega), shr_u64 hm.1, hw1, hs2, setW_at _ (show k + 1 < (s.set k (toU32 ((c.toNat : Int) + m % 4294967296))).length by simp; omega)]
      refine ⟨_, rfl, by simpa using h1, ?_, toU32 (m / 4294967296), ?_, ?_, fun j hj hj2 => ?_⟩
      · rw [wv_set _ (k + 1) _ 0 (hs2 _), wv_set s k _ c h3, toU32_mod, toU32_mod, h2, hta]
        have e0 : ((0 : UInt32).toNat : Int) = 0 := rfl
        have e1 : ((c.toNat : Int) + m % 4294967296) % 4294967296 = (c.toNat : Int) + m % 4294967296 := by omega
        have e2 : m / 4294967296 % 4294967296 = m / 4294967296 := by omega
        rw [e0, e1, e2, Int.sub_zero, cp, Int.mul_add]
        have e3 : (c.toNat : Int) + m % 4294967296 - (c.toNat : Int) = m % 4294967296 := by omega
        have e4 : 4294967296 * cp k * (m / 4294967296) = cp k * (4294967296 * (m / 4294967296)) := by rw [Int.mul_comm 4294967296 (cp k), Int.mul_assoc]
        have e5 : p * (cp k * (x.toNat : Int)) = cp k * m := by rw [← hM, Int.mul_left_comm, Int.mul_comm p]
        have e6 : cp k * (m % 4294967296) + cp k * (4294967296 * (m / 4294967296)) = cp k * m := by
          rw [← Int.mul_add]
          congr 1
          omega
        rw [e3, e4, e5]
        omega
      · rw [List.getElem?_set_self (by simp; omega)]
      · rw [toU32_mod]
        omega
      · rw [List.getElem?_set_ne (by omega), List.getElem?_set_ne (by omega)]
        exact h5 j (by omega) hj2)
  rw [ht]
  refine ⟨t, rfl, ?_, h1⟩
  rw [h2, List.take_length]
end Go.Proofs.Ytjjdbhfigpmciaa.M
