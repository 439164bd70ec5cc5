/-
  Numbers in parts of 32 bits (portref2.whole): times a power of 2.
-/
import Derived.Test.YtnnbhehaplphiaaGreatDoorRatioSumsBigBy
import Derived.KernelRfl
namespace Go.Proofs.YtnnbhehaplphiaaGreatDoor.M
open Go Go.Pu
set_option linter.unusedSimpArgs false
set_option linter.unusedVariables false

theorem ofInt32_toNat {x : Int} (h0 : 0 ≤ x) (h1 : x < 4294967296) : (BitVec.ofInt 32 x).toNat = x.toNat := by
  rw [BitVec.toNat_ofInt]
  have : x % ((2 ^ 32 : Nat) : Int) = x := Int.emod_eq_of_lt h0 (by simpa using h1)
  rw [this]
/-- bits below n beside bits from n on -/
theorem or32 {c l : Int} {n : Nat} (hc : 0 ≤ c ∧ c < 2 ^ n) (hl : 0 ≤ l ∧ l * 2 ^ n < 4294967296) (hc2 : c < 4294967296) : bitsI .or .u32 c (l * 2 ^ n) = c + l * 2 ^ n := by
  have hp : (0 : Int) < 2 ^ n := Int.pow_pos (by decide)
  have hl0 : 0 ≤ l * 2 ^ n := Int.mul_nonneg hl.1 (Int.le_of_lt hp)
  have e : bitsI .or .u32 c (l * 2 ^ n) = IntKind.u32.wrap ((BitVec.ofInt 32 c ||| BitVec.ofInt 32 (l * 2 ^ n)).toNat : Int) := rfl
  rw [e, BitVec.toNat_or, ofInt32_toNat hc.1 hc2, ofInt32_toNat hl0 hl.2]
  obtain ⟨a, rfl⟩ := Int.eq_ofNat_of_zero_le hc.1
  obtain ⟨b, rfl⟩ := Int.eq_ofNat_of_zero_le hl.1
  have h1 : ((b : Int) * 2 ^ n) = ((b <<< n : Nat) : Int) := by
    rw [Nat.shiftLeft_eq, Int.natCast_mul, Int.natCast_pow]
    rfl
  have h2 : a < 2 ^ n := by
    have : ((a : Int)) < ((2 ^ n : Nat) : Int) := by rw [Int.natCast_pow]; exact hc.2
    omega
  rw [h1] at hl hl0 ⊢
  rw [Int.toNat_natCast, Int.toNat_natCast, Nat.or_comm, ← Nat.shiftLeft_add_eq_or_of_lt h2]
  have h3 : ((b <<< n + a : Nat) : Int) = (a : Int) + ((b <<< n : Nat) : Int) := by rw [Int.natCast_add]; omega
  rw [h3]
  refine wrapU32_id (by omega) ?_
  -- the sum stays below 2^32: both are parts of one word
  have h4 : b <<< n ||| a < 2 ^ 32 := Nat.or_lt_two_pow (by omega) (by omega)
  rw [← Nat.shiftLeft_add_eq_or_of_lt h2] at h4
  omega

theorem up_spec (a : List UInt32) (n : Nat) (hn : n < 32) (la : a.length ≤ 100000) : ∃ r, portref2_whole_up a (n : Int) = some r ∧ wv r = 2 ^ n * wv a ∧ r.length = a.length + 1 := by
  unfold portref2_whole_up
  have hw : w64 ((a.length : Int) + 1) = ((a.length + 1 : Nat) : Int) := by rw [w64_id (by omega) (by omega)]; omega
  have hmk : makeL 70368744177664 (w64 ((a.length : Int) + 1)) (0 : UInt32) = some (List.replicate (a.length + 1) 0) := by
    rw [hw]
    unfold makeL
    rw [if_pos (by omega), Int.toNat_natCast]
  rw [hmk]
  simp only [Option.bind_some]
  have hp : (1 : Int) ≤ 2 ^ n := by have : (0 : Int) < 2 ^ n := Int.pow_pos (by decide); omega
  have hpq : (2 : Int) ^ n * 2 ^ (32 - n) = 4294967296 := by
    rw [← Int.pow_add, show n + (32 - n) = 32 by omega]
    rfl
  have hq : (1 : Int) ≤ 2 ^ (32 - n) := by have : (0 : Int) < 2 ^ (32 - n) := Int.pow_pos (by decide); omega
  have hp31 : (2 : Int) ^ n ≤ 2147483648 := by
    have h2 : (2 : Int) ≤ 2 ^ (32 - n) := by
      have : (2 : Int) ^ (32 - n) = 2 * 2 ^ (31 - n) := by rw [show 32 - n = (31 - n) + 1 by omega, Int.pow_succ, Int.mul_comm]
      have h3 : (0 : Int) < 2 ^ (31 - n) := Int.pow_pos (by decide)
      omega
    have := Int.mul_le_mul_of_nonneg_left h2 (show (0 : Int) ≤ 2 ^ n by omega)
    omega
  generalize hP : (2 : Int) ^ n = p at hp hpq hp31
  generalize (2 : Int) ^ (32 - n) = q at hpq hq
  obtain ⟨t, ht, h1, h2, c, h3, h4⟩ := rangeB_inv (R := List UInt32) (b := fun k12 s20 => Option.bind (idx a (k12 : Int)) fun x35 => Option.bind (shl .u64 (IntKind.wrap .u64 (x35.toNat : Int)) (n : Int)) fun x39 => Option.bind (idx s20 (k12 : Int)) fun x40 => Option.bind (setI s20 (k12 : Int) (toU32 (bitsI .or .u32 (x40.toNat : Int) ((toU32 x39).toNat : Int)))) fun x49 => Option.bind (shr .u64 x39 32) fun x53 => Option.bind (idx x49 (w64 ((k12 : Int) + 1))) fun x54 => Option.bind (setI x49 (w64 ((k12 : Int) + 1)) (toU32 x53)) fun x59 => some (.nx x59))
    a.length (fun k s => s.length = a.length + 1 ∧ wv s = p * wv (a.take k) ∧ ∃ c : UInt32, s[k]? = some c ∧ (c.toNat : Int) < p ∧ ∀ j, k < j → j < a.length + 1 → s[j]? = some 0) (s := List.replicate (a.length + 1) 0)
    ⟨by simp, by simp [wv_zeros, wv], 0, by simp, by show (0 : Int) < p; omega, fun j _ hj => by simp [hj]⟩
    (by
      rintro k s hk ⟨h1, h2, c, h3, h4, h5⟩
      have hak : a[k]? = some a[k] := List.getElem?_eq_getElem hk
      have hta := wv_take_succ hak
      have hw1 : w64 ((k : Int) + 1) = ((k + 1 : Nat) : Int) := by rw [w64_id (by omega) (by omega)]; omega
      generalize a[k] = x at hak hta
      have hx := u32_rng x
      have hc := u32_rng c
      have hm : 0 ≤ (x.toNat : Int) * p ∧ (x.toNat : Int) * p < 4294967296 * p := by
        refine ⟨Int.mul_nonneg hx.1 (by omega), ?_⟩
        exact Int.mul_lt_mul_of_pos_right hx.2 (by omega)
      have hshl : shl .u64 (x.toNat : Int) (n : Int) = some ((x.toNat : Int) * p) := by
        unfold shl
        rw [if_neg (by omega), Int.toNat_natCast]
        have e : min n (IntKind.bits .u64) = n := Nat.min_eq_left (by show n ≤ 64; omega)
        rw [e, hP]
        congr 1
        exact wrapU64_id hm.1 (by omega)
      generalize hM : (x.toNat : Int) * p = m at hm hshl
      -- the low part is a multiple of p
      have hlow : ∃ l, 0 ≤ l ∧ m % 4294967296 = l * p := by
        refine ⟨(x.toNat : Int) % q, Int.emod_nonneg _ (by omega), ?_⟩
        rw [← hM, ← hpq, Int.mul_comm (x.toNat : Int) p, Int.mul_emod_mul_of_pos _ _ (by omega), Int.mul_comm]
      obtain ⟨l, hl0, hl⟩ := hlow
      have hlr : 0 ≤ m % 4294967296 ∧ m % 4294967296 < 4294967296 := by omega
      have hor : bitsI .or .u32 (c.toNat : Int) ((toU32 m).toNat : Int) = (c.toNat : Int) + m % 4294967296 := by
        rw [toU32_mod, hl, ← hP]
        exact or32 (by rw [hP]; exact ⟨hc.1, h4⟩) ⟨hl0, by rw [hP, ← hl]; exact hlr.2⟩ hc.2
      have hsum : (c.toNat : Int) + m % 4294967296 < 4294967296 := by
        rw [hl, ← hpq]
        rw [hl, ← hpq] at hlr
        have h6 : l < q := by
          by_cases h : l < q
          · exact h
          · have := Int.mul_le_mul_of_nonneg_right (show q ≤ l by omega) (show (0 : Int) ≤ p by omega)
            rw [Int.mul_comm q p] at this
            omega
        have h7 := Int.mul_le_mul_of_nonneg_right (show l + 1 ≤ q by omega) (show (0 : Int) ≤ p by omega)
        rw [Int.add_mul, Int.mul_comm q p] at h7
        omega
      have hs1 := h5 (k + 1) (by omega) (by omega)
      have hs2 : ∀ y, (s.set k y)[k + 1]? = some 0 := fun y => by rw [List.getElem?_set_ne (by omega)]; exact hs1
      simp only [idx_nat, hak, Option.bind_some, w64u, hshl, h3, hor, setW_at _ (show k < s.length by omega), shr_u64 hm.1, hw1, hs2, setW_at _ (show k + 1 < (s.set k (toU32 ((c.toNat : Int) + m % 4294967296))).length by simp; omega)]
      refine ⟨_, rfl, by simpa using h1, ?_, toU32 (m / 4294967296), ?_, ?_, fun j hj hj2 => ?_⟩
      · rw [wv_set _ (k + 1) _ 0 (hs2 _), wv_set s k _ c h3, toU32_mod, toU32_mod, h2, hta]
        have e0 : ((0 : UInt32).toNat : Int) = 0 := rfl
        have e1 : ((c.toNat : Int) + m % 4294967296) % 4294967296 = (c.toNat : Int) + m % 4294967296 := by omega
        have e2 : m / 4294967296 % 4294967296 = m / 4294967296 := by omega
        rw [e0, e1, e2, Int.sub_zero, cp, Int.mul_add]
        have e3 : (c.toNat : Int) + m % 4294967296 - (c.toNat : Int) = m % 4294967296 := by omega
        have e4 : 4294967296 * cp k * (m / 4294967296) = cp k * (4294967296 * (m / 4294967296)) := by rw [Int.mul_comm 4294967296 (cp k), Int.mul_assoc]
        have e5 : p * (cp k * (x.toNat : Int)) = cp k * m := by rw [← hM, Int.mul_left_comm, Int.mul_comm p]
        have e6 : cp k * (m % 4294967296) + cp k * (4294967296 * (m / 4294967296)) = cp k * m := by
          rw [← Int.mul_add]
          congr 1
          omega
        rw [e3, e4, e5]
        omega
      · rw [List.getElem?_set_self (by simp; omega)]
      · rw [toU32_mod]
        omega
      · rw [List.getElem?_set_ne (by omega), List.getElem?_set_ne (by omega)]
        exact h5 j (by omega) hj2)
  rw [ht]
  refine ⟨t, rfl, ?_, h1⟩
  rw [h2, List.take_length]
end Go.Proofs.YtnnbhehaplphiaaGreatDoor.M
/-
  bits.Len32 and bits.LeadingZeros32.
-/
namespace Go.Proofs.YtnnbhehaplphiaaGreatDoor.M
open Go Go.Pu
set_option linter.unusedSimpArgs false
set_option linter.unusedVariables false

def lenTab : ByteArray := ⟨#[0, 1, 2, 2, 3, 3, 3, 3, 4, 4, 4, 4, 4, 4, 4, 4, 5, 5, 5, 5, 5, 5, 5, 5, 5, 5, 5, 5, 5, 5, 5, 5, 6, 6, 6, 6, 6, 6, 6, 6, 6, 6, 6, 6, 6, 6, 6, 6, 6, 6, 6, 6, 6, 6, 6, 6, 6, 6, 6, 6, 6, 6, 6, 6, 7, 7, 7, 7, 7, 7, 7, 7, 7, 7, 7, 7, 7, 7, 7, 7, 7, 7, 7, 7, 7, 7, 7, 7, 7, 7, 7, 7, 7, 7, 7, 7, 7, 7, 7, 7, 7, 7, 7, 7, 7, 7, 7, 7, 7, 7, 7, 7, 7, 7, 7, 7, 7, 7, 7, 7, 7, 7, 7, 7, 7, 7, 7, 7, 8, 8, 8, 8, 8, 8, 8, 8, 8, 8, 8, 8, 8, 8, 8, 8, 8, 8, 8, 8, 8, 8, 8, 8, 8, 8, 8, 8, 8, 8, 8, 8, 8, 8, 8, 8, 8, 8, 8, 8, 8, 8, 8, 8, 8, 8, 8, 8, 8, 8, 8, 8, 8, 8, 8, 8, 8, 8, 8, 8, 8, 8, 8, 8, 8, 8, 8, 8, 8, 8, 8, 8, 8, 8, 8, 8, 8, 8, 8, 8, 8, 8, 8, 8, 8, 8, 8, 8, 8, 8, 8, 8, 8, 8, 8, 8, 8, 8, 8, 8, 8, 8, 8, 8, 8, 8, 8, 8, 8, 8, 8, 8, 8, 8, 8, 8, 8, 8, 8, 8, 8, 8, 8, 8, 8, 8, 8, 8]⟩
def lenOK (i : Nat) : Bool := match idxS lenTab (i : Int) with
  | some t => decide (1 ≤ t.toNat) && decide (t.toNat ≤ 8) && decide (2 ^ (t.toNat - 1) ≤ i) && decide (i < 2 ^ t.toNat)
  | none => false
theorem lenTab_all : ((List.range 256).all fun i => i == 0 || lenOK i) = true := by kernel_rfl
theorem lenTab_at (i : Nat) (h0 : i ≠ 0) (h : i < 256) : ∃ t : UInt8, idxS lenTab (i : Int) = some t ∧ 1 ≤ t.toNat ∧ t.toNat ≤ 8 ∧ 2 ^ (t.toNat - 1) ≤ i ∧ i < 2 ^ t.toNat := by
  have := List.all_eq_true.1 lenTab_all i (List.mem_range.2 h)
  simp only [Bool.or_eq_true, beq_iff_eq] at this
  rcases this with h1 | h1
  · exact absurd h1 h0
  · unfold lenOK at h1
    split at h1
    · rename_i t ht
      simp only [Bool.and_eq_true, decide_eq_true_eq] at h1
      exact ⟨t, ht, h1.1.1.1, h1.1.1.2, h1.1.2, h1.2⟩
    · cases h1

theorem shrU32 {x : Int} {k : Nat} (h : 0 ≤ x) (hk : k < 32) : shr .u32 x (k : Int) = some (x / 2 ^ k) := by
  unfold shr
  rw [if_neg (by omega), Int.toNat_natCast]
  have e : min k (IntKind.bits .u32) = k := Nat.min_eq_left (by show k ≤ 32; omega)
  rw [e, Int.fdiv_eq_ediv_of_nonneg _ (Int.le_of_lt (Int.pow_pos (by decide)))]

theorem toU8_small {x : Int} (h0 : 0 ≤ x) (h1 : x < 256) : ((toU8 x).toNat : Int) = x := by
  rw [toU8_nat]
  simp only [IntKind.wrap, IntKind.bits, IntKind.signed]
  simp
  omega
theorem wrapI64_small (t : UInt8) : IntKind.wrap .i64 (t.toNat : Int) = (t.toNat : Int) := by
  have h := t.toNat_lt
  have : w64 (t.toNat : Int) = (t.toNat : Int) := w64_id (by omega) (by omega)
  exact this

theorem len_step {x y : Nat} {t k : Nat} (hy : y = x / 2 ^ k) (h1 : 2 ^ t ≤ y) (h2 : y < 2 ^ (t + 1)) : 2 ^ (t + k) ≤ x ∧ x < 2 ^ (t + 1 + k) := by
  subst hy
  have hp : 0 < 2 ^ k := Nat.pow_pos (by decide)
  constructor
  · rw [Nat.pow_add]
    exact (Nat.le_div_iff_mul_le hp).1 h1
  · rw [Nat.pow_add]
    exact (Nat.div_lt_iff_lt_mul hp).1 h2

set_option maxRecDepth 20000 in
theorem len32_spec (x : Int) (h0 : 0 < x) (h1 : x < 4294967296) : ∃ n : Nat, math_bits_Len32 x = some (n : Int) ∧ 1 ≤ n ∧ n ≤ 32 ∧ 2 ^ (n - 1) ≤ x.toNat ∧ x.toNat < 2 ^ n := by
  obtain ⟨m, rfl⟩ := Int.eq_ofNat_of_zero_le (Int.le_of_lt h0)
  have key : ∀ (y k : Nat), y = m / 2 ^ k → y ≠ 0 → y < 256 → k ≤ 24 → ∃ n : Nat, (Option.bind (idxS lenTab ((toU8 (y : Int)).toNat : Int)) fun x21 => some (w64 ((k : Int) + (IntKind.wrap .i64 (x21.toNat : Int))))) = some (n : Int) ∧ 1 ≤ n ∧ n ≤ 32 ∧ 2 ^ (n - 1) ≤ m ∧ m < 2 ^ n := by
    intro y k hy hy0 hy1 hk
    obtain ⟨t, ht, t1, t8, t2, t3⟩ := lenTab_at y hy0 hy1
    rw [toU8_small (by omega) (by omega), ht]
    simp only [Option.bind_some, wrapI64_small]
    refine ⟨t.toNat + k, ?_, by omega, by omega, ?_⟩
    · rw [w64_id (by omega) (by omega)]
      congr 1
      omega
    · obtain ⟨s, hs⟩ : ∃ s, t.toNat = s + 1 := ⟨t.toNat - 1, by omega⟩
      rw [hs] at t2 t3 ⊢
      rw [Nat.add_sub_cancel] at t2
      have := len_step hy t2 t3
      rw [show s + 1 + k - 1 = s + k by omega]
      exact ⟨by simpa using this.1, by simpa using this.2⟩
  unfold math_bits_Len32
  by_cases ha : 65536 ≤ m
  · have e1 : decide ((65536 : Int) ≤ (m : Int)) = true := by rw [decide_eq_true_eq]; omega
    have e2 : shr .u32 (m : Int) 16 = some (((m / 65536 : Nat)) : Int) := by
      have := shrU32 (x := (m : Int)) (k := 16) (by omega) (by decide)
      rw [show ((16 : Nat) : Int) = 16 from rfl] at this
      rw [this]
      congr 1
    simp only [e1, if_true, e2, Option.bind_some]
    by_cases hb : 256 ≤ m / 65536
    · have e3 : decide ((256 : Int) ≤ ((m / 65536 : Nat) : Int)) = true := by rw [decide_eq_true_eq]; omega
      have e4 : shr .u32 ((m / 65536 : Nat) : Int) 8 = some (((m / 65536 / 256 : Nat)) : Int) := by
        have := shrU32 (x := ((m / 65536 : Nat) : Int)) (k := 8) (by omega) (by decide)
        rw [show ((8 : Nat) : Int) = 8 from rfl] at this
        rw [this]
        congr 1
      have e5 : w64 (16 + 8) = ((24 : Nat) : Int) := by decide
      simp only [e3, if_true, e4, Option.bind_some, e5]
      exact key (m / 65536 / 256) 24 (by rw [Nat.div_div_eq_div_mul]) (by omega) (by omega) (by omega)
    · have e3 : decide ((256 : Int) ≤ ((m / 65536 : Nat) : Int)) = false := by rw [decide_eq_false_iff_not]; omega
      simp only [e3, Bool.false_eq_true, if_false, Option.bind_some]
      exact key (m / 65536) 16 rfl (by omega) (by omega) (by omega)
  · have e1 : decide ((65536 : Int) ≤ (m : Int)) = false := by rw [decide_eq_false_iff_not]; omega
    simp only [e1, Bool.false_eq_true, if_false, Option.bind_some]
    by_cases hb : 256 ≤ m
    · have e3 : decide ((256 : Int) ≤ (m : Int)) = true := by rw [decide_eq_true_eq]; omega
      have e4 : shr .u32 (m : Int) 8 = some (((m / 256 : Nat)) : Int) := by
        have := shrU32 (x := (m : Int)) (k := 8) (by omega) (by decide)
        rw [show ((8 : Nat) : Int) = 8 from rfl] at this
        rw [this]
        congr 1
      have e5 : w64 (0 + 8) = ((8 : Nat) : Int) := by decide
      simp only [e3, if_true, e4, Option.bind_some, e5]
      exact key (m / 256) 8 rfl (by omega) (by omega) (by omega)
    · have e3 : decide ((256 : Int) ≤ (m : Int)) = false := by rw [decide_eq_false_iff_not]; omega
      simp only [e3, Bool.false_eq_true, if_false, Option.bind_some]
      exact key m 0 (by simp) (by omega) (by omega) (by omega)
end Go.Proofs.YtnnbhehaplphiaaGreatDoor.M

/-
  Division of numbers in parts of 32 bits: a multiple of the divisor taken away in place; the divisor put back.
-/
namespace Go.Proofs.YtnnbhehaplphiaaGreatDoor.M
open Go Go.Pu
set_option linter.unusedSimpArgs false
set_option linter.unusedVariables false

theorem wrapI64_id {x : Int} (h0 : -9223372036854775808 ≤ x) (h1 : x ≤ 9223372036854775807) : IntKind.wrap .i64 x = x := w64_id h0 h1
theorem sar64 (t : Int) : shr .i64 t 32 = some (t / 4294967296) := by
  unfold shr
  rw [if_neg (by decide)]
  congr 1
  rw [Int.fdiv_eq_ediv_of_nonneg _ (by decide)]
  rfl

theorem mulsub_spec (v u0 : List UInt32) (n j : Nat) (g : Int) (hv : n ≤ v.length) (hu : j + n ≤ u0.length) (hg : 0 ≤ g ∧ g < 4294967296) (hl : u0.length ≤ 1000000) :
    ∃ t, whileB (R := List UInt32 × List UInt32) (fun (s237 : List UInt32 × Int × Int) => if (decide (s237.2.2 < (n : Int))) = true then Option.bind (idx v s237.2.2) fun x251 => Option.bind (idx s237.1 (w64 (s237.2.2 + (j : Int)))) fun x256 => Option.bind (setI s237.1 (w64 (s237.2.2 + (j : Int))) (toU32 (w64 ((w64 ((IntKind.wrap .i64 (x256.toNat : Int)) - s237.2.1)) - (IntKind.wrap .i64 (bitsI .and .u64 (IntKind.wrap .u64 (g * (IntKind.wrap .u64 (x251.toNat : Int)))) 4294967295)))))) fun x265 => Option.bind (shr .u64 (IntKind.wrap .u64 (g * (IntKind.wrap .u64 (x251.toNat : Int)))) 32) fun x269 => Option.bind (shr .i64 (w64 ((w64 ((IntKind.wrap .i64 (x256.toNat : Int)) - s237.2.1)) - (IntKind.wrap .i64 (bitsI .and .u64 (IntKind.wrap .u64 (g * (IntKind.wrap .u64 (x251.toNat : Int)))) 4294967295)))) 32) fun x270 => some (.nx (x265, w64 ((IntKind.wrap .i64 x269) - x270), w64 (s237.2.2 + 1))) else some (.bk (s237.1, s237.2.1, s237.2.2))) (u0, 0, 0) = some (.fin t) ∧
      t.1.length = u0.length ∧ (0 ≤ t.2.1 ∧ t.2.1 < 4294967296) ∧ wv t.1 - cp (j + n) * t.2.1 = wv u0 - g * (cp j * wv (v.take n)) ∧ (∀ i, i < j ∨ j + n ≤ i → t.1[i]? = u0[i]?) := by
  obtain ⟨r, hr, t, rfl, h1, h2, h3, h4⟩ := whileB_spec (R := List UInt32 × List UInt32) (body := fun (s237 : List UInt32 × Int × Int) => if (decide (s237.2.2 < (n : Int))) = true then Option.bind (idx v s237.2.2) fun x251 => Option.bind (idx s237.1 (w64 (s237.2.2 + (j : Int)))) fun x256 => Option.bind (setI s237.1 (w64 (s237.2.2 + (j : Int))) (toU32 (w64 ((w64 ((IntKind.wrap .i64 (x256.toNat : Int)) - s237.2.1)) - (IntKind.wrap .i64 (bitsI .and .u64 (IntKind.wrap .u64 (g * (IntKind.wrap .u64 (x251.toNat : Int)))) 4294967295)))))) fun x265 => Option.bind (shr .u64 (IntKind.wrap .u64 (g * (IntKind.wrap .u64 (x251.toNat : Int)))) 32) fun x269 => Option.bind (shr .i64 (w64 ((w64 ((IntKind.wrap .i64 (x256.toNat : Int)) - s237.2.1)) - (IntKind.wrap .i64 (bitsI .and .u64 (IntKind.wrap .u64 (g * (IntKind.wrap .u64 (x251.toNat : Int)))) 4294967295)))) 32) fun x270 => some (.nx (x265, w64 ((IntKind.wrap .i64 x269) - x270), w64 (s237.2.2 + 1))) else some (.bk (s237.1, s237.2.1, s237.2.2)))
    (fun s => ∃ k : Nat, s.2.2 = (k : Int) ∧ k ≤ n ∧ s.1.length = u0.length ∧ (0 ≤ s.2.1 ∧ s.2.1 < 4294967296) ∧ wv s.1 - cp (j + k) * s.2.1 = wv u0 - g * (cp j * wv (v.take k)) ∧ ∀ i, i < j ∨ j + k ≤ i → s.1[i]? = u0[i]?) (fun s => n - s.2.2.toNat)
    (fun r => ∃ t, r = .fin t ∧ t.1.length = u0.length ∧ (0 ≤ t.2.1 ∧ t.2.1 < 4294967296) ∧ wv t.1 - cp (j + n) * t.2.1 = wv u0 - g * (cp j * wv (v.take n)) ∧ (∀ i, i < j ∨ j + n ≤ i → t.1[i]? = u0[i]?)) (s := (u0, 0, 0))
    ⟨0, rfl, Nat.zero_le _, rfl, ⟨Int.le_refl _, by show (0 : Int) < 4294967296; decide⟩, by simp [wv], fun _ _ => rfl⟩
    (by
      rintro ⟨s, c, i⟩ ⟨k, hi, hk, h1, h2, h3, h4⟩
      dsimp only at hi h1 h2 h3 h4 ⊢
      subst hi
      by_cases hkn : k < n
      · have e1 : decide ((k : Int) < (n : Int)) = true := by rw [decide_eq_true_eq]; omega
        have hvk : v[k]? = some v[k] := List.getElem?_eq_getElem (by omega)
        have hsk : s[j + k]? = some s[j + k] := List.getElem?_eq_getElem (by omega)
        have hw : w64 ((k : Int) + (j : Int)) = ((j + k : Nat) : Int) := by rw [w64_id (by omega) (by omega)]; omega
        have hw2 : w64 ((k : Int) + 1) = ((k + 1 : Nat) : Int) := by rw [w64_id (by omega) (by omega)]; omega
        have htk := wv_take_succ hvk
        simp only [e1, if_true, idx_nat, hvk, hsk, hw, hw2, Option.bind_some, w64u]
        generalize v[k] = y at hvk htk
        generalize s[j + k] = d at hsk
        have hy := u32_rng y
        have hd := u32_rng d
        have hp : 0 ≤ g * (y.toNat : Int) ∧ g * (y.toNat : Int) ≤ 4294967295 * 4294967295 := ⟨Int.mul_nonneg hg.1 hy.1, Int.mul_le_mul (by omega) (by omega) hy.1 (by decide)⟩
        have w1 : IntKind.u64.wrap (g * (y.toNat : Int)) = g * (y.toNat : Int) := wrapU64_id (by omega) (by omega)
        rw [w1]
        generalize hP : g * (y.toNat : Int) = p at hp
        rw [and64 (show 0 ≤ p ∧ p < 18446744073709551616 by omega)]
        have w2 : IntKind.wrap .i64 (d.toNat : Int) = (d.toNat : Int) := wrapI64_id (by omega) (by omega)
        have w3 : IntKind.wrap .i64 (p % 4294967296) = p % 4294967296 := wrapI64_id (by omega) (by omega)
        have w4 : w64 ((d.toNat : Int) - c) = (d.toNat : Int) - c := w64_id (by omega) (by omega)
        have w5 : w64 ((d.toNat : Int) - c - p % 4294967296) = (d.toNat : Int) - c - p % 4294967296 := w64_id (by omega) (by omega)
        have w6 : IntKind.wrap .i64 (p / 4294967296) = p / 4294967296 := wrapI64_id (by omega) (by omega)
        simp only [w2, w3, w4, w5, shr_u64 hp.1, sar64, Option.bind_some, w6, setW_at _ (show j + k < s.length by omega)]
        have w7 : w64 (p / 4294967296 - ((d.toNat : Int) - c - p % 4294967296) / 4294967296) = p / 4294967296 - ((d.toNat : Int) - c - p % 4294967296) / 4294967296 := w64_id (by omega) (by omega)
        rw [w7]
        refine ⟨_, rfl, ⟨k + 1, rfl, by omega, by simpa using h1, ?_, ?_, fun i hi => ?_⟩, ?_⟩
        · show 0 ≤ p / 4294967296 - ((d.toNat : Int) - c - p % 4294967296) / 4294967296 ∧ p / 4294967296 - ((d.toNat : Int) - c - p % 4294967296) / 4294967296 < 4294967296
          omega
        · show wv (s.set (j + k) (toU32 ((d.toNat : Int) - c - p % 4294967296))) - cp (j + (k + 1)) * (p / 4294967296 - ((d.toNat : Int) - c - p % 4294967296) / 4294967296) = wv u0 - g * (cp j * wv (v.take (k + 1)))
          rw [wv_set s _ _ d hsk, toU32_mod, htk]
          generalize hT : (d.toNat : Int) - c - p % 4294967296 = T
          have e2 : cp (j + (k + 1)) = cp (j + k) * 4294967296 := by rw [← Nat.add_assoc, cp, Int.mul_comm]
          have e3 : g * (cp j * (wv (v.take k) + cp k * (y.toNat : Int))) = g * (cp j * wv (v.take k)) + cp (j + k) * p := by
            rw [Int.mul_add, Int.mul_add, ← hP, cp_add, ← Int.mul_assoc (cp j), Int.mul_left_comm g (cp j * cp k)]
          rw [e2, e3, Int.mul_assoc]
          have e4 : cp (j + k) * (T % 4294967296 - (d.toNat : Int)) - cp (j + k) * (4294967296 * (p / 4294967296 - T / 4294967296)) = - (cp (j + k) * c) - cp (j + k) * p := by
            rw [← Int.mul_sub, ← Int.mul_neg, ← Int.mul_sub]
            congr 1
            omega
          omega
        · show (s.set (j + k) _)[i]? = u0[i]?
          rw [List.getElem?_set_ne (by omega)]
          exact h4 i (by omega)
        · show n - ((k + 1 : Nat) : Int).toNat < n - (k : Int).toNat
          simp only [Int.toNat_natCast]
          omega
      · have e1 : decide ((k : Int) < (n : Int)) = false := by rw [decide_eq_false_iff_not]; omega
        simp only [e1, Bool.false_eq_true, if_false]
        obtain rfl : k = n := by omega
        exact ⟨_, rfl, _, rfl, h1, h2, h3, h4⟩)
  exact ⟨t, hr, h1, h2, h3, h4⟩

theorem addback_spec (v u0 : List UInt32) (n j : Nat) (hv : n ≤ v.length) (hu : j + n ≤ u0.length) (hl : u0.length ≤ 1000000) :
    ∃ t, whileB (R := Empty) (fun (s309 : List UInt32 × Int × Int) => if (decide (s309.2.2 < (n : Int))) = true then Option.bind (idx s309.1 (w64 (s309.2.2 + (j : Int)))) fun x323 => Option.bind (idx v s309.2.2) fun x328 => Option.bind (setI s309.1 (w64 (s309.2.2 + (j : Int))) (toU32 (IntKind.wrap .u64 (s309.2.1 + (IntKind.wrap .u64 ((IntKind.wrap .u64 (x323.toNat : Int)) + (IntKind.wrap .u64 (x328.toNat : Int)))))))) fun x340 => Option.bind (shr .u64 (IntKind.wrap .u64 (s309.2.1 + (IntKind.wrap .u64 ((IntKind.wrap .u64 (x323.toNat : Int)) + (IntKind.wrap .u64 (x328.toNat : Int)))))) 32) fun x344 => some (.nx (x340, x344, w64 (s309.2.2 + 1))) else some (.bk (s309.1, s309.2.1, s309.2.2))) (u0, 0, 0) = some (.fin t) ∧
      t.1.length = u0.length ∧ (0 ≤ t.2.1 ∧ t.2.1 ≤ 1) ∧ wv t.1 + cp (j + n) * t.2.1 = wv u0 + cp j * wv (v.take n) ∧ (∀ i, i < j ∨ j + n ≤ i → t.1[i]? = u0[i]?) := by
  obtain ⟨r, hr, t, rfl, h1, h2, h3, h4⟩ := whileB_spec (R := Empty) (body := fun (s309 : List UInt32 × Int × Int) => if (decide (s309.2.2 < (n : Int))) = true then Option.bind (idx s309.1 (w64 (s309.2.2 + (j : Int)))) fun x323 => Option.bind (idx v s309.2.2) fun x328 => Option.bind (setI s309.1 (w64 (s309.2.2 + (j : Int))) (toU32 (IntKind.wrap .u64 (s309.2.1 + (IntKind.wrap .u64 ((IntKind.wrap .u64 (x323.toNat : Int)) + (IntKind.wrap .u64 (x328.toNat : Int)))))))) fun x340 => Option.bind (shr .u64 (IntKind.wrap .u64 (s309.2.1 + (IntKind.wrap .u64 ((IntKind.wrap .u64 (x323.toNat : Int)) + (IntKind.wrap .u64 (x328.toNat : Int)))))) 32) fun x344 => some (.nx (x340, x344, w64 (s309.2.2 + 1))) else some (.bk (s309.1, s309.2.1, s309.2.2)))
    (fun s => ∃ k : Nat, s.2.2 = (k : Int) ∧ k ≤ n ∧ s.1.length = u0.length ∧ (0 ≤ s.2.1 ∧ s.2.1 ≤ 1) ∧ wv s.1 + cp (j + k) * s.2.1 = wv u0 + cp j * wv (v.take k) ∧ ∀ i, i < j ∨ j + k ≤ i → s.1[i]? = u0[i]?) (fun s => n - s.2.2.toNat)
    (fun r => ∃ t, r = .fin t ∧ t.1.length = u0.length ∧ (0 ≤ t.2.1 ∧ t.2.1 ≤ 1) ∧ wv t.1 + cp (j + n) * t.2.1 = wv u0 + cp j * wv (v.take n) ∧ (∀ i, i < j ∨ j + n ≤ i → t.1[i]? = u0[i]?)) (s := (u0, 0, 0))
    ⟨0, rfl, Nat.zero_le _, rfl, ⟨Int.le_refl _, by show (0 : Int) ≤ 1; decide⟩, by simp [wv], fun _ _ => rfl⟩
    (by
      rintro ⟨s, c, i⟩ ⟨k, hi, hk, h1, h2, h3, h4⟩
      dsimp only at hi h1 h2 h3 h4 ⊢
      subst hi
      by_cases hkn : k < n
      · have e1 : decide ((k : Int) < (n : Int)) = true := by rw [decide_eq_true_eq]; omega
        have hvk : v[k]? = some v[k] := List.getElem?_eq_getElem (by omega)
        have hsk : s[j + k]? = some s[j + k] := List.getElem?_eq_getElem (by omega)
        have hw : w64 ((k : Int) + (j : Int)) = ((j + k : Nat) : Int) := by rw [w64_id (by omega) (by omega)]; omega
        have hw2 : w64 ((k : Int) + 1) = ((k + 1 : Nat) : Int) := by rw [w64_id (by omega) (by omega)]; omega
        have htk := wv_take_succ hvk
        simp only [e1, if_true, idx_nat, hvk, hsk, hw, hw2, Option.bind_some, w64u]
        generalize v[k] = y at hvk htk
        generalize s[j + k] = d at hsk
        have hy := u32_rng y
        have hd := u32_rng d
        have w1 : IntKind.u64.wrap ((d.toNat : Int) + (y.toNat : Int)) = (d.toNat : Int) + (y.toNat : Int) := wrapU64_id (by omega) (by omega)
        have w2 : IntKind.u64.wrap (c + ((d.toNat : Int) + (y.toNat : Int))) = c + ((d.toNat : Int) + (y.toNat : Int)) := wrapU64_id (by omega) (by omega)
        have hm : 0 ≤ c + ((d.toNat : Int) + (y.toNat : Int)) := by omega
        simp only [w1, w2, shr_u64 hm, Option.bind_some, setW_at _ (show j + k < s.length by omega)]
        refine ⟨_, rfl, ⟨k + 1, rfl, by omega, by simpa using h1, ?_, ?_, fun i hi => ?_⟩, ?_⟩
        · show 0 ≤ (c + ((d.toNat : Int) + (y.toNat : Int))) / 4294967296 ∧ (c + ((d.toNat : Int) + (y.toNat : Int))) / 4294967296 ≤ 1
          omega
        · show wv (s.set (j + k) (toU32 (c + ((d.toNat : Int) + (y.toNat : Int))))) + cp (j + (k + 1)) * ((c + ((d.toNat : Int) + (y.toNat : Int))) / 4294967296) = _
          refine part_step hsk hm ?_
          have e2 : c + ((d.toNat : Int) + (y.toNat : Int)) - (d.toNat : Int) = c + (y.toNat : Int) := by omega
          rw [e2, htk, Int.mul_add, Int.mul_add, cp_add, Int.mul_assoc (cp j) (cp k) (y.toNat : Int), ← cp_add]
          omega
        · show (s.set (j + k) _)[i]? = u0[i]?
          rw [List.getElem?_set_ne (by omega)]
          exact h4 i (by omega)
        · show n - ((k + 1 : Nat) : Int).toNat < n - (k : Int).toNat
          simp only [Int.toNat_natCast]
          omega
      · have e1 : decide ((k : Int) < (n : Int)) = false := by rw [decide_eq_false_iff_not]; omega
        simp only [e1, Bool.false_eq_true, if_false]
        obtain rfl : k = n := by omega
        exact ⟨_, rfl, _, rfl, h1, h2, h3, h4⟩)
  exact ⟨t, hr, h1, h2, h3, h4⟩
end Go.Proofs.YtnnbhehaplphiaaGreatDoor.M

/-
  Division of numbers in parts of 32 bits: the guess of one part of the quotient.
-/
namespace Go.Proofs.YtnnbhehaplphiaaGreatDoor.M
open Go Go.Pu
set_option linter.unusedSimpArgs false
set_option linter.unusedVariables false

def GuessI (V1 V2 U0 : UInt32) (top : Int) (s : Int × Int) : Prop := 0 ≤ s.1 ∧ (0 ≤ s.2 ∧ s.2 < 4294967296) ∧ s.1 * (V1.toNat : Int) + s.2 = top ∧ ∀ q, 0 ≤ q → q < 4294967296 → q * ((V1.toNat : Int) * 4294967296 + (V2.toNat : Int)) ≤ top * 4294967296 + (U0.toNat : Int) → q ≤ s.1
def GuessQ (V1 V2 U0 : UInt32) (top : Int) (x : Lp (Int × Int) (List UInt32 × List UInt32)) : Prop := ∃ g r, x = .fin (g, r) ∧ (0 ≤ g ∧ g < 4294967296) ∧ g * (V1.toNat : Int) + r = top ∧ g * (V2.toNat : Int) ≤ r * 4294967296 + (U0.toNat : Int) ∧ ∀ q, 0 ≤ q → q < 4294967296 → q * ((V1.toNat : Int) * 4294967296 + (V2.toNat : Int)) ≤ top * 4294967296 + (U0.toNat : Int) → q ≤ g

theorem guess_spec (v u : List UInt32) (i2 i0 : Int) (V1 V2 U0 : UInt32) (top g0 r0 : Int) (hv2 : idx v i2 = some V2) (hu0 : idx u i0 = some U0)
    (hV1 : 2147483648 ≤ (V1.toNat : Int)) (ht : g0 * (V1.toNat : Int) + r0 = top) (hr0 : 0 ≤ r0 ∧ r0 < (V1.toNat : Int)) (hg0 : 0 ≤ g0) (htop : top < (V1.toNat : Int) * 4294967296 + 4294967296) :
    ∃ g r, whileB (R := List UInt32 × List UInt32) (fun (s189 : Int × Int) => Option.bind (if (decide ((4294967296 : Int) ≤ s189.1)) = true then (some true) else (Option.bind (idx v i2) fun x202 => Option.bind (shl .u64 s189.2 32) fun x207 => Option.bind (idx u i0) fun x208 => some (decide ((bitsI .or .u64 x207 (IntKind.wrap .u64 (x208.toNat : Int))) < (IntKind.wrap .u64 (s189.1 * (IntKind.wrap .u64 (x202.toNat : Int)))))))) fun s201 => if s201 = true then if (decide ((4294967296 : Int) ≤ (IntKind.wrap .u64 (s189.2 + (IntKind.wrap .u64 (V1.toNat : Int)))))) = true then some (.bk (IntKind.wrap .u64 (s189.1 - 1), IntKind.wrap .u64 (s189.2 + (IntKind.wrap .u64 (V1.toNat : Int))))) else some (.nx (IntKind.wrap .u64 (s189.1 - 1), IntKind.wrap .u64 (s189.2 + (IntKind.wrap .u64 (V1.toNat : Int))))) else some (.bk (s189.1, s189.2))) (g0, r0) = some (.fin (g, r)) ∧
      (0 ≤ g ∧ g < 4294967296) ∧ g * (V1.toNat : Int) + r = top ∧ g * (V2.toNat : Int) ≤ r * 4294967296 + (U0.toNat : Int) ∧
      ∀ q, 0 ≤ q → q < 4294967296 → q * ((V1.toNat : Int) * 4294967296 + (V2.toNat : Int)) ≤ top * 4294967296 + (U0.toNat : Int) → q ≤ g := by
  have h1r := u32_rng V1
  have h2r := u32_rng V2
  have h0r := u32_rng U0
  -- what a failed test says
  have down : ∀ g r : Int, g * (V1.toNat : Int) + r = top → r * 4294967296 + (U0.toNat : Int) < g * (V2.toNat : Int) → ∀ q, 0 ≤ q → q * ((V1.toNat : Int) * 4294967296 + (V2.toNat : Int)) ≤ top * 4294967296 + (U0.toNat : Int) → q ≤ g - 1 := by
    intro g r hgr hlt q hq0 hq
    by_cases h : q ≤ g - 1
    · exact h
    · have h3 := Int.mul_le_mul_of_nonneg_right (show g ≤ q by omega) (show 0 ≤ (V1.toNat : Int) * 4294967296 + (V2.toNat : Int) by omega)
      rw [Int.mul_add, ← Int.mul_assoc] at h3
      rw [← hgr, Int.add_mul] at hq
      omega
  obtain ⟨x, hx, g, r, rfl, h1, h2, h3, h4⟩ := whileB_spec (R := List UInt32 × List UInt32) (body := fun (s189 : Int × Int) => Option.bind (if (decide ((4294967296 : Int) ≤ s189.1)) = true then (some true) else (Option.bind (idx v i2) fun x202 => Option.bind (shl .u64 s189.2 32) fun x207 => Option.bind (idx u i0) fun x208 => some (decide ((bitsI .or .u64 x207 (IntKind.wrap .u64 (x208.toNat : Int))) < (IntKind.wrap .u64 (s189.1 * (IntKind.wrap .u64 (x202.toNat : Int)))))))) fun s201 => if s201 = true then if (decide ((4294967296 : Int) ≤ (IntKind.wrap .u64 (s189.2 + (IntKind.wrap .u64 (V1.toNat : Int)))))) = true then some (.bk (IntKind.wrap .u64 (s189.1 - 1), IntKind.wrap .u64 (s189.2 + (IntKind.wrap .u64 (V1.toNat : Int))))) else some (.nx (IntKind.wrap .u64 (s189.1 - 1), IntKind.wrap .u64 (s189.2 + (IntKind.wrap .u64 (V1.toNat : Int))))) else some (.bk (s189.1, s189.2)))
    (GuessI V1 V2 U0 top) (fun s => s.1.toNat) (GuessQ V1 V2 U0 top) (s := (g0, r0))
    ⟨hg0, ⟨hr0.1, by show r0 < 4294967296; omega⟩, ht, fun q hq0 hq1 hq => by
      show q ≤ g0
      by_cases h : q ≤ g0
      · exact h
      · have h3 := Int.mul_le_mul_of_nonneg_right (show g0 + 1 ≤ q by omega) (show 0 ≤ (V1.toNat : Int) * 4294967296 + (V2.toNat : Int) by omega)
        rw [Int.add_mul, Int.mul_add, ← Int.mul_assoc, Int.one_mul] at h3
        have h5 := Int.mul_nonneg hg0 h2r.1
        rw [← ht, Int.add_mul] at hq
        omega⟩
    (by
      rintro ⟨g, r⟩ ⟨hg, hr, hgr, hup⟩
      dsimp only at hg hr hgr hup ⊢
      -- the guess is not far above 2^32
      have hgb : g ≤ 4294967297 := by
        by_cases h : g ≤ 4294967297
        · exact h
        · have h3 := Int.mul_le_mul_of_nonneg_right (show 4294967298 ≤ g by omega) h1r.1
          omega
      have wr : IntKind.u64.wrap (r + (V1.toNat : Int)) = r + (V1.toNat : Int) := wrapU64_id (by omega) (by omega)
      have step : (∀ q, 0 ≤ q → q < 4294967296 → q * ((V1.toNat : Int) * 4294967296 + (V2.toNat : Int)) ≤ top * 4294967296 + (U0.toNat : Int) → q ≤ g - 1) → 1 ≤ g → (∃ s', (if (decide ((4294967296 : Int) ≤ (IntKind.wrap .u64 (r + (IntKind.wrap .u64 (V1.toNat : Int)))))) = true then some (Ctl.bk (R := List UInt32 × List UInt32) (IntKind.wrap .u64 (g - 1), IntKind.wrap .u64 (r + (IntKind.wrap .u64 (V1.toNat : Int))))) else some (.nx (IntKind.wrap .u64 (g - 1), IntKind.wrap .u64 (r + (IntKind.wrap .u64 (V1.toNat : Int)))))) = some (.nx s') ∧ (GuessI V1 V2 U0 top s' ∧ s'.1.toNat < g.toNat)) ∨ (∃ s', (if (decide ((4294967296 : Int) ≤ (IntKind.wrap .u64 (r + (IntKind.wrap .u64 (V1.toNat : Int)))))) = true then some (Ctl.bk (R := List UInt32 × List UInt32) (IntKind.wrap .u64 (g - 1), IntKind.wrap .u64 (r + (IntKind.wrap .u64 (V1.toNat : Int))))) else some (.nx (IntKind.wrap .u64 (g - 1), IntKind.wrap .u64 (r + (IntKind.wrap .u64 (V1.toNat : Int)))))) = some (.bk s') ∧ GuessQ V1 V2 U0 top (.fin s')) := by
        intro hup2 hg1
        have wg : IntKind.u64.wrap (g - 1) = g - 1 := wrapU64_id (by omega) (by omega)
        rw [w64u, wr, wg]
        have hgr2 : (g - 1) * (V1.toNat : Int) + (r + (V1.toNat : Int)) = top := by rw [Int.sub_mul, Int.one_mul]; omega
        by_cases hb : 4294967296 ≤ r + (V1.toNat : Int)
        · rw [if_pos (by simpa using hb)]
          have hgl : g - 1 < 4294967296 := by
            by_cases h : g - 1 < 4294967296
            · exact h
            · have h3 := Int.mul_le_mul_of_nonneg_right (show 4294967296 ≤ g - 1 by omega) h1r.1
              omega
          refine .inr ⟨_, rfl, g - 1, r + (V1.toNat : Int), rfl, ⟨by omega, hgl⟩, hgr2, ?_, hup2⟩
          have h3 := Int.mul_le_mul (show g - 1 ≤ 4294967295 by omega) (show (V2.toNat : Int) ≤ 4294967295 by omega) h2r.1 (by decide)
          omega
        · rw [if_neg (by simpa using hb)]
          exact .inl ⟨_, rfl, ⟨by show 0 ≤ g - 1; omega, ⟨by show 0 ≤ r + (V1.toNat : Int); omega, by show r + (V1.toNat : Int) < 4294967296; omega⟩, hgr2, hup2⟩, by show (g - 1).toNat < g.toNat; omega⟩
      by_cases hbig : 4294967296 ≤ g
      · have e : decide ((4294967296 : Int) ≤ g) = true := by rw [decide_eq_true_eq]; exact hbig
        simp only [e, if_true, Option.bind_some]
        rcases step (fun q _ hq1 _ => by omega) (by omega) with ⟨s', p1, p2⟩ | ⟨s', p1, p2⟩
        · exact ⟨_, p1, p2⟩
        · exact ⟨_, p1, p2⟩
      · have e : decide ((4294967296 : Int) ≤ g) = false := by rw [decide_eq_false_iff_not]; exact hbig
        have hgv : 0 ≤ g * (V2.toNat : Int) ∧ g * (V2.toNat : Int) ≤ 4294967295 * 4294967295 := ⟨Int.mul_nonneg hg h2r.1, Int.mul_le_mul (by omega) (by omega) h2r.1 (by decide)⟩
        have w1 : IntKind.u64.wrap (g * (V2.toNat : Int)) = g * (V2.toNat : Int) := wrapU64_id (by omega) (by omega)
        simp only [e, Bool.false_eq_true, if_false, hv2, hu0, shl64 hr, Option.bind_some, w64u V2, w64u U0, or64 hr h0r, w1]
        by_cases hlt : r * 4294967296 + (U0.toNat : Int) < g * (V2.toNat : Int)
        · rw [if_pos (by simpa using hlt)]
          have hg1 : 1 ≤ g := by
            by_cases h : 1 ≤ g
            · exact h
            · obtain rfl : g = 0 := by omega
              omega
          rcases step (fun q hq0 _ hq => down g r hgr hlt q hq0 hq) hg1 with ⟨s', p1, p2⟩ | ⟨s', p1, p2⟩
          · exact ⟨_, p1, p2⟩
          · exact ⟨_, p1, p2⟩
        · rw [if_neg (by simpa using hlt)]
          exact ⟨_, rfl, g, r, rfl, ⟨hg, by omega⟩, hgr, by omega, hup⟩)
  exact ⟨g, r, hx, h1, h2, h3, h4⟩
end Go.Proofs.YtnnbhehaplphiaaGreatDoor.M

/-
  Division of numbers in parts of 32 bits: the rest by a power of 2.
-/
namespace Go.Proofs.YtnnbhehaplphiaaGreatDoor.M
open Go Go.Pu
set_option linter.unusedSimpArgs false
set_option linter.unusedVariables false

theorem down_spec (u : List UInt32) (n s : Nat) (hs : s < 32) (hu : n < u.length) (hl : u.length ≤ 1000000) (c0 : UInt32) (hc0 : u[0]? = some c0) :
    ∃ t, whileB (R := List UInt32 × List UInt32) (fun (s392 : List UInt32 × Int) => if (decide (s392.2 < (n : Int))) = true then Option.bind (idx u s392.2) fun x406 => Option.bind (shr .u32 (x406.toNat : Int) (IntKind.wrap .u64 (s : Int))) fun x411 => Option.bind (idx u (w64 (s392.2 + 1))) fun x412 => Option.bind (shl .u64 (IntKind.wrap .u64 (x412.toNat : Int)) (IntKind.wrap .u64 (32 - (IntKind.wrap .u64 (s : Int))))) fun x417 => Option.bind (idx s392.1 s392.2) fun x418 => Option.bind (setI s392.1 s392.2 (toU32 (bitsI .or .u32 x411 ((toU32 x417).toNat : Int)))) fun x426 => some (.nx (x426, w64 (s392.2 + 1))) else some (.bk (s392.1, s392.2))) (List.replicate n 0, 0) = some (.fin t) ∧
      t.1.length = n ∧ ∃ c : UInt32, u[n]? = some c ∧ 2 ^ s * wv t.1 + (c0.toNat : Int) % 2 ^ s = wv (u.take n) + cp n * ((c.toNat : Int) % 2 ^ s) := by
  have hp : (0 : Int) < 2 ^ s := Int.pow_pos (by decide)
  have hq : (0 : Int) < 2 ^ (32 - s) := Int.pow_pos (by decide)
  have hpq : (2 : Int) ^ s * 2 ^ (32 - s) = 4294967296 := by
    rw [← Int.pow_add, show s + (32 - s) = 32 by omega]
    rfl
  have ws : IntKind.wrap .u64 (s : Int) = (s : Int) := wrapU64_id (by omega) (by omega)
  have ws2 : IntKind.wrap .u64 (32 - (s : Int)) = ((32 - s : Nat) : Int) := by rw [wrapU64_id (by omega) (by omega)]; omega
  have hqle : (2 : Int) ^ (32 - s) ≤ 4294967296 := by
    have := Int.mul_le_mul_of_nonneg_right (show (1 : Int) ≤ 2 ^ s by omega) (Int.le_of_lt hq)
    omega
  obtain ⟨x, hx, t, rfl, h1, h2⟩ := whileB_spec (R := List UInt32 × List UInt32) (body := fun (s392 : List UInt32 × Int) => if (decide (s392.2 < (n : Int))) = true then Option.bind (idx u s392.2) fun x406 => Option.bind (shr .u32 (x406.toNat : Int) (IntKind.wrap .u64 (s : Int))) fun x411 => Option.bind (idx u (w64 (s392.2 + 1))) fun x412 => Option.bind (shl .u64 (IntKind.wrap .u64 (x412.toNat : Int)) (IntKind.wrap .u64 (32 - (IntKind.wrap .u64 (s : Int))))) fun x417 => Option.bind (idx s392.1 s392.2) fun x418 => Option.bind (setI s392.1 s392.2 (toU32 (bitsI .or .u32 x411 ((toU32 x417).toNat : Int)))) fun x426 => some (.nx (x426, w64 (s392.2 + 1))) else some (.bk (s392.1, s392.2)))
    (fun z => ∃ k : Nat, z.2 = (k : Int) ∧ k ≤ n ∧ z.1.length = n ∧ (∀ j, k ≤ j → j < n → z.1[j]? = some 0) ∧ ∃ c : UInt32, u[k]? = some c ∧ 2 ^ s * wv z.1 + (c0.toNat : Int) % 2 ^ s = wv (u.take k) + cp k * ((c.toNat : Int) % 2 ^ s)) (fun z => n - z.2.toNat)
    (fun x => ∃ t, x = .fin t ∧ t.1.length = n ∧ ∃ c : UInt32, u[n]? = some c ∧ 2 ^ s * wv t.1 + (c0.toNat : Int) % 2 ^ s = wv (u.take n) + cp n * ((c.toNat : Int) % 2 ^ s)) (s := (List.replicate n 0, 0))
    ⟨0, rfl, Nat.zero_le _, by simp, fun j _ hj => by simp [hj], c0, hc0, by simp [wv_zeros, wv, cp]⟩
    (by
      rintro ⟨z, i⟩ ⟨k, hi, hk, h1, h2, c, hc, h3⟩
      dsimp only at hi h1 h2 h3 ⊢
      subst hi
      by_cases hkn : k < n
      · have e1 : decide ((k : Int) < (n : Int)) = true := by rw [decide_eq_true_eq]; omega
        have hw : w64 ((k : Int) + 1) = ((k + 1 : Nat) : Int) := by rw [w64_id (by omega) (by omega)]; omega
        have hd : u[k + 1]? = some u[k + 1] := List.getElem?_eq_getElem (by omega)
        have hz := h2 k (Nat.le_refl _) hkn
        have htk := wv_take_succ hc
        generalize u[k + 1] = d at hd
        have hcr := u32_rng c
        have hdr := u32_rng d
        have hshr : shr .u32 (c.toNat : Int) (s : Int) = some ((c.toNat : Int) / 2 ^ s) := shrU32 hcr.1 hs
        have hdq : 0 ≤ (d.toNat : Int) * 2 ^ (32 - s) ∧ (d.toNat : Int) * 2 ^ (32 - s) ≤ 4294967295 * 4294967296 := ⟨Int.mul_nonneg hdr.1 (Int.le_of_lt hq), Int.mul_le_mul (by omega) hqle (Int.le_of_lt hq) (by decide)⟩
        have hshl : shl .u64 (d.toNat : Int) ((32 - s : Nat) : Int) = some ((d.toNat : Int) * 2 ^ (32 - s)) := by
          unfold shl
          rw [if_neg (by omega), Int.toNat_natCast]
          have e : min (32 - s) (IntKind.bits .u64) = 32 - s := Nat.min_eq_left (by show 32 - s ≤ 64; omega)
          rw [e]
          congr 1
          exact wrapU64_id hdq.1 (by omega)
        have hmod : ((d.toNat : Int) * 2 ^ (32 - s)) % 4294967296 = (d.toNat : Int) % 2 ^ s * 2 ^ (32 - s) := by
          rw [← hpq, Int.mul_comm (d.toNat : Int), Int.mul_comm (2 ^ s) (2 ^ (32 - s)), Int.mul_emod_mul_of_pos _ _ hq, Int.mul_comm]
        have hdiv : 0 ≤ (c.toNat : Int) / 2 ^ s ∧ (c.toNat : Int) / 2 ^ s < 2 ^ (32 - s) := by
          refine ⟨Int.ediv_nonneg hcr.1 (Int.le_of_lt hp), ?_⟩
          rw [Int.ediv_lt_iff_lt_mul hp, Int.mul_comm, hpq]
          exact hcr.2
        have hdm : 0 ≤ (d.toNat : Int) % 2 ^ s ∧ (d.toNat : Int) % 2 ^ s < 2 ^ s := ⟨Int.emod_nonneg _ (by omega), Int.emod_lt_of_pos _ hp⟩
        have hlt : (d.toNat : Int) % 2 ^ s * 2 ^ (32 - s) < 4294967296 := by
          rw [← hmod]
          omega
        have hor : bitsI .or .u32 ((c.toNat : Int) / 2 ^ s) ((toU32 ((d.toNat : Int) * 2 ^ (32 - s))).toNat : Int) = (c.toNat : Int) / 2 ^ s + (d.toNat : Int) % 2 ^ s * 2 ^ (32 - s) := by
          rw [toU32_mod, hmod]
          exact or32 hdiv ⟨hdm.1, hlt⟩ (by omega)
        have hsum : (c.toNat : Int) / 2 ^ s + (d.toNat : Int) % 2 ^ s * 2 ^ (32 - s) < 4294967296 := by
          have := Int.mul_le_mul_of_nonneg_right (show (d.toNat : Int) % 2 ^ s + 1 ≤ 2 ^ s by omega) (Int.le_of_lt hq)
          rw [Int.add_mul, hpq] at this
          omega
        have hnn : 0 ≤ (d.toNat : Int) % 2 ^ s * 2 ^ (32 - s) := Int.mul_nonneg hdm.1 (Int.le_of_lt hq)
        simp only [e1, if_true, idx_nat, hc, hd, hz, hw, ws, ws2, hshr, hshl, hor, w64u, Option.bind_some, setW_at _ (show k < z.length by omega)]
        refine ⟨_, rfl, ⟨k + 1, rfl, by omega, by simpa using h1, fun j hj hj2 => ?_, d, hd, ?_⟩, ?_⟩
        · show (z.set k _)[j]? = some 0
          rw [List.getElem?_set_ne (by omega)]
          exact h2 j (by omega) hj2
        · show 2 ^ s * wv (z.set k (toU32 ((c.toNat : Int) / 2 ^ s + (d.toNat : Int) % 2 ^ s * 2 ^ (32 - s)))) + (c0.toNat : Int) % 2 ^ s = _
          rw [wv_set z k _ 0 hz, toU32_mod, Int.emod_eq_of_lt (by omega) hsum, htk]
          have e0 : ((0 : UInt32).toNat : Int) = 0 := rfl
          rw [e0, Int.sub_zero, Int.mul_add]
          have e2 : 2 ^ s * (cp k * ((c.toNat : Int) / 2 ^ s + (d.toNat : Int) % 2 ^ s * 2 ^ (32 - s))) = cp k * ((c.toNat : Int) - (c.toNat : Int) % 2 ^ s) + cp (k + 1) * ((d.toNat : Int) % 2 ^ s) := by
            have e3 : 2 ^ s * ((c.toNat : Int) / 2 ^ s) = (c.toNat : Int) - (c.toNat : Int) % 2 ^ s := by have := Int.emod_add_mul_ediv (c.toNat : Int) (2 ^ s); omega
            have e4 : 2 ^ s * ((d.toNat : Int) % 2 ^ s * 2 ^ (32 - s)) = 4294967296 * ((d.toNat : Int) % 2 ^ s) := by rw [Int.mul_left_comm, hpq, Int.mul_comm]
            rw [Int.mul_left_comm, Int.mul_add, e3, e4, Int.mul_add, cp, Int.mul_comm 4294967296 (cp k), Int.mul_assoc]
          rw [e2, Int.mul_sub]
          omega
        · show n - ((k + 1 : Nat) : Int).toNat < n - (k : Int).toNat
          simp only [Int.toNat_natCast]
          omega
      · have e1 : decide ((k : Int) < (n : Int)) = false := by rw [decide_eq_false_iff_not]; omega
        simp only [e1, Bool.false_eq_true, if_false]
        obtain rfl : k = n := by omega
        exact ⟨_, rfl, _, rfl, h1, c, hc, h3⟩)
  exact ⟨t, hx, h1, h2⟩
end Go.Proofs.YtnnbhehaplphiaaGreatDoor.M

/-
  The guess is the part of the quotient, or one more: plain arithmetic.
-/
namespace Go.Proofs.YtnnbhehaplphiaaGreatDoor.M
open Go Go.Pu
set_option linter.unusedSimpArgs false
set_option linter.unusedVariables false

/-- D: the two top parts of the divisor, w the rest of it; N: the three top parts of the dividend, u the rest of it; C: the power of what lies below -/
theorem knuth_bound (D N C w u g : Int) (hC : 0 < C) (hw : 0 ≤ w ∧ w < C) (hu : 0 ≤ u ∧ u < C) (hD : 9223372036854775808 ≤ D) (hg : 0 ≤ g ∧ g < 4294967296) (hgD : g * D ≤ N)
    (hmax : ∀ q, 0 ≤ q → q < 4294967296 → q * D ≤ N → q ≤ g) :
    (∀ q, 0 ≤ q → q < 4294967296 → q * (D * C + w) ≤ N * C + u → q ≤ g) ∧ (g - 1) * (D * C + w) ≤ N * C + u := by
  constructor
  · intro q hq0 hq1 hq
    refine hmax q hq0 hq1 ?_
    by_cases h : q * D ≤ N
    · exact h
    · have h1 := Int.mul_le_mul_of_nonneg_right (show N + 1 ≤ q * D by omega) (Int.le_of_lt hC)
      have h2 := Int.mul_nonneg hq0 hw.1
      rw [Int.mul_add, ← Int.mul_assoc] at hq
      rw [Int.add_mul, Int.one_mul] at h1
      omega
  · have h1 := Int.mul_le_mul_of_nonneg_right hgD (Int.le_of_lt hC)
    have h2 : g * w ≤ 4294967296 * C := Int.mul_le_mul (by omega) (Int.le_of_lt hw.2) hw.1 (by decide)
    have h3 := Int.mul_le_mul_of_nonneg_right hD (Int.le_of_lt hC)
    rw [Int.sub_mul, Int.one_mul, Int.mul_add, ← Int.mul_assoc]
    omega
end Go.Proofs.YtnnbhehaplphiaaGreatDoor.M
