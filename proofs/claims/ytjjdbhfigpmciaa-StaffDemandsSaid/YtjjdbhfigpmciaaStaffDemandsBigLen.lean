/-
  bits.Len32 and bits.LeadingZeros32.
-/
import Derived.Test.YtjjdbhfigpmciaaStaffDemandsBigUp
import Derived.KernelRfl
namespace Go.Proofs.Ytjjdbhfigpmciaa.M
open Go Go.Pu
set_option linter.unusedSimpArgs false
set_option linter.unusedVariables false

def lenTab : ByteArray := ⟨#[0, 1, 2, 2, 3, 3, 3, 3, 4, 4, 4, 4, 4, 4, 4, 4, 5, 5, 5, 5, 5, 5, 5, 5, 5, 5, 5, 5, 5, 5, 5, 5, 6, 6, 6, 6, 6, 6, 6, 6, 6, 6, 6, 6, 6, 6, 6, 6, 6, 6, 6, 6, 6, 6, 6, 6, 6, 6, 6, 6, 6, 6, 6, 6, 7, 7, 7, 7, 7, 7, 7, 7, 7, 7, 7, 7, 7, 7, 7, 7, 7, 7, 7, 7, 7, 7, 7, 7, 7, 7, 7, 7, 7, 7, 7, 7, 7, 7, 7, 7, 7, 7, 7, 7, 7, 7, 7, 7, 7, 7, 7, 7, 7, 7, 7, 7, 7, 7, 7, 7, 7, 7, 7, 7, 7, 7, 7, 7, 8, 8, 8, 8, 8, 8, 8, 8, 8, 8, 8, 8, 8, 8, 8, 8, 8, 8, 8, 8, 8, 8, 8, 8, 8, 8, 8, 8, 8, 8, 8, 8, 8, 8, 8, 8, 8, 8, 8, 8, 8, 8, 8, 8, 8, 8, 8, 8, 8, 8, 8, 8, 8, 8, 8, 8, 8, 8, 8, 8, 8, 8, 8, 8, 8, 8, 8, 8, 8, 8, 8, 8, 8, 8, 8, 8, 8, 8, 8, 8, 8, 8, 8, 8, 8, 8, 8, 8, 8, 8, 8, 8, 8, 8, 8, 8, 8, 8, 8, 8, 8, 8, 8, 8, 8, 8, 8, 8, 8, 8, 8, 8, 8, 8, 8, 8, 8, 8, 8, 8, 8, 8, 8, 8, 8, 8, 8, 8]⟩
def lenOK (i : Nat) : Bool := match idxS lenTab (i : Int) with
  | some t => decide (1 ≤ t.toNat) && decide (t.toNat ≤ 8) && decide (2 ^ (t.toNat - 1) ≤ i) && decide (i < 2 ^ t.toNat)
  | none => false
theorem lenTab_all : ((List.range 256).all fun i => i == 0 || lenOK i) = true := by kernel_rfl
theorem lenTab_at (i : Nat) (h0 : i ≠ 0) (h : i < 256) : ∃ t : UInt8, idxS lenTab (i : Int) = some t ∧ 1 ≤ t.toNat ∧ t.toNat ≤ 8 ∧ 2 ^ (t.toNat - 1) ≤ i ∧ i < 2 ^ t.toNat := by
  have := List.all_eq_true.1 lenTab_all i (List.mem_range.2 h)
  simp only [Bool.or_eq_true, beq_iff_eq] at this
  rcases this with h1 | h1
  · exact absurd h1 h0
  · unfold lenOK at h1
    split at h1
    · rename_i t ht
      simp only [Bool.and_eq_true, decide_eq_true_eq] at h1
      exact ⟨t, ht, h1.1.1.1, h1.1.1.2, h1.1.2, h1.2⟩
    · cases h1

theorem shrU32 {x : Int} {k : Nat} (h : 0 ≤ x) (hk : k < 32) : shr .u32 x (k : Int) = some (x / 2 ^ k) := by
  unfold shr
  rw [if_neg (by omega), Int.toNat_natCast]
  have e : min k (IntKind.bits .u32) = k := Nat.min_eq_left (by show k ≤ 32; omega)
  rw [e, Int.fdiv_eq_ediv_of_nonneg _ (Int.le_of_lt (Int.pow_pos (by decide)))]

theorem toU8_small {x : Int} (h0 : 0 ≤ x) (h1 : x < 256) : ((toU8 x).toNat : Int) = x := by
  rw [toU8_nat]
  simp only [IntKind.wrap, IntKind.bits, IntKind.signed]
  simp
  omega
theorem wrapI64_small (t : UInt8) : IntKind.wrap .i64 (t.toNat : Int) = (t.toNat : Int) := by
  have h := t.toNat_lt
  have : w64 (t.toNat : Int) = (t.toNat : Int) := w64_id (by omega) (by omega)
  exact this

theorem len_step {x y : Nat} {t k : Nat} (hy : y = x / 2 ^ k) (h1 : 2 ^ t ≤ y) (h2 : y < 2 ^ (t + 1)) : 2 ^ (t + k) ≤ x ∧ x < 2 ^ (t + 1 + k) := by
  subst hy
  have hp : 0 < 2 ^ k := Nat.pow_pos (by decide)
  constructor
  · rw [Nat.pow_add]
    exact (Nat.le_div_iff_mul_le hp).1 h1
  · rw [Nat.pow_add]
    exact (Nat.div_lt_iff_lt_mul hp).1 h2

set_option maxRecDepth 20000 in
theorem len32_spec (x : Int) (h0 : 0 < x) (h1 : x < 4294967296) : ∃ n : Nat, math_bits_Len32 x = some (n : Int) ∧ 1 ≤ n ∧ n ≤ 32 ∧ 2 ^ (n - 1) ≤ x.toNat ∧ x.toNat < 2 ^ n := by
  obtain ⟨m, rfl⟩ := Int.eq_ofNat_of_zero_le (Int.le_of_lt h0)
  have key : ∀ (y k : Nat), y = m / 2 ^ k → y ≠ 0 → y < 256 → k ≤ 24 → ∃ n : Nat, (Option.bind (idxS lenTab ((toU8 (y : Int)).toNat : Int)) fun x21 => some (w64 ((k : Int) + (IntKind.wrap .i64 (x21.toNat : Int))))) = some (n : Int) ∧ 1 ≤ n ∧ n ≤ 32 ∧ 2 ^ (n - 1) ≤ m ∧ m < 2 ^ n := by
    intro y k hy hy0 hy1 hk
    obtain ⟨t, ht, t1, t8, t2, t3⟩ := lenTab_at y hy0 hy1
    rw [toU8_small (by omega) (by omega), ht]
    simp only [Option.bind_some, wrapI64_small]
    refine ⟨t.toNat + k, ?_, by omega, by omega, ?_⟩
    · rw [w64_id (by omega) (by omega)]
      congr 1
      omega
    · obtain ⟨s, hs⟩ : ∃ s, t.toNat = s + 1 := ⟨t.toNat - 1, by omega⟩
      rw [hs] at t2 t3 ⊢
      rw [Nat.add_sub_cancel] at t2
      have := len_step hy t2 t3
      rw [show s + 1 + k - 1 = s + k by omega]
      exact ⟨by simpa using this.1, by simpa using this.2⟩
  unfold math_bits_Len32
  by_cases ha : 65536 ≤ m
  · have e1 : decide ((65536 : Int) ≤ (m : Int)) = true := by rw [decide_eq_true_eq]; omega
    have e2 : shr .u32 (m : Int) 16 = some (((m / 65536 : Nat)) : Int) := by
      have := shrU32 (x := (m : Int)) (k := 16) (by omega) (by decide)
      rw [show ((16 : Nat) : Int) = 16 from rfl] at this
      rw [this]
      congr 1
    simp only [e1, if_true, e2, Option.bind_some]
    by_cases hb : 256 ≤ m / 65536
    · have e3 : decide ((256 : Int) ≤ ((m / 65536 : Nat) : Int)) = true := by rw [decide_eq_true_eq]; omega
      have e4 : shr .u32 ((m / 65536 : Nat) : Int) 8 = some (((m / 65536 / 256 : Nat)) : Int) := by
        have := shrU32 (x := ((m / 65536 : Nat) : Int)) (k := 8) (by omega) (by decide)
        rw [show ((8 : Nat) : Int) = 8 from rfl] at this
        rw [this]
        congr 1
      have e5 : w64 (16 + 8) = ((24 : Nat) : Int) := by decide
      simp only [e3, if_true, e4, Option.bind_some, e5]
      exact key (m / 65536 / 256) 24 (by rw [Nat.div_div_eq_div_mul]) (by omega) (by omega) (by omega)
    · have e3 : decide ((256 : Int) ≤ ((m / 65536 : Nat) : Int)) = false := by rw [decide_eq_false_iff_not]; omega
      simp only [e3, Bool.false_eq_true, if_false, Option.bind_some]
      exact key (m / 65536) 16 rfl (by omega) (by omega) (by omega)
  · have e1 : decide ((65536 : Int) ≤ (m : Int)) = false := by rw [decide_eq_false_iff_not]; omega
    simp only [e1, Bool.false_eq_true, if_false, Option.bind_some]
    by_cases hb : 256 ≤ m
    · have e3 : decide ((256 : Int) ≤ (m : Int)) = true := by rw [decide_eq_true_eq]; omega
      have e4 : shr .u32 (m : Int) 8 = some (((m / 256 : Nat)) : Int) := by
        have := shrU32 (x := (m : Int)) (k := 8) (by omega) (by decide)
        rw [show ((8 : Nat) : Int) = 8 from rfl] at this
        rw [this]
        congr 1
      have e5 : w64 (0 + 8) = ((8 : Nat) : Int) := by decide
      simp only [e3, if_true, e4, Option.bind_some, e5]
      exact key (m / 256) 8 rfl (by omega) (by omega) (by omega)
    · have e3 : decide ((256 : Int) ≤ (m : Int)) = false := by rw [decide_eq_false_iff_not]; omega
      simp only [e3, Bool.false_eq_true, if_false, Option.bind_some]
      exact key m 0 (by simp) (by omega) (by omega) (by omega)
end Go.Proofs.Ytjjdbhfigpmciaa.M
