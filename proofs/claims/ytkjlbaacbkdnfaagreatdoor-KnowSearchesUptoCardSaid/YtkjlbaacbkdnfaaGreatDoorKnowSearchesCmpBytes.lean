/-
  Texts in order: plain part.
-/
import Derived.Test.YtkjlbaacbkdnfaaGreatDoorKnowSearchesM
import Derived.Test.YtkjlbaacbkdnfaaGreatDoorPl
import Derived.Lib.Bytealg
namespace Go.Proofs.YtkjlbaacbkdnfaaGreatDoor.M
open Go Go.Pu
set_option linter.unusedSimpArgs false
set_option linter.unusedVariables false

theorem u8_lt {a b : UInt8} : a < b ↔ a.toNat < b.toNat := UInt8.lt_iff_toNat_lt
theorem cmpB_zero : ∀ a b : List UInt8, Go.Lib.compareBytes a b = 0 ↔ a = b
  | [], [] => by simp [Go.Lib.compareBytes]
  | [], _ :: _ => by simp [Go.Lib.compareBytes]
  | _ :: _, [] => by simp [Go.Lib.compareBytes]
  | a :: as, b :: bs => by
    rw [Go.Lib.compareBytes]
    by_cases h1 : a < b
    · rw [if_pos h1]
      constructor
      · intro h; cases h
      · intro h; cases h; rw [u8_lt] at h1; omega
    · rw [if_neg h1]
      by_cases h2 : b < a
      · rw [if_pos h2]
        constructor
        · intro h; cases h
        · intro h; cases h; rw [u8_lt] at h2; omega
      · rw [if_neg h2, cmpB_zero as bs]
        rw [u8_lt] at h1 h2
        have : a = b := UInt8.toNat_inj.1 (by omega)
        simp [this]
theorem cmpB_swap : ∀ a b : List UInt8, Go.Lib.compareBytes a b = -Go.Lib.compareBytes b a
  | [], [] => by simp [Go.Lib.compareBytes]
  | [], _ :: _ => by simp [Go.Lib.compareBytes]
  | _ :: _, [] => by simp [Go.Lib.compareBytes]
  | a :: as, b :: bs => by
    rw [Go.Lib.compareBytes, Go.Lib.compareBytes, cmpB_swap as bs]
    simp only [u8_lt]
    split <;> split <;> omega
theorem cmpB_trans : ∀ a b c : List UInt8, Go.Lib.compareBytes a b < 0 → Go.Lib.compareBytes b c < 0 → Go.Lib.compareBytes a c < 0
  | [], b, [], h1, h2 => by
    cases b with
    | nil => exact h1
    | cons b bs => simp [Go.Lib.compareBytes] at h2
  | [], _, _ :: _, _, _ => by simp [Go.Lib.compareBytes]
  | _ :: _, [], _, h1, _ => by simp [Go.Lib.compareBytes] at h1
  | _ :: _, _ :: _, [], _, h2 => by simp [Go.Lib.compareBytes] at h2
  | a :: as, b :: bs, c :: cs, h1, h2 => by
    rw [Go.Lib.compareBytes] at h1 h2 ⊢
    simp only [u8_lt] at h1 h2 ⊢
    by_cases h3 : a.toNat < b.toNat
    · by_cases h4 : b.toNat < c.toNat
      · rw [if_pos (by omega)]; decide
      · rw [if_neg h4] at h2
        by_cases h5 : c.toNat < b.toNat
        · rw [if_pos h5] at h2; omega
        · rw [if_pos (by omega)]; decide
    · rw [if_neg h3] at h1
      by_cases h4 : b.toNat < a.toNat
      · rw [if_pos h4] at h1; omega
      · rw [if_neg h4] at h1
        by_cases h5 : b.toNat < c.toNat
        · rw [if_pos (by omega)]; decide
        · rw [if_neg h5] at h2
          by_cases h6 : c.toNat < b.toNat
          · rw [if_pos h6] at h2; omega
          · rw [if_neg h6] at h2
            rw [if_neg (by omega), if_neg (by omega)]
            exact cmpB_trans as bs cs h1 h2
theorem less_cmp : ∀ a b : List UInt8, Op.bytesLess a b = decide (Go.Lib.compareBytes a b < 0)
  | [], [] => by simp [Go.Lib.compareBytes, Op.bytesLess]
  | [], _ :: _ => by simp [Go.Lib.compareBytes, Op.bytesLess]
  | _ :: _, [] => by simp [Go.Lib.compareBytes, Op.bytesLess]
  | a :: as, b :: bs => by
    rw [Go.Lib.compareBytes, Op.bytesLess, less_cmp as bs]
    simp only [u8_lt]
    by_cases h1 : a.toNat < b.toNat
    · simp [h1]
    · by_cases h2 : b.toNat < a.toNat
      · have : a ≠ b := fun h => by subst h; omega
        simp [h1, h2, this]
      · have : a = b := UInt8.toNat_inj.1 (by omega)
        simp [h1, h2, this]
/-- two texts compared -/
def cmpS (a b : ByteArray) : Int := Go.Lib.compareBytes a.data.toList b.data.toList
theorem cmpS_zero (a b : ByteArray) : cmpS a b = 0 ↔ a = b := by
  unfold cmpS
  rw [cmpB_zero]
  constructor
  · intro h
    apply ByteArray.ext
    rw [← Array.toList_inj]
    exact h
  · rintro rfl; rfl
theorem cmpS_swap (a b : ByteArray) : cmpS a b = -cmpS b a := cmpB_swap _ _
theorem cmpS_trans {a b c : ByteArray} (h1 : cmpS a b < 0) (h2 : cmpS b c < 0) : cmpS a c < 0 := cmpB_trans _ _ _ h1 h2
theorem cmpS_self (a : ByteArray) : cmpS a a = 0 := (cmpS_zero a a).2 rfl
theorem strLt_cmp (a b : ByteArray) : strLt a b = decide (cmpS a b < 0) := by
  unfold strLt cmpS
  rw [ByteArray.toList_eq, ByteArray.toList_eq, less_cmp]
theorem strEq_cmp (a b : ByteArray) : strEq a b = decide (a = b) := by
  unfold strEq
  rw [ByteArray.toList_eq, ByteArray.toList_eq, Bool.eq_iff_iff, beq_iff_eq, decide_eq_true_eq]
  constructor
  · intro h
    apply ByteArray.ext
    rw [← Array.toList_inj]
    exact h
  · rintro rfl; rfl
end Go.Proofs.YtkjlbaacbkdnfaaGreatDoor.M
