import Derived.Test.YtfbiebageicnaaaGreatDoorLevelClocksLvlName
import Derived.Shelf.GgClosure.StringsIndexFunc
namespace Go.Proofs.YtfbiebageicnaaaGreatDoor.M
open Go Go.Pu
set_option linter.unusedSimpArgs false
set_option linter.unusedVariables false
def lowb (b : UInt8) : Bool := decide ((b.toNat : Int) < 32) || ((b.toNat : Int) == 127)
theorem get_byte (s : ByteArray) (k : Nat) (h : k < s.size) : s.data.toList[k]? = some (s.get! k) := by
 have h2 : k < s.data.size := h
 rw [List.getElem?_eq_getElem (by simpa using h2)]
 simp only [ByteArray.get!, Array.getElem_toList]
 rw [getElem!_pos s.data k h2]
theorem low_rune (b : UInt8) : portref2_lowByte_1 ((b.toNat : Nat) : Int) = lowb b := by
 simp [portref2_lowByte_1, lowb]
theorem decode_step (s : ByteArray) (i : Nat) (h : i < s.size) : 1 ≤ (Utf8.decode s i).2 ∧
  (portref2_lowByte_1 (((Utf8.decode s i).1 : Nat) : Int) = lowb (s.get! i)) ∧ ∀ k, 0 < k → k < (Utf8.decode s i).2 → i + k < s.size ∧ lowb (s.get! (i + k)) = false := by
 unfold Utf8.decode
 simp only [Nat.add_zero]
 have hb := (s.get! i).toNat_lt
 by_cases h0 : (s.get! i).toNat < 0x80
 ·rw [if_pos h0]
  exact ⟨Nat.le_refl _, low_rune _, fun k h1 h2 => by omega⟩
 rw [if_neg h0]
 have hi : lowb (s.get! i) = false := by simp [lowb]; omega
 have hc : ∀ k, (decide (i + k < s.size) && (s.get! (i + k)).toNat / 64 == 2) = true → i + k < s.size ∧ lowb (s.get! (i + k)) = false := by
  intro k hk
  rw [Bool.and_eq_true, decide_eq_true_eq, beq_iff_eq] at hk
  refine ⟨hk.1, ?_⟩
  simp [lowb]
  omega
 have hr : ∀ r : Nat, 128 ≤ r → portref2_lowByte_1 (r : Int) = lowb (s.get! i) := by
  intro r hr
  rw [hi]
  simp [portref2_lowByte_1]
  omega
 have he : 128 ≤ Utf8.runeError := by decide
 have one : ∀ k, 0 < k → k < 1 → i + k < s.size ∧ lowb (s.get! (i + k)) = false := fun k h1 h2 => by omega
 split
 ·rename_i h1
  rw [Bool.and_eq_true] at h1
  split
  ·rename_i h2
   refine ⟨by omega, hr _ (by omega), fun k k1 k2 => ?_⟩
   have k2' : k < 2 := k2
   obtain rfl : k = 1 := by omega
   exact hc 1 h1.2
  ·exact ⟨Nat.le_refl _, hr _ he, one⟩
 ·split
  ·rename_i h1
   rw [Bool.and_eq_true, Bool.and_eq_true] at h1
   split
   ·rename_i h2
    rw [Bool.and_eq_true, decide_eq_true_eq] at h2
    refine ⟨by omega, hr _ (by omega), fun k k1 k2 => ?_⟩
    simp at k2
    obtain rfl | rfl : k = 1 ∨ k = 2 := by omega
    ·exact hc 1 h1.1.2
    ·exact hc 2 h1.2
   ·exact ⟨Nat.le_refl _, hr _ he, one⟩
  ·split
   ·rename_i h1
    rw [Bool.and_eq_true, Bool.and_eq_true, Bool.and_eq_true] at h1
    split
    ·rename_i h2
     rw [Bool.and_eq_true, decide_eq_true_eq] at h2
     refine ⟨by omega, hr _ (by omega), fun k k1 k2 => ?_⟩
     simp at k2
     obtain rfl | rfl | rfl : k = 1 ∨ k = 2 ∨ k = 3 := by omega
     ·exact hc 1 h1.1.1.2
     ·exact hc 2 h1.1.2
     ·exact hc 3 h1.2
    ·exact ⟨Nat.le_refl _, hr _ he, one⟩
   ·exact ⟨Nat.le_refl _, hr _ he, one⟩
theorem idx_low (s : ByteArray) : ∀ (f i : Nat), s.size ≤ i + f → (0 ≤ Go.Lib.idxFuncFrom (fun y => portref2_lowByte_1 (y : Int)) true s f i ↔ ∃ j, i ≤ j ∧ j < s.size ∧ lowb (s.get! j) = true)
 | 0, i, h => by
  constructor
  ·intro h0
   exact absurd h0 (by show ¬ (0 : Int) ≤ -1; decide)
  ·rintro ⟨j, h1, h2, _⟩
   omega
 | f + 1, i, h => by
  unfold Go.Lib.idxFuncFrom
  by_cases hi : i < s.size
  ·rw [if_pos hi]
   obtain ⟨h1, h2, h3⟩ := decode_step s i hi
   by_cases hl : lowb (s.get! i) = true
   ·rw [if_pos (by rw [h2]; exact hl)]
    exact ⟨fun _ => ⟨i, Nat.le_refl _, hi, hl⟩, fun _ => by omega⟩
   ·rw [if_neg (by rw [h2]; exact hl), idx_low s f _ (by omega)]
    constructor
    ·rintro ⟨j, k1, k2, k3⟩
     exact ⟨j, by omega, k2, k3⟩
    ·rintro ⟨j, k1, k2, k3⟩
     refine ⟨j, ?_, k2, k3⟩
     rcases Nat.lt_or_ge j (i + (Utf8.decode s i).2) with k4 | k4
     ·exfalso
      rcases Nat.eq_or_lt_of_le k1 with rfl | k5
      ·exact hl k3
      ·have := (h3 (j - i) (by omega) (by omega)).2
       rw [show i + (j - i) = j by omega, k3] at this
       cases this
     ·exact k4
  ·rw [if_neg hi]
   constructor
   ·intro h0
    exact absurd h0 (by decide)
   ·rintro ⟨j, k1, k2, _⟩
    omega
theorem lowByte_val (s : ByteArray) : portref2_lowByte s = some (s.data.toList.any lowb) := by
 unfold portref2_lowByte
 congr 1
 rw [Bool.eq_iff_iff, decide_eq_true_eq, List.any_eq_true]
 unfold Go.Lib.idxFunc
 rw [idx_low s s.size 0 (by omega)]
 constructor
 ·rintro ⟨j, _, h2, h3⟩
  exact ⟨_, List.mem_of_getElem? (get_byte s j h2), h3⟩
 ·rintro ⟨b, hb, hl⟩
  obtain ⟨j, hj⟩ := List.getElem?_of_mem hb
  have hlt : j < s.size := (List.getElem?_eq_some_iff.1 hj).1
  rw [get_byte s j hlt] at hj
  cases hj
  exact ⟨j, Nat.zero_le _, hlt, hl⟩
end Go.Proofs.YtfbiebageicnaaaGreatDoor.M
