import Derived.Test.YtabkhhpkibbheaaClockRanksCalApart
namespace Go.Proofs.Ytabkhhpkibbheaa.M
open Go Go.Pu
set_option linter.unusedSimpArgs false
set_option linter.unusedVariables false
open Classical in
noncomputable def cntN (O : Int → Prop) (a : Int) : Nat → Int
 | 0 => 0
 | n + 1 => cntN O a n + (if O (a + n) then 1 else 0)
noncomputable def cnt (O : Int → Prop) (a b : Int) : Int := cntN O a (b - a).toNat
theorem cntN_add (O : Int → Prop) (a : Int) (n : Nat) : ∀ k, cntN O a (n + k) = cntN O a n + cntN O (a + n) k
 | 0 => by simp [cntN]
 | k + 1 => by
  rw [← Nat.add_assoc, cntN, cntN, cntN_add O a n k, show a + ((n + k : Nat) : Int) = a + (n : Int) + (k : Int) by omega]
  omega
theorem cntN_nonneg (O : Int → Prop) (a : Int) : ∀ n, 0 ≤ cntN O a n
 | 0 => Int.le_refl _
 | n + 1 => by
  have := cntN_nonneg O a n
  rw [cntN]
  split <;> omega
section
variable {O : Int → Prop} {a b m : Int}
theorem cnt_nonneg : 0 ≤ cnt O a b := cntN_nonneg _ _ _
theorem cnt_self : cnt O a a = 0 := by simp [cnt, cntN]
theorem cnt_split (h1 : a ≤ m) (h2 : m ≤ b) : cnt O a b = cnt O a m + cnt O m b := by
 unfold cnt
 have := cntN_add O a (m - a).toNat (b - m).toNat
 rw [show (m - a).toNat + (b - m).toNat = (b - a).toNat by omega, show a + ((m - a).toNat : Int) = m by omega] at this
 exact this
theorem cnt_mono (h1 : a ≤ m) (h2 : m ≤ b) : cnt O a m ≤ cnt O a b := by
 have := cnt_split (O := O) h1 h2
 have := cnt_nonneg (O := O) (a := m) (b := b)
 omega
theorem cnt_step_yes (h : a ≤ m) (ho : O m) : cnt O a (m + 1) = cnt O a m + 1 := by
 unfold cnt
 rw [show (m + 1 - a).toNat = (m - a).toNat + 1 by omega, cntN, show a + ((m - a).toNat : Int) = m by omega, if_pos ho]
theorem cnt_step_no (h : a ≤ m) (ho : ¬ O m) : cnt O a (m + 1) = cnt O a m := by
 unfold cnt
 rw [show (m + 1 - a).toNat = (m - a).toNat + 1 by omega, cntN, show a + ((m - a).toNat : Int) = m by omega, if_neg ho, Int.add_zero]
theorem cnt_none (h : ∀ u, a ≤ u → u < b → ¬ O u) : cnt O a b = 0 := by
 unfold cnt
 have key : ∀ n : Nat, (n : Int) ≤ b - a → cntN O a n = 0 := by
  intro n
  induction n with
  | zero => intro _; rfl
  | succ n ih =>
   intro hn
   rw [cntN, ih (by omega), if_neg (h _ (by omega) (by omega))]
   rfl
 by_cases hab : a ≤ b
 ·exact key _ (by omega)
 ·rw [show (b - a).toNat = 0 by omega]; rfl
theorem cnt_all (hab : a ≤ b) (h : ∀ u, a ≤ u → u < b → O u) : cnt O a b = b - a := by
 unfold cnt
 have key : ∀ n : Nat, (n : Int) ≤ b - a → cntN O a n = n := by
  intro n
  induction n with
  | zero => intro _; rfl
  | succ n ih =>
   intro hn
   rw [cntN, ih (by omega), if_pos (h _ (by omega) (by omega))]
   rfl
 rw [key _ (by omega)]
 omega
end
end Go.Proofs.Ytabkhhpkibbheaa.M
