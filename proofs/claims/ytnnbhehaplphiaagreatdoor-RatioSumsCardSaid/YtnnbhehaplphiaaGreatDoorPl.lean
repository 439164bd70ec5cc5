/-
  Plain lemmas on the loops of Pu.
-/
import Derived.Test.YtnnbhehaplphiaaGreatDoorPu
namespace Go.Pu
open Go
set_option linter.unusedSimpArgs false
set_option linter.unusedVariables false

theorem idx_nat {α : Type} (l : List α) (k : Nat) : idx l (k : Int) = l[k]? := by
  simp [idx]

/-- the loop as a recursion on the list -/
def forL {α S R : Type} (body : Nat → α → S → Option (Ctl S R)) : List α → Nat → S → Option (Lp S R)
  | [], _, s => some (.fin s)
  | x :: l, k, s =>
    match body k x s with
    | none => none
    | some (.nx s') => forL body l (k + 1) s'
    | some (.bk s') => some (.fin s')
    | some (.rt r) => some (.rt r)

/-- a loop that never leaves early: a fold with an invariant -/
theorem rangeB_inv {S R : Type} {b : Nat → S → Option (Ctl S R)} (n : Nat) (I : Nat → S → Prop) {s : S} (h0 : I 0 s)
    (round : ∀ k s, k < n → I k s → ∃ t, b k s = some (.nx t) ∧ I (k + 1) t) : ∃ t, rangeB b n 0 s = some (.fin t) ∧ I n t := by
  obtain ⟨r, h, t, rfl, hI⟩ := rangeB_spec (body := b) n I (fun r => ∃ t, r = .fin t ∧ I n t) h0
    (fun k s hk hI => by obtain ⟨t, h1, h2⟩ := round k s hk hI; exact ⟨_, h1, h2⟩) (fun s h => ⟨s, rfl, h⟩)
  exact ⟨t, h, hI⟩

/-- division as Go takes it, in a form that omega reads -/
theorem tdiv_spec (a b : Int) (hb : 0 < b) : b * a.tdiv b + a.tmod b = a ∧ (0 ≤ a → 0 ≤ a.tdiv b ∧ 0 ≤ a.tmod b ∧ a.tmod b < b ∧ a.tdiv b = a / b ∧ a.tmod b = a % b) ∧ (a ≤ 0 → a.tdiv b ≤ 0 ∧ a.tmod b ≤ 0 ∧ -b < a.tmod b) := by
  refine ⟨Int.mul_tdiv_add_tmod a b, fun h => ⟨Int.tdiv_nonneg h (by omega), Int.tmod_nonneg b h, Int.tmod_lt_of_pos a hb, Int.tdiv_eq_ediv_of_nonneg h, Int.tmod_eq_emod_of_nonneg h⟩, fun h => ?_⟩
  have h1 : 0 ≤ (-a).tdiv b := Int.tdiv_nonneg (by omega) (by omega)
  have h2 : 0 ≤ (-a).tmod b := Int.tmod_nonneg b (by omega)
  have h3 := Int.tmod_lt_of_pos (-a) hb
  rw [Int.neg_tdiv] at h1
  rw [Int.neg_tmod] at h2 h3
  omega

end Go.Pu
