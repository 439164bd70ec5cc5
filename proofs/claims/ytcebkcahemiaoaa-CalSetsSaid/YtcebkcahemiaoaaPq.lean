/-
  Plain sorting by a comparison that leaves ties as pdqsort leaves them.
-/
import Derived.Test.YtcebkcahemiaoaaPr
import Derived.Sort.AssemblyPlain
import Derived.Lib.BitFns
namespace Go.Pu
open Go
/-- what slices.SortFunc makes of a list -/
def pdqL {α : Type} [Inhabited α] (cmp : α → α → Int) (l : List α) : List α := (Go.Sort.pdq (fun x y => decide (cmp x y < 0)) l.toArray 0 l.length (Go.Lib.bitLen l.length) true true).toList
open Classical in
noncomputable def sortFuncP {α : Type} [Inhabited α] (cmp : α → α → Int) (l : List α) : Option (List α) := if l.length < 4611686018427387904 ∧ Go.Sort.SWO (fun x y : α => decide (cmp x y < 0)) then some (pdqL cmp l) else none
/-- sorted, and the same elements -/
theorem pdqL_spec {α : Type} [Inhabited α] {cmp : α → α → Int} (h : Go.Sort.SWO (fun x y : α => decide (cmp x y < 0))) (l : List α) : (pdqL cmp l).Perm l ∧ (pdqL cmp l).Pairwise fun x y => ¬ cmp y x < 0 := by
  obtain ⟨hp, hs⟩ := Go.Sort.pdq_sorts _ h l.toArray 0 l.length (Go.Lib.bitLen l.length) true true (Nat.zero_le _) (by simp) (Or.inl rfl)
  have hsz : (Go.Sort.pdq (fun x y => decide (cmp x y < 0)) l.toArray 0 l.length (Go.Lib.bitLen l.length) true true).size = l.length := by have := hp.1; simpa using this
  unfold pdqL
  generalize Go.Sort.pdq (fun x y => decide (cmp x y < 0)) l.toArray 0 l.length (Go.Lib.bitLen l.length) true true = d' at hp hs hsz
  constructor
  · have h2 := hp.2.2
    have a1 : d'.extract 0 l.length = d' := by rw [← hsz]; exact Array.extract_size
    have hz : l.toArray.size = l.length := by simp
    have a2 : l.toArray.extract 0 l.length = l.toArray := by rw [← hz]; exact Array.extract_size
    rw [a1, a2] at h2
    simpa using h2
  · rw [List.pairwise_iff_getElem]
    intro a b ha hb hab
    have ha' : a < d'.size := by simpa using ha
    have hb' : b < d'.size := by simpa using hb
    have := hs a b (Nat.zero_le _) hab (by omega)
    rw [getElem!_pos d' a ha', getElem!_pos d' b hb'] at this
    simpa using this
end Go.Pu
