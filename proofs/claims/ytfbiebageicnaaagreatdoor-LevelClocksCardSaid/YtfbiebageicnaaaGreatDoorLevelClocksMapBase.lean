import Derived.Test.YtfbiebageicnaaaGreatDoorLevelClocksM
import Derived.Test.YtfbiebageicnaaaGreatDoorPj
namespace Go.Proofs.YtfbiebageicnaaaGreatDoor.M
open Go Go.Pu
set_option linter.unusedSimpArgs false
set_option linter.unusedVariables false
theorem mapGet_put_ {κ α : Type} [DecidableEq κ] (l : List (κ × α)) (k k' : κ) (v : α) : mapGet (mapPut l k v) k' = if k = k' then some v else mapGet l k' := by
 unfold mapPut
 by_cases h : ∃ p ∈ l, p.1 = k
 ·rw [if_pos h]
  induction l with
  | nil => obtain ⟨p, hp, _⟩ := h; simp at hp
  | cons p l ih =>
   rw [List.map_cons, mapGet, mapGet]
   by_cases hp : p.1 = k
   ·rw [if_pos hp]
    by_cases hk : k = k'
    ·rw [if_pos hk, if_pos hk]
    ·rw [if_neg hk, if_neg hk, if_neg (by rw [hp]; exact hk)]
     by_cases h2 : ∃ p ∈ l, p.1 = k
     ·rw [ih h2, if_neg hk]
     ·have : l.map (fun q => if q.1 = k then (k, v) else q) = l := by
       conv => rhs; rw [← List.map_id l]
       apply List.map_congr_left
       intro q hq
       rw [if_neg (fun e => h2 ⟨q, hq, e⟩)]
       rfl
      rw [this]
   ·rw [if_neg hp]
    have h2 : ∃ p ∈ l, p.1 = k := by
     obtain ⟨q, hq, e⟩ := h
     rcases List.mem_cons.1 hq with rfl | hq
     ·exact absurd e hp
     ·exact ⟨q, hq, e⟩
    by_cases hp' : p.1 = k'
    ·rw [if_pos hp', if_pos hp', if_neg (fun e => hp (hp'.trans e.symm))]
    ·rw [if_neg hp', if_neg hp', ih h2]
 ·rw [if_neg h]
  induction l with
  | nil => simp [mapGet]
  | cons p l ih =>
   have hp : p.1 ≠ k := fun e => h ⟨p, by simp, e⟩
   have h2 : ¬ ∃ p ∈ l, p.1 = k := fun ⟨q, hq, e⟩ => h ⟨q, by simp [hq], e⟩
   rw [List.cons_append, mapGet, mapGet, ih h2]
   by_cases hp' : p.1 = k'
   ·rw [if_pos hp', if_pos hp', if_neg (fun e => hp (hp'.trans e.symm))]
   ·rw [if_neg hp', if_neg hp']
end Go.Proofs.YtfbiebageicnaaaGreatDoor.M
