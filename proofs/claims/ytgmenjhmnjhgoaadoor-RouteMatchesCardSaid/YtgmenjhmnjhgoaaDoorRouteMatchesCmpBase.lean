/-
  Comparisons of ints, the first that is not zero: plain part.
-/
import Derived.Test.YtgmenjhmnjhgoaaDoorRouteMatchesM
import Derived.Test.YtgmenjhmnjhgoaaDoorPl
namespace Go.Proofs.YtgmenjhmnjhgoaaDoor.M
open Go Go.Pu
set_option linter.unusedSimpArgs false
set_option linter.unusedVariables false

def cmpI (x y : Int) : Int := if x < y then -1 else if y < x then 1 else 0
theorem compare_val (x y : Int) : cmp_Compare_int x y = cmpI x y := by
  unfold cmp_Compare_int cmp_isNaN_int cmpI
  simp
def firstNZ : List Int → Int
  | [] => 0
  | x :: l => if x ≠ 0 then x else firstNZ l
theorem or_val (l : List Int) : cmp_Or_int l = some (firstNZ l) := by
  unfold cmp_Or_int
  have key : ∀ (m : List Int) (k : Nat), forL (R := Int) (fun _ x (_ : Unit) => if (x != 0) = true then some (.rt x) else some (.nx ())) m k () = some (if firstNZ m = 0 then .fin () else .rt (firstNZ m)) := by
    intro m
    induction m with
    | nil => intro k; rfl
    | cons x m ih =>
      intro k
      rw [forL, firstNZ]
      by_cases h : x = 0
      · subst h
        have e : firstNZ m = (if (0 : Int) ≠ 0 then 0 else firstNZ m) := rfl
        rw [← e, if_neg (show ¬ (((0 : Int) != 0) = true) by decide)]
        exact ih (k + 1)
      · simp [h]
  rw [rangeB_forL l (fun _ x (_ : Unit) => if (x != 0) = true then some (.rt x) else some (.nx ())) _ (fun k _ x hx => by simp [idx_nat, hx]) (), key]
  by_cases h : firstNZ l = 0
  · simp [h, Lp.andThen]
  · simp [h, Lp.andThen]
end Go.Proofs.YtgmenjhmnjhgoaaDoor.M
