/-
  Plain lemmas on the loops of Pu.
-/
import Derived.Test.YtlclnbcjebpfkaaPu
namespace Go.Pu
open Go

theorem idx_nat {α : Type} (l : List α) (k : Nat) : idx l (k : Int) = l[k]? := by
  simp [idx]

theorem idx_of {α : Type} {l : List α} {i : Int} (h0 : 0 ≤ i) (h1 : i < l.length) : ∃ x, idx l i = some x ∧ l[i.toNat]? = some x := by
  have h : i.toNat < l.length := by omega
  exact ⟨l[i.toNat], by simp [idx, h0, h], by simp [h]⟩

theorem idx_mem {α : Type} {l : List α} {i : Int} {x : α} (h : idx l i = some x) : x ∈ l := by
  unfold idx at h
  split at h
  · exact List.mem_of_getElem? h
  · cases h

/-- the loop as a recursion on the list -/
def forL {α S R : Type} (body : Nat → α → S → Option (Ctl S R)) : List α → Nat → S → Option (Lp S R)
  | [], _, s => some (.fin s)
  | x :: l, k, s =>
    match body k x s with
    | none => none
    | some (.nx s') => forL body l (k + 1) s'
    | some (.bk s') => some (.fin s')
    | some (.rt r) => some (.rt r)

theorem rangeB_forL {α S R : Type} (l : List α) (body : Nat → α → S → Option (Ctl S R)) (b : Nat → S → Option (Ctl S R))
    (hb : ∀ k s x, l[k]? = some x → b k s = body k x s) (s : S) : rangeB b l.length 0 s = forL body l 0 s := by
  have key : ∀ (m : List α) (k : Nat) (s : S), (∀ j x, m[j]? = some x → l[k + j]? = some x) → rangeB b m.length k s = forL body m k s := by
    intro m
    induction m with
    | nil => intro k s _; rfl
    | cons x m ih =>
      intro k s h
      rw [List.length_cons, rangeB, forL, hb k s x (h 0 x rfl)]
      rcases hbx : body k x s with _ | (s' | s' | r) <;> simp only
      exact ih _ _ fun j y hj => by
        have := h (j + 1) y (by simpa using hj)
        rw [show k + 1 + j = k + (j + 1) by omega]
        exact this
  exact key l 0 s fun j x h => by rw [Nat.zero_add]; exact h

/-- a loop that only looks for a bad element -/
theorem forL_any {α R : Type} (p : α → Bool) (r : R) (l : List α) (k : Nat) :
    forL (fun _ x (_ : Unit) => if p x = true then some (.rt r) else some (.nx ())) l k () = some (if l.any p = true then .rt r else .fin ()) := by
  induction l generalizing k with
  | nil => rfl
  | cons x l ih =>
    rw [forL]
    cases hp : p x
    · simp [ih, hp]
    · simp [hp]

theorem rangeB_any {α R : Type} (l : List α) (p : α → Bool) (r : R) :
    rangeB (fun k (_ : Unit) => Option.bind (idx l (k : Int)) fun x => if p x = true then some (.rt r) else some (.nx ())) l.length 0 () = some (if l.any p = true then .rt r else .fin ()) := by
  rw [← forL_any p r l 0]
  refine rangeB_forL l _ _ ?_ _
  intro k s x hx
  simp [idx_nat, hx]
end Go.Pu
