import Derived.Test.YtjdjmddclfhpeaaGreatDoorPu
namespace Go.Pu
open Go
set_option linter.unusedSimpArgs false
set_option linter.unusedVariables false
theorem idx_nat {α : Type} (l : List α) (k : Nat) : idx l (k : Int) = l[k]? := by
 simp [idx]
theorem idx_mem {α : Type} {l : List α} {i : Int} {x : α} (h : idx l i = some x) : x ∈ l := by
 unfold idx at h
 split at h
 ·exact List.mem_of_getElem? h
 ·cases h
def forL {α S R : Type} (body : Nat → α → S → Option (Ctl S R)) : List α → Nat → S → Option (Lp S R)
 | [], _, s => some (.fin s)
 | x :: l, k, s =>
  match body k x s with
  | none => none
  | some (.nx s') => forL body l (k + 1) s'
  | some (.bk s') => some (.fin s')
  | some (.rt r) => some (.rt r)
theorem rangeB_forL {α S R : Type} (l : List α) (body : Nat → α → S → Option (Ctl S R)) (b : Nat → S → Option (Ctl S R))
  (hb : ∀ k s x, l[k]? = some x → b k s = body k x s) (s : S) : rangeB b l.length 0 s = forL body l 0 s := by
 have key : ∀ (m : List α) (k : Nat) (s : S), (∀ j x, m[j]? = some x → l[k + j]? = some x) → rangeB b m.length k s = forL body m k s := by
  intro m
  induction m with
  | nil => intro k s _; rfl
  | cons x m ih =>
   intro k s h
   rw [List.length_cons, rangeB, forL, hb k s x (h 0 x rfl)]
   rcases hbx : body k x s with _ | (s' | s' | r) <;> simp only
   exact ih _ _ fun j y hj => by
    have := h (j + 1) y (by simpa using hj)
    rw [show k + 1 + j = k + (j + 1) by omega]
    exact this
 exact key l 0 s fun j x h => by rw [Nat.zero_add]; exact h
theorem forL_any {α R : Type} (p : α → Bool) (r : R) (l : List α) (k : Nat) :
  forL (fun _ x (_ : Unit) => if p x = true then some (.rt r) else some (.nx ())) l k () = some (if l.any p = true then .rt r else .fin ()) := by
 induction l generalizing k with
 | nil => rfl
 | cons x l ih =>
  rw [forL]
  cases hp : p x
  ·simp [ih, hp]
  ·simp [hp]
theorem rangeB_sim {S S' R : Type} {b : Nat → S → Option (Ctl S R)} {b' : Nat → S' → Option (Ctl S' R)} (n : Nat) (Q : R → Prop) (I : Nat → S → S' → Prop) {s : S} {s' : S'} (h0 : I 0 s s')
  (round : ∀ k s s', k < n → I k s s' → (∃ r, b k s = some (.rt r) ∧ b' k s' = some (.rt r) ∧ Q r) ∨ ∃ t t', b k s = some (.nx t) ∧ b' k s' = some (.nx t') ∧ I (k + 1) t t') :
  (∃ r, rangeB b n 0 s = some (.rt r) ∧ rangeB b' n 0 s' = some (.rt r) ∧ Q r) ∨ ∃ t t', rangeB b n 0 s = some (.fin t) ∧ rangeB b' n 0 s' = some (.fin t') ∧ I n t t' := by
 have key : ∀ m k s s', k + m = n → I k s s' → (∃ r, rangeB b m k s = some (.rt r) ∧ rangeB b' m k s' = some (.rt r) ∧ Q r) ∨ ∃ t t', rangeB b m k s = some (.fin t) ∧ rangeB b' m k s' = some (.fin t') ∧ I n t t' := by
  intro m
  induction m with
  | zero =>
   intro k s s' hk hI
   obtain rfl : k = n := by omega
   exact Or.inr ⟨s, s', rfl, rfl, hI⟩
  | succ m ih =>
   intro k s s' hk hI
   rcases round k s s' (by omega) hI with ⟨r, h1, h2, hq⟩ | ⟨t, t', h1, h2, hI'⟩
   ·exact Or.inl ⟨r, by rw [rangeB, h1], by rw [rangeB, h2], hq⟩
   ·rw [rangeB, rangeB, h1, h2]
    exact ih (k + 1) t t' (by omega) hI'
 exact key n 0 s s' (by omega) h0
theorem rangeB_inv {S R : Type} {b : Nat → S → Option (Ctl S R)} (n : Nat) (I : Nat → S → Prop) {s : S} (h0 : I 0 s)
  (round : ∀ k s, k < n → I k s → ∃ t, b k s = some (.nx t) ∧ I (k + 1) t) : ∃ t, rangeB b n 0 s = some (.fin t) ∧ I n t := by
 obtain ⟨r, h, t, rfl, hI⟩ := rangeB_spec (body := b) n I (fun r => ∃ t, r = .fin t ∧ I n t) h0
  (fun k s hk hI => by obtain ⟨t, h1, h2⟩ := round k s hk hI; exact ⟨_, h1, h2⟩) (fun s h => ⟨s, rfl, h⟩)
 exact ⟨t, h, hI⟩
theorem idx_lt {α : Type} (l : List α) (k : Nat) (h : k < l.length) : idx l (k : Int) = some l[k] := by
 rw [idx_nat, List.getElem?_eq_getElem h]
end Go.Pu
