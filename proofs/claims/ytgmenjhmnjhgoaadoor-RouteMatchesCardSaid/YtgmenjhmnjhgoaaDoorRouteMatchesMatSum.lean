/-
  Counting: sums over numbers below a bound; who has what; a set of persons that is full leaves no room.
-/
import Derived.Test.YtgmenjhmnjhgoaaDoorRouteMatchesM
import Derived.Test.YtgmenjhmnjhgoaaDoorPl
namespace Go.Proofs.YtgmenjhmnjhgoaaDoor.M
open Go Go.Pu
set_option linter.unusedSimpArgs false
set_option linter.unusedVariables false

def sumN : Nat → (Nat → Nat) → Nat
  | 0, _ => 0
  | n + 1, f => sumN n f + f n
theorem sumN_congr {n : Nat} {f g : Nat → Nat} (h : ∀ i, i < n → f i = g i) : sumN n f = sumN n g := by
  induction n with
  | zero => rfl
  | succ n ih => rw [sumN, sumN, ih fun i hi => h i (by omega), h n (by omega)]
theorem sumN_le {n : Nat} {f g : Nat → Nat} (h : ∀ i, i < n → f i ≤ g i) : sumN n f ≤ sumN n g := by
  induction n with
  | zero => exact Nat.le_refl _
  | succ n ih => rw [sumN, sumN]; exact Nat.add_le_add (ih fun i hi => h i (by omega)) (h n (by omega))
theorem sumN_lt {n : Nat} {f g : Nat → Nat} (h : ∀ i, i < n → f i ≤ g i) {j : Nat} (hj : j < n) (hl : f j < g j) : sumN n f < sumN n g := by
  induction n with
  | zero => omega
  | succ n ih =>
    rw [sumN, sumN]
    by_cases e : j = n
    · subst e
      have := sumN_le (n := j) fun i hi => h i (by omega)
      omega
    · have := ih (fun i hi => h i (by omega)) (by omega)
      have := h n (by omega)
      omega
theorem sumN_add {n : Nat} {f g : Nat → Nat} : sumN n (fun i => f i + g i) = sumN n f + sumN n g := by
  induction n with
  | zero => rfl
  | succ n ih => rw [sumN, sumN, sumN, ih]; omega
theorem sumN_zero {n : Nat} : sumN n (fun _ => 0) = 0 := by
  induction n with
  | zero => rfl
  | succ n ih => rw [sumN, ih]
theorem sumN_swap {n m : Nat} {f : Nat → Nat → Nat} : sumN n (fun i => sumN m (f i)) = sumN m fun k => sumN n fun i => f i k := by
  induction n with
  | zero => exact sumN_zero.symm
  | succ n ih => rw [sumN, ih, ← sumN_add]; rfl
/-- one place alone -/
theorem sumN_one {n j : Nat} {c : Nat} (hj : j < n) {f : Nat → Nat} (hf : ∀ i, i < n → i ≠ j → f i = 0) (hc : f j = c) : sumN n f = c := by
  induction n with
  | zero => omega
  | succ n ih =>
    rw [sumN]
    by_cases e : j = n
    · subst e
      have : sumN j f = 0 := by
        rw [sumN_congr (g := fun _ => 0) fun i hi => hf i (by omega) (by omega)]
        exact sumN_zero
      omega
    · have := ih (by omega) fun i hi => hf i (by omega)
      have := hf n (by omega) (fun h => e h.symm)
      omega

/-- how many works a person has -/
def cnt (m : Nat) (a : Nat → Int) (p : Nat) : Nat := sumN m fun k => if a k = (p : Int) then 1 else 0
theorem cnt_le (m : Nat) (a : Nat → Int) (p : Nat) : cnt m a p ≤ m := by
  have : sumN m (fun k => if a k = (p : Int) then 1 else 0) ≤ sumN m fun _ => 1 := sumN_le fun i _ => by split <;> omega
  have h1 : ∀ m, sumN m (fun _ => 1) = m := by
    intro m
    induction m with
    | zero => rfl
    | succ m ih => rw [sumN, ih]
  rw [h1] at this
  exact this
theorem cnt_congr {m : Nat} {a b : Nat → Int} {p : Nat} (h : ∀ k, k < m → (a k = (p : Int) ↔ b k = (p : Int))) : cnt m a p = cnt m b p := sumN_congr fun k hk => by
  by_cases e : a k = (p : Int)
  · rw [if_pos e, if_pos ((h k hk).1 e)]
  · rw [if_neg e, if_neg fun e' => e ((h k hk).2 e')]
theorem cnt_set {m : Nat} (a : Nat → Int) (p k : Nat) (x : Int) (hk : k < m) : cnt m (fun j => if j = k then x else a j) p + (if a k = (p : Int) then 1 else 0) = cnt m a p + (if x = (p : Int) then 1 else 0) := by
  have e1 : (if a k = (p : Int) then 1 else 0) = sumN m fun j => if j = k then (if a k = (p : Int) then 1 else 0) else 0 := (sumN_one hk (fun i _ hi => if_neg hi) (if_pos rfl)).symm
  have e2 : (if x = (p : Int) then 1 else 0) = sumN m fun j => if j = k then (if x = (p : Int) then 1 else 0) else 0 := (sumN_one hk (fun i _ hi => if_neg hi) (if_pos rfl)).symm
  rw [e1, e2]
  unfold cnt
  rw [← sumN_add, ← sumN_add]
  refine sumN_congr fun j hj => ?_
  by_cases h : j = k
  · subst h
    simp only [if_true]
    omega
  · simp only [if_neg h]

/-- does somebody of the set have it? -/
def ind (n : Nat) (S : Nat → Prop) [DecidablePred S] (x : Int) : Nat := sumN n fun p => if x = (p : Int) ∧ S p then 1 else 0
theorem ind_one {n : Nat} {S : Nat → Prop} [DecidablePred S] {x : Int} {p : Nat} (hp : p < n) (hx : x = (p : Int)) (hs : S p) : ind n S x = 1 := sumN_one hp (fun i _ hi => if_neg (by omega)) (if_pos ⟨hx, hs⟩)
theorem ind_zero {n : Nat} {S : Nat → Prop} [DecidablePred S] {x : Int} (h : ¬ ∃ p, p < n ∧ x = (p : Int) ∧ S p) : ind n S x = 0 := by
  unfold ind
  rw [sumN_congr (g := fun _ => 0) fun i hi => if_neg fun h' => h ⟨i, hi, h'.1, h'.2⟩]
  exact sumN_zero
theorem ind_sum {n m : Nat} {S : Nat → Prop} [DecidablePred S] (a : Nat → Int) : sumN m (fun k => ind n S (a k)) = sumN n fun p => if S p then cnt m a p else 0 := by
  unfold ind
  rw [← sumN_swap (n := n) (m := m) (f := fun p k => if a k = (p : Int) ∧ S p then 1 else 0)]
  refine sumN_congr fun p hp => ?_
  by_cases h : S p
  · rw [if_pos h]
    exact sumN_congr fun k hk => by simp [h]
  · rw [if_neg h]
    rw [sumN_congr (g := fun _ => 0) fun k hk => if_neg fun h' => h h'.2]
    exact sumN_zero

open Classical in
/-- a set of persons who have as much as they can, whose works must stay within, has no room for one more -/
theorem obstruct {n m : Nat} {a g : Nat → Int} {S : Nat → Prop} (full : ∀ p, p < n → S p → cnt m g p ≤ cnt m a p) (closed : ∀ k, k < m → ∀ p, p < n → a k = (p : Int) → S p → ∃ q, q < n ∧ g k = (q : Int) ∧ S q)
    {k0 : Nat} (hk : k0 < m) (h0 : ¬ ∃ p, p < n ∧ a k0 = (p : Int) ∧ S p) (h1 : ∃ q, q < n ∧ g k0 = (q : Int) ∧ S q) : False := by
  have e : sumN m (fun k => ind n S (a k)) < sumN m (fun k => ind n S (g k)) := by
    refine sumN_lt (fun k hk => ?_) hk ?_
    · by_cases h : ∃ p, p < n ∧ a k = (p : Int) ∧ S p
      · obtain ⟨p, h1, h2, h3⟩ := h
        obtain ⟨q, g1, g2, g3⟩ := closed k hk p h1 h2 h3
        rw [ind_one h1 h2 h3, ind_one g1 g2 g3]
        exact Nat.le_refl _
      · rw [ind_zero h]
        exact Nat.zero_le _
    · obtain ⟨q, g1, g2, g3⟩ := h1
      rw [ind_zero h0, ind_one g1 g2 g3]
      decide
  rw [ind_sum, ind_sum] at e
  have : sumN n (fun p => if S p then cnt m g p else 0) ≤ sumN n (fun p => if S p then cnt m a p else 0) := sumN_le fun p hp => by
    by_cases h : S p
    · rw [if_pos h, if_pos h]; exact full p hp h
    · rw [if_neg h, if_neg h]; exact Nat.le_refl _
  omega

/-- what is asked of an assignment: -2: left out, -1: somebody, otherwise that person -/
structure Sol (ab : Nat → Nat → Bool) (cap : Nat → Int) (n m : Nat) (req g : Nat → Int) : Prop where
  out : ∀ k, k < m → req k = -2 → g k = -1
  fix : ∀ k, k < m → 0 ≤ req k → g k = req k
  free : ∀ k, k < m → req k = -1 → ∃ q, q < n ∧ g k = (q : Int) ∧ ab q k = true
  room : ∀ p, p < n → (cnt m g p : Int) ≤ cap p
def Feas (ab : Nat → Nat → Bool) (cap : Nat → Int) (n m : Nat) (req : Nat → Int) : Prop := ∃ g, Sol ab cap n m req g
theorem Feas.congr {ab : Nat → Nat → Bool} {cap : Nat → Int} {n m : Nat} {r1 r2 : Nat → Int} (h : ∀ k, k < m → r1 k = r2 k) (hf : Feas ab cap n m r1) : Feas ab cap n m r2 := by
  obtain ⟨g, h1, h2, h3, h4⟩ := hf
  exact ⟨g, fun k hk e => h1 k hk ((h k hk).trans e), fun k hk e => (h2 k hk (by rw [h k hk]; exact e)).trans (h k hk), fun k hk e => h3 k hk ((h k hk).trans e), h4⟩

/-- an element of a list as a function -/
def lz (l : List Int) (k : Nat) : Int := l[k]?.getD (-1)
theorem lz_idx {l : List Int} {k : Nat} (h : k < l.length) : idx l (k : Int) = some (lz l k) := by
  rw [idx_nat]
  unfold lz
  rw [List.getElem?_eq_getElem h]
  rfl
theorem lz_get {l : List Int} {k : Nat} (h : k < l.length) : l[k]? = some (lz l k) := by
  unfold lz
  rw [List.getElem?_eq_getElem h]
  rfl
theorem lz_set {l : List Int} {k : Nat} {x : Int} (h : k < l.length) (j : Nat) : lz (l.set k x) j = if j = k then x else lz l j := by
  unfold lz
  by_cases e : j = k
  · subst e
    rw [List.getElem?_set_self h, if_pos rfl]
    rfl
  · rw [List.getElem?_set_ne (fun h => e h.symm), if_neg e]
theorem setI_nat {α : Type} {l : List α} {k : Nat} {x : α} (h : k < l.length) : setI l (k : Int) x = some (l.set k x) := by
  unfold setI
  rw [if_pos (by simp; omega)]
  rfl
theorem lz_ext {l r : List Int} (h : l.length = r.length) (h' : ∀ k, k < l.length → lz l k = lz r k) : l = r := by
  refine List.ext_getElem? fun k => ?_
  by_cases hk : k < l.length
  · rw [lz_get hk, lz_get (l := r) (by omega), h' k hk]
  · rw [List.getElem?_eq_none (by omega), List.getElem?_eq_none (by omega)]
end Go.Proofs.YtgmenjhmnjhgoaaDoor.M
