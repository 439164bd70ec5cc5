import Derived.Test.YtiblagcmjobknaaGreatDoorPu
namespace Go.Pu
open Go
set_option linter.unusedSimpArgs false
set_option linter.unusedVariables false
theorem zP {α : Type} (l : List α) (k : Nat) : idx l (k : Int) = l[k]? := by
 simp [idx]
theorem zdn {α : Type} {l : List α} {i : Int} (h0 : 0 ≤ i) (h1 : i < l.length) : ∃ x, idx l i = some x ∧ l[i.toNat]? = some x := by
 have h : i.toNat < l.length := by omega
 exact ⟨l[i.toNat], by simp [idx, h0, h], by simp [h]⟩
theorem ziA {α : Type} {l : List α} {i : Int} {x : α} (h : idx l i = some x) : x ∈ l := by
 unfold idx at h
 split at h
 ·exact List.mem_of_getElem? h
 ·cases h
def forL {α S R : Type} (body : Nat → α → S → Option (Ctl S R)) : List α → Nat → S → Option (Lp S R)
 | [], _, s => some (.fin s)
 | x :: l, k, s =>
  match body k x s with
  | none => none
  | some (.nx s') => forL body l (k + 1) s'
  | some (.bk s') => some (.fin s')
  | some (.rt r) => some (.rt r)
theorem zbl {α S R : Type} (l : List α) (body : Nat → α → S → Option (Ctl S R)) (b : Nat → S → Option (Ctl S R))
  (hb : ∀ k s x, l[k]? = some x → b k s = body k x s) (s : S) : zE b l.length 0 s = forL body l 0 s := by
 have key : ∀ (m : List α) (k : Nat) (s : S), (∀ j x, m[j]? = some x → l[k + j]? = some x) → zE b m.length k s = forL body m k s := by
  intro m
  induction m with
  | nil => intro k s _; rfl
  | cons x m ih =>
   intro k s h
   rw [List.length_cons, zE, forL, hb k s x (h 0 x rfl)]
   rcases hbx : body k x s with _ | (s' | s' | r) <;> simp only
   exact ih _ _ fun j y hj => by
    have := h (j + 1) y (by simpa using hj)
    rw [show k + 1 + j = k + (j + 1) by omega]
    exact this
 exact key l 0 s fun j x h => by rw [Nat.zero_add]; exact h
theorem Ze {S R : Type} {b : Nat → S → Option (Ctl S R)} (n : Nat) (I : Nat → S → Prop) {s : S} (h0 : I 0 s)
  (round : ∀ k s, k < n → I k s → ∃ t, b k s = some (.nx t) ∧ I (k + 1) t) : ∃ t, zE b n 0 s = some (.fin t) ∧ I n t := by
 obtain ⟨r, h, t, rfl, hI⟩ := JO (body := b) n I (fun r => ∃ t, r = .fin t ∧ I n t) h0
  (fun k s hk hI => by obtain ⟨t, h1, h2⟩ := round k s hk hI; exact ⟨_, h1, h2⟩) (fun s h => ⟨s, rfl, h⟩)
 exact ⟨t, h, hI⟩
theorem zhj {α : Type} (l : List α) (k : Nat) (h : k < l.length) : idx l (k : Int) = some l[k] := by
 rw [zP, List.getElem?_eq_getElem h]
theorem zad {α : Type} (s : List α) (q : α → Bool) :
  zE (R := Int) (fun k (_ : Unit) => Option.bind (idx s (k : Int)) fun x => Option.bind (some (q x)) fun b => if b = true then some (.rt (k : Int)) else some (.nx ())) s.length 0 () = some (match s.findIdx? q with | some i => .rt (i : Int) | none => .fin ()) := by
 have key : ∀ (l : List α) (k : Nat), forL (R := Int) (fun k x (_ : Unit) => if q x = true then some (.rt (k : Int)) else some (.nx ())) l k () = some (match l.findIdx? q with | some i => .rt ((k + i : Nat) : Int) | none => .fin ()) := by
  intro l
  induction l with
  | nil => intro k; rfl
  | cons x l ih =>
   intro k
   rw [forL, List.findIdx?_cons]
   cases hq : q x
   ·simp only [Bool.false_eq_true, if_false]
    rw [ih]
    cases hf : l.findIdx? q with
    | none => rfl
    | some i => simp; omega
   ·simp
 have hr := zbl s (R := Int) (fun k x (_ : Unit) => if q x = true then some (.rt (k : Int)) else some (.nx ())) (fun k _ => Option.bind (idx s (k : Int)) fun x => Option.bind (some (q x)) fun b => if b = true then some (.rt (k : Int)) else some (.nx ()))
  (fun k _ x hx => by simp [zP, hx]) ()
 rw [hr, key]
 cases s.findIdx? q with
 | none => rfl
 | some i => simp
theorem zgE (a b : Int) (hb : 0 < b) : b * a.tdiv b + a.tmod b = a ∧ (0 ≤ a → 0 ≤ a.tdiv b ∧ 0 ≤ a.tmod b ∧ a.tmod b < b ∧ a.tdiv b = a / b ∧ a.tmod b = a % b) ∧ (a ≤ 0 → a.tdiv b ≤ 0 ∧ a.tmod b ≤ 0 ∧ -b < a.tmod b) := by
 refine ⟨Int.mul_tdiv_add_tmod a b, fun h => ⟨Int.tdiv_nonneg h (by omega), Int.tmod_nonneg b h, Int.tmod_lt_of_pos a hb, Int.tdiv_eq_ediv_of_nonneg h, Int.tmod_eq_emod_of_nonneg h⟩, fun h => ?_⟩
 have h1 : 0 ≤ (-a).tdiv b := Int.tdiv_nonneg (by omega) (by omega)
 have h2 : 0 ≤ (-a).tmod b := Int.tmod_nonneg b (by omega)
 have h3 := Int.tmod_lt_of_pos (-a) hb
 rw [Int.neg_tdiv] at h1
 rw [Int.neg_tmod] at h2 h3
 omega
end Go.Pu
