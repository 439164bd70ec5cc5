/-
  Clocks: pieces that lie apart, one predicate for all of them: plain part.
-/
import Derived.Test.YtnjlojicebcikaaGreatClockSharesCalCount
namespace Go.Proofs.YtnjlojicebcikaaGreat.M
open Go Go.Pu
set_option linter.unusedSimpArgs false
set_option linter.unusedVariables false

theorem cnt_congr {O O' : Int → Prop} {a b : Int} (h : ∀ u, a ≤ u → u < b → (O u ↔ O' u)) : cnt O a b = cnt O' a b := by
  unfold cnt
  have key : ∀ n : Nat, (n : Int) ≤ b - a → cntN O a n = cntN O' a n := by
    intro n
    induction n with
    | zero => intro _; rfl
    | succ n ih =>
      intro hn
      rw [cntN, cntN, ih (by omega)]
      congr 1
      have := h (a + n) (by omega) (by omega)
      by_cases hu : O (a + n)
      · rw [if_pos hu, if_pos (this.1 hu)]
      · rw [if_neg hu, if_neg fun q => hu (this.2 q)]
  by_cases hab : a ≤ b
  · exact key _ (by omega)
  · rw [show (b - a).toNat = 0 by omega]; rfl
theorem cnt_empty {O : Int → Prop} {a b : Int} (h : b ≤ a) : cnt O a b = 0 := cnt_none fun u h1 h2 => by omega
theorem cnt_le {O : Int → Prop} {a b : Int} (h : a ≤ b) : cnt O a b ≤ b - a := by
  unfold cnt
  have key : ∀ n : Nat, cntN O a n ≤ n := by
    intro n
    induction n with
    | zero => exact Int.le_refl _
    | succ n ih => rw [cntN]; split <;> omega
  have := key (b - a).toNat
  omega

/-- where a piece ends -/
def endP (p : level_Piece) : Int := if p.to_ = -1 then 3000001 else p.to_
/-- a piece counts a moment -/
def OpP (cals : List cal_Calendar) (p : level_Piece) (m : Int) : Prop := p.from_ ≤ m ∧ m < endP p ∧ ∃ k, idx cals p.calendar = some k ∧ Opn k m
def OC (cals : List cal_Calendar) (l : List level_Piece) (m : Int) : Prop := ∃ p ∈ l, OpP cals p m
/-- pieces in order, apart, the first one not before lo -/
def SortedP (cals : List cal_Calendar) : Int → List level_Piece → Prop
  | _, [] => True
  | lo, p :: l => lo ≤ p.from_ ∧ p.from_ ≤ 3000000 ∧ (p.to_ = -1 ∨ (p.from_ < p.to_ ∧ p.to_ ≤ 3000000)) ∧ (∃ k, idx cals p.calendar = some k ∧ CalOk k ∧ cal_CheckCalendar k = some 0) ∧ SortedP cals (endP p) l

theorem endP_of {p : level_Piece} {lo : Int} (h0 : 0 ≤ lo) (h1 : lo ≤ p.from_) (h2 : p.from_ ≤ 3000000) (h3 : p.to_ = -1 ∨ (p.from_ < p.to_ ∧ p.to_ ≤ 3000000)) : p.from_ < endP p ∧ endP p ≤ 3000001 ∧ (p.to_ = -1 → endP p = 3000001) ∧ (p.to_ ≠ -1 → endP p = p.to_) := by
  unfold endP
  split <;> omega

theorem oc_lo {cals : List cal_Calendar} {lo : Int} : ∀ {l : List level_Piece}, 0 ≤ lo → SortedP cals lo l → ∀ m, OC cals l m → lo ≤ m
  | [], _, _, m, ⟨p, hp, _⟩ => by cases hp
  | q :: l, h0, hs, m, ⟨p, hp, h⟩ => by
    have hs' := hs
    obtain ⟨h1, h2, h3, h4, h5⟩ := hs'
    obtain ⟨he1, he2, he3, he4⟩ := endP_of h0 h1 h2 h3
    rcases List.mem_cons.1 hp with rfl | hp
    · obtain ⟨q1, _, _⟩ := h
      exact Int.le_trans h1 q1
    · have h1' : lo ≤ q.from_ := h1
      have h2' : q.from_ < endP q := he1
      have h3' : endP q ≤ m := oc_lo (Int.le_trans h0 (Int.le_trans h1' (Int.le_of_lt h2'))) h5 m ⟨p, hp, h⟩
      exact Int.le_trans h1' (Int.le_trans (Int.le_of_lt h2') h3')

section
variable {cals : List cal_Calendar} {lo : Int} {p : level_Piece} {l : List level_Piece} {k : cal_Calendar}

theorem oc_in (h0 : 0 ≤ lo) (h : SortedP cals lo (p :: l)) (hk : idx cals p.calendar = some k) (m : Int) (hm : m < endP p) : OC cals (p :: l) m ↔ p.from_ ≤ m ∧ Opn k m := by
  obtain ⟨h1, h2, h3, h4, h5⟩ := h
  obtain ⟨he1, he2, he3, he4⟩ := endP_of h0 h1 h2 h3
  constructor
  · rintro ⟨q, hq, h⟩
    rcases List.mem_cons.1 hq with rfl | hq
    · obtain ⟨a, b, k', hk', ho⟩ := h
      rw [hk] at hk'
      cases hk'
      exact ⟨a, ho⟩
    · have := oc_lo (by omega) h5 m ⟨q, hq, h⟩
      omega
  · rintro ⟨a, b⟩
    exact ⟨p, by simp, a, hm, k, hk, b⟩
theorem oc_past (h0 : 0 ≤ lo) (h : SortedP cals lo (p :: l)) (m : Int) (hm : endP p ≤ m) : OC cals (p :: l) m ↔ OC cals l m := by
  constructor
  · rintro ⟨q, hq, hop⟩
    rcases List.mem_cons.1 hq with rfl | hq
    · obtain ⟨_, q2, _⟩ := hop
      exact absurd q2 (Int.not_lt.2 hm)
    · exact ⟨q, hq, hop⟩
  · rintro ⟨q, hq, h⟩
    exact ⟨q, List.mem_cons_of_mem _ hq, h⟩

theorem cnt_oc (h0 : 0 ≤ lo) (h : SortedP cals lo (p :: l)) (hk : idx cals p.calendar = some k) (b : Int) :
    cnt (OC cals (p :: l)) lo b = cnt (Opn k) p.from_ (if b < endP p then b else endP p) + cnt (OC cals l) (endP p) b := by
  have h' := h
  obtain ⟨h1, h2, h3, h4, h5⟩ := h'
  obtain ⟨he1, he2, he3, he4⟩ := endP_of h0 h1 h2 h3
  have none1 : ∀ b', b' ≤ p.from_ → cnt (OC cals (p :: l)) lo b' = 0 := fun b' hb' => cnt_none fun u q1 q2 hu => by
    have := (oc_in h0 h hk u (by omega)).1 hu
    omega
  have same : ∀ b', b' ≤ endP p → cnt (OC cals (p :: l)) p.from_ b' = cnt (Opn k) p.from_ b' := fun b' hb' => cnt_congr fun u q1 q2 => by
    rw [oc_in h0 h hk u (by omega)]
    exact ⟨fun h => h.2, fun h => ⟨q1, h⟩⟩
  rcases Int.lt_or_le b (endP p) with hb | hb
  · rw [if_pos hb, cnt_empty (a := endP p) (by omega), Int.add_zero]
    rcases Int.lt_or_le b p.from_ with hc | hc
    · rw [none1 b (by omega), cnt_empty (by omega)]
    · rw [cnt_split (m := p.from_) h1 hc, none1 _ (Int.le_refl _), same b (by omega), Int.zero_add]
  · rw [if_neg (by omega), cnt_split (m := p.from_) h1 (by omega), none1 _ (Int.le_refl _), cnt_split (m := endP p) (by omega) hb, same _ (Int.le_refl _), Int.zero_add]
    congr 1
    exact cnt_congr fun u q1 q2 => oc_past h0 h u q1
end

theorem oc_nil {cals : List cal_Calendar} {a b : Int} : cnt (OC cals []) a b = 0 := cnt_none fun u _ _ ⟨p, hp, _⟩ => by cases hp

end Go.Proofs.YtnjlojicebcikaaGreat.M
