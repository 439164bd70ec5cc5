import Derived.Test.YtabkhhpkibbheaaClockRanksCalCount
import Derived.Test.YtabkhhpkibbheaaClockRanksCalWorked
import Derived.Test.YtabkhhpkibbheaaClockRanksCalAdd
namespace Go.Proofs.Ytabkhhpkibbheaa.M
open Go Go.Pu
set_option linter.unusedSimpArgs false
set_option linter.unusedVariables false
theorem cnt_congr {O O' : Int → Prop} {a b : Int} (h : ∀ u, a ≤ u → u < b → (O u ↔ O' u)) : cnt O a b = cnt O' a b := by
 unfold cnt
 have key : ∀ n : Nat, (n : Int) ≤ b - a → cntN O a n = cntN O' a n := by
  intro n
  induction n with
  | zero => intro _; rfl
  | succ n ih =>
   intro hn
   rw [cntN, cntN, ih (by omega)]
   congr 1
   have := h (a + n) (by omega) (by omega)
   by_cases hu : O (a + n)
   ·rw [if_pos hu, if_pos (this.1 hu)]
   ·rw [if_neg hu, if_neg fun q => hu (this.2 q)]
 by_cases hab : a ≤ b
 ·exact key _ (by omega)
 ·rw [show (b - a).toNat = 0 by omega]; rfl
theorem cnt_empty {O : Int → Prop} {a b : Int} (h : b ≤ a) : cnt O a b = 0 := cnt_none fun u h1 h2 => by omega
theorem cnt_le {O : Int → Prop} {a b : Int} (h : a ≤ b) : cnt O a b ≤ b - a := by
 unfold cnt
 have key : ∀ n : Nat, cntN O a n ≤ n := by
  intro n
  induction n with
  | zero => exact Int.le_refl _
  | succ n ih => rw [cntN]; split <;> omega
 have := key (b - a).toNat
 omega
def endP (p : level_Piece) : Int := if p.to_ = -1 then 3000001 else p.to_
def OpP (cals : List cal_Calendar) (p : level_Piece) (m : Int) : Prop := p.from_ ≤ m ∧ m < endP p ∧ ∃ k, idx cals p.calendar = some k ∧ Opn k m
def OC (cals : List cal_Calendar) (l : List level_Piece) (m : Int) : Prop := ∃ p ∈ l, OpP cals p m
def SortedP (cals : List cal_Calendar) : Int → List level_Piece → Prop
 | _, [] => True
 | lo, p :: l => lo ≤ p.from_ ∧ p.from_ ≤ 3000000 ∧ (p.to_ = -1 ∨ (p.from_ < p.to_ ∧ p.to_ ≤ 3000000)) ∧ (∃ k, idx cals p.calendar = some k ∧ CalOk k ∧ cal_CheckCalendar k = some 0) ∧ SortedP cals (endP p) l
theorem endP_of {p : level_Piece} {lo : Int} (h0 : 0 ≤ lo) (h1 : lo ≤ p.from_) (h2 : p.from_ ≤ 3000000) (h3 : p.to_ = -1 ∨ (p.from_ < p.to_ ∧ p.to_ ≤ 3000000)) : p.from_ < endP p ∧ endP p ≤ 3000001 ∧ (p.to_ = -1 → endP p = 3000001) ∧ (p.to_ ≠ -1 → endP p = p.to_) := by
 unfold endP
 split <;> omega
theorem oc_lo {cals : List cal_Calendar} {lo : Int} : ∀ {l : List level_Piece}, 0 ≤ lo → SortedP cals lo l → ∀ m, OC cals l m → lo ≤ m
 | [], _, _, m, ⟨p, hp, _⟩ => by cases hp
 | q :: l, h0, hs, m, ⟨p, hp, h⟩ => by
  have hs' := hs
  obtain ⟨h1, h2, h3, h4, h5⟩ := hs'
  obtain ⟨he1, he2, he3, he4⟩ := endP_of h0 h1 h2 h3
  rcases List.mem_cons.1 hp with rfl | hp
  ·obtain ⟨q1, _, _⟩ := h
   exact Int.le_trans h1 q1
  ·have h1' : lo ≤ q.from_ := h1
   have h2' : q.from_ < endP q := he1
   have h3' : endP q ≤ m := oc_lo (Int.le_trans h0 (Int.le_trans h1' (Int.le_of_lt h2'))) h5 m ⟨p, hp, h⟩
   exact Int.le_trans h1' (Int.le_trans (Int.le_of_lt h2') h3')
section
variable {cals : List cal_Calendar} {lo : Int} {p : level_Piece} {l : List level_Piece} {k : cal_Calendar}
theorem oc_in (h0 : 0 ≤ lo) (h : SortedP cals lo (p :: l)) (hk : idx cals p.calendar = some k) (m : Int) (hm : m < endP p) : OC cals (p :: l) m ↔ p.from_ ≤ m ∧ Opn k m := by
 obtain ⟨h1, h2, h3, h4, h5⟩ := h
 obtain ⟨he1, he2, he3, he4⟩ := endP_of h0 h1 h2 h3
 constructor
 ·rintro ⟨q, hq, h⟩
  rcases List.mem_cons.1 hq with rfl | hq
  ·obtain ⟨a, b, k', hk', ho⟩ := h
   rw [hk] at hk'
   cases hk'
   exact ⟨a, ho⟩
  ·have := oc_lo (by omega) h5 m ⟨q, hq, h⟩
   omega
 ·rintro ⟨a, b⟩
  exact ⟨p, by simp, a, hm, k, hk, b⟩
theorem oc_past (h0 : 0 ≤ lo) (h : SortedP cals lo (p :: l)) (m : Int) (hm : endP p ≤ m) : OC cals (p :: l) m ↔ OC cals l m := by
 constructor
 ·rintro ⟨q, hq, hop⟩
  rcases List.mem_cons.1 hq with rfl | hq
  ·obtain ⟨_, q2, _⟩ := hop
   exact absurd q2 (Int.not_lt.2 hm)
  ·exact ⟨q, hq, hop⟩
 ·rintro ⟨q, hq, h⟩
  exact ⟨q, List.mem_cons_of_mem _ hq, h⟩
theorem cnt_oc (h0 : 0 ≤ lo) (h : SortedP cals lo (p :: l)) (hk : idx cals p.calendar = some k) (b : Int) :
  cnt (OC cals (p :: l)) lo b = cnt (Opn k) p.from_ (if b < endP p then b else endP p) + cnt (OC cals l) (endP p) b := by
 have h' := h
 obtain ⟨h1, h2, h3, h4, h5⟩ := h'
 obtain ⟨he1, he2, he3, he4⟩ := endP_of h0 h1 h2 h3
 have none1 : ∀ b', b' ≤ p.from_ → cnt (OC cals (p :: l)) lo b' = 0 := fun b' hb' => cnt_none fun u q1 q2 hu => by
  have := (oc_in h0 h hk u (by omega)).1 hu
  omega
 have same : ∀ b', b' ≤ endP p → cnt (OC cals (p :: l)) p.from_ b' = cnt (Opn k) p.from_ b' := fun b' hb' => cnt_congr fun u q1 q2 => by
  rw [oc_in h0 h hk u (by omega)]
  exact ⟨fun h => h.2, fun h => ⟨q1, h⟩⟩
 rcases Int.lt_or_le b (endP p) with hb | hb
 ·rw [if_pos hb, cnt_empty (a := endP p) (by omega), Int.add_zero]
  rcases Int.lt_or_le b p.from_ with hc | hc
  ·rw [none1 b (by omega), cnt_empty (by omega)]
  ·rw [cnt_split (m := p.from_) h1 hc, none1 _ (Int.le_refl _), same b (by omega), Int.zero_add]
 ·rw [if_neg (by omega), cnt_split (m := p.from_) h1 (by omega), none1 _ (Int.le_refl _), cnt_split (m := endP p) (by omega) hb, same _ (Int.le_refl _), Int.zero_add]
  congr 1
  exact cnt_congr fun u q1 q2 => oc_past h0 h u q1
end
theorem oc_nil {cals : List cal_Calendar} {a b : Int} : cnt (OC cals []) a b = 0 := cnt_none fun u _ _ ⟨p, hp, _⟩ => by cases hp
end Go.Proofs.Ytabkhhpkibbheaa.M
namespace Go.Proofs.Ytabkhhpkibbheaa.M
open Go Go.Pu
set_option linter.unusedSimpArgs false
set_option linter.unusedVariables false
theorem counted_forL {cals : List cal_Calendar} : ∀ (l : List level_Piece) (j : Nat) (lo k : Int), 0 ≤ lo → SortedP cals lo l → 0 ≤ k → k ≤ 3000000 →
  ∃ o, forL (R := Int × Bool) (fun _ (x37 : level_Piece) (s24 : Int) => Option.bind (if (x37.to_ == (-1)) = true then some 3000001 else some x37.to_) fun s52 => Option.bind (idx cals x37.calendar) fun x61 => Option.bind (cal_Worked x61 x37.from_ s52) fun x73 => if (decide (s24 < x73.1)) = true then Option.bind (cal_Add x61 x37.from_ s24) fun x90 => some (.rt (x90.1, x90.2 == 0)) else some (.nx (w64 (s24 - x73.1)))) l j k = some o ∧
   ((∃ m, o = .rt (m, true) ∧ lo ≤ m ∧ m ≤ 3000000 ∧ cnt (OC cals l) lo m = k ∧ OC cals l m) ∨ ((∃ s, o = .fin s) ∧ cnt (OC cals l) lo 3000001 ≤ k))
 | [], j, lo, k, h0, hs, hk0, hk1 => ⟨_, rfl, .inr ⟨⟨_, rfl⟩, by rw [oc_nil]; exact hk0⟩⟩
 | p :: l, j, lo, k, h0, hs, hk0, hk1 => by
  have hs' := hs
  obtain ⟨h1, h2, h3, ⟨c, hc, hok, hcc⟩, h5⟩ := hs'
  obtain ⟨he1, he2, he3, he4⟩ := endP_of h0 h1 h2 h3
  have e1 : (if (p.to_ == (-1)) = true then some (3000001 : Int) else some p.to_) = some (endP p) := by
   unfold endP
   by_cases h : p.to_ = -1
   ·simp [h]
   ·simp [h]
  rw [forL, e1]
  simp only [Option.bind_some, hc, worked_val hok hcc p.from_ (endP p) (by omega) h2 (by omega) (by omega)]
  have hcn := cnt_nonneg (O := Opn c) (a := p.from_) (b := endP p)
  have hcl := cnt_le (O := Opn c) (a := p.from_) (b := endP p) (by omega)
  by_cases hlt : k < cnt (Opn c) p.from_ (endP p)
  ·simp only [hlt, decide_true, if_true]
   rcases add_val hok hcc p.from_ k (by omega) h2 hk0 (by omega) with ⟨q, hq, q1, q2, q3, q4⟩ | ⟨q, hq, q1⟩
   ·have hqe : q < endP p := by
     rcases Int.lt_or_le q (endP p) with h | h
     ·exact h
     ·have := cnt_mono (O := Opn c) (a := p.from_) (m := endP p) (b := q) (by omega) h
      omega
    rw [hq]
    refine ⟨_, rfl, .inl ⟨q, rfl, by omega, q2, ?_, (oc_in h0 hs hc q hqe).2 ⟨q1, q4⟩⟩⟩
    rw [cnt_oc h0 hs hc, if_pos hqe, q3, cnt_empty (a := endP p) (by omega), Int.add_zero]
   ·have := cnt_mono (O := Opn c) (a := p.from_) (m := endP p) (b := 3000001) (by omega) (by omega)
    omega
  ·simp only [hlt, decide_false, Bool.false_eq_true, if_false]
   rw [w64_id (by omega) (by omega)]
   obtain ⟨o, ho, hh⟩ := counted_forL l (j + 1) (endP p) (k - cnt (Opn c) p.from_ (endP p)) (by omega) h5 (by omega) (by omega)
   refine ⟨o, ho, ?_⟩
   rcases hh with ⟨m, rfl, m1, m2, m3, m4⟩ | ⟨hs', hm⟩
   ·refine .inl ⟨m, rfl, by omega, m2, ?_, (oc_past h0 hs m m1).2 m4⟩
    rw [cnt_oc h0 hs hc, if_neg (by omega), m3]
    omega
   ·refine .inr ⟨hs', ?_⟩
    rw [cnt_oc h0 hs hc, if_neg (by omega)]
    omega
theorem counted_val {cals : List cal_Calendar} (c : level_Clock) {lo : Int} (h0 : 0 ≤ lo) (hs : SortedP cals lo c.pieces) (k : Int) (hk0 : 0 ≤ k) (hk1 : k ≤ 3000000) :
  (∃ m, level_counted c cals k = some (m, true) ∧ lo ≤ m ∧ m ≤ 3000000 ∧ cnt (OC cals c.pieces) lo m = k ∧ OC cals c.pieces m) ∨ (level_counted c cals k = some (0, false) ∧ cnt (OC cals c.pieces) lo 3000001 ≤ k) := by
 obtain ⟨o, ho, hh⟩ := counted_forL c.pieces 0 lo k h0 hs hk0 hk1
 unfold level_counted
 rw [rangeB_forL c.pieces (R := Int × Bool) (fun _ (x37 : level_Piece) (s24 : Int) => Option.bind (if (x37.to_ == (-1)) = true then some 3000001 else some x37.to_) fun s52 => Option.bind (idx cals x37.calendar) fun x61 => Option.bind (cal_Worked x61 x37.from_ s52) fun x73 => if (decide (s24 < x73.1)) = true then Option.bind (cal_Add x61 x37.from_ s24) fun x90 => some (.rt (x90.1, x90.2 == 0)) else some (.nx (w64 (s24 - x73.1)))) _ (fun j s x hx => by simp [idx_nat, hx]), ho]
 rcases hh with ⟨m, rfl, h⟩ | ⟨⟨s, rfl⟩, h⟩
 ·exact .inl ⟨m, rfl, h⟩
 ·exact .inr ⟨rfl, h⟩
end Go.Proofs.Ytabkhhpkibbheaa.M
namespace Go.Proofs.Ytabkhhpkibbheaa.M
open Go Go.Pu
set_option linter.unusedSimpArgs false
set_option linter.unusedVariables false
def DueSpec (O : Int → Prop) (lo k d : Int) : Prop := (lo ≤ d ∧ d ≤ 3000000 ∧ cnt O lo d = k ∧ O d) ∨ (d = 3000000 ∧ cnt O lo 3000001 ≤ k)
theorem due_val {cals : List cal_Calendar} (c : level_Clock) {lo : Int} (h0 : 0 ≤ lo) (hs : SortedP cals lo c.pieces) (hk0 : 0 ≤ c.minutes) (hk1 : c.minutes ≤ 3000000) : ∃ d, level_due c cals = some d ∧ DueSpec (OC cals c.pieces) lo c.minutes d := by
 unfold level_due
 rcases counted_val c h0 hs c.minutes hk0 hk1 with ⟨m, e, h⟩ | ⟨e, h⟩
 ·rw [e]; exact ⟨m, rfl, .inl h⟩
 ·rw [e]; exact ⟨_, rfl, .inr ⟨rfl, h⟩⟩
end Go.Proofs.Ytabkhhpkibbheaa.M
