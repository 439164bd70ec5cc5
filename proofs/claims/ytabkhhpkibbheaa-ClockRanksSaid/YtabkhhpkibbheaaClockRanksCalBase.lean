import Derived.Test.YtabkhhpkibbheaaClockRanksCalZone2
namespace Go.Proofs.Ytabkhhpkibbheaa.M
open Go Go.Pu
set_option linter.unusedSimpArgs false
set_option linter.unusedVariables false
theorem compare_swap (a b : Int) : cmp_Compare_int b a = - cmp_Compare_int a b := by
 have h : ∀ x : Int, cmp_isNaN_int x = false := fun x => by simp [cmp_isNaN_int]
 unfold cmp_Compare_int
 simp only [h, Bool.false_eq_true, if_false]
 by_cases h1 : a < b
 ·have h2 : ¬ b < a := by omega
  simp [h1, h2]
 ·by_cases h2 : b < a <;> simp [h1, h2]
theorem compare_val (a b : Int) : cmp_Compare_int a b = if a < b then -1 else if b < a then 1 else 0 := by
 have h : ∀ x : Int, cmp_isNaN_int x = false := fun x => by simp [cmp_isNaN_int]
 unfold cmp_Compare_int
 simp only [h, Bool.false_eq_true, if_false]
 by_cases h1 : a < b
 ·simp [h1]
 ·by_cases h2 : b < a <;> simp [h1, h2]
theorem or_three (a b c : Int) : cmp_Or_int [a, b, c] = some (if a ≠ 0 then a else if b ≠ 0 then b else c) := by
 by_cases ha : a = 0 <;> by_cases hb : b = 0 <;> by_cases hc : c = 0 <;> simp [cmp_Or_int, rangeB, idx, ha, hb, hc, Lp.andThen]
def ShOk (s : cal_Shift) : Prop := 0 ≤ s.from_ ∧ s.from_ ≤ 1439 ∧ s.from_ < s.to_ ∧ s.to_ ≤ s.from_ + 1440
def ShLe (p s : cal_Shift) : Prop := p.day < s.day ∨ (p.day = s.day ∧ p.from_ ≤ s.from_)
def ShsOk (l : List cal_Shift) : Prop := (∀ (j : Nat) (s : cal_Shift), l[j]? = some s → ShOk s) ∧ ∀ (j : Nat) (p s : cal_Shift), l[j]? = some p → l[j + 1]? = some s → ShLe p s
theorem shifts_eq (l : List cal_Shift) (week : Bool) (hl60 : l.length ≤ 60) : ∃ r, cal_checkShifts l (!week) = some r ∧ portref2_shiftFault l week = some r ∧ (r = 0 → ShsOk l ∧ (week = false → ∀ (j : Nat) (s : cal_Shift), l[j]? = some s → s.day = 0)) := by
 unfold cal_checkShifts portref2_shiftFault
 have sim := rangeB_sim (R := Int) l.length
  (b := fun k6 (_ : Unit) => Option.bind (idx l (k6 : Int)) fun x25 => if ((!week) && (x25.day != 0)) = true then some (.rt 1) else if ((((!(cal_within x25.day 0 6)) || (!(cal_within x25.from_ 0 1439))) || (decide (x25.to_ ≤ x25.from_))) || (decide ((w64 (x25.from_ + 1440)) < x25.to_))) = true then some (.rt 2) else Option.bind (if (decide ((0 : Int) < (k6 : Int))) = true then (Option.bind (idx l (w64 ((k6 : Int) - 1))) fun x58 => Option.bind (cal_after x25 x58) fun x63 => some (!x63)) else (some false)) fun s56 => if s56 = true then some (.rt 5) else some (.nx ()))
  (b' := fun k6 (_ : Unit) => Option.bind (α := Lp _ _) (Option.bind (idx l (k6 : Int)) fun x33 => if ((!week) && (x33.day != 0)) = true then some (.rt 1) else if ((((((decide (x33.day < 0)) || (decide ((6 : Int) < x33.day))) || (decide (x33.from_ < 0))) || (decide ((1440 : Int) ≤ x33.from_))) || (decide (x33.to_ ≤ x33.from_))) || (decide ((w64 (x33.from_ + 1440)) < x33.to_))) = true then some (.rt 2) else Option.bind (α := Lp _ _) (if (decide ((0 : Int) < (k6 : Int))) = true then Option.bind (idx l (w64 ((k6 : Int) - 1))) fun x78 => Option.bind (cmp_Or_int ([(cmp_Compare_int x78.day x33.day), (cmp_Compare_int x78.from_ x33.from_), (cmp_Compare_int x78.to_ x33.to_)] : List Int)) fun x105 => if (decide ((0 : Int) ≤ x105)) = true then some (.rt 5) else some (.fin ()) else some (.fin ())) fun o69 => o69.andThen (fun y => some (.rt y)) fun s70 => some (.fin ())) fun o25 => o25.andThen (fun y => some (.rt y)) fun s26 => some (.nx ()))
  (s := ()) (s' := ()) (fun r => r ≠ 0) (fun k _ _ => (∀ (j : Nat) (s : cal_Shift), j < k → l[j]? = some s → ShOk s ∧ (week = false → s.day = 0)) ∧ ∀ (j : Nat) (p s : cal_Shift), j + 1 < k → l[j]? = some p → l[j + 1]? = some s → ShLe p s)
  ⟨fun j s h => absurd h (Nat.not_lt_zero _), fun j p s h => absurd h (Nat.not_lt_zero _)⟩ ?_
 ·rcases sim with ⟨r, e1, e2, hr⟩ | ⟨t, t', e1, e2, h1, h2⟩
  ·rw [e1, e2]
   exact ⟨r, rfl, rfl, fun h => absurd h hr⟩
  ·rw [e1, e2]
   exact ⟨0, rfl, rfl, fun _ => ⟨⟨fun j s hs => (h1 j s (List.getElem?_eq_some_iff.1 hs).1 hs).1, fun j p s hp hs => h2 j p s (List.getElem?_eq_some_iff.1 hs).1 hp hs⟩, fun hw j s hs => (h1 j s (List.getElem?_eq_some_iff.1 hs).1 hs).2 hw⟩⟩
 ·rintro k _ _ hk ⟨hI1, hI2⟩
  have hc : l[k]? = some l[k] := List.getElem?_eq_getElem hk
  rw [idx_lt _ _ hk]
  generalize l[k] = s at hc
  simp only [Option.bind_some]
  by_cases h1 : ((!week) && (s.day != 0)) = true
  ·simp only [h1, if_true, Option.bind_some, Lp.andThen_rt]
   exact .inl ⟨1, rfl, rfl, by decide⟩
  have hday : week = false → s.day = 0 := fun hw => by
   subst hw
   simpa using h1
  simp only [h1, Bool.false_eq_true, if_false]
  by_cases h2 : (0 ≤ s.day ∧ s.day ≤ 6) ∧ (0 ≤ s.from_ ∧ s.from_ ≤ 1439)
  ·have hw : w64 (s.from_ + 1440) = s.from_ + 1440 := w64_id (by omega) (by omega)
   have hw1 : w64 ((k : Int) - 1) = (k : Int) - 1 := w64_id (by omega) (by omega)
   rw [hw, hw1]
   by_cases h3 : s.from_ < s.to_ ∧ s.to_ ≤ s.from_ + 1440
   ·have e1 : ((((!(cal_within s.day 0 6)) || (!(cal_within s.from_ 0 1439))) || (decide (s.to_ ≤ s.from_))) || (decide (s.from_ + 1440 < s.to_))) = false := by simp [cal_within]; omega
    have e2 : ((((((decide (s.day < 0)) || (decide ((6 : Int) < s.day))) || (decide (s.from_ < 0))) || (decide ((1440 : Int) ≤ s.from_))) || (decide (s.to_ ≤ s.from_))) || (decide (s.from_ + 1440 < s.to_))) = false := by simp; omega
    simp only [e1, e2, Bool.false_eq_true, if_false]
    have hs : ShOk s := ⟨h2.2.1, h2.2.2, h3.1, h3.2⟩
    have new1 : ∀ (j : Nat) (s' : cal_Shift), j < k + 1 → l[j]? = some s' → ShOk s' ∧ (week = false → s'.day = 0) := fun j s' hj hs' => by
     rcases Nat.lt_or_eq_of_le (Nat.le_of_lt_succ hj) with h | rfl
     ·exact hI1 j s' h hs'
     ·rw [hc] at hs'; cases hs'; exact ⟨hs, hday⟩
    by_cases h0 : (0 : Int) < (k : Int)
    ·have hp : l[k - 1]? = some l[k - 1] := List.getElem?_eq_getElem (by omega)
     simp only [h0, decide_true, if_true]
     rw [show (k : Int) - 1 = ((k - 1 : Nat) : Int) by omega, idx_nat, hp]
     generalize l[k - 1] = p at hp
     unfold cal_after
     simp only [Option.bind_some, or_three]
     rw [compare_swap p.day, compare_swap p.from_, compare_swap p.to_]
     by_cases h4 : 0 < (if cmp_Compare_int p.day s.day ≠ 0 then -cmp_Compare_int p.day s.day else if cmp_Compare_int p.from_ s.from_ ≠ 0 then -cmp_Compare_int p.from_ s.from_ else -cmp_Compare_int p.to_ s.to_)
     ·have q1 : (if -cmp_Compare_int p.day s.day ≠ 0 then -cmp_Compare_int p.day s.day else if -cmp_Compare_int p.from_ s.from_ ≠ 0 then -cmp_Compare_int p.from_ s.from_ else -cmp_Compare_int p.to_ s.to_) > 0 := by
       split at h4 <;> split <;> (try split at h4) <;> (try split) <;> omega
      have q2 : ¬ 0 ≤ (if cmp_Compare_int p.day s.day ≠ 0 then cmp_Compare_int p.day s.day else if cmp_Compare_int p.from_ s.from_ ≠ 0 then cmp_Compare_int p.from_ s.from_ else cmp_Compare_int p.to_ s.to_) := by
       split at h4 <;> split <;> (try split at h4) <;> (try split) <;> omega
      have q1' := Int.lt_of_lt_of_le q1 (Int.le_refl _)
      simp only [gt_iff_lt] at q1
      simp only [q1, q2, decide_true, decide_false, Bool.not_true, Bool.false_eq_true, if_false, Option.bind_some, Lp.andThen_fin]
      refine .inr ⟨(), (), by simp, by simp, new1, fun j p' s' hj hp' hs' => ?_⟩
      rcases Nat.lt_or_eq_of_le (Nat.le_of_lt_succ hj) with h | h
      ·exact hI2 j p' s' h hp' hs'
      ·obtain rfl : j = k - 1 := by omega
       rw [hp] at hp'; cases hp'
       rw [show k - 1 + 1 = k by omega, hc] at hs'; cases hs'
       rw [compare_val, compare_val] at h4
       unfold ShLe
       split at h4 <;> (try split at h4) <;> (try split at h4) <;> (try split at h4) <;> (try split at h4) <;> (try split at h4) <;> omega
     ·have q1 : ¬ 0 < (if -cmp_Compare_int p.day s.day ≠ 0 then -cmp_Compare_int p.day s.day else if -cmp_Compare_int p.from_ s.from_ ≠ 0 then -cmp_Compare_int p.from_ s.from_ else -cmp_Compare_int p.to_ s.to_) := by
       split at h4 <;> split <;> (try split at h4) <;> (try split) <;> omega
      have q2 : 0 ≤ (if cmp_Compare_int p.day s.day ≠ 0 then cmp_Compare_int p.day s.day else if cmp_Compare_int p.from_ s.from_ ≠ 0 then cmp_Compare_int p.from_ s.from_ else cmp_Compare_int p.to_ s.to_) := by
       split at h4 <;> split <;> (try split at h4) <;> (try split) <;> omega
      simp only [q1, q2, decide_true, decide_false, Bool.not_false, if_true, Option.bind_some, Lp.andThen_rt]
      exact .inl ⟨5, rfl, rfl, by decide⟩
    ·simp only [h0, decide_false, Bool.false_eq_true, if_false, Option.bind_some, Lp.andThen_fin]
     exact .inr ⟨(), (), by simp, by simp, new1, fun j p' s' hj hp' hs' => by omega⟩
   ·have e1 : ((((!(cal_within s.day 0 6)) || (!(cal_within s.from_ 0 1439))) || (decide (s.to_ ≤ s.from_))) || (decide (s.from_ + 1440 < s.to_))) = true := by simp [cal_within]; omega
    have e2 : ((((((decide (s.day < 0)) || (decide ((6 : Int) < s.day))) || (decide (s.from_ < 0))) || (decide ((1440 : Int) ≤ s.from_))) || (decide (s.to_ ≤ s.from_))) || (decide (s.from_ + 1440 < s.to_))) = true := by simp; omega
    simp only [e1, e2, if_true, Option.bind_some, Lp.andThen_rt]
    exact .inl ⟨2, rfl, rfl, by decide⟩
  ·have e1 : ((!(cal_within s.day 0 6)) || (!(cal_within s.from_ 0 1439))) = true := by simp [cal_within]; omega
   have e2 : ((((decide (s.day < 0)) || (decide ((6 : Int) < s.day))) || (decide (s.from_ < 0))) || (decide ((1440 : Int) ≤ s.from_))) = true := by simp; omega
   simp only [e1, e2, Bool.true_or, if_true, Option.bind_some, Lp.andThen_rt]
   exact .inl ⟨2, rfl, rfl, by decide⟩
def SpOk (x : cal_Special) : Prop := -1 ≤ x.day ∧ x.day ≤ 2084 ∧ x.shifts.length ≤ 12 ∧ ShsOk x.shifts ∧ ∀ (j : Nat) (s : cal_Shift), x.shifts[j]? = some s → s.day = 0
structure CalOk (c : cal_Calendar) : Prop where
 zone : ZoneOk c.zone
 changes : c.zone.changes.length ≤ 60
 week : ShsOk c.week
 weeks : c.week.length ≤ 60
 specials : c.specials.length ≤ 200
 special : ∀ (j : Nat) (x : cal_Special), c.specials[j]? = some x → SpOk x
 rising : ∀ (j : Nat) (x y : cal_Special), c.specials[j]? = some x → c.specials[j + 1]? = some y → x.day < y.day
theorem zone_len {z : cal_Zone} (h : cal_CheckZone z = some 0) : z.changes.length ≤ 60 := by
 unfold cal_CheckZone at h
 by_cases h1 : (!(cal_within z.offset (-1440) 1440)) = true
 ·simp [h1] at h
 ·by_cases h2 : (60 : Int) < (z.changes.length : Int)
  ·simp [h1, h2] at h
  ·omega
theorem cal_eq (c : cal_Calendar) : ∃ r, cal_CheckCalendar c = some r ∧ portref2_CalendarFault c = some r ∧ (r = 0 → CalOk c) := by
 obtain ⟨r1, a1, b1, c1⟩ := zone_eq c.zone
 unfold cal_CheckCalendar portref2_CalendarFault
 simp only [a1, b1, Option.bind_some]
 by_cases h1 : r1 = 0
 rotate_left
 ·have : (r1 != 0) = true := by simpa using h1
  simp only [this, if_true]
  exact ⟨r1, rfl, rfl, fun h => absurd h h1⟩
 subst h1
 simp only [bne_self_eq_false, Bool.false_eq_true, if_false]
 by_cases h2 : ((decide ((60 : Int) < (c.week.length : Int))) || (decide ((200 : Int) < (c.specials.length : Int)))) = true
 ·simp only [h2, if_true]
  exact ⟨4, rfl, rfl, fun h => absurd h (by decide)⟩
 have hl : c.week.length ≤ 60 ∧ c.specials.length ≤ 200 := by simp at h2; omega
 simp only [h2, Bool.false_eq_true, if_false]
 obtain ⟨r2, a2, b2, c2⟩ := shifts_eq c.week true hl.1
 rw [Bool.not_true] at a2
 simp only [a2, b2, Option.bind_some]
 by_cases h3 : r2 = 0
 rotate_left
 ·have : (r2 != 0) = true := by simpa using h3
  simp only [this, if_true]
  exact ⟨r2, rfl, rfl, fun h => absurd h h3⟩
 subst h3
 simp only [bne_self_eq_false, Bool.false_eq_true, if_false]
 have sim := rangeB_sim (R := Int) c.specials.length
  (b := fun k50 (_ : Unit) => Option.bind (idx c.specials (k50 : Int)) fun x69 => if (!(cal_within x69.day (-1) 2084)) = true then some (.rt 2) else Option.bind (if (decide ((0 : Int) < (k50 : Int))) = true then (Option.bind (idx c.specials (w64 ((k50 : Int) - 1))) fun x96 => some (decide (x69.day ≤ x96.day))) else (some false)) fun s90 => if s90 = true then some (.rt 5) else if (decide ((12 : Int) < (x69.shifts.length : Int))) = true then some (.rt 4) else Option.bind (cal_checkShifts x69.shifts true) fun x114 => if (x114 != 0) = true then some (.rt x114) else some (.nx ()))
  (b' := fun k50 (_ : Unit) => Option.bind (idx c.specials (k50 : Int)) fun x69 => if ((decide (x69.day < (-1))) || (decide ((2084 : Int) < x69.day))) = true then some (.rt 2) else Option.bind (if (decide ((0 : Int) < (k50 : Int))) = true then (Option.bind (idx c.specials (w64 ((k50 : Int) - 1))) fun x99 => some (decide (x69.day ≤ x99.day))) else (some false)) fun s93 => if s93 = true then some (.rt 5) else if (decide ((12 : Int) < (x69.shifts.length : Int))) = true then some (.rt 4) else Option.bind (portref2_shiftFault x69.shifts false) fun x117 => if (x117 != 0) = true then some (.rt x117) else some (.nx ()))
  (s := ()) (s' := ()) (fun r => r ≠ 0) (fun k _ _ => (∀ (j : Nat) (x : cal_Special), j < k → c.specials[j]? = some x → SpOk x) ∧ ∀ (j : Nat) (x y : cal_Special), j + 1 < k → c.specials[j]? = some x → c.specials[j + 1]? = some y → x.day < y.day)
  ⟨fun j s h => absurd h (Nat.not_lt_zero _), fun j p s h => absurd h (Nat.not_lt_zero _)⟩ ?_
 ·rcases sim with ⟨r, e1, e2, hr⟩ | ⟨t, t', e1, e2, q1, q2⟩
  ·rw [e1, e2]
   exact ⟨r, rfl, rfl, fun h => absurd h hr⟩
  ·rw [e1, e2]
   exact ⟨0, rfl, rfl, fun _ => ⟨c1 rfl, zone_len a1, (c2 rfl).1, hl.1, hl.2, fun j x hx => q1 j x (List.getElem?_eq_some_iff.1 hx).1 hx, fun j x y hx hy => q2 j x y (List.getElem?_eq_some_iff.1 hy).1 hx hy⟩⟩
 ·rintro k _ _ hk ⟨hI1, hI2⟩
  have hc : c.specials[k]? = some c.specials[k] := List.getElem?_eq_getElem hk
  rw [idx_lt _ _ hk]
  generalize c.specials[k] = x at hc
  have hw1 : w64 ((k : Int) - 1) = (k : Int) - 1 := w64_id (by omega) (by omega)
  have eday : (!(cal_within x.day (-1) 2084)) = ((decide (x.day < (-1))) || (decide ((2084 : Int) < x.day))) := by
   rw [Bool.eq_iff_iff]; simp [cal_within]
  simp only [Option.bind_some, hw1, eday]
  by_cases h4 : ((decide (x.day < (-1))) || (decide ((2084 : Int) < x.day))) = true
  ·simp only [h4, if_true]
   exact .inl ⟨2, rfl, rfl, by decide⟩
  have hd : -1 ≤ x.day ∧ x.day ≤ 2084 := by simp at h4; omega
  simp only [h4, Bool.false_eq_true, if_false]
  have same : ∃ b : Bool, (if (decide ((0 : Int) < (k : Int))) = true then (Option.bind (idx c.specials ((k : Int) - 1)) fun x96 => some (decide (x.day ≤ x96.day))) else (some false)) = some b ∧ (b = false → ∀ y, 0 < k → c.specials[k - 1]? = some y → y.day < x.day) := by
   by_cases h0 : (0 : Int) < (k : Int)
   ·have hp : c.specials[k - 1]? = some c.specials[k - 1] := List.getElem?_eq_getElem (by omega)
    simp only [h0, decide_true, if_true]
    rw [show (k : Int) - 1 = ((k - 1 : Nat) : Int) by omega, idx_nat, hp]
    refine ⟨_, rfl, fun hb y _ hy => ?_⟩
    cases hy
    simpa using hb
   ·simp only [h0, decide_false, Bool.false_eq_true, if_false]
    exact ⟨_, rfl, fun _ y h => by omega⟩
  obtain ⟨b, hb, hb2⟩ := same
  rw [hb]
  simp only [Option.bind_some]
  cases b with
  | true => exact .inl ⟨5, rfl, rfl, by decide⟩
  | false =>
   simp only [Bool.false_eq_true, if_false]
   by_cases h5 : (12 : Int) < (x.shifts.length : Int)
   ·simp only [h5, decide_true, if_true]
    exact .inl ⟨4, rfl, rfl, by decide⟩
   simp only [h5, decide_false, Bool.false_eq_true, if_false]
   obtain ⟨r3, a3, b3, c3⟩ := shifts_eq x.shifts false (by omega)
   rw [Bool.not_false] at a3
   simp only [a3, b3, Option.bind_some]
   by_cases h6 : r3 = 0
   rotate_left
   ·have : (r3 != 0) = true := by simpa using h6
    simp only [this, if_true]
    exact .inl ⟨r3, rfl, rfl, h6⟩
   subst h6
   simp only [bne_self_eq_false, Bool.false_eq_true, if_false]
   have hx : SpOk x := ⟨hd.1, hd.2, by omega, (c3 rfl).1, (c3 rfl).2 rfl⟩
   refine .inr ⟨(), (), by simp, by simp, fun j y hj hy => ?_, fun j y z hj hy hz => ?_⟩
   ·rcases Nat.lt_or_eq_of_le (Nat.le_of_lt_succ hj) with h | rfl
    ·exact hI1 j y h hy
    ·rw [hc] at hy; cases hy; exact hx
   ·rcases Nat.lt_or_eq_of_le (Nat.le_of_lt_succ hj) with h | h
    ·exact hI2 j y z h hy hz
    ·obtain rfl : j = k - 1 := by omega
     rw [show k - 1 + 1 = k by omega, hc] at hz; cases hz
     exact hb2 rfl y (by omega) hy
end Go.Proofs.Ytabkhhpkibbheaa.M
